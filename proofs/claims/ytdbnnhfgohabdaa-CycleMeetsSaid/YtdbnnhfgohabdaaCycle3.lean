/- Contracts of package cycle: Full. -/
import Derived.Test.YtdbnnhfgohabdaaCycle2
namespace Go.Proofs.Ytdbnnhfgohabdaa
open Go.RowKit
set_option linter.unusedVariables false

theorem lcm_take_le (Ls : List Int) (k : Nat) (hp : ∀ n ∈ Ls, 1 ≤ n) : 1 ≤ lcmR 1 (Ls.take k) ∧ lcmR 1 (Ls.take k) ≤ lcmR 1 Ls := by
  have h1 := lcmR_facts (Ls.take k) 1 (by omega) (fun n hn => hp n (List.mem_of_mem_take hn))
  have h2 := lcmR_facts (Ls.drop k) (lcmR 1 (Ls.take k)) (by omega) (fun n hn => hp n (List.mem_of_mem_drop hn))
  rw [← lcmR_append, List.take_append_drop] at h2
  exact ⟨h1.1, h2.1⟩

/-- What Full says. -/
def fullV (Ls : List Int) : Value := if lcmR 1 Ls ≤ 1000000000 then .tuple #[.int .i64 (lcmR 1 Ls), .int .i64 0] else .tuple #[.int .i64 0, .int .i64 14]

set_option maxHeartbeats 1000000 in
set_option maxRecDepth 100000 in
theorem cfull_yes (A A' : Option Addr) (c c' : Nat) (Ls Os : List Int) (w : World) (hL : Row w w.heap.size A (ints Ls)) (hO : Row w w.heap.size A' (ints Os)) (hl : Ls.length ≤ maxLen) (hl' : Os.length ≤ maxLen)
    (hok : CycOk Ls Os) : Calls Try.prog 42 #[.agg #[.slice A Ls.length c, .slice A' Os.length c']] w fun e w' => e = .returned (fullV Ls) ∧ Below w.heap.size w w' := by
  have HOK := Lib.hid hok
  have hc1 := hok.1
  have hc2 := hok.2.1
  have hc3 := hok.2.2.1
  have Htk := Lib.hid (fun k => lcm_take_le Ls k hok.pos)
  clear hok
  obtain ⟨b, o, rfl, hb, hc⟩ := hL.open_ (ints_ne Ls (by omega))
  have HC := Lib.hid hc
  clear hc
  have Hck := Lib.hid (fun w hL hO => ccheck_any (some ⟨b, o, none⟩) A' c c' Ls Os w hL hO hl hl')
  rw [hc3] at Hck ⊢
  obtain ⟨n, hn⟩ : ∃ n, Ls.length = n := ⟨_, rfl⟩
  rw [hn] at hc1 hc2 Hck
  rw [hn]
  have Hn := Lib.hid hn
  clear hn hc3 hl hl'
  go_enter Try.func42, Try.ntmps42
  go_wp2_with fail
  refine (Hck.out _ (hL.alloc _) (hO.alloc _)).mono ?_
  rintro e w1 ⟨E, rfl, hE, hb1⟩
  obtain rfl : E = 0 := hE.2 HOK.out
  have hB := below_next (Below.refl _ _) hb1
  have hx := (Box.new w 76 #[.slice (some ⟨b, o, none⟩) n c, .slice A' n c']).below hb1
  clear hE hb1 hL hO Hck
  have x0 : w1.cell? ⟨w.heap.size, 0, none⟩ = some (.slice (some ⟨b, o, none⟩) n c) := hx.cell 0
  go_wp2_with fail
  clear x0 hx
  go_loopw [5, 7, 8, 9, 18] (fun a _ _ _ i wr => ∃ (k nd : Nat), k ≤ n ∧ i = .int .i64 k ∧ a = .int .i64 (lcmR 1 (Ls.take k)) ∧ lcmR 1 (Ls.take k) ≤ 1000000000 ∧ wr = w1.drewN nd) (fun _ _ _ _ i _ => n - (intOf i).toNat)
  case atStart => exact ⟨0, 0, by omega, rfl, rfl, show (1 : Int) ≤ 1000000000 by omega, rfl⟩
  case round =>
    obtain ⟨k, nd, hk, rfl, rfl, hle, rfl⟩ := hrel
    have hp := (Htk.out k).1
    by_cases hkn : k < n
    · have hat := HOK.out.at_ k (by rw [Hn.out]; exact hkn)
      have y0 : w1.cell? ⟨b, o + k, none⟩ = some (.int .i64 (Ls.getD k 0)) := by
        rw [hB.cell (p := ⟨b, o + k, none⟩) hb]; exact ints_cell HC.out k (by rw [Hn.out]; exact hkn)
      have hs := lcmR_snoc (Ls.take k) 1 (Ls.getD k 0)
      rw [← take_snoc_get Ls k (by rw [Hn.out]; exact hkn)] at hs
      have hnext := (Htk.out (k + 1)).2
      have HS := Lib.hid hs
      rw [hs] at hnext
      clear hs
      generalize Ls.getD k 0 = x at *
      generalize lcmR 1 (Ls.take k) = a at *
      obtain ⟨a1, a2, _, _⟩ := hat
      have g1 := (gcd_facts a x hp a1).1
      have d2 := (gcd_facts a x hp a1).2.2.2.2.1
      have q1 := (quot_facts x _ g1 a1 d2).1
      have q2 := (quot_facts x _ g1 a1 d2).2.1
      have m1 := (meetL_facts a x hp a1).1
      have m2 := (meetL_facts a x hp a1).2.1
      have hmb : meetL a x ≤ 1000000000 * 1000 := Int.le_trans m2 (Int.mul_le_mul hle a2 (by omega) (by omega))
      have Hg := Lib.hid (fun w => gcd_any a x w (by omega) (by omega) (by omega) (by omega))
      have hML : Hid (meetL a x = a * (x / (Int.gcd a x : Int))) := rfl
      generalize (Int.gcd a x : Int) = g at *
      have hmb1 : 1 ≤ a * (x / g) := by rw [← hML.out]; exact m1
      have hmb2 : a * (x / g) ≤ 1000000000 * 1000 := by rw [← hML.out]; exact hmb
      rw [hML.out] at hnext HS
      clear hmb m1 m2 d2 hML
      by_cases hbig : 1000000000 < a * (x / g)
      · have t1 : decide (1000000000 < a * (x / g)) = true := decide_eq_true hbig
        go_wp2_with (go_at_call 25; refine (Hg.out _).mono ?_; rintro e w' ⟨rfl, n1, rfl⟩)
        go_ret2
        exact ⟨by unfold fullV; rw [if_neg (by omega)]; rfl, below_drew hB _⟩
      · have t1 : decide (1000000000 < a * (x / g)) = false := decide_eq_false hbig
        go_wp2_with (go_at_call 25; refine (Hg.out _).mono ?_; rintro e w' ⟨rfl, n1, rfl⟩)
        go_roundw
        case rel => exact ⟨k + 1, _, by omega, by go_num, by rw [HS.out], by rw [HS.out]; omega, rfl⟩
        case measure => simp [intOf]; omega
    · have hkeq : k = n := by omega
      subst hkeq
      have hall : Ls.take k = Ls := List.take_of_length_le (by rw [Hn.out]; omega)
      rw [hall]
      rw [hall] at hle
      clear hall
      go_wp2_with fail
      go_ret2
      exact ⟨by unfold fullV; rw [if_pos hle]; rfl, below_drew hB _⟩
end Go.Proofs.Ytdbnnhfgohabdaa
