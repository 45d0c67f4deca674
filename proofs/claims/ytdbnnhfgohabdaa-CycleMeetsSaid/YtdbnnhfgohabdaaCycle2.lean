/- Contracts of package cycle: Of. -/
import Derived.Test.YtdbnnhfgohabdaaCycle1
namespace Go.Proofs.Ytdbnnhfgohabdaa
open Go.RowKit
set_option linter.unusedVariables false

theorem int_info : (Try.prog.info? 3).map (fun i => (i.zero, i.size, i.bytes)) = some (some (.int .i64 0), 1, 8) := by kernel_rfl

/-- a failure: a nil slice and an error -/
def IsFail (w : World) (e : Ending) (w' : World) : Prop := ∃ E : Int, E ≠ 0 ∧ e = .returned (.tuple #[.slice none 0 0, .int .i64 E]) ∧ Below w.heap.size w w'
/-- a slice of integers and no error -/
def IsInts (xs : List Int) (w : World) (e : Ending) (w' : World) : Prop :=
  ∃ (A : Option Addr) (c : Nat), e = .returned (.tuple #[.slice A xs.length c, .int .i64 0]) ∧ Row w' w'.heap.size A (ints xs) ∧ Below w.heap.size w w'

theorem cof_no (A A' : Option Addr) (c c' : Nat) (Ls Os : List Int) (D : Int) (w : World) (hL : Row w w.heap.size A (ints Ls)) (hO : Row w w.heap.size A' (ints Os)) (hl : Ls.length ≤ maxLen) (hl' : Os.length ≤ maxLen)
    (hno : ¬ CycOk Ls Os) : Calls Try.prog 43 #[.agg #[.slice A Ls.length c, .slice A' Os.length c'], .int .i64 D] w (IsFail w) := by
  go_enter Try.func43, Try.ntmps43
  go_wp2_with fail
  refine (ccheck_any A A' c c' Ls Os _ (hL.alloc _) (hO.alloc _) hl hl').mono ?_
  rintro e w1 ⟨E, rfl, hE, hb1⟩
  have h0 : ¬ E = 0 := fun h => hno (hE.1 h)
  have t1 : (E != 0) = true := by rw [bne_iff_ne]; exact h0
  go_wp2_with fail
  go_ret2
  exact ⟨E, h0, rfl, below_next (Below.refl _ _) hb1⟩

set_option maxHeartbeats 1000000 in
set_option maxRecDepth 100000 in
theorem cof_yes (A A' : Option Addr) (c c' : Nat) (Ls Os : List Int) (D : Int) (w : World) (hL : Row w w.heap.size A (ints Ls)) (hO : Row w w.heap.size A' (ints Os)) (hl : Ls.length ≤ maxLen) (hl' : Os.length ≤ maxLen)
    (hok : CycOk Ls Os) (hD1 : -4000000 ≤ D) (hD2 : D ≤ 4000000) : Calls Try.prog 43 #[.agg #[.slice A Ls.length c, .slice A' Os.length c'], .int .i64 D] w (IsInts (places Ls Os D) w) := by
  obtain ⟨i0, hi0, hz0, hz1, hz2⟩ := info_parts int_info
  have HOK := Lib.hid hok
  have hc1 := hok.1
  have hc2 := hok.2.1
  have hc3 := hok.2.2.1
  clear hok
  obtain ⟨b, o, rfl, hb, hc⟩ := hL.open_ (ints_ne Ls (by omega))
  obtain ⟨b', o', rfl, hb', hc'⟩ := hO.open_ (ints_ne Os (by omega))
  have HC := Lib.hid hc
  have HC' := Lib.hid hc'
  clear hc hc'
  have Hck := Lib.hid (fun w hL hO => ccheck_any (some ⟨b, o, none⟩) (some ⟨b', o', none⟩) c c' Ls Os w hL hO hl hl')
  have Hc3 := Lib.hid hc3
  rw [hc3] at Hck ⊢
  have Hpl := Lib.hid (places_length Ls Os D)
  obtain ⟨n, hn⟩ : ∃ n, Ls.length = n := ⟨_, rfl⟩
  rw [hn] at hc1 hc2 Hck Hpl
  rw [hn]
  have Hn := Lib.hid hn
  clear hn hc3 hl hl'
  go_enter Try.func43, Try.ntmps43
  go_wp2_with fail
  refine (Hck.out _ (hL.alloc _) (hO.alloc _)).mono ?_
  rintro e w1 ⟨E, rfl, hE, hb1⟩
  obtain rfl : E = 0 := hE.2 HOK.out
  have hB := below_next (Below.refl _ _) hb1
  have hx := (Box.new w 76 #[.slice (some ⟨b, o, none⟩) n c, .slice (some ⟨b', o', none⟩) n c']).below hb1
  have hxl := hx.lt
  clear hE hb1 hL hO Hck
  have x0 : w1.cell? ⟨w.heap.size, 0, none⟩ = some (.slice (some ⟨b, o, none⟩) n c) := hx.cell 0
  go_wp2_with (go_at_call 51; refine (is_yes _ _ hD1 hD2).mono ?_; rintro e w' ⟨rfl, rfl⟩)
  clear x0
  go_loopw [7, 8, 9, 21] (fun v _ _ i wr => ∃ k : Nat, k ≤ n ∧ i = .int .i64 k ∧ wr.ownsRow w1.heap.size 3 1 v k (ints ((places Ls Os D).take k)) ∧ Below w1.heap.size w1 wr) (fun _ _ _ i _ => n - (intOf i).toNat)
  case atStart => exact ⟨0, by omega, rfl, World.ownsRow_nil _ _ _ _, Below.refl _ _⟩
  case round =>
    obtain ⟨k, hk, rfl, hown, hbr⟩ := hrel
    have hzr := hbr.size
    by_cases hkn : k < n
    · have hat := HOK.out.at_ k (by rw [Hn.out]; exact hkn)
      have y0 : wr.cell? ⟨b, o + k, none⟩ = some (.int .i64 (Ls.getD k 0)) := by
        rw [hbr.cell (p := ⟨b, o + k, none⟩) (Nat.lt_of_lt_of_le hb hB.size), hB.cell (p := ⟨b, o + k, none⟩) hb]; exact ints_cell HC.out k (by rw [Hn.out]; exact hkn)
      have y1 : wr.cell? ⟨b', o' + k, none⟩ = some (.int .i64 (Os.getD k 0)) := by
        rw [hbr.cell (p := ⟨b', o' + k, none⟩) (Nat.lt_of_lt_of_le hb' hB.size), hB.cell (p := ⟨b', o' + k, none⟩) hb']; exact ints_cell HC'.out k (by rw [Hc3.out, Hn.out]; exact hkn)
      have x1 : wr.cell? ⟨w.heap.size, 1, none⟩ = some (.slice (some ⟨b', o', none⟩) n c') := (hx.belowB hbr hxl).cell 1
      have hs := Lib.hid (places_snoc Ls Os D k (by rw [Hn.out]; exact hkn))
      generalize Ls.getD k 0 = x at *
      generalize Os.getD k 0 = y at *
      obtain ⟨a1, a2, a3, a4⟩ := hat
      go_wp2_with fail
      refine (mod_pos _ _ _ (by omega) (by omega) (by omega) (by omega)).mono ?_
      rintro e w2 ⟨rfl, nd, rfl⟩
      replace hown : (wr.drewN nd).ownsRow w1.heap.size 3 1 u7 k (ints ((places Ls Os D).take k)) := hown
      replace hbr := below_drew hbr nd
      replace hzr : w1.heap.size ≤ (wr.drewN nd).heap.size := hzr
      clear y0 y1 x1
      generalize wr.drewN nd = W2 at *
      generalize (D + y) % x = q at *
      clear a1 a2 a3 a4
      go_wp2_with (at_builtin; refine wpList_append_own _ rfl (.tmp 26) (.tmp 36) 58 rfl w1.heap.size 3 i0 (.int .i64 0) 1 8 Try.underlying58 hi0 hz0 hz1 hz2 rfl (by decide) u7 k _ rfl (hown.alloc _) ⟨W2.heap.size, 0, none⟩ 1 1 [.int .i64 q] rfl rfl ?c1 ?c2 ?c3 ?c4 ?c5 ?_)
      case c1 => exact cell_one_new _ _ _
      case c2 => intro u hu; simp at hu; subst hu; rfl
      case c3 => simp only [maxLen]; omega
      case c4 => omega
      case c5 => simp; omega
      intro v' w3 hown' hgrow _
      have hb3 : Below w1.heap.size w1 w3 := (hbr.alloc hzr _).grown hgrow (by simp; omega) (own_base hown)
      rw [← ints_snoc, ← hs.out] at hown'
      clear hown hgrow hbr
      go_wp2_with fail
      go_roundw
      case rel => exact ⟨k + 1, by omega, by go_num, hown', hb3⟩
      case measure => simp [intOf]; omega
    · obtain rfl : k = n := by omega
      obtain ⟨g, cap, hv, _, _⟩ := hown.form (by omega)
      have hrow : Row wr wr.heap.size (some ⟨g, 0, none⟩) (ints (places Ls Os D)) := by
        rw [hv] at hown
        have := Row.of_own hown
        rwa [List.take_of_length_le (by rw [Hpl.out]; omega)] at this
      have HV := Lib.hid hv
      clear hv hown
      go_wp2_with fail
      go_ret2
      refine ⟨some ⟨g, 0, none⟩, cap, ?_, hrow, below_then hB hbr⟩
      rw [Hpl.out, ← HV.out]
      rfl
end Go.Proofs.Ytdbnnhfgohabdaa
