/- Contracts of package lunisolar: increasing, parts, avoided. -/
import Derived.Test.YtfindembancjdaaSearch1
import Derived.Test.YtfindembancjdaaPlainMoon
import Derived.Test.YtfindembancjdaaFrac1
import Derived.Test.YtfindembancjdaaName1
namespace Go.Proofs.Ytfindembancjdaa
open Go.RowKit
set_option linter.unusedVariables false

/-- an error code: 0 just if P -/
def Errs (P : Prop) (w : World) (e : Ending) (w' : World) : Prop := ∃ E : Int, e = .returned (.int .i64 E) ∧ (E = 0 ↔ P) ∧ Below w.heap.size w w'
theorem Errs.ok {P : Prop} {w w' : World} (h : P) (hb : Below w.heap.size w w') : Errs P w (.returned (.int .i64 0)) w' := ⟨0, rfl, ⟨fun _ => h, fun _ => rfl⟩, hb⟩
theorem Errs.no {P : Prop} {w w' : World} {E : Int} (hE : E ≠ 0) (h : ¬ P) (hb : Below w.heap.size w w') : Errs P w (.returned (.int .i64 E)) w' := ⟨E, rfl, ⟨fun e => absurd e hE, fun p => absurd p h⟩, hb⟩

/-- as Errs, and the world is as it was but for draws -/
def ErrsQ (P : Prop) (w : World) (e : Ending) (w' : World) : Prop := ∃ E : Int, e = .returned (.int .i64 E) ∧ (E = 0 ↔ P) ∧ ∃ n, w' = w.drewN n

set_option maxHeartbeats 1000000 in
set_option maxRecDepth 100000 in
theorem increasing_any (A : Option Addr) (c : Nat) (l : List Int) (lo hi : Int) (w : World) (hr : Row w w.heap.size A (ints l)) (hl : l.length ≤ maxLen) :
    Calls Try.prog 47 #[.slice A l.length c, .int .i64 lo, .int .i64 hi] w (Errs (Inc l lo hi) w) := by
  unfold maxLen at hl
  go_enter Try.func47, Try.ntmps47
  go_wp2
  go_loop [7, 8, 11] (fun _ _ i => ∃ k : Nat, k ≤ l.length ∧ i = .int .i64 k ∧ Hid (∀ j, j < k → (lo ≤ l.getD j 0 ∧ l.getD j 0 ≤ hi) ∧ (0 < j → l.getD (j - 1) 0 < l.getD j 0))) (fun _ _ i => l.length - (intOf i).toNat)
  case atStart => exact ⟨0, by omega, rfl, fun j hj => by omega⟩
  case round =>
    obtain ⟨k, hk, rfl, hall⟩ := hrel
    by_cases hlt : k < l.length
    · obtain ⟨b, o, rfl, _, hcs⟩ := hr.open_ (ints_ne l (by omega))
      have hc := ints_cell hcs k hlt
      have hcp := ints_cell hcs (k - 1) (by omega)
      clear hcs hr
      have HX : Hid (∀ j, j < k + 1 → j = k ∨ j < k) := fun j hj => by omega
      have key : (lo ≤ l.getD k 0 ∧ l.getD k 0 ≤ hi) → (0 < k → l.getD (k - 1) 0 < l.getD k 0) → Hid (∀ j, j < k + 1 → (lo ≤ l.getD j 0 ∧ l.getD j 0 ≤ hi) ∧ (0 < j → l.getD (j - 1) 0 < l.getD j 0)) := fun h1 h2 j hj => by
        rcases HX.out j hj with rfl | h
        · exact ⟨h1, h2⟩
        · exact hall.out j h
      have KEY := Lib.hid key
      have no1 : ¬ (lo ≤ l.getD k 0 ∧ l.getD k 0 ≤ hi) → ¬ Inc l lo hi := fun h hi => h (hi k hlt).1
      have no2 : 0 < k → ¬ (l.getD (k - 1) 0 < l.getD k 0) → ¬ Inc l lo hi := fun h0 h hi => h ((hi k hlt).2 h0)
      have NO1 := Lib.hid no1
      have NO2 := Lib.hid no2
      clear key no1 no2 HX hall
      generalize l.getD (k - 1) 0 = p at *
      generalize l.getD k 0 = x at *
      by_cases h1 : x < lo
      · go_wp2_with fail
        go_ret
        exact Errs.no (by omega) (NO1.out (by omega)) (Below.refl _ _)
      have t1 : decide (x < lo) = false := decide_eq_false h1
      by_cases h2 : hi < x
      · have t2 : decide (hi < x) = true := decide_eq_true h2
        go_wp2_with fail
        go_ret
        exact Errs.no (by omega) (NO1.out (by omega)) (Below.refl _ _)
      have t2 : decide (hi < x) = false := decide_eq_false h2
      by_cases h3 : k = 0
      · subst h3
        clear hcp
        rw [Nat.add_zero] at hc
        go_wp2_with fail
        go_round
        case rel => exact ⟨1, by omega, rfl, KEY.out (by omega) (by omega)⟩
        case measure => simp [intOf]; omega
      have k0 : decide (0 < (k : Int)) = true := decide_eq_true (by omega)
      have k1 : (0 : Int) ≤ (k : Int) - 1 := by omega
      have k2 : (1 : Int) ≤ (k : Int) := by omega
      have k3 : ((k : Int) - 1).toNat = k - 1 := by omega
      by_cases h4 : x ≤ p
      · have t4 : decide (x ≤ p) = true := decide_eq_true h4
        go_wp2_with fail
        go_ret
        exact Errs.no (by omega) (NO2.out (by omega) (by omega)) (Below.refl _ _)
      · have t4 : decide (x ≤ p) = false := decide_eq_false h4
        go_wp2_with fail
        go_round
        case rel => exact ⟨k + 1, by omega, by go_num, KEY.out (by omega) (by omega)⟩
        case measure => simp [intOf]; omega
    · go_wp2_with fail
      go_ret
      exact Errs.ok (fun j hj => hall.out j (by omega)) (Below.refl _ _)

theorem intFits (x : Int) (h1 : -9223372036854775808 ≤ x) (h2 : x ≤ 9223372036854775807) : IntKind.i64.wrap x = x := IntWalk.i64_in _ ⟨h1, h2⟩

/-- a moon's rule: its numbers, its lists and where they lie -/
structure Mo where
  nm : ByteArray
  ep : Int
  sn : Int
  sd : Int
  mn : Int
  md : Int
  ln : Int
  ld : Int
  cy : Int
  lp : List Int
  av : List Int
  A1 : Option Addr
  c1 : Nat
  A2 : Option Addr
  c2 : Nat
/-- its cells -/
abbrev Mo.cells (m : Mo) : Array Value := #[.string m.nm, .int .i64 m.ep, .int .i64 m.sn, .int .i64 m.sd, .int .i64 m.mn, .int .i64 m.md, .int .i64 m.ln, .int .i64 m.ld, .int .i64 m.cy, .slice m.A1 m.lp.length m.c1, .slice m.A2 m.av.length m.c2]
abbrev Mo.val (m : Mo) : Value := .agg m.cells
/-- its lists lie in memory -/
def MIn (w : World) (m : Mo) : Prop := Row w w.heap.size m.A1 (ints m.lp) ∧ Row w w.heap.size m.A2 (ints m.av)
theorem MIn.next {w w' : World} {m : Mo} (h : MIn w m) (hb : Below w.heap.size w w') : MIn w' m := ⟨h.1.next hb, h.2.next hb⟩
/-- what memory bears -/
structure MFit (m : Mo) : Prop where
  nm : m.nm.size ≤ maxLen
  lp : m.lp.length ≤ maxLen
  av : m.av.length ≤ maxLen
/-- the parts of a day -/
def Mo.parts (m : Mo) : Int := partsL 1 [m.sd, m.md, m.ld]

set_option maxHeartbeats 1000000 in
set_option maxRecDepth 100000 in
theorem parts_any (m : Mo) (w : World) (h1 : 1 ≤ m.sd) (h2 : m.sd ≤ 2147483647) (h3 : 1 ≤ m.md) (h4 : m.md ≤ 2147483647) (h5 : 1 ≤ m.ld) (h6 : m.ld ≤ 2147483647) :
    Calls Try.prog 46 #[m.val] w fun e w' => e = .returned (.int .i64 m.parts) ∧ Below w.heap.size w w' := by
  unfold Mo.parts
  obtain ⟨R, hR⟩ : ∃ R, R = partsL 1 [m.sd, m.md, m.ld] := ⟨_, rfl⟩
  rw [← hR]
  have HR := Lib.hid hR
  clear hR
  have ST := Lib.hid lcmS_facts
  go_enter Try.func46, Try.ntmps46
  go_wp2
  generalize m.sd = s at *
  generalize m.md = t at *
  generalize m.ld = u at *
  have hb0 := below_alloc1 w (Obj.cells m.cells 36)
  have HB := Lib.hid hb0
  clear hb0
  go_loopw [3, 18] (fun x i wr => ∃ (k : Nat) (a : Int), k ≤ 3 ∧ 1 ≤ a ∧ a ≤ 1000000 ∧ x = .int .i64 a ∧ i = .int .i64 (k : Int) ∧ Hid (R = partsL a ([s, t, u].drop k)) ∧ Hid (Below w.heap.size w wr)) (fun _ i _ => 3 - (intOf i).toNat)
  case atStart => exact ⟨0, 1, by omega, by omega, by omega, rfl, rfl, HR, HB⟩
  case round =>
    clear HR HB
    obtain ⟨k, a, hk, ha1, ha2, rfl, rfl, HR, HB⟩ := hrel
    by_cases h3' : k = 3
    · subst h3'
      go_wp2_with fail
      go_ret
      exact ⟨by rw [HR.out]; rfl, HB.out⟩
    · obtain ⟨d, hd1, hd2, hidx, hdr⟩ : ∃ d : Int, 1 ≤ d ∧ d ≤ 2147483647 ∧ (∀ w, (Instr.index 139 (.agg #[.int .i64 s, .int .i64 t, .int .i64 u]) (.int .i64 (k : Int))).run Try.prog w = .ok (.int .i64 d) w) ∧ Hid ([s, t, u].drop k = d :: [s, t, u].drop (k + 1)) := by
        rcases (show k = 0 ∨ k = 1 ∨ k = 2 by omega) with rfl | rfl | rfl
        · exact ⟨s, h1, h2, fun _ => by kernel_rfl, rfl⟩
        · exact ⟨t, h3, h4, fun _ => by kernel_rfl, rfl⟩
        · exact ⟨u, h5, h6, fun _ => by kernel_rfl, rfl⟩
      have HG := Lib.hid (fun w => gcd_any a d w (by omega) (by omega) (by omega) (by omega))
      have hf := ST.out a d ha1 hd1
      have hdef : Hid (lcmS a d = a * (d / (Int.gcd a d : Nat))) := rfl
      have hp : a * (d / (Int.gcd a d : Nat)) ≤ 1000000 * 2147483647 := Int.mul_le_mul ha2 (by omega) (by omega) (by omega)
      obtain ⟨f1, _, _, f2, f3, f4⟩ := hf
      rw [hdef.out] at f1
      generalize (Int.gcd a d : Nat) = G at *
      have g0 : ¬ ((G : Int) = 0) := by omega
      have hk3 : (k : Int) < 3 := by omega
      clear h3'
      obtain ⟨p, hpd⟩ : ∃ p, p = a * (d / (G : Int)) := ⟨_, rfl⟩
      have HQ := Lib.hid hpd
      rw [← hpd] at f1 hp
      have hp1 : IntKind.i64.wrap (a * (d / (G : Int))) = p := by rw [← hpd]; exact intFits _ (by omega) (by omega)
      clear hpd
      go_wp2_with (go_at_call 84; refine (HG.out _).mono ?_; rintro e w' ⟨rfl, n, rfl⟩)
      · go_ret
        exact ⟨by rw [HR.out, hdr.out, partsL, if_pos (by rw [hdef.out, ← HQ.out]; assumption)]; rfl, below_drew HB.out _⟩
      · refine ⟨⟨k + 1, p, by omega, f1, by assumption, rfl, by go_num, ?_, below_drew HB.out _⟩, by simp [intOf]; omega⟩
        have h8 : p ≤ 1000000 := by assumption
        have : lcmS a d = p := by rw [hdef.out, ← HQ.out]
        show R = _
        rw [HR.out, hdr.out, partsL, if_neg (by omega), this]

theorem avB_iff (av : List Int) (d : Int) (j : Nat) (hj : j < av.length) (h : (d - 1) % 7 = av.getD j 0) : avB av d = true := by
  unfold avB
  exact decide_eq_true (by rw [h]; exact List.getD_eq_getElem?_getD ▸ (by simp [List.getElem?_eq_getElem hj]))
theorem avB_no (av : List Int) (d : Int) (h : ∀ j, j < av.length → (d - 1) % 7 ≠ av.getD j 0) : avB av d = false := by
  unfold avB
  refine decide_eq_false fun hm => ?_
  obtain ⟨i, hi, e⟩ := List.getElem_of_mem hm
  exact h i hi (by rw [← e]; simp [List.getD, List.getElem?_eq_getElem hi])

set_option maxHeartbeats 1000000 in
set_option maxRecDepth 100000 in
theorem avoided_any (m : Mo) (d : Int) (w : World) (hm : MIn w m) (hl : m.av.length ≤ 3) (h1 : -1000000000000000 ≤ d) (h2 : d ≤ 1000000000000000) :
    Calls Try.prog 83 #[m.val, .int .i64 d] w fun e w' => e = .returned (.bool (avB m.av d)) ∧ Below w.heap.size w w' := by
  have hr := hm.2.alloc (Obj.cells m.cells 36)
  have hb0 := below_alloc1 w (Obj.cells m.cells 36)
  have Y := Lib.hid (avB_iff m.av d)
  have N := Lib.hid (avB_no m.av d)
  generalize avB m.av d = R at *
  go_enter Try.func83, Try.ntmps83
  go_wp2_with fail
  have HR := Lib.hid hr
  have HB := Lib.hid hb0
  clear hr hb0 hm
  generalize w.alloc (Obj.cells m.cells 36) = W0 at *
  generalize m.A2 = A at *
  generalize m.av = l at *
  go_loopw [6, 10] (fun _ i wr => ∃ (k n : Nat), k ≤ l.length ∧ i = .int .i64 (k : Int) ∧ wr = W0.drewN n ∧ Hid (∀ j, j < k → (d - 1) % 7 ≠ l.getD j 0)) (fun _ i _ => l.length - (intOf i).toNat)
  case atStart => exact ⟨0, 0, by omega, rfl, rfl, fun j hj => by omega⟩
  case round =>
    obtain ⟨k, n, hk, rfl, rfl, hall⟩ := hrel
    by_cases hlt : k < l.length
    · obtain ⟨b, o, rfl, _, hcs⟩ := HR.out.open_ (ints_ne l (by omega))
      have hc : (W0.drewN n).cell? ⟨b, o + k, none⟩ = _ := ints_cell hcs k hlt
      clear hcs
      have Yk := Lib.hid (fun h => Y.out k hlt h)
      have HX : Hid ((d - 1) % 7 ≠ l.getD k 0 → ∀ j, j < k + 1 → (d - 1) % 7 ≠ l.getD j 0) := fun h j hj => by
        by_cases e : j = k
        · subst e; exact h
        · exact hall.out j (by omega)
      generalize l.getD k 0 = x at *
      by_cases he : (d - 1) % 7 = x
      · have t1 : ((d - 1) % 7 == x) = true := by simpa using he
        have hRt := Yk.out he
        subst hRt
        clear he
        go_wp2_with (go_at_call 82; refine (mod_pos _ _ _ (by omega) (by omega) (by omega) (by omega)).mono ?_; rintro e w' ⟨rfl, n, rfl⟩)
        go_ret
        exact ⟨rfl, below_drew HB.out _⟩
      · have t1 : ((d - 1) % 7 == x) = false := by simpa using he
        go_wp2_with (go_at_call 82; refine (mod_pos _ _ _ (by omega) (by omega) (by omega) (by omega)).mono ?_; rintro e w' ⟨rfl, n, rfl⟩)
        go_roundw
        case rel => exact ⟨k + 1, _, by omega, by go_num, rfl, HX.out he⟩
        case measure => simp [intOf]; omega
    · have hRf := N.out (fun j hj => hall.out j (by omega))
      subst hRf
      go_wp2_with fail
      go_ret
      exact ⟨rfl, below_drew HB.out _⟩
end Go.Proofs.Ytfindembancjdaa
