/- Contract of rule.Months. -/
import Derived.Test.YtbmbphikjainiaaDoorCal1
namespace Go.Proofs.YtbmbphikjainiaaDoor
open Go.RowKit
set_option linter.unusedVariables false

def sumS (l : List Mth) : Int := (l.map (·.sh)).sum
def sumL (l : List Mth) : Int := (l.map (·.lo)).sum
/-- one month, with those before it -/
structure MthOk (l : List Mth) (i : Nat) : Prop where
  nm : NameOk (l.getD i mth0).nm
  tw : (l.take i).any (fun x => x.nm.toList == (l.getD i mth0).nm.toList) = false
  sh : 0 ≤ (l.getD i mth0).sh ∧ (l.getD i mth0).sh ≤ 400
  lo : 0 ≤ (l.getD i mth0).lo ∧ (l.getD i mth0).lo ≤ 400
structure MthsOk (l : List Mth) : Prop where
  n1 : 1 ≤ l.length
  n2 : l.length ≤ 20
  each : ∀ i, i < l.length → MthOk l i
  s0 : sumS l ≠ 0
  l0 : sumL l ≠ 0
theorem sum_take (f : Mth → Int) (l : List Mth) (k : Nat) (h : k < l.length) : ((l.take (k + 1)).map f).sum = ((l.take k).map f).sum + f (l.getD k mth0) := by
  induction l generalizing k with
  | nil => simp at h
  | cons x r ih =>
    cases k with
    | zero => simp
    | succ k => simp only [List.take_succ_cons, List.map_cons, List.sum_cons]; rw [ih k (by simpa using h)]; simp; omega
theorem sumS_take (l : List Mth) (k : Nat) (h : k < l.length) : sumS (l.take (k + 1)) = sumS (l.take k) + (l.getD k mth0).sh := sum_take (·.sh) l k h
theorem sumL_take (l : List Mth) (k : Nat) (h : k < l.length) : sumL (l.take (k + 1)) = sumL (l.take k) + (l.getD k mth0).lo := sum_take (·.lo) l k h
theorem sums_in (l : List Mth) : ∀ k, k ≤ l.length → (∀ j, j < k → MthOk l j) → (0 ≤ sumS (l.take k) ∧ sumS (l.take k) ≤ 400 * k) ∧ (0 ≤ sumL (l.take k) ∧ sumL (l.take k) ≤ 400 * k) := by
  intro k
  induction k with
  | zero => intro _ _; simp [sumS, sumL]
  | succ k ih =>
    intro hk h
    have h1 := ih (by omega) (fun j hj => h j (by omega))
    have h2 := (h k (by omega)).sh
    have h3 := (h k (by omega)).lo
    rw [sumS_take l k (by omega), sumL_take l k (by omega)]
    omega
theorem row_take3 {w : World} {B b o : Nat} {l : List Mth} (i : Nat) (hb : b < B) (h : ∀ j v, (l.flatMap mthF)[j]? = some v → w.cell? ⟨b, o + j, none⟩ = some v) : Row w B (some ⟨b, o, none⟩) ((l.take i).flatMap mthF) :=
  .inr ⟨b, o, rfl, hb, fun j v hv => h j v (by
    have hp : (l.take i).flatMap mthF ++ (l.drop i).flatMap mthF = l.flatMap mthF := by rw [← List.flatMap_append, List.take_append_drop]
    rw [← hp, List.getElem?_append_left (List.getElem?_eq_some_iff.1 hv).1]
    exact hv)⟩

set_option maxHeartbeats 4000000 in
set_option maxRecDepth 100000 in
theorem rmonths_any (A : Option Addr) (c : Nat) (l : List Mth) (w : World) (hr : Row w w.heap.size A (l.flatMap mthF)) (hc : l.length ≤ c) (hm : c ≤ maxLen) (hn : ∀ x ∈ l, x.nm.size ≤ maxLen) :
    Calls Tryd.prog 37 #[.slice A l.length c] w (Errs (MthsOk l) w) := by
  have hm' := hm
  unfold maxLen at hm'
  obtain ⟨Q, hQ⟩ : ∃ Q : Prop, Q = MthsOk l := ⟨_, rfl⟩
  have NO1 : Hid (l.length < 1 → ¬ Q) := fun h hq => by have := (hQ ▸ hq : MthsOk l).n1; omega
  have NO2 : Hid (20 < l.length → ¬ Q) := fun h hq => by have := (hQ ▸ hq : MthsOk l).n2; omega
  have NO : Hid (∀ i, i < l.length → ¬ MthOk l i → ¬ Q) := fun i hi h hq => h ((hQ ▸ hq : MthsOk l).each i hi)
  have NOS : Hid (sumS l = 0 → ¬ Q) := fun h hq => (hQ ▸ hq : MthsOk l).s0 h
  have NOL : Hid (sumL l = 0 → ¬ Q) := fun h hq => (hQ ▸ hq : MthsOk l).l0 h
  have YES : Hid (1 ≤ l.length → l.length ≤ 20 → (∀ i, i < l.length → MthOk l i) → sumS l ≠ 0 → sumL l ≠ 0 → Q) := fun a1 a2 a3 a4 a5 => hQ ▸ (⟨a1, a2, a3, a4, a5⟩ : MthsOk l)
  rw [← hQ]
  clear hQ
  go_enter Tryd.func37, Tryd.ntmps37
  by_cases h1 : l.length < 1
  · have t1 : decide ((l.length : Int) < 1) = true := decide_eq_true (by omega)
    have t1' : decide (l.length < 1) = true := decide_eq_true h1
    go_wp2_with fail
    all_goals go_ret
    all_goals exact Errs.no (by omega) (NO1.out h1) (Below.refl _ _)
  by_cases h2 : 20 < l.length
  · have t1 : decide ((l.length : Int) < 1) = false := decide_eq_false (by omega)
    have t2 : decide ((20 : Int) < (l.length : Int)) = true := decide_eq_true (by omega)
    have t2' : decide (20 < l.length) = true := decide_eq_true h2
    go_wp2_with fail
    all_goals go_ret
    all_goals exact Errs.no (by omega) (NO2.out h2) (Below.refl _ _)
  have t1 : decide ((l.length : Int) < 1) = false := decide_eq_false (by omega)
  have t2 : decide ((20 : Int) < (l.length : Int)) = false := decide_eq_false (by omega)
  have t2' : decide (20 < l.length) = false := decide_eq_false h2
  obtain ⟨b, o, rfl, hbl, hcs0⟩ := hr.open_ (flat_ne mthF_len (by omega) l (by omega))
  have HCS := Lib.hid hcs0
  clear hr hcs0
  go_wp2_with fail
  clear t1 t2 t2' NO1 NO2
  go_loopw [3, 4, 17] (fun s g i wr => ∃ k : Nat, k ≤ l.length ∧ i = .int .i64 (k : Int) ∧ s = .int .i64 (sumS (l.take k)) ∧ g = .int .i64 (sumL (l.take k)) ∧ Hid (∀ j, j < k → MthOk l j) ∧ Below w.heap.size w wr) (fun _ _ i _ => l.length - (intOf i).toNat)
  case atStart => exact ⟨0, by omega, rfl, rfl, rfl, fun j hj => by omega, Below.refl _ _⟩
  case round =>
    obtain ⟨k, hk, rfl, rfl, rfl, hall, hbr⟩ := hrel
    obtain ⟨⟨s1, s2⟩, s3, s4⟩ := sums_in l k hk hall.out
    by_cases hlt : k < l.length
    · have hcs : ∀ j v, (l.flatMap mthF)[j]? = some v → wr.cell? ⟨b, o + j, none⟩ = some v := fun j v hv => (hbr.cell (p := ⟨b, o + j, none⟩) hbl).trans (HCS.out j v hv)
      have hc0 := flat_cell mthF_len mth0 hcs k 0 hlt (by omega) _ rfl
      have hc1 := flat_cell mthF_len mth0 hcs k 1 hlt (by omega) _ rfl
      have hc2 := flat_cell mthF_len mth0 hcs k 2 hlt (by omega) _ rfl
      rw [Nat.add_zero] at hc0
      have HNM := Lib.hid (hn (l.getD k mth0) (by simp [List.getD, List.getElem?_eq_getElem hlt]))
      have HSS := Lib.hid (sumS_take l k hlt)
      have HSL := Lib.hid (sumL_take l k hlt)
      have HNO := Lib.hid (NO.out k hlt)
      have HX : Hid (MthOk l k → ∀ j, j < k + 1 → MthOk l j) := fun h j hj => by
        by_cases e : j = k
        · subst e; exact h
        · exact hall.out j (by omega)
      have HMK : Hid (∀ (a : NameOk (l.getD k mth0).nm) (b : (l.take k).any (fun x => x.nm.toList == (l.getD k mth0).nm.toList) = false) (c : 0 ≤ (l.getD k mth0).sh ∧ (l.getD k mth0).sh ≤ 400) (d : 0 ≤ (l.getD k mth0).lo ∧ (l.getD k mth0).lo ≤ 400), MthOk l k) := fun a b c d => ⟨a, b, c, d⟩
      have NM1 : Hid (¬ NameOk (l.getD k mth0).nm → ¬ MthOk l k) := fun h hh => h hh.nm
      have NM2 : Hid ((l.take k).any (fun x => x.nm.toList == (l.getD k mth0).nm.toList) = true → ¬ MthOk l k) := fun h hh => by rw [hh.tw] at h; cases h
      have NM3 : Hid (¬ (0 ≤ (l.getD k mth0).sh ∧ (l.getD k mth0).sh ≤ 400) → ¬ MthOk l k) := fun h hh => h hh.sh
      have NM4 : Hid (¬ (0 ≤ (l.getD k mth0).lo ∧ (l.getD k mth0).lo ≤ 400) → ¬ MthOk l k) := fun h hh => h hh.lo
      generalize l.getD k mth0 = y at *
      have HB1 := Lib.hid (below_then hbr (below_alloc1 wr (Obj.cells y.cells 60)))
      have HBX := Lib.hid (Box.new wr 60 y.cells)
      have HCT : Hid (∀ W, Below (wr.alloc (Obj.cells y.cells 60)).heap.size (wr.alloc (Obj.cells y.cells 60)) W → Calls Tryd.prog 54 #[.slice (some ⟨b, o, none⟩) k c, .func (.func 55) #[] #[.pointer (some ⟨wr.heap.size, 0, none⟩)]] W fun e w' => e = .returned (.bool ((l.take k).any (fun x => x.nm.toList == y.nm.toList))) ∧ Below (wr.alloc (Obj.cells y.cells 60)).heap.size (wr.alloc (Obj.cells y.cells 60)) w') := fun W hW => by
        have := containsFunc_mths 55 #[.pointer (some ⟨wr.heap.size, 0, none⟩)] (fun x => x.nm.toList == y.nm.toList) (Below (wr.alloc (Obj.cells y.cells 60)).heap.size (wr.alloc (Obj.cells y.cells 60))) (some ⟨b, o, none⟩) c (l.take k) W hW (by simp; omega) (fun _ _ => rfl)
          (fun W hW => (row_take3 k hbl HCS.out).next (below_then HB1.out hW))
          (fun W x hW => (months_one wr.heap.size y x W ((HBX.out.below hW).cell 0)).mono fun e w' ⟨he, hb⟩ => ⟨he, below_then hW hb⟩)
        rwa [show (l.take k).length = k from by simp; omega] at this
      have k0 : (0 : Int) ≤ (k : Int) := by omega
      have k1 : (k : Int) ≤ (c : Int) := by omega
      have HIN := Lib.hid (fun w => isName_any y.nm w HNM.out)
      clear hcs NO HNM
      have MK' : Hid (NameOk y.nm → (l.take k).any (fun x => x.nm.toList == y.nm.toList) = false → 0 ≤ y.sh ∧ y.sh ≤ 400 → 0 ≤ y.lo ∧ y.lo ≤ 400 → ∀ j, j < k + 1 → MthOk l j) := fun a b c d => HX.out (HMK.out a b c d)
      clear HX HMK hn
      generalize hgT : (l.take k).any (fun x => x.nm.toList == y.nm.toList) = T at *
      clear hgT
      go_wp2_with fail
      generalize wr.alloc (Obj.cells y.cells 60) = W1 at *
      generalize wr.heap.size = gm at *
      clear hc0 hc1 hc2 hbr
      refine (HIN.out _).mono ?_
      rintro e w' ⟨bn, rfl, hbn, rfl⟩
      have HBN := Lib.hid hbn
      clear hbn HIN
      cases bn with
      | false =>
        have HF : Hid (¬ Q) := HNO.out (NM1.out (fun h => by have := HBN.out.2 h; cases this))
        clear HBN
        go_wp2_with fail
        go_ret
        exact Errs.no (by omega) HF.out HB1.out
      | true =>
        have HNK := Lib.hid (HBN.out.1 rfl)
        clear HBN NM1
        go_wp2_with fail
        refine (HCT.out _ (Below.refl _ _)).mono ?_
        rintro e w2 ⟨rfl, hb2⟩
        replace HBX := Lib.hid (HBX.out.below hb2)
        replace HB1 := Lib.hid (below_then HB1.out hb2)
        clear hb2 HCT
        cases T with
        | true =>
          have HF : Hid (¬ Q) := HNO.out (NM2.out rfl)
          go_wp2_with fail
          go_ret
          exact Errs.no (by omega) HF.out HB1.out
        | false =>
          have y1 : w2.cell? ⟨gm, 1, none⟩ = some (.int .i64 y.sh) := HBX.out.cell 1
          have y2 : w2.cell? ⟨gm, 2, none⟩ = some (.int .i64 y.lo) := HBX.out.cell 2
          have HL1 := Lib.hid (fun w => isLength_any y.sh w)
          have HL2 := Lib.hid (fun w => isLength_any y.lo w)
          by_cases a3 : 0 ≤ y.sh ∧ y.sh ≤ 400
          case neg =>
            have HF : Hid (¬ Q) := HNO.out (NM3.out a3)
            rw [decide_eq_false a3] at HL1
            clear a3
            go_wp2_with (go_at_call 56; refine (HL1.out _).mono ?_; rintro e w' ⟨rfl, rfl⟩)
            go_ret
            exact Errs.no (by omega) HF.out HB1.out
          rw [decide_eq_true a3] at HL1
          by_cases a4 : 0 ≤ y.lo ∧ y.lo ≤ 400
          case neg =>
            have HF : Hid (¬ Q) := HNO.out (NM4.out a4)
            rw [decide_eq_false a4] at HL2
            clear a3 a4
            go_wp2_with (first | (go_at_call 56; ((with_reducible refine (HL1.out _).mono ?_)); rintro e w' ⟨rfl, rfl⟩) | (go_at_call 56; ((with_reducible refine (HL2.out _).mono ?_)); rintro e w' ⟨rfl, rfl⟩))
            go_ret
            exact Errs.no (by omega) HF.out HB1.out
          rw [decide_eq_true a4] at HL2
          have HALL := Lib.hid (MK'.out HNK.out rfl a3 a4)
          obtain ⟨b1, b2⟩ := a3
          obtain ⟨b3, b4⟩ := a4
          go_wp2_with (first | (go_at_call 56; ((with_reducible refine (HL1.out _).mono ?_)); rintro e w' ⟨rfl, rfl⟩) | (go_at_call 56; ((with_reducible refine (HL2.out _).mono ?_)); rintro e w' ⟨rfl, rfl⟩))
          clear HL1 HL2 MK' NM2 NM3 NM4 HNO HNK hall
          have e1 : IntKind.i64.wrap (sumS (l.take k) + y.sh) = sumS (l.take k) + y.sh := intFits _ (by omega) (by omega)
          have e2 : IntKind.i64.wrap (sumL (l.take k) + y.lo) = sumL (l.take k) + y.lo := intFits _ (by omega) (by omega)
          go_quiet (fail)
          go_wp2_with fail
          go_roundw
          case rel => exact ⟨k + 1, by omega, by go_num, by rw [HSS.out], by rw [HSL.out], HALL, below_drew HB1.out _⟩
          case measure => simp [intOf]; omega
    · obtain rfl : k = l.length := by omega
      rw [List.take_length] at s1 s2 s3 s4
      have HALL := Lib.hid hall.out
      have ht : l.take l.length = l := List.take_length
      rw [ht]
      clear ht hn NO HCS hall
      by_cases z1 : sumS l = 0
      · have t1 : (sumS l == 0) = true := by simpa using z1
        have HF := Lib.hid (NOS.out z1)
        clear z1
        go_wp2_with fail
        go_ret
        exact Errs.no (by omega) HF.out hbr
      have t1 : (sumS l == 0) = false := by simpa using z1
      by_cases z2 : sumL l = 0
      · have t2 : (sumL l == 0) = true := by simpa using z2
        have HF := Lib.hid (NOL.out z2)
        clear z2 z1
        go_wp2_with fail
        go_ret
        exact Errs.no (by omega) HF.out hbr
      have t2 : (sumL l == 0) = false := by simpa using z2
      have HY := Lib.hid (YES.out (by omega) (by omega) HALL.out z1 z2)
      clear z1 z2
      go_wp2_with fail
      go_ret
      exact Errs.ok HY.out hbr
end Go.Proofs.YtbmbphikjainiaaDoor
