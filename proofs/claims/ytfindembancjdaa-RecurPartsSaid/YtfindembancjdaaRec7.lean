/- Contract of recur.days. -/
import Derived.Test.YtfindembancjdaaRec6
import Derived.Test.YtfindembancjdaaOwn
import Derived.Test.YtfindembancjdaaSlice1
namespace Go.Proofs.Ytfindembancjdaa
open Go.RowKit
set_option linter.unusedVariables false

/-- the moment of a day -/
noncomputable def mmAt (day : Int) : Mm := if h : -4000000 ≤ day ∧ day ≤ 4000000 then (mm_of day h.1 h.2).choose else ⟨0, 0, 0, 0⟩
theorem mmAt_spec {day : Int} (h1 : -4000000 ≤ day) (h2 : day ≤ 4000000) : (mmAt day).day = day ∧ MmOk (mmAt day) := by
  unfold mmAt
  rw [dif_pos ⟨h1, h2⟩]
  exact (mm_of day h1 h2).choose_spec
noncomputable def Rc.fit (r : Rc) (day : Int) : Bool := fitB r (mmAt r.fr) (mmAt day)
def Rc.low (r : Rc) (a : Int) : Int := if r.co = 0 then max r.fr a else r.fr
def Rc.num (r : Rc) (a b : Int) : Nat := (min b r.ut + 1 - r.low a).toNat
/-- the days of a recurrence in a range -/
noncomputable def Rc.days (r : Rc) (a b : Int) : List Int := daysL r.fit r.co a (r.num a b) (r.low a) 0

theorem fits_day (r : Rc) (day : Int) (w : World) (hr : RcIn w r) (ok : RcOk r) (h1 : -4000000 ≤ day) (h2 : day ≤ 4000000) :
    Calls Try.prog 77 #[r.val, (mmAt r.fr).val, (mmAt day).val] w fun e w' => e = .returned (.bool (r.fit day)) ∧ Below w.heap.size w w' :=
  fits_any r _ _ w hr ok (mmAt_spec ok.f1.1 ok.f1.2).2 (mmAt_spec h1 h2).2
theorem at_day (day : Int) (w : World) (h1 : -4000000 ≤ day) (h2 : day ≤ 4000000) : Calls Try.prog 76 #[.int .i64 day] w fun e w' => e = .returned (mmAt day).val ∧ Below w.heap.size w w' := by
  have := at_any _ (mmAt_spec h1 h2).2 w
  rwa [(mmAt_spec h1 h2).1] at this

theorem one_int (x : Int) : ∀ u ∈ [Value.int .i64 x], u.oneCell' = true := fun u hu => by simp at hu; subst hu; rfl

set_option maxHeartbeats 2000000 in
set_option maxRecDepth 100000 in
theorem days_any (r : Rc) (a b : Int) (w : World) (hr : RcIn w r) (ok : RcOk r) (ha1 : -4000000 ≤ a) (hb1 : b ≤ 4000000) (hab : a ≤ b) (hbf : b ≤ r.fr + 40000) :
    Calls Try.prog 37 #[r.val, .int .i64 a, .int .i64 b] w fun e w' => ∃ v, e = .returned v ∧ w'.ownsRow w.heap.size 3 1 v (r.days a b).length (ints (r.days a b)) ∧ Below w.heap.size w w' := by
  obtain ⟨i0, hi0, hz0, hz1, hz2⟩ := info_parts infoInt2
  have HB := Lib.hid (below_alloc1 w (Obj.cells r.cells 24))
  have HX := Lib.hid (Box.new w 24 r.cells)
  have HR := Lib.hid (hr.next HB.out)
  have f1 := ok.f1.1
  have f2 := ok.f1.2
  have c1 := ok.c1
  have c2 := ok.c2
  have u1 := ok.t1.1
  have u2 := ok.t1.2
  have HOK := Lib.hid ok
  clear hr ok
  obtain ⟨L, hL⟩ : ∃ L, L = r.days a b := ⟨_, rfl⟩
  rw [← hL]
  have HL := Lib.hid hL
  clear hL
  unfold Rc.days at HL
  have HAt := Lib.hid (fun W => at_day r.fr W f1 f2)
  go_enter Try.func37, Try.ntmps37
  go_wp2_with fail
  refine (HAt.out _).mono ?_
  rintro e w1 ⟨rfl, hb⟩
  have hx := (HX.out.below hb).alloc (Obj.cells (mmAt r.fr).cells 134)
  have hm := Box.new w1 134 (mmAt r.fr).cells
  replace HB := Lib.hid (below_then (below_then HB.out hb) (below_alloc1 w1 (Obj.cells (mmAt r.fr).cells 134)))
  replace HR := Lib.hid ((HR.out.next hb).next (below_alloc1 w1 (Obj.cells (mmAt r.fr).cells 134)))
  clear HX hb HAt
  obtain ⟨x0, x1, x2, x3, x4, x5, x6, x7⟩ := rcells hx
  -- THE LOOP
  have HX1 := Lib.hid hx
  have HM1 := Lib.hid hm
  have hg1 := hx.lt
  have hg2 := hm.lt
  obtain ⟨low, hlo⟩ : ∃ low, low = r.low a := ⟨_, rfl⟩
  obtain ⟨n, hn⟩ : ∃ n, n = r.num a b := ⟨_, rfl⟩
  rw [← hlo, ← hn] at HL
  unfold Rc.num at hn
  rw [← hlo] at hn
  unfold Rc.low at hlo
  have hlo1 : r.fr ≤ low := by rw [hlo]; split <;> omega
  have hlo2 : r.co = 0 → low = max r.fr a := fun h => by rw [hlo, if_pos h]
  have hlo3 : ¬ r.co = 0 → low = r.fr := fun h => by rw [hlo, if_neg h]
  clear hlo hx hm
  have hnn : n ≤ 40001 := by omega
  have HN : Hid (n = (min b r.ut + 1 - low).toNat) := hn
  clear hn
  by_cases hco : r.co = 0
  · have t0 : (r.co == 0) = true := by simpa using hco
    have hlo4 := hlo2 hco
    have HCO := Lib.hid hco
    clear hco hlo2 hlo3
    go_wp2_with fail
    · have HST : Hid (low = a) := by unfold Hid; omega
      clear hlo4
      generalize w1.alloc (Obj.cells (mmAt r.fr).cells 134) = W1 at *
      generalize w1.heap.size = g7 at *
      clear x0 x1 x2 x3 x4 x5 x6 x7
      go_loopw [8, 10, 11] (fun v c d wr => ∃ (k : Nat) (C : Int) (acc : List Int), k ≤ n ∧ 0 ≤ C ∧ C ≤ k ∧ d = .int .i64 (low + k) ∧ c = .int .i64 C ∧ wr.ownsRow W1.heap.size 3 1 v acc.length (ints acc) ∧ Hid (acc ++ daysL r.fit r.co a (n - k) (low + k) C = L) ∧ acc.length ≤ k ∧ Below W1.heap.size W1 wr) (fun _ _ d _ => n - (intOf d - low).toNat)
      case atStart => exact ⟨0, 0, [], by omega, by omega, by omega, by rw [HST.out]; simp, rfl, World.ownsRow_nil _ _ _ _, (by unfold Hid; rw [HL.out]; simp), by simp, Below.refl _ _⟩
      case round =>
        clear HST
        obtain ⟨k, C, acc, hk, hC0, hC1, rfl, rfl, hown, hacc, hal, hbr⟩ := hrel
        have X1 := HX1.out.below hbr
        have X2 := HM1.out.below hbr
        have HRr := Lib.hid (HR.out.next hbr)
        obtain ⟨M, hM⟩ : ∃ M, (if r.ut < b then r.ut else b) = M := ⟨_, rfl⟩
        have hM2 : M = min b r.ut := by rw [← hM]; split <;> omega
        have x4 : wr.cell? ⟨w.heap.size, 4, none⟩ = some (.int .i64 r.ut) := X1.cell 4
        by_cases hkn : k < n
        · have d1 : low + (k : Int) ≤ M := by have := HN.out; omega
          have t1 : decide (low + (k : Int) ≤ M) = true := decide_eq_true d1
          have d2 : -4000000 ≤ low + (k : Int) := by omega
          have d3 : low + (k : Int) ≤ 4000000 := by omega
          have hacc' := hacc.out
          rw [show n - k = (n - (k + 1)) + 1 from by omega] at hacc'
          unfold daysL at hacc'
          have HF := Lib.hid (fun W hb => fits_day r (low + (k : Int)) W (HRr.out.next hb) HOK.out d2 d3)
          have HA := Lib.hid (fun W => at_day (low + (k : Int)) W d2 d3)
          have e1 : IntKind.i64.wrap (low + (k : Int) + 1) = low + (k : Int) + 1 := intFits _ (by omega) (by omega)
          have e2 : IntKind.i64.wrap (C + 1) = C + 1 := intFits _ (by omega) (by omega)
          have HDK : Hid (low + ((k + 1 : Nat) : Int) = low + (k : Int) + 1) := by unfold Hid; omega
          rw [← HDK.out] at hacc'
          have HACC := Lib.hid hacc'
          clear hacc hacc' HM1 HX1
          go_upto_region 10 with fail
          clear hM t1 hM2 d1 x4
          have c0 := fun W (hb : Below wr.heap.size wr W) => rcells (X1.below hb)
          have m0 := fun W (hb : Below wr.heap.size wr W) => (X2.below hb).cell 0
          have m1 := fun W (hb : Below wr.heap.size wr W) => (X2.below hb).cell 1
          have m2 := fun W (hb : Below wr.heap.size wr W) => (X2.below hb).cell 2
          have m3 := fun W (hb : Below wr.heap.size wr W) => (X2.below hb).cell 3
          have m4 := fun W (hb : Below wr.heap.size wr W) => (X2.below hb).cell 4
          have m5 := fun W (hb : Below wr.heap.size wr W) => (X2.below hb).cell 5
          simp only [List.getElem?_toArray, List.getElem?_cons_zero, List.getElem?_cons_succ] at m0 m1 m2 m3 m4 m5
          refine flow_begin (tellOf [(3, det (mmAt (low + (k : Int))).val), (4, det (.bool (r.fit (low + (k : Int)))))]) (by kernel_rfl) (by kernel_rfl) ?_
          repeat (first | (refine flow_val (v := ?_) (by rfl) (by rfl) (fun w hb => ?_) ?_; rotate_left; (· ((go_simp) <;> ((repeat' apply And.intro) <;> with_reducible rfl))); try simp only [Act.put, List.setIfInBounds_toArray, List.set_cons_zero, List.set_cons_succ, Nat.reduceAdd]) | (refine flow_skip (by rfl) (by rfl) ?_; try simp only [Act.put, List.setIfInBounds_toArray, List.set_cons_zero, List.set_cons_succ, Nat.reduceAdd]))
          refine flow_call (f := ?_) (args := ?_) [] (by kernel_rfl) (by rfl) (by rfl) (fun w hb => ?_) (fun w hb hu => ?_) ?_; rotate_left 2; (· ((go_simp) <;> ((repeat' apply And.intro) <;> with_reducible rfl)))
          · exact HA.out w
          try simp only [Act.put, List.setIfInBounds_toArray, List.set_cons_zero, List.set_cons_succ, Nat.reduceAdd]
          refine flow_call (f := ?_) (args := ?_) [] (by kernel_rfl) (by rfl) (by rfl) (fun w hb => ?_) (fun w hb hu => ?_) ?_; rotate_left 2; (· ((go_simp) <;> ((repeat' apply And.intro) <;> with_reducible rfl)))
          · exact HF.out w hb
          try simp only [Act.put, List.setIfInBounds_toArray, List.set_cons_zero, List.set_cons_succ, Nat.reduceAdd]
          repeat (first | (refine flow_val (v := ?_) (by rfl) (by rfl) (fun w hb => ?_) ?_; rotate_left; (· ((go_simp) <;> ((repeat' apply And.intro) <;> with_reducible rfl))); try simp only [Act.put, List.setIfInBounds_toArray, List.set_cons_zero, List.set_cons_succ, Nat.reduceAdd]) | (refine flow_skip (by rfl) (by rfl) ?_; try simp only [Act.put, List.setIfInBounds_toArray, List.set_cons_zero, List.set_cons_succ, Nat.reduceAdd]))
          refine flow_nil fun w2 hb2 _ => ?_
          clear m0 m1 m2 m3 m4 m5 c0 HA HF
          replace X1 := X1.below hb2
          replace X2 := X2.below hb2
          have x3 : w2.cell? ⟨w.heap.size, 3, none⟩ = some (.int .i64 r.co) := X1.cell 3
          replace hown := own_next hown hb2
          replace hbr := below_then hbr hb2
          have hzr := hbr.size
          clear hb2
          generalize r.fit (low + (k : Int)) = F at *
          cases F with
          | false =>
            rw [if_neg (by simp)] at HACC
            go_wp2_with fail
            go_roundw
            case rel => exact ⟨k + 1, C, acc, by omega, by omega, by omega, by rw [HDK.out], rfl, hown, HACC, by omega, hbr⟩
            case measure => (simp [intOf]) <;> omega
          | true =>
            rw [if_pos rfl] at HACC
            by_cases hbk : 0 < r.co ∧ r.co < C + 1
            · rw [if_pos hbk] at HACC
              obtain ⟨q1, q2⟩ := hbk
              have t2 : decide (0 < r.co) = true := decide_eq_true q1
              have t3 : decide (r.co < C + 1) = true := decide_eq_true q2
              have HQ : Hid (acc = L) := by have := HACC.out; unfold Hid; simpa using this
              obtain rfl := HQ.out
              clear HACC HQ
              go_wp2_with fail
              go_ret
              exact ⟨u8, rfl, own_lower hown (by have := HB.out.size; omega), below_then HB.out hbr⟩
            · rw [if_neg hbk] at HACC
              have HBK := Lib.hid hbk
              clear hbk
              by_cases q1 : 0 < r.co
              · have t2 : decide (0 < r.co) = true := decide_eq_true q1
                have t3 : decide (r.co < C + 1) = false := decide_eq_false (fun h => HBK.out ⟨q1, h⟩)
                by_cases q3 : a ≤ low + (k : Int)
                · rw [if_pos q3] at HACC
                  have t4 : decide (a ≤ low + (k : Int)) = true := decide_eq_true q3
                  go_wp2_with (at_builtin; refine wpList_append_own _ rfl (.tmp 52) (.tmp 54) 22 rfl W1.heap.size 3 i0 (.int .i64 0) 1 8 Try.underlying22 hi0 hz0 hz1 hz2 rfl (by decide) u8 acc.length _ rfl (hown.alloc _) ⟨w2.heap.size, 0, none⟩ 1 1 [.int .i64 (low + (k : Int))] rfl rfl (cell_one_new _ _ _) (one_int _) ?c3x1 ?c4x1 ?c5x1 ?_)
                  try (case c3x1 => first | omega | (simp only [maxLen]; omega) | (simp; omega))
                  try (case c4x1 => first | omega | (simp only [maxLen]; omega) | (simp; omega))
                  try (case c5x1 => first | omega | (simp only [maxLen]; omega) | (simp; omega))
                  intro v' w3 hown' hgrow _
                  have hb3 : Below W1.heap.size W1 w3 := (hbr.alloc hzr _).grown hgrow (by simp; omega) (own_base hown)
                  rw [← ints_snoc] at hown'
                  clear hown hgrow hbr
                  go_wp2_with fail
                  go_roundw
                  case rel => exact ⟨k + 1, C + 1, acc ++ [low + (k : Int)], by omega, by omega, by omega, by rw [HDK.out], rfl, by rw [List.length_append]; exact hown', (by have := HACC.out; rw [List.append_assoc]; exact this), by rw [List.length_append]; simp; omega, hb3⟩
                  case measure => (simp [intOf]) <;> omega
                · rw [if_neg q3, List.nil_append] at HACC
                  have t4 : decide (a ≤ low + (k : Int)) = false := decide_eq_false q3
                  go_wp2_with fail
                  all_goals go_roundw
                  all_goals first | exact ⟨k + 1, C + 1, acc, by omega, by omega, by omega, by rw [HDK.out], rfl, hown, HACC, by omega, hbr⟩ | ((simp [intOf]) <;> omega)
              · have t2 : decide (0 < r.co) = false := decide_eq_false q1
                by_cases q3 : a ≤ low + (k : Int)
                · rw [if_pos q3] at HACC
                  have t4 : decide (a ≤ low + (k : Int)) = true := decide_eq_true q3
                  go_wp2_with (at_builtin; refine wpList_append_own _ rfl (.tmp 52) (.tmp 54) 22 rfl W1.heap.size 3 i0 (.int .i64 0) 1 8 Try.underlying22 hi0 hz0 hz1 hz2 rfl (by decide) u8 acc.length _ rfl (hown.alloc _) ⟨w2.heap.size, 0, none⟩ 1 1 [.int .i64 (low + (k : Int))] rfl rfl (cell_one_new _ _ _) (one_int _) ?c3x2 ?c4x2 ?c5x2 ?_)
                  try (case c3x2 => first | omega | (simp only [maxLen]; omega) | (simp; omega))
                  try (case c4x2 => first | omega | (simp only [maxLen]; omega) | (simp; omega))
                  try (case c5x2 => first | omega | (simp only [maxLen]; omega) | (simp; omega))
                  intro v' w3 hown' hgrow _
                  have hb3 : Below W1.heap.size W1 w3 := (hbr.alloc hzr _).grown hgrow (by simp; omega) (own_base hown)
                  rw [← ints_snoc] at hown'
                  clear hown hgrow hbr
                  go_wp2_with fail
                  go_roundw
                  case rel => exact ⟨k + 1, C + 1, acc ++ [low + (k : Int)], by omega, by omega, by omega, by rw [HDK.out], rfl, by rw [List.length_append]; exact hown', (by have := HACC.out; rw [List.append_assoc]; exact this), by rw [List.length_append]; simp; omega, hb3⟩
                  case measure => (simp [intOf]) <;> omega
                · rw [if_neg q3, List.nil_append] at HACC
                  have t4 : decide (a ≤ low + (k : Int)) = false := decide_eq_false q3
                  go_wp2_with fail
                  all_goals go_roundw
                  all_goals first | exact ⟨k + 1, C + 1, acc, by omega, by omega, by omega, by rw [HDK.out], rfl, hown, HACC, by omega, hbr⟩ | ((simp [intOf]) <;> omega)
        · have t1 : decide (low + (k : Int) ≤ M) = false := decide_eq_false (by have := HN.out; omega)
          have HQ : Hid (acc = L) := by
            have := hacc.out
            rw [show n - k = 0 from by omega] at this
            unfold Hid
            simpa [daysL] using this
          obtain rfl := HQ.out
          clear hacc HQ hM2
          go_wp2_with fail
          go_ret
          exact ⟨u8, rfl, own_lower hown (by have := HB.out.size; omega), below_then HB.out hbr⟩
    · have HST : Hid (low = r.fr) := by unfold Hid; omega
      clear hlo4
      generalize w1.alloc (Obj.cells (mmAt r.fr).cells 134) = W1 at *
      generalize w1.heap.size = g7 at *
      clear x0 x1 x2 x3 x4 x5 x6 x7
      go_loopw [8, 10, 11] (fun v c d wr => ∃ (k : Nat) (C : Int) (acc : List Int), k ≤ n ∧ 0 ≤ C ∧ C ≤ k ∧ d = .int .i64 (low + k) ∧ c = .int .i64 C ∧ wr.ownsRow W1.heap.size 3 1 v acc.length (ints acc) ∧ Hid (acc ++ daysL r.fit r.co a (n - k) (low + k) C = L) ∧ acc.length ≤ k ∧ Below W1.heap.size W1 wr) (fun _ _ d _ => n - (intOf d - low).toNat)
      case atStart => exact ⟨0, 0, [], by omega, by omega, by omega, by rw [HST.out]; simp, rfl, World.ownsRow_nil _ _ _ _, (by unfold Hid; rw [HL.out]; simp), by simp, Below.refl _ _⟩
      case round =>
        clear HST
        obtain ⟨k, C, acc, hk, hC0, hC1, rfl, rfl, hown, hacc, hal, hbr⟩ := hrel
        have X1 := HX1.out.below hbr
        have X2 := HM1.out.below hbr
        have HRr := Lib.hid (HR.out.next hbr)
        obtain ⟨M, hM⟩ : ∃ M, (if r.ut < b then r.ut else b) = M := ⟨_, rfl⟩
        have hM2 : M = min b r.ut := by rw [← hM]; split <;> omega
        have x4 : wr.cell? ⟨w.heap.size, 4, none⟩ = some (.int .i64 r.ut) := X1.cell 4
        by_cases hkn : k < n
        · have d1 : low + (k : Int) ≤ M := by have := HN.out; omega
          have t1 : decide (low + (k : Int) ≤ M) = true := decide_eq_true d1
          have d2 : -4000000 ≤ low + (k : Int) := by omega
          have d3 : low + (k : Int) ≤ 4000000 := by omega
          have hacc' := hacc.out
          rw [show n - k = (n - (k + 1)) + 1 from by omega] at hacc'
          unfold daysL at hacc'
          have HF := Lib.hid (fun W hb => fits_day r (low + (k : Int)) W (HRr.out.next hb) HOK.out d2 d3)
          have HA := Lib.hid (fun W => at_day (low + (k : Int)) W d2 d3)
          have e1 : IntKind.i64.wrap (low + (k : Int) + 1) = low + (k : Int) + 1 := intFits _ (by omega) (by omega)
          have e2 : IntKind.i64.wrap (C + 1) = C + 1 := intFits _ (by omega) (by omega)
          have HDK : Hid (low + ((k + 1 : Nat) : Int) = low + (k : Int) + 1) := by unfold Hid; omega
          rw [← HDK.out] at hacc'
          have HACC := Lib.hid hacc'
          clear hacc hacc' HM1 HX1
          go_upto_region 10 with fail
          clear hM t1 hM2 d1 x4
          have c0 := fun W (hb : Below wr.heap.size wr W) => rcells (X1.below hb)
          have m0 := fun W (hb : Below wr.heap.size wr W) => (X2.below hb).cell 0
          have m1 := fun W (hb : Below wr.heap.size wr W) => (X2.below hb).cell 1
          have m2 := fun W (hb : Below wr.heap.size wr W) => (X2.below hb).cell 2
          have m3 := fun W (hb : Below wr.heap.size wr W) => (X2.below hb).cell 3
          have m4 := fun W (hb : Below wr.heap.size wr W) => (X2.below hb).cell 4
          have m5 := fun W (hb : Below wr.heap.size wr W) => (X2.below hb).cell 5
          simp only [List.getElem?_toArray, List.getElem?_cons_zero, List.getElem?_cons_succ] at m0 m1 m2 m3 m4 m5
          refine flow_begin (tellOf [(3, det (mmAt (low + (k : Int))).val), (4, det (.bool (r.fit (low + (k : Int)))))]) (by kernel_rfl) (by kernel_rfl) ?_
          repeat (first | (refine flow_val (v := ?_) (by rfl) (by rfl) (fun w hb => ?_) ?_; rotate_left; (· ((go_simp) <;> ((repeat' apply And.intro) <;> with_reducible rfl))); try simp only [Act.put, List.setIfInBounds_toArray, List.set_cons_zero, List.set_cons_succ, Nat.reduceAdd]) | (refine flow_skip (by rfl) (by rfl) ?_; try simp only [Act.put, List.setIfInBounds_toArray, List.set_cons_zero, List.set_cons_succ, Nat.reduceAdd]))
          refine flow_call (f := ?_) (args := ?_) [] (by kernel_rfl) (by rfl) (by rfl) (fun w hb => ?_) (fun w hb hu => ?_) ?_; rotate_left 2; (· ((go_simp) <;> ((repeat' apply And.intro) <;> with_reducible rfl)))
          · exact HA.out w
          try simp only [Act.put, List.setIfInBounds_toArray, List.set_cons_zero, List.set_cons_succ, Nat.reduceAdd]
          refine flow_call (f := ?_) (args := ?_) [] (by kernel_rfl) (by rfl) (by rfl) (fun w hb => ?_) (fun w hb hu => ?_) ?_; rotate_left 2; (· ((go_simp) <;> ((repeat' apply And.intro) <;> with_reducible rfl)))
          · exact HF.out w hb
          try simp only [Act.put, List.setIfInBounds_toArray, List.set_cons_zero, List.set_cons_succ, Nat.reduceAdd]
          repeat (first | (refine flow_val (v := ?_) (by rfl) (by rfl) (fun w hb => ?_) ?_; rotate_left; (· ((go_simp) <;> ((repeat' apply And.intro) <;> with_reducible rfl))); try simp only [Act.put, List.setIfInBounds_toArray, List.set_cons_zero, List.set_cons_succ, Nat.reduceAdd]) | (refine flow_skip (by rfl) (by rfl) ?_; try simp only [Act.put, List.setIfInBounds_toArray, List.set_cons_zero, List.set_cons_succ, Nat.reduceAdd]))
          refine flow_nil fun w2 hb2 _ => ?_
          clear m0 m1 m2 m3 m4 m5 c0 HA HF
          replace X1 := X1.below hb2
          replace X2 := X2.below hb2
          have x3 : w2.cell? ⟨w.heap.size, 3, none⟩ = some (.int .i64 r.co) := X1.cell 3
          replace hown := own_next hown hb2
          replace hbr := below_then hbr hb2
          have hzr := hbr.size
          clear hb2
          generalize r.fit (low + (k : Int)) = F at *
          cases F with
          | false =>
            rw [if_neg (by simp)] at HACC
            go_wp2_with fail
            go_roundw
            case rel => exact ⟨k + 1, C, acc, by omega, by omega, by omega, by rw [HDK.out], rfl, hown, HACC, by omega, hbr⟩
            case measure => (simp [intOf]) <;> omega
          | true =>
            rw [if_pos rfl] at HACC
            by_cases hbk : 0 < r.co ∧ r.co < C + 1
            · rw [if_pos hbk] at HACC
              obtain ⟨q1, q2⟩ := hbk
              have t2 : decide (0 < r.co) = true := decide_eq_true q1
              have t3 : decide (r.co < C + 1) = true := decide_eq_true q2
              have HQ : Hid (acc = L) := by have := HACC.out; unfold Hid; simpa using this
              obtain rfl := HQ.out
              clear HACC HQ
              go_wp2_with fail
              go_ret
              exact ⟨u8, rfl, own_lower hown (by have := HB.out.size; omega), below_then HB.out hbr⟩
            · rw [if_neg hbk] at HACC
              have HBK := Lib.hid hbk
              clear hbk
              by_cases q1 : 0 < r.co
              · have t2 : decide (0 < r.co) = true := decide_eq_true q1
                have t3 : decide (r.co < C + 1) = false := decide_eq_false (fun h => HBK.out ⟨q1, h⟩)
                by_cases q3 : a ≤ low + (k : Int)
                · rw [if_pos q3] at HACC
                  have t4 : decide (a ≤ low + (k : Int)) = true := decide_eq_true q3
                  go_wp2_with (at_builtin; refine wpList_append_own _ rfl (.tmp 52) (.tmp 54) 22 rfl W1.heap.size 3 i0 (.int .i64 0) 1 8 Try.underlying22 hi0 hz0 hz1 hz2 rfl (by decide) u8 acc.length _ rfl (hown.alloc _) ⟨w2.heap.size, 0, none⟩ 1 1 [.int .i64 (low + (k : Int))] rfl rfl (cell_one_new _ _ _) (one_int _) ?c3x3 ?c4x3 ?c5x3 ?_)
                  try (case c3x3 => first | omega | (simp only [maxLen]; omega) | (simp; omega))
                  try (case c4x3 => first | omega | (simp only [maxLen]; omega) | (simp; omega))
                  try (case c5x3 => first | omega | (simp only [maxLen]; omega) | (simp; omega))
                  intro v' w3 hown' hgrow _
                  have hb3 : Below W1.heap.size W1 w3 := (hbr.alloc hzr _).grown hgrow (by simp; omega) (own_base hown)
                  rw [← ints_snoc] at hown'
                  clear hown hgrow hbr
                  go_wp2_with fail
                  go_roundw
                  case rel => exact ⟨k + 1, C + 1, acc ++ [low + (k : Int)], by omega, by omega, by omega, by rw [HDK.out], rfl, by rw [List.length_append]; exact hown', (by have := HACC.out; rw [List.append_assoc]; exact this), by rw [List.length_append]; simp; omega, hb3⟩
                  case measure => (simp [intOf]) <;> omega
                · rw [if_neg q3, List.nil_append] at HACC
                  have t4 : decide (a ≤ low + (k : Int)) = false := decide_eq_false q3
                  go_wp2_with fail
                  all_goals go_roundw
                  all_goals first | exact ⟨k + 1, C + 1, acc, by omega, by omega, by omega, by rw [HDK.out], rfl, hown, HACC, by omega, hbr⟩ | ((simp [intOf]) <;> omega)
              · have t2 : decide (0 < r.co) = false := decide_eq_false q1
                by_cases q3 : a ≤ low + (k : Int)
                · rw [if_pos q3] at HACC
                  have t4 : decide (a ≤ low + (k : Int)) = true := decide_eq_true q3
                  go_wp2_with (at_builtin; refine wpList_append_own _ rfl (.tmp 52) (.tmp 54) 22 rfl W1.heap.size 3 i0 (.int .i64 0) 1 8 Try.underlying22 hi0 hz0 hz1 hz2 rfl (by decide) u8 acc.length _ rfl (hown.alloc _) ⟨w2.heap.size, 0, none⟩ 1 1 [.int .i64 (low + (k : Int))] rfl rfl (cell_one_new _ _ _) (one_int _) ?c3x4 ?c4x4 ?c5x4 ?_)
                  try (case c3x4 => first | omega | (simp only [maxLen]; omega) | (simp; omega))
                  try (case c4x4 => first | omega | (simp only [maxLen]; omega) | (simp; omega))
                  try (case c5x4 => first | omega | (simp only [maxLen]; omega) | (simp; omega))
                  intro v' w3 hown' hgrow _
                  have hb3 : Below W1.heap.size W1 w3 := (hbr.alloc hzr _).grown hgrow (by simp; omega) (own_base hown)
                  rw [← ints_snoc] at hown'
                  clear hown hgrow hbr
                  go_wp2_with fail
                  go_roundw
                  case rel => exact ⟨k + 1, C + 1, acc ++ [low + (k : Int)], by omega, by omega, by omega, by rw [HDK.out], rfl, by rw [List.length_append]; exact hown', (by have := HACC.out; rw [List.append_assoc]; exact this), by rw [List.length_append]; simp; omega, hb3⟩
                  case measure => (simp [intOf]) <;> omega
                · rw [if_neg q3, List.nil_append] at HACC
                  have t4 : decide (a ≤ low + (k : Int)) = false := decide_eq_false q3
                  go_wp2_with fail
                  all_goals go_roundw
                  all_goals first | exact ⟨k + 1, C + 1, acc, by omega, by omega, by omega, by rw [HDK.out], rfl, hown, HACC, by omega, hbr⟩ | ((simp [intOf]) <;> omega)
        · have t1 : decide (low + (k : Int) ≤ M) = false := decide_eq_false (by have := HN.out; omega)
          have HQ : Hid (acc = L) := by
            have := hacc.out
            rw [show n - k = 0 from by omega] at this
            unfold Hid
            simpa [daysL] using this
          obtain rfl := HQ.out
          clear hacc HQ hM2
          go_wp2_with fail
          go_ret
          exact ⟨u8, rfl, own_lower hown (by have := HB.out.size; omega), below_then HB.out hbr⟩
  · have t0 : (r.co == 0) = false := by simpa using hco
    have hlo4 := hlo3 hco
    have HCO := Lib.hid hco
    clear hco hlo2 hlo3
    go_wp2_with fail
    · have HST : Hid (low = r.fr) := hlo4
      clear hlo4
      generalize w1.alloc (Obj.cells (mmAt r.fr).cells 134) = W1 at *
      generalize w1.heap.size = g7 at *
      clear x0 x1 x2 x3 x4 x5 x6 x7
      go_loopw [8, 10, 11] (fun v c d wr => ∃ (k : Nat) (C : Int) (acc : List Int), k ≤ n ∧ 0 ≤ C ∧ C ≤ k ∧ d = .int .i64 (low + k) ∧ c = .int .i64 C ∧ wr.ownsRow W1.heap.size 3 1 v acc.length (ints acc) ∧ Hid (acc ++ daysL r.fit r.co a (n - k) (low + k) C = L) ∧ acc.length ≤ k ∧ Below W1.heap.size W1 wr) (fun _ _ d _ => n - (intOf d - low).toNat)
      case atStart => exact ⟨0, 0, [], by omega, by omega, by omega, by rw [HST.out]; simp, rfl, World.ownsRow_nil _ _ _ _, (by unfold Hid; rw [HL.out]; simp), by simp, Below.refl _ _⟩
      case round =>
        clear HST
        obtain ⟨k, C, acc, hk, hC0, hC1, rfl, rfl, hown, hacc, hal, hbr⟩ := hrel
        have X1 := HX1.out.below hbr
        have X2 := HM1.out.below hbr
        have HRr := Lib.hid (HR.out.next hbr)
        obtain ⟨M, hM⟩ : ∃ M, (if r.ut < b then r.ut else b) = M := ⟨_, rfl⟩
        have hM2 : M = min b r.ut := by rw [← hM]; split <;> omega
        have x4 : wr.cell? ⟨w.heap.size, 4, none⟩ = some (.int .i64 r.ut) := X1.cell 4
        by_cases hkn : k < n
        · have d1 : low + (k : Int) ≤ M := by have := HN.out; omega
          have t1 : decide (low + (k : Int) ≤ M) = true := decide_eq_true d1
          have d2 : -4000000 ≤ low + (k : Int) := by omega
          have d3 : low + (k : Int) ≤ 4000000 := by omega
          have hacc' := hacc.out
          rw [show n - k = (n - (k + 1)) + 1 from by omega] at hacc'
          unfold daysL at hacc'
          have HF := Lib.hid (fun W hb => fits_day r (low + (k : Int)) W (HRr.out.next hb) HOK.out d2 d3)
          have HA := Lib.hid (fun W => at_day (low + (k : Int)) W d2 d3)
          have e1 : IntKind.i64.wrap (low + (k : Int) + 1) = low + (k : Int) + 1 := intFits _ (by omega) (by omega)
          have e2 : IntKind.i64.wrap (C + 1) = C + 1 := intFits _ (by omega) (by omega)
          have HDK : Hid (low + ((k + 1 : Nat) : Int) = low + (k : Int) + 1) := by unfold Hid; omega
          rw [← HDK.out] at hacc'
          have HACC := Lib.hid hacc'
          clear hacc hacc' HM1 HX1
          go_upto_region 10 with fail
          clear hM t1 hM2 d1 x4
          have c0 := fun W (hb : Below wr.heap.size wr W) => rcells (X1.below hb)
          have m0 := fun W (hb : Below wr.heap.size wr W) => (X2.below hb).cell 0
          have m1 := fun W (hb : Below wr.heap.size wr W) => (X2.below hb).cell 1
          have m2 := fun W (hb : Below wr.heap.size wr W) => (X2.below hb).cell 2
          have m3 := fun W (hb : Below wr.heap.size wr W) => (X2.below hb).cell 3
          have m4 := fun W (hb : Below wr.heap.size wr W) => (X2.below hb).cell 4
          have m5 := fun W (hb : Below wr.heap.size wr W) => (X2.below hb).cell 5
          simp only [List.getElem?_toArray, List.getElem?_cons_zero, List.getElem?_cons_succ] at m0 m1 m2 m3 m4 m5
          refine flow_begin (tellOf [(3, det (mmAt (low + (k : Int))).val), (4, det (.bool (r.fit (low + (k : Int)))))]) (by kernel_rfl) (by kernel_rfl) ?_
          repeat (first | (refine flow_val (v := ?_) (by rfl) (by rfl) (fun w hb => ?_) ?_; rotate_left; (· ((go_simp) <;> ((repeat' apply And.intro) <;> with_reducible rfl))); try simp only [Act.put, List.setIfInBounds_toArray, List.set_cons_zero, List.set_cons_succ, Nat.reduceAdd]) | (refine flow_skip (by rfl) (by rfl) ?_; try simp only [Act.put, List.setIfInBounds_toArray, List.set_cons_zero, List.set_cons_succ, Nat.reduceAdd]))
          refine flow_call (f := ?_) (args := ?_) [] (by kernel_rfl) (by rfl) (by rfl) (fun w hb => ?_) (fun w hb hu => ?_) ?_; rotate_left 2; (· ((go_simp) <;> ((repeat' apply And.intro) <;> with_reducible rfl)))
          · exact HA.out w
          try simp only [Act.put, List.setIfInBounds_toArray, List.set_cons_zero, List.set_cons_succ, Nat.reduceAdd]
          refine flow_call (f := ?_) (args := ?_) [] (by kernel_rfl) (by rfl) (by rfl) (fun w hb => ?_) (fun w hb hu => ?_) ?_; rotate_left 2; (· ((go_simp) <;> ((repeat' apply And.intro) <;> with_reducible rfl)))
          · exact HF.out w hb
          try simp only [Act.put, List.setIfInBounds_toArray, List.set_cons_zero, List.set_cons_succ, Nat.reduceAdd]
          repeat (first | (refine flow_val (v := ?_) (by rfl) (by rfl) (fun w hb => ?_) ?_; rotate_left; (· ((go_simp) <;> ((repeat' apply And.intro) <;> with_reducible rfl))); try simp only [Act.put, List.setIfInBounds_toArray, List.set_cons_zero, List.set_cons_succ, Nat.reduceAdd]) | (refine flow_skip (by rfl) (by rfl) ?_; try simp only [Act.put, List.setIfInBounds_toArray, List.set_cons_zero, List.set_cons_succ, Nat.reduceAdd]))
          refine flow_nil fun w2 hb2 _ => ?_
          clear m0 m1 m2 m3 m4 m5 c0 HA HF
          replace X1 := X1.below hb2
          replace X2 := X2.below hb2
          have x3 : w2.cell? ⟨w.heap.size, 3, none⟩ = some (.int .i64 r.co) := X1.cell 3
          replace hown := own_next hown hb2
          replace hbr := below_then hbr hb2
          have hzr := hbr.size
          clear hb2
          generalize r.fit (low + (k : Int)) = F at *
          cases F with
          | false =>
            rw [if_neg (by simp)] at HACC
            go_wp2_with fail
            go_roundw
            case rel => exact ⟨k + 1, C, acc, by omega, by omega, by omega, by rw [HDK.out], rfl, hown, HACC, by omega, hbr⟩
            case measure => (simp [intOf]) <;> omega
          | true =>
            rw [if_pos rfl] at HACC
            by_cases hbk : 0 < r.co ∧ r.co < C + 1
            · rw [if_pos hbk] at HACC
              obtain ⟨q1, q2⟩ := hbk
              have t2 : decide (0 < r.co) = true := decide_eq_true q1
              have t3 : decide (r.co < C + 1) = true := decide_eq_true q2
              have HQ : Hid (acc = L) := by have := HACC.out; unfold Hid; simpa using this
              obtain rfl := HQ.out
              clear HACC HQ
              go_wp2_with fail
              go_ret
              exact ⟨u8, rfl, own_lower hown (by have := HB.out.size; omega), below_then HB.out hbr⟩
            · rw [if_neg hbk] at HACC
              have HBK := Lib.hid hbk
              clear hbk
              by_cases q1 : 0 < r.co
              · have t2 : decide (0 < r.co) = true := decide_eq_true q1
                have t3 : decide (r.co < C + 1) = false := decide_eq_false (fun h => HBK.out ⟨q1, h⟩)
                by_cases q3 : a ≤ low + (k : Int)
                · rw [if_pos q3] at HACC
                  have t4 : decide (a ≤ low + (k : Int)) = true := decide_eq_true q3
                  go_wp2_with (at_builtin; refine wpList_append_own _ rfl (.tmp 52) (.tmp 54) 22 rfl W1.heap.size 3 i0 (.int .i64 0) 1 8 Try.underlying22 hi0 hz0 hz1 hz2 rfl (by decide) u8 acc.length _ rfl (hown.alloc _) ⟨w2.heap.size, 0, none⟩ 1 1 [.int .i64 (low + (k : Int))] rfl rfl (cell_one_new _ _ _) (one_int _) ?c3x5 ?c4x5 ?c5x5 ?_)
                  try (case c3x5 => first | omega | (simp only [maxLen]; omega) | (simp; omega))
                  try (case c4x5 => first | omega | (simp only [maxLen]; omega) | (simp; omega))
                  try (case c5x5 => first | omega | (simp only [maxLen]; omega) | (simp; omega))
                  intro v' w3 hown' hgrow _
                  have hb3 : Below W1.heap.size W1 w3 := (hbr.alloc hzr _).grown hgrow (by simp; omega) (own_base hown)
                  rw [← ints_snoc] at hown'
                  clear hown hgrow hbr
                  go_wp2_with fail
                  go_roundw
                  case rel => exact ⟨k + 1, C + 1, acc ++ [low + (k : Int)], by omega, by omega, by omega, by rw [HDK.out], rfl, by rw [List.length_append]; exact hown', (by have := HACC.out; rw [List.append_assoc]; exact this), by rw [List.length_append]; simp; omega, hb3⟩
                  case measure => (simp [intOf]) <;> omega
                · rw [if_neg q3, List.nil_append] at HACC
                  have t4 : decide (a ≤ low + (k : Int)) = false := decide_eq_false q3
                  go_wp2_with fail
                  all_goals go_roundw
                  all_goals first | exact ⟨k + 1, C + 1, acc, by omega, by omega, by omega, by rw [HDK.out], rfl, hown, HACC, by omega, hbr⟩ | ((simp [intOf]) <;> omega)
              · have t2 : decide (0 < r.co) = false := decide_eq_false q1
                by_cases q3 : a ≤ low + (k : Int)
                · rw [if_pos q3] at HACC
                  have t4 : decide (a ≤ low + (k : Int)) = true := decide_eq_true q3
                  go_wp2_with (at_builtin; refine wpList_append_own _ rfl (.tmp 52) (.tmp 54) 22 rfl W1.heap.size 3 i0 (.int .i64 0) 1 8 Try.underlying22 hi0 hz0 hz1 hz2 rfl (by decide) u8 acc.length _ rfl (hown.alloc _) ⟨w2.heap.size, 0, none⟩ 1 1 [.int .i64 (low + (k : Int))] rfl rfl (cell_one_new _ _ _) (one_int _) ?c3x6 ?c4x6 ?c5x6 ?_)
                  try (case c3x6 => first | omega | (simp only [maxLen]; omega) | (simp; omega))
                  try (case c4x6 => first | omega | (simp only [maxLen]; omega) | (simp; omega))
                  try (case c5x6 => first | omega | (simp only [maxLen]; omega) | (simp; omega))
                  intro v' w3 hown' hgrow _
                  have hb3 : Below W1.heap.size W1 w3 := (hbr.alloc hzr _).grown hgrow (by simp; omega) (own_base hown)
                  rw [← ints_snoc] at hown'
                  clear hown hgrow hbr
                  go_wp2_with fail
                  go_roundw
                  case rel => exact ⟨k + 1, C + 1, acc ++ [low + (k : Int)], by omega, by omega, by omega, by rw [HDK.out], rfl, by rw [List.length_append]; exact hown', (by have := HACC.out; rw [List.append_assoc]; exact this), by rw [List.length_append]; simp; omega, hb3⟩
                  case measure => (simp [intOf]) <;> omega
                · rw [if_neg q3, List.nil_append] at HACC
                  have t4 : decide (a ≤ low + (k : Int)) = false := decide_eq_false q3
                  go_wp2_with fail
                  all_goals go_roundw
                  all_goals first | exact ⟨k + 1, C + 1, acc, by omega, by omega, by omega, by rw [HDK.out], rfl, hown, HACC, by omega, hbr⟩ | ((simp [intOf]) <;> omega)
        · have t1 : decide (low + (k : Int) ≤ M) = false := decide_eq_false (by have := HN.out; omega)
          have HQ : Hid (acc = L) := by
            have := hacc.out
            rw [show n - k = 0 from by omega] at this
            unfold Hid
            simpa [daysL] using this
          obtain rfl := HQ.out
          clear hacc HQ hM2
          go_wp2_with fail
          go_ret
          exact ⟨u8, rfl, own_lower hown (by have := HB.out.size; omega), below_then HB.out hbr⟩
end Go.Proofs.Ytfindembancjdaa
