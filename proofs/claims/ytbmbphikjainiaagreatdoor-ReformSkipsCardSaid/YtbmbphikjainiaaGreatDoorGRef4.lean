/- Ref4 -/
import Derived.Test.YtbmbphikjainiaaGreatDoorGRefPlain
/- Contract of reform.Jump (at the second of two parts). -/
namespace Go.Proofs.YtbmbphikjainiaaGreatDoor
open Go Go.RowKit
set_option linter.unusedVariables false

/-- a call that gives two numbers of which something is known -/
def pairT (p : Int → Int → Prop) : Told := ⟨fun u => ∃ v E : Int, u = .tuple #[.int .i64 v, .int .i64 E] ∧ p v E, fun _ _ => True⟩
section
variable {P : Program} {ops : Array Oper} {w0 : World} {R : Nat → Option Told} {E : Act → World → Prop} {o : Oper} {rest : List Oper} {k : Nat} {a : Act} {L : List Fact}
theorem flow_pair {p : Int → Int → Prop} {f : FuncId} {args : Array Value} (use : List Nat) (hs : ∃ v E, p v E) (hu : pastB ops k use = true) (hR : R k = some (pairT p)) (hw : Region.wanted o (yielded ops a.tmps) = true)
    (h : ∀ w, Below w0.heap.size w0 w → (execOp a.eval o).run P w = .ok (.enter f args) w)
    (hc : ∀ w, Below w0.heap.size w0 w → usef use L w → Calls P f args w fun e' w' => ∃ v E, e' = .returned (.tuple #[.int .i64 v, .int .i64 E]) ∧ p v E ∧ Below w.heap.size w w')
    (hr : ∀ v E', p v E' → FlowB P ops w0 R E rest (k + 1) (a.put o.dst (.tuple #[.int .i64 v, .int .i64 E'])) ((k, fun _ => True) :: L)) : FlowB P ops w0 R E (o :: rest) k a L := by
  obtain ⟨v0, E0, hp0⟩ := hs
  refine flow_told (t := pairT p) use hu hR hw ⟨_, v0, E0, rfl, hp0⟩ (fun _ _ _ _ _ => trivial) h (fun w hb hl => (hc w hb hl).mono fun e' w' ⟨v, E, he, hp, hb'⟩ => ⟨_, he, ⟨v, E, rfl, hp⟩, trivial, hb'⟩) fun v hv => ?_
  obtain ⟨v, E', rfl, hp⟩ := hv
  exact hr v E' hp
end
/-- what Day says of the date a1, a2, a3 in the calendar of part k -/
def DayP (ps : List Pt) (k : Nat) (a1 a2 a3 : Int) (v E : Int) : Prop :=
  (E = 0 → (-4000000 ≤ v ∧ v ≤ 4000000) ∧ ∃ m : Nat, a2 = (m : Int) + 1 ∧ -10000 ≤ a1 ∧ a1 ≤ 10000 ∧ OnPart ps k a1 m (a3 - 1) v) ∧
  (∀ (m : Nat) (n : Int), a2 = (m : Int) + 1 → -10000 ≤ a1 → a1 ≤ 10000 → OnPart ps k a1 m (a3 - 1) n → -4000000 ≤ n → n ≤ 4000000 → E = 0 ∧ v = n)
theorem DayP.ex (ps : List Pt) (k : Nat) (a1 a2 a3 : Int) : ∃ v E, DayP ps k a1 a2 a3 v E := by
  by_cases h : ∃ (m : Nat) (n : Int), a2 = (m : Int) + 1 ∧ -10000 ≤ a1 ∧ a1 ≤ 10000 ∧ OnPart ps k a1 m (a3 - 1) n ∧ -4000000 ≤ n ∧ n ≤ 4000000
  · obtain ⟨m, n, h1, h2, h3, h4, h5, h6⟩ := h
    refine ⟨n, 0, fun _ => ⟨⟨h5, h6⟩, m, h1, h2, h3, h4⟩, fun m' n' e1 _ _ ho _ _ => ⟨rfl, ?_⟩⟩
    obtain rfl : m = m' := by omega
    exact h4.day ho
  · exact ⟨0, 1, fun e => absurd e (by decide), fun m n e1 e2 e3 ho e4 e5 => absurd ⟨m, n, e1, e2, e3, ho, e4, e5⟩ h⟩
theorem day_part (ps : List Pt) (k : Nat) (row : CatRow) (hrow : row ∈ catR) (hc : (ps.getD k pt0).cal = str row.nm) (a1 a2 a3 : Int) (w : World) (hE : Env w) :
    Calls Tryz.prog 33 #[.string (str row.nm), .agg (dateC a1 a2 a3)] w fun e w' => ∃ v E, e = .returned (.tuple #[.int .i64 v, .int .i64 E]) ∧ DayP ps k a1 a2 a3 v E ∧ Below w.heap.size w w' := by
  refine (Day_any row hrow a1 a2 a3 w hE).mono ?_
  rintro e w' ⟨c, hof, ok, hb, hc'⟩
  have tr : ∀ (m : Nat) n, OnPart ps k a1 m (a3 - 1) n → IsOn c a1 m (a3 - 1) n := fun m n ho => by
    obtain ⟨row', hr', e', _, ho'⟩ := ho
    obtain rfl := row_one row row' hrow hr' (str_inj (by rw [← hc, e']))
    exact (hof.on (calR_of row) _ _ _ _).2 ho'
  rcases hc' with ⟨m0, n0, hm0, q1, q2, ho, rfl⟩ | ⟨hno, he⟩
  · have hop : OnPart ps k a1 m0 (a3 - 1) n0 := ⟨row, hrow, hc, calR_valid hrow, (hof.on (calR_of row) _ _ _ _).1 ho⟩
    by_cases hI : -4000000 ≤ n0 ∧ n0 ≤ 4000000
    · rw [show dayR n0 = .tuple #[.int .i64 n0, .int .i64 0] from if_pos hI]
      refine ⟨n0, 0, rfl, ⟨fun _ => ⟨hI, m0, hm0, q1, q2, hop⟩, fun m n e1 _ _ ho' _ _ => ⟨rfl, ?_⟩⟩, hb⟩
      obtain rfl : m0 = m := by omega
      exact hop.day ho'
    · rw [show dayR n0 = .tuple #[.int .i64 0, .int .i64 3] from if_neg hI]
      refine ⟨0, 3, rfl, ⟨fun h => absurd h (by decide), fun m n e1 _ _ ho' h1 h2 => ?_⟩, hb⟩
      obtain rfl : m0 = m := by omega
      have := hop.day ho'
      subst this
      exact absurd ⟨h1, h2⟩ hI
  · have key : ∀ (m : Nat) (n : Int), a2 = (m : Int) + 1 → -10000 ≤ a1 → a1 ≤ 10000 → OnPart ps k a1 m (a3 - 1) n → False := fun m n e1 q1 q2 ho' => hno m n e1 q1 q2 (tr m n ho')
    rcases he with rfl | rfl
    · exact ⟨0, 3, rfl, ⟨fun h => absurd h (by decide), fun m n e1 q1 q2 ho' _ _ => absurd (key m n e1 q1 q2 ho') id⟩, hb⟩
    · exact ⟨0, 1, rfl, ⟨fun h => absurd h (by decide), fun m n e1 q1 q2 ho' _ _ => absurd (key m n e1 q1 q2 ho') id⟩, hb⟩

/-- what Jump says at the second part -/
def JumpQ (r : Rf) (w : World) (e : Ending) (w' : World) : Prop := Below w.heap.size w w' ∧ ∃ v E : Int, e = .returned (.tuple #[.int .i64 v, .int .i64 E]) ∧ (E = 0 ∨ E = 3 ∨ E = 6) ∧ (E = 0 → -8000000 ≤ v ∧ v ≤ 8000000) ∧
  (∀ (y : Int) (m : Nat) (d n : Int), -10000 ≤ y → y ≤ 10000 → OnPart r.ps 1 y m d (r.ps.getD 1 pt0).fr → OnPart r.ps 0 y m d n → -4000000 ≤ n → n ≤ 4000000 → E = 0 ∧ v = n - (r.ps.getD 1 pt0).fr)

set_option maxHeartbeats 4000000 in
set_option maxRecDepth 100000 in
theorem jump_any (r : Rf) (w : World) (hr : RfIn w r) (hf : RfFit r) (hv : Env w) (hok : RfOk r) (hn : r.ps.length = 2) : Calls Tryz.prog 36 #[r.val, .int .i64 1] w (JumpQ r w) := by
  suffices hs : ∀ j p : Nat, j = 1 → p = 0 → Calls Tryz.prog 36 #[r.val, .int .i64 (j : Int)] w (JumpQ r w) from hs 1 0 rfl rfl
  intro j p hjj hpp
  have HX := Lib.hid (Box.new w 68 r.cells)
  have HB := Lib.hid (below_alloc1 w (Obj.cells r.cells 68))
  have HR := Lib.hid (hr.next HB.out)
  have HE := Lib.hid (hv.next HB.out)
  have HC := Lib.hid ((rcheck_any r _ HR.out hf HE.out.h).mono (R' := fun e w' => e = .returned (.int .i64 0) ∧ Below (w.alloc (Obj.cells r.cells 68)).heap.size (w.alloc (Obj.cells r.cells 68)) w') fun e w' ⟨E, he, hE, hb⟩ => ⟨by rw [he, hE.2 hok], hb⟩)
  obtain ⟨f, hfe⟩ : ∃ f, f = (r.ps.getD 1 pt0).fr := ⟨_, rfl⟩
  have hfi := (hok.each 1 (by omega)).is
  rw [← hfe] at hfi
  obtain ⟨row0, hrow0, hce0⟩ := name_row (hok.each 0 (by omega)).nm
  obtain ⟨row1, hrow1, hce1⟩ := name_row (hok.each 1 (by omega)).nm
  have HDt := Lib.hid (fun W (h : Env W) => Date_any row1 hrow1 f W h)
  have HDy := Lib.hid (fun a1 a2 a3 W (h : Env W) => day_part r.ps 0 row0 hrow0 hce0 a1 a2 a3 W h)
  have HTr : Hid (∀ (c : Cal) (y : Int) (m : Nat) (d : Int), CalOf row1 c → (OnPart r.ps 1 y m d f ↔ IsOn c y m d f)) := fun c y m d hof => ⟨fun ho => by
    obtain ⟨row', hr', e', _, ho'⟩ := ho
    obtain rfl := row_one row1 row' hrow1 hr' (str_inj (by rw [← hce1, e']))
    exact (hof.on (calR_of row1) _ _ _ _).2 ho', fun ho => ⟨row1, hrow1, hce1, calR_valid hrow1, (hof.on (calR_of row1) _ _ _ _).1 ho⟩⟩
  unfold JumpQ
  rw [← hfe]
  obtain ⟨b, o, hA, hbl, hcs⟩ := Row.open_ HR.out (flat_ne ptF_len (by omega) r.ps (by omega))
  have q2 : (w.alloc (Obj.cells r.cells 68)).cell? ⟨b, o + j * 2, none⟩ = some (.int .i64 f) := by
    rw [hjj]
    have h := flat_cell ptF_len pt0 hcs 1 0 (by omega) (by omega) _ rfl
    rw [← hfe] at h
    simpa using h
  have q3 : (w.alloc (Obj.cells r.cells 68)).cell? ⟨b, o + j * 2 + 1, none⟩ = some (.string (str row1.nm)) := by
    rw [hjj]
    have h := flat_cell ptF_len pt0 hcs 1 1 (by omega) (by omega) _ rfl
    rw [hce1] at h
    simpa using h
  have q1 : (w.alloc (Obj.cells r.cells 68)).cell? ⟨b, o + p * 2 + 1, none⟩ = some (.string (str row0.nm)) := by
    rw [hpp]
    have h := flat_cell ptF_len pt0 hcs 0 1 (by omega) (by omega) _ rfl
    rw [hce0] at h
    simpa using h
  have hn1 : r.cells = #[.string r.nm, .slice (some ⟨b, o, none⟩) 2 r.c] := by unfold Rf.cells; rw [hA, hn]
  have HQ := Lib.hid (show (w.alloc (Obj.cells r.cells 68)).cell? ⟨b, o + j * 2, none⟩ = some (.int .i64 f) ∧ (w.alloc (Obj.cells r.cells 68)).cell? ⟨b, o + j * 2 + 1, none⟩ = some (.string (str row1.nm)) ∧ (w.alloc (Obj.cells r.cells 68)).cell? ⟨b, o + p * 2 + 1, none⟩ = some (.string (str row0.nm)) from ⟨q2, q3, q1⟩)
  have HHA := Lib.hid hn1
  have HJP := Lib.hid (show j = 1 ∧ p = 0 from ⟨hjj, hpp⟩)
  have s1 : decide ((j : Int) < 1) = false := decide_eq_false (by omega)
  have s2 : decide ((2 : Int) ≤ (j : Int)) = false := decide_eq_false (by omega)
  have s3 : (j : Int) < 2 := by omega
  have s4 : ¬ j = 0 := by omega
  have s5 : decide (2 ≤ j) = false := decide_eq_false (by omega)
  clear hjj hpp
  clear hr hv hok hf hcs q1 q2 q3 hn1 hfe hce0 hce1 hrow0 hrow1 hn hA
  unfold DateQ at HDt
  generalize str row0.nm = n0 at *
  generalize str row1.nm = n1 at *
  go_enter Tryz.func36, Tryz.ntmps36
  go_wp2_with fail
  generalize w.alloc (Obj.cells r.cells 68) = W0 at *
  generalize hg : w.heap.size = g at *
  have HG := Lib.hid hg
  clear hg
  refine HC.out.mono ?_
  rintro e w1 ⟨rfl, hb1⟩
  have HB1 := Lib.hid (show Below g w w1 from HB.out.trans (hb1.mono (by have := HX.out.lt; omega)))
  have HX1 := Lib.hid (HX.out.below hb1)
  have HE1 := Lib.hid (HE.out.next hb1)
  have HQ1 := Lib.hid (show w1.cell? ⟨b, o + j * 2, none⟩ = some (.int .i64 f) ∧ w1.cell? ⟨b, o + j * 2 + 1, none⟩ = some (.string n1) ∧ w1.cell? ⟨b, o + p * 2 + 1, none⟩ = some (.string n0) from ⟨(hb1.cell (p := ⟨b, o + j * 2, none⟩) hbl).trans HQ.out.1, (hb1.cell (p := ⟨b, o + j * 2 + 1, none⟩) hbl).trans HQ.out.2.1, (hb1.cell (p := ⟨b, o + p * 2 + 1, none⟩) hbl).trans HQ.out.2.2⟩)
  have hbl1 : b < w1.heap.size := Nat.lt_of_lt_of_le hbl hb1.size
  clear hb1 HX HB HR HE HC HQ hbl
  have HXc : Hid (Box w1 g 68 #[.string r.nm, .slice (some ⟨b, o, none⟩) 2 r.c]) := by unfold Hid; rw [← HHA.out]; exact HX1.out
  clear HX1
  have x1 : w1.cell? ⟨g, 1, none⟩ = some (.slice (some ⟨b, o, none⟩) 2 r.c) := HXc.out.cell 1
  obtain ⟨c2, c3, c1⟩ := HQ1.out
  go_wp2_with fail
  refine (HDt.out w1 HE1.out).mono ?_
  rintro e w2 ⟨c, hof, ok, hb2, hc⟩
  have HB2 := Lib.hid (show Below g w w2 from HB1.out.trans (hb2.mono (by have := HXc.out.lt; omega)))
  have HX2 := Lib.hid (HXc.out.below hb2)
  have HE2 := Lib.hid (HE1.out.next hb2)
  have c1' : w2.cell? ⟨b, o + p * 2 + 1, none⟩ = some (.string n0) := (hb2.cell (p := ⟨b, o + p * 2 + 1, none⟩) hbl1).trans c1
  have hbl2 : b < w2.heap.size := Nat.lt_of_lt_of_le hbl1 hb2.size
  clear hb2 HDt x1 c1 c2 c3 HQ1 HXc HB1 HE1 hbl1
  have hgl2 : g ≤ w2.heap.size := by have := HX2.out.lt; omega
  rcases hc with ⟨y, m, d, g1, g2, g3, rfl⟩ | ⟨g1, rfl⟩
  case inr =>
    have HNo : Hid (∀ (y : Int) (m : Nat) (d n : Int), -10000 ≤ y → y ≤ 10000 → OnPart r.ps 1 y m d f → OnPart r.ps 0 y m d n → -4000000 ≤ n → n ≤ 4000000 → (3 : Int) = 0 ∧ (0 : Int) = n - f) := fun y m d n h1 h2 ho _ _ _ => by
      have hoc := (HTr.out c y m d hof).1 ho
      have q := hoc.year ok
      have s1 := Cal.ny_le ok h1
      have s2 := Cal.ny_le ok (show y + 1 ≤ (10001 : Int) by omega)
      exact absurd ⟨hfi.1, hfi.2, by omega, by omega⟩ g1
    clear g1 hof ok c1'
    go_wp2_with fail
    have HB3 := Lib.hid (HB2.out.alloc hgl2 (Obj.cells (dateC 0 0 0) 41))
    go_ret2
    exact ⟨by rw [HG.out]; exact HB3.out, 0, 3, rfl, .inr (.inl rfl), fun h => absurd h (by decide), HNo.out⟩
  have HOn := Lib.hid (show OnPart r.ps 1 y m d f ∧ -10000 ≤ y ∧ y ≤ 10000 from ⟨(HTr.out c y m d hof).2 g3, g1, g2⟩)
  clear g1 g2 g3 hof ok HTr
  go_upto_region 10 with fail
  have hba := below_alloc1 w2 (Obj.cells (dateC y ((m : Int) + 1) (d + 1)) 41)
  have HX3 := Lib.hid (HX2.out.below hba)
  have HB3 := Lib.hid (HB2.out.alloc hgl2 (Obj.cells (dateC y ((m : Int) + 1) (d + 1)) 41))
  have HE3 := Lib.hid (HE2.out.next hba)
  have HD3 := Lib.hid (Box.new w2 41 (dateC y ((m : Int) + 1) (d + 1)))
  have c1 := (hba.cell (p := ⟨b, o + p * 2 + 1, none⟩) hbl2).trans c1'
  have hbl3 : b < (w2.alloc (Obj.cells (dateC y ((m : Int) + 1) (d + 1)) 41)).heap.size := Nat.lt_of_lt_of_le hbl2 hba.size
  clear hba HX2 HB2 HE2 c1' hbl2 hgl2
  generalize w2.alloc (Obj.cells (dateC y ((m : Int) + 1) (d + 1)) 41) = w3 at *
  generalize w2.heap.size = gd at *
  have x1 : ∀ W, Below w3.heap.size w3 W → W.cell? ⟨g, 1, none⟩ = some (.slice (some ⟨b, o, none⟩) 2 r.c) := fun W hb => (HX3.out.below hb).cell 1
  have k1 : ∀ W, Below w3.heap.size w3 W → W.cell? ⟨b, o + p * 2 + 1, none⟩ = some (.string n0) := fun W hb => (hb.cell (p := ⟨b, o + p * 2 + 1, none⟩) hbl3).trans c1
  have y0 : ∀ W, Below w3.heap.size w3 W → W.cell? ⟨gd, 0, none⟩ = some (.int .i64 y) := fun W hb => (HD3.out.below hb).cell 0
  have y1 : ∀ W, Below w3.heap.size w3 W → W.cell? ⟨gd, 1, none⟩ = some (.int .i64 ((m : Int) + 1)) := fun W hb => (HD3.out.below hb).cell 1
  have y2 : ∀ W, Below w3.heap.size w3 W → W.cell? ⟨gd, 2, none⟩ = some (.int .i64 (d + 1)) := fun W hb => (HD3.out.below hb).cell 2
  clear c1
  have e1 : IntKind.i64.wrap ((j : Int) - 1) = (p : Int) := by rw [HJP.out.1, HJP.out.2]; rfl
  have e2 : (p : Int) < 2 := by have := HJP.out.2; omega
  refine flow_begin (tellOf [(8, pairT (DayP r.ps 0 y ((m : Int) + 1) (d + 1)))]) (by kernel_rfl) (by kernel_rfl) ?_
  repeat (first | (refine flow_val (v := ?_) (by rfl) (by rfl) (fun w hb => ?_) ?_; rotate_left; (· ((go_simp) <;> ((repeat' apply And.intro) <;> with_reducible rfl))); try simp only [Act.put, List.setIfInBounds_toArray, List.set_cons_zero, List.set_cons_succ, Nat.reduceAdd]) | (refine flow_skip (by rfl) (by rfl) ?_; try simp only [Act.put, List.setIfInBounds_toArray, List.set_cons_zero, List.set_cons_succ, Nat.reduceAdd]))
  refine flow_pair (f := ?_) (args := ?_) [] (DayP.ex _ _ _ _ _) (by kernel_rfl) (by rfl) (by rfl) (fun w hb => ?_) (fun w hb hu => ?_) (fun v E hp => ?_); rotate_left 2; (· ((go_simp) <;> ((repeat' apply And.intro) <;> with_reducible rfl)))
  · exact HDy.out _ _ _ w (HE3.out.next hb)
  try simp only [Act.put, List.setIfInBounds_toArray, List.set_cons_zero, List.set_cons_succ, Nat.reduceAdd]
  repeat (first | (refine flow_val (v := ?_) (by rfl) (by rfl) (fun w hb => ?_) ?_; rotate_left; (· ((go_simp) <;> ((repeat' apply And.intro) <;> with_reducible rfl))); try simp only [Act.put, List.setIfInBounds_toArray, List.set_cons_zero, List.set_cons_succ, Nat.reduceAdd]) | (refine flow_skip (by rfl) (by rfl) ?_; try simp only [Act.put, List.setIfInBounds_toArray, List.set_cons_zero, List.set_cons_succ, Nat.reduceAdd]))
  refine flow_nil fun w4 hb4 _ => ?_
  have HB4 := Lib.hid (show Below g w w4 from HB3.out.trans (hb4.mono (by have := HX3.out.lt; omega)))
  have HP := Lib.hid hp
  clear hb4 hp x1 k1 y0 y1 y2 HX3 HB3 HE3 HD3 HDy
  have HUn : Hid (∀ (y' : Int) (m' : Nat) (d' : Int), OnPart r.ps 1 y' m' d' f → y' = y ∧ m' = m ∧ d' = d) := fun y' m' d' h => h.unique HOn.out.1
  by_cases hE : E = 0
  case neg =>
    have t1 : (E != 0) = true := by rw [bne_iff_ne]; exact hE
    have HNo : Hid (∀ (y' : Int) (m' : Nat) (d' n : Int), -10000 ≤ y' → y' ≤ 10000 → OnPart r.ps 1 y' m' d' f → OnPart r.ps 0 y' m' d' n → -4000000 ≤ n → n ≤ 4000000 → (6 : Int) = 0 ∧ (0 : Int) = n - f) := fun y' m' d' n h1 h2 ho ho0 h3 h4 => by
      obtain ⟨rfl, rfl, rfl⟩ := HUn.out y' m' d' ho
      exact absurd (HP.out.2 m' n rfl h1 h2 (by rw [show d' + 1 - 1 = d' from by omega]; exact ho0) h3 h4).1 hE
    clear hE HP
    go_wp2_with fail
    go_ret2
    exact ⟨by rw [HG.out]; exact HB4.out, 0, 6, rfl, .inr (.inr rfl), fun h => absurd h (by decide), HNo.out⟩
  subst hE
  have hvv := (HP.out.1 rfl).1
  have HYes : Hid (∀ (y' : Int) (m' : Nat) (d' n : Int), -10000 ≤ y' → y' ≤ 10000 → OnPart r.ps 1 y' m' d' f → OnPart r.ps 0 y' m' d' n → -4000000 ≤ n → n ≤ 4000000 → (0 : Int) = 0 ∧ v - f = n - f) := fun y' m' d' n h1 h2 ho ho0 h3 h4 => by
    obtain ⟨rfl, rfl, rfl⟩ := HUn.out y' m' d' ho
    have := (HP.out.2 m' n rfl h1 h2 (by rw [show d' + 1 - 1 = d' from by omega]; exact ho0) h3 h4).2
    exact ⟨rfl, by rw [this]⟩
  clear HP
  go_wp2_with fail
  go_ret2
  exact ⟨by rw [HG.out]; exact HB4.out, v - f, 0, rfl, .inl rfl, fun _ => ⟨by omega, by omega⟩, fun y' m' d' n h1 h2 ho ho0 h3 h4 => ⟨rfl, (HYes.out y' m' d' n h1 h2 ho ho0 h3 h4).2⟩⟩
end Go.Proofs.YtbmbphikjainiaaGreatDoor
