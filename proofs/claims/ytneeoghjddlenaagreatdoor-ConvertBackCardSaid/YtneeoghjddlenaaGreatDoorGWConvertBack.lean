/- WConvertBack -/
import Derived.Test.YtneeoghjddlenaaGreatDoorGConv0
import Derived.Test.YtneeoghjddlenaaGreatDoorGCat1
import Derived.Test.YtneeoghjddlenaaGreatDoorGDateEq
import Derived.Test.YtneeoghjddlenaaGreatDoorGLine1
import Derived.Test.YtneeoghjddlenaaGreatDoorGBack1
/- The walk of ConvertBack: it returns true at every input; it writes nothing that was there. -/
namespace Go.Proofs.YtneeoghjddlenaaGreatDoor.convertBack
open Go Go.RowKit
set_option linter.unusedVariables false

theorem fd_in' {c : Cal} (ok : CalOk c) {day : Int} {y : Int} {m : Nat} {d : Int} (h1 : -10000 ≤ y) (h2 : y ≤ 10000) (h : IsOn c y m d day) : c.ny (-10000) ≤ day ∧ day < c.ny 10001 := by
  have q := h.year ok
  have q1 := Cal.ny_le ok h1
  have q2 := Cal.ny_le ok (show y + 1 ≤ 10001 by omega)
  omega
theorem one_date (gr : Nat) (w : World) (hE : Env w) (hx : RegIn w gr) : Calls Tryz.prog 7 #[.pointer (some ⟨gr, 0, none⟩), .string ⟨#[99, 111, 112, 116, 105, 99]⟩, .int .i64 103605] w fun e w' => e = .returned (.tuple #[.agg #[.int .i64 1, .int .i64 1, .int .i64 1], .int .i64 0]) ∧ Below w.heap.size w w' := by
  have h := rdate_any cr4 cr4_in gr 103605 w hE hx
  rw [cr4_nm] at h
  refine Calls.mono h ?_
  rintro e w' ⟨c, hof, ok, hb, hc⟩
  have hon := IsOn.first ok (mlen_pos cr4_in hof 1)
  have hep : c.ep = 103605 := by rw [hof.ep]; rfl
  rw [hep] at hon
  rcases hc with ⟨y, m, d, _, _, h3, rfl⟩ | ⟨hno, _⟩
  · obtain ⟨rfl, rfl, rfl⟩ := h3.unique ok hon
    exact ⟨rfl, hb⟩
  · have := fd_in' ok (by omega) (by omega) hon
    exact absurd ⟨by omega, by omega, this.1, this.2⟩ hno

set_option maxRecDepth 100000 in
set_option maxHeartbeats 8000000 in
theorem core (a b day0 : Int) (w : World) (ha1 : -9223372036854775808 ≤ a) (ha2 : a ≤ 9223372036854775807) (hb1 : -9223372036854775808 ≤ b) (hb2 : b ≤ 9223372036854775807) (hv : Env w) :
    Calls Tryz.prog 3 #[.int .i64 a, .int .i64 b, .int .i64 day0] w fun e w' => e = .returned (.bool true) ∧ Below w.heap.size w w' := by
  have HNa := Lib.hid (fun W (h : Env W) => name_any a W ha1 ha2 h.h)
  have HNb := Lib.hid (fun W (h : Env W) => name_any b W hb1 hb2 h.h)
  have HNew := Lib.hid (fun W => new_any W)
  have HOne := Lib.hid (fun gr W (h : Env W) hx => one_date gr W h hx)
  have HV := Lib.hid hv
  have HCut := Lib.hid (fun W => cut_any day0 (-400000) 1500000 W (by omega) (by omega) (by omega) (by omega))
  have b1 := Int.emod_nonneg day0 (show (1500000 : Int) ≠ 0 by omega)
  have b2 := Int.emod_lt_of_pos day0 (show (0 : Int) < 1500000 by omega)
  obtain ⟨day, hday⟩ : ∃ day, day = -400000 + day0 % 1500000 := ⟨_, rfl⟩
  rw [← hday] at HCut
  have hd1 : -400000 ≤ day := by omega
  have hd2 : day < 1100000 := by omega
  have HDt := Lib.hid (fun gr W (h : Env W) hx => rdate_any (rowK a) (rowK_in a) gr day W h hx)
  have HT1 := Lib.hid (fun (c : Cal) (hof : CalOf (rowK a) c) gr (y : Int) (m : Nat) (d : Int) W (h : Env W) hx hy1 hy2 ho => turn_any (rowK a) (rowK b) (rowK_in a) (rowK_in b) c hof gr y m d day W h hx hy1 hy2 ho (by omega) (by omega))
  have HT2 := Lib.hid (fun (c : Cal) (hof : CalOf (rowK b) c) gr (y : Int) (m : Nat) (d : Int) W (h : Env W) hx hy1 hy2 ho => turn_any (rowK b) (rowK a) (rowK_in b) (rowK_in a) c hof gr y m d day W h hx hy1 hy2 ho (by omega) (by omega))
  clear b1 b2 hday hv ha1 ha2 hb1 hb2
  unfold DateQ at HDt
  generalize rowK a = r at *
  generalize rowK b = q at *
  have hds := date_same
  have hdg := date_guard
  have td : dateB 1 1 1 1 1 1 = true := by decide
  obtain ⟨nr, hnr⟩ : ∃ nr, nr = str r.nm := ⟨_, rfl⟩
  obtain ⟨nq, hnq⟩ : ∃ nq, nq = str q.nm := ⟨_, rfl⟩
  rw [← hnr] at HNa HDt HT1 HT2
  rw [← hnq] at HNb HT1 HT2
  clear hnr hnq
  go_enter Tryz.func3, Tryz.ntmps3
  go_wp2_with fail
  refine Calls.mono (HNew.out w) ?_
  rintro e w1 ⟨rfl, hx1, hb1⟩
  have HB1 := Lib.hid hb1
  have HV1 := Lib.hid (HV.out.next hb1)
  have HX1 := Lib.hid hx1
  clear hb1 hx1
  go_wp2_with fail
  refine Calls.mono (HOne.out _ w1 HV1.out HX1.out) ?_
  rintro e w2 ⟨rfl, hb2⟩
  have HB2 := Lib.hid (below_then HB1.out hb2)
  clear hb2 HOne HX1 HV1 HB1
  go_upto_region 4 with fail
  have HB3 := Lib.hid (HB2.out.alloc HB2.out.size (Obj.cells #[.int .i64 1, .int .i64 1, .int .i64 1] 23))
  clear HB2 hds hdg td
  generalize w2.alloc (Obj.cells #[.int .i64 1, .int .i64 1, .int .i64 1] 23) = w3 at *
  generalize w2.heap.size = g0 at *
  go_upto_region 5 with (go_at_call 8; refine Calls.mono (HCut.out _) ?_; rintro e w' ⟨rfl, rfl⟩)
  go_wp2_with fail
  refine Calls.mono (HNew.out w3) ?_
  rintro e w4 ⟨rfl, hx4, hb4⟩
  have HB4 := Lib.hid (below_then HB3.out hb4)
  have HX4 := Lib.hid hx4
  clear hb4 hx4 HB3 HNew HCut
  generalize w3.heap.size = gr at *
  go_wp2_with fail
  refine Calls.mono (HNa.out w4 (HV.out.next HB4.out)) ?_
  rintro e w5 ⟨rfl, hb5⟩
  have HB5 := Lib.hid (below_then HB4.out hb5)
  have HX5 : Hid (RegIn w5 gr) := Box.below HX4.out hb5
  clear hb5 HB4 HX4
  go_wp2_with fail
  refine Calls.mono (HDt.out gr w5 (HV.out.next HB5.out) HX5.out) ?_
  rintro e w6 ⟨c, hof, ok, hb6, hc⟩
  have HB6 := Lib.hid (below_then HB5.out hb6)
  have HX6 : Hid (RegIn w6 gr) := Box.below HX5.out hb6
  have HOf := Lib.hid hof
  have HOk := Lib.hid ok
  clear hb6 HB5 HX5 HDt hof ok
  rcases hc with ⟨y, m, d, h1, h2, h3, rfl⟩ | ⟨h1, rfl⟩
  case inr =>
    clear h1
    go_wp2_with fail
    have HB7 := Lib.hid (HB6.out.alloc HB6.out.size (Obj.cells (dateC 0 0 0) 23))
    go_ret
    exact ⟨rfl, HB7.out⟩
  have HH := Lib.hid (show -10000 ≤ y ∧ y ≤ 10000 ∧ IsOn c y m d day from ⟨h1, h2, h3⟩)
  clear h1 h2 h3
  go_upto_region 9 with fail
  have hb7 := below_alloc1 w6 (Obj.cells #[.int .i64 y, .int .i64 ((m : Int) + 1), .int .i64 (d + 1)] 23)
  have HB7 := Lib.hid (below_then HB6.out hb7)
  have HX7 : Hid (RegIn (w6.alloc (Obj.cells #[.int .i64 y, .int .i64 ((m : Int) + 1), .int .i64 (d + 1)] 23)) gr) := Box.below HX6.out hb7
  have HD7 := Lib.hid (Box.new w6 23 #[.int .i64 y, .int .i64 ((m : Int) + 1), .int .i64 (d + 1)])
  clear HB6 HX6 hb7
  generalize w6.alloc (Obj.cells #[.int .i64 y, .int .i64 ((m : Int) + 1), .int .i64 (d + 1)] 23) = w7 at *
  generalize w6.heap.size = gd at *
  have x0 : ∀ W, Below w7.heap.size w7 W → W.cell? ⟨gd, 0, none⟩ = some (.int .i64 y) := fun W hb => (HD7.out.below hb).cell 0
  have x1 : ∀ W, Below w7.heap.size w7 W → W.cell? ⟨gd, 1, none⟩ = some (.int .i64 ((m : Int) + 1)) := fun W hb => (HD7.out.below hb).cell 1
  have x2 : ∀ W, Below w7.heap.size w7 W → W.cell? ⟨gd, 2, none⟩ = some (.int .i64 (d + 1)) := fun W hb => (HD7.out.below hb).cell 2
  refine flow_begin (tellOf [(2, det (.string nr)), (5, det (.string nq)), (6, turnT q day)]) (by kernel_rfl) (by kernel_rfl) ?_
  repeat (first | (refine flow_val (v := ?_) (by rfl) (by rfl) (fun w hb => ?_) ?_; rotate_left; (· ((go_simp) <;> ((repeat' apply And.intro) <;> with_reducible rfl))); try simp only [Act.put, List.setIfInBounds_toArray, List.set_cons_zero, List.set_cons_succ, Nat.reduceAdd]) | (refine flow_skip (by rfl) (by rfl) ?_; try simp only [Act.put, List.setIfInBounds_toArray, List.set_cons_zero, List.set_cons_succ, Nat.reduceAdd]))
  refine flow_call (f := ?_) (args := ?_) [] (by kernel_rfl) (by rfl) (by rfl) (fun w hb => ?_) (fun w hb hu => ?_) ?_; rotate_left 2; (· ((go_simp) <;> ((repeat' apply And.intro) <;> with_reducible rfl)))
  · exact HNa.out w (HV.out.next (below_then HB7.out hb))
  try simp only [Act.put, List.setIfInBounds_toArray, List.set_cons_zero, List.set_cons_succ, Nat.reduceAdd]
  repeat (first | (refine flow_val (v := ?_) (by rfl) (by rfl) (fun w hb => ?_) ?_; rotate_left; (· ((go_simp) <;> ((repeat' apply And.intro) <;> with_reducible rfl))); try simp only [Act.put, List.setIfInBounds_toArray, List.set_cons_zero, List.set_cons_succ, Nat.reduceAdd]) | (refine flow_skip (by rfl) (by rfl) ?_; try simp only [Act.put, List.setIfInBounds_toArray, List.set_cons_zero, List.set_cons_succ, Nat.reduceAdd]))
  refine flow_call (f := ?_) (args := ?_) [] (by kernel_rfl) (by rfl) (by rfl) (fun w hb => ?_) (fun w hb hu => ?_) ?_; rotate_left 2; (· ((go_simp) <;> ((repeat' apply And.intro) <;> with_reducible rfl)))
  · exact HNb.out w (HV.out.next (below_then HB7.out hb))
  try simp only [Act.put, List.setIfInBounds_toArray, List.set_cons_zero, List.set_cons_succ, Nat.reduceAdd]
  repeat (first | (refine flow_val (v := ?_) (by rfl) (by rfl) (fun w hb => ?_) ?_; rotate_left; (· ((go_simp) <;> ((repeat' apply And.intro) <;> with_reducible rfl))); try simp only [Act.put, List.setIfInBounds_toArray, List.set_cons_zero, List.set_cons_succ, Nat.reduceAdd]) | (refine flow_skip (by rfl) (by rfl) ?_; try simp only [Act.put, List.setIfInBounds_toArray, List.set_cons_zero, List.set_cons_succ, Nat.reduceAdd]))
  refine flow_told (t := turnT q day) (f := ?_) (args := ?_) [] (by kernel_rfl) (by rfl) (by rfl) ⟨_, none, 0, 0, rfl⟩ TurnT.next (fun w hb => ?_) (fun w hb hu => ?_) (fun v hp => ?_); rotate_left 2; (· ((go_simp) <;> ((repeat' apply And.intro) <;> with_reducible rfl)))
  · exact HT1.out c HOf.out gr y m d w (HV.out.next (below_then HB7.out hb)) (Box.below HX7.out hb) HH.out.1 HH.out.2.1 HH.out.2.2
  obtain ⟨A2, n2, c2, rfl⟩ := hp
  try simp only [Act.put, List.setIfInBounds_toArray, List.set_cons_zero, List.set_cons_succ, Nat.reduceAdd]
  repeat (first | (refine flow_val (v := ?_) (by rfl) (by rfl) (fun w hb => ?_) ?_; rotate_left; (· ((go_simp) <;> ((repeat' apply And.intro) <;> with_reducible rfl))); try simp only [Act.put, List.setIfInBounds_toArray, List.set_cons_zero, List.set_cons_succ, Nat.reduceAdd]) | (refine flow_skip (by rfl) (by rfl) ?_; try simp only [Act.put, List.setIfInBounds_toArray, List.set_cons_zero, List.set_cons_succ, Nat.reduceAdd]))
  refine flow_nil fun w8 hb8 hf => ?_
  have hft := hf.1 A2 n2 c2 rfl
  have HB8 := Lib.hid (below_then HB7.out hb8)
  have HX8 : Hid (RegIn w8 gr) := Box.below HX7.out hb8
  have HD8 := Lib.hid (HD7.out.below hb8)
  clear hf hb8 HB7 HX7 HD7 x0 x1 x2 HT1
  rcases hft with ⟨rfl, _⟩ | ⟨rfl, k2, g2, y2, m2, d2, rfl, hof2, ok2, q1, q2, q3, q4, q5, q6, q7⟩
  · go_wp2_with fail
    go_ret
    exact ⟨rfl, HB8.out⟩
  have HH2 := Lib.hid (show CalOf q k2 ∧ -10000 ≤ y2 ∧ y2 ≤ 10000 ∧ IsOn k2 y2 m2 d2 day from ⟨hof2, q1, q2, q3⟩)
  clear hof2 ok2 q1 q2 q3
  go_upto_region 12 with fail
  have z0 : ∀ W, Below w8.heap.size w8 W → W.cell? ⟨g2, 0, none⟩ = some (.int .i64 y2) := fun W hb => (hb.cell (p := ⟨g2, 0, none⟩) q4).trans q5
  have z1 : ∀ W, Below w8.heap.size w8 W → W.cell? ⟨g2, 1, none⟩ = some (.int .i64 ((m2 : Int) + 1)) := fun W hb => (hb.cell (p := ⟨g2, 1, none⟩) q4).trans q6
  have z2 : ∀ W, Below w8.heap.size w8 W → W.cell? ⟨g2, 2, none⟩ = some (.int .i64 (d2 + 1)) := fun W hb => (hb.cell (p := ⟨g2, 2, none⟩) q4).trans q7
  clear q4 q5 q6 q7
  refine flow_begin (tellOf [(2, det (.string nq)), (7, det (.string nr)), (8, turnT r day)]) (by kernel_rfl) (by kernel_rfl) ?_
  repeat (first | (refine flow_val (v := ?_) (by rfl) (by rfl) (fun w hb => ?_) ?_; rotate_left; (· ((go_simp) <;> ((repeat' apply And.intro) <;> with_reducible rfl))); try simp only [Act.put, List.setIfInBounds_toArray, List.set_cons_zero, List.set_cons_succ, Nat.reduceAdd]) | (refine flow_skip (by rfl) (by rfl) ?_; try simp only [Act.put, List.setIfInBounds_toArray, List.set_cons_zero, List.set_cons_succ, Nat.reduceAdd]))
  refine flow_call (f := ?_) (args := ?_) [] (by kernel_rfl) (by rfl) (by rfl) (fun w hb => ?_) (fun w hb hu => ?_) ?_; rotate_left 2; (· ((go_simp) <;> ((repeat' apply And.intro) <;> with_reducible rfl)))
  · exact HNb.out w (HV.out.next (below_then HB8.out hb))
  try simp only [Act.put, List.setIfInBounds_toArray, List.set_cons_zero, List.set_cons_succ, Nat.reduceAdd]
  repeat (first | (refine flow_val (v := ?_) (by rfl) (by rfl) (fun w hb => ?_) ?_; rotate_left; (· ((go_simp) <;> ((repeat' apply And.intro) <;> with_reducible rfl))); try simp only [Act.put, List.setIfInBounds_toArray, List.set_cons_zero, List.set_cons_succ, Nat.reduceAdd]) | (refine flow_skip (by rfl) (by rfl) ?_; try simp only [Act.put, List.setIfInBounds_toArray, List.set_cons_zero, List.set_cons_succ, Nat.reduceAdd]))
  refine flow_call (f := ?_) (args := ?_) [] (by kernel_rfl) (by rfl) (by rfl) (fun w hb => ?_) (fun w hb hu => ?_) ?_; rotate_left 2; (· ((go_simp) <;> ((repeat' apply And.intro) <;> with_reducible rfl)))
  · exact HNa.out w (HV.out.next (below_then HB8.out hb))
  try simp only [Act.put, List.setIfInBounds_toArray, List.set_cons_zero, List.set_cons_succ, Nat.reduceAdd]
  repeat (first | (refine flow_val (v := ?_) (by rfl) (by rfl) (fun w hb => ?_) ?_; rotate_left; (· ((go_simp) <;> ((repeat' apply And.intro) <;> with_reducible rfl))); try simp only [Act.put, List.setIfInBounds_toArray, List.set_cons_zero, List.set_cons_succ, Nat.reduceAdd]) | (refine flow_skip (by rfl) (by rfl) ?_; try simp only [Act.put, List.setIfInBounds_toArray, List.set_cons_zero, List.set_cons_succ, Nat.reduceAdd]))
  refine flow_told (t := turnT r day) (f := ?_) (args := ?_) [] (by kernel_rfl) (by rfl) (by rfl) ⟨_, none, 0, 0, rfl⟩ TurnT.next (fun w hb => ?_) (fun w hb hu => ?_) (fun v hp => ?_); rotate_left 2; (· ((go_simp) <;> ((repeat' apply And.intro) <;> with_reducible rfl)))
  · exact HT2.out k2 HH2.out.1 gr y2 m2 d2 w (HV.out.next (below_then HB8.out hb)) (Box.below HX8.out hb) HH2.out.2.1 HH2.out.2.2.1 HH2.out.2.2.2
  obtain ⟨A3, n3, c3, rfl⟩ := hp
  try simp only [Act.put, List.setIfInBounds_toArray, List.set_cons_zero, List.set_cons_succ, Nat.reduceAdd]
  repeat (first | (refine flow_val (v := ?_) (by rfl) (by rfl) (fun w hb => ?_) ?_; rotate_left; (· ((go_simp) <;> ((repeat' apply And.intro) <;> with_reducible rfl))); try simp only [Act.put, List.setIfInBounds_toArray, List.set_cons_zero, List.set_cons_succ, Nat.reduceAdd]) | (refine flow_skip (by rfl) (by rfl) ?_; try simp only [Act.put, List.setIfInBounds_toArray, List.set_cons_zero, List.set_cons_succ, Nat.reduceAdd]))
  refine flow_nil fun w9 hb9 hf => ?_
  have hft := hf.1 A3 n3 c3 rfl
  have HB9 := Lib.hid (below_then HB8.out hb9)
  have HD9 := Lib.hid (HD8.out.below hb9)
  clear hf hb9 HB8 HX8 HD8 z0 z1 z2 HT2 HNa HNb
  rcases hft with ⟨_, k3, hof3, ok3, hno⟩ | ⟨rfl, k3, g3, y3, m3, d3, rfl, hof3, ok3, q1, q2, q3, q4, q5, q6, q7⟩
  · exact absurd (fd_in' ok3 HH.out.1 HH.out.2.1 ((HOf.out.on hof3 _ _ _ _).1 HH.out.2.2)) hno
  obtain ⟨rfl, rfl, rfl⟩ := q3.unique ok3 ((HOf.out.on hof3 _ _ _ _).1 HH.out.2.2)
  clear hof3 ok3 q1 q2 q3
  have x0 : ∀ W, Below w9.heap.size w9 W → W.cell? ⟨gd, 0, none⟩ = some (.int .i64 y3) := fun W hb => (HD9.out.below hb).cell 0
  have x1 : ∀ W, Below w9.heap.size w9 W → W.cell? ⟨gd, 1, none⟩ = some (.int .i64 ((m3 : Int) + 1)) := fun W hb => (HD9.out.below hb).cell 1
  have x2 : ∀ W, Below w9.heap.size w9 W → W.cell? ⟨gd, 2, none⟩ = some (.int .i64 (d3 + 1)) := fun W hb => (HD9.out.below hb).cell 2
  have z0 : ∀ W, Below w9.heap.size w9 W → W.cell? ⟨g3, 0, none⟩ = some (.int .i64 y3) := fun W hb => (hb.cell (p := ⟨g3, 0, none⟩) q4).trans q5
  have z1 : ∀ W, Below w9.heap.size w9 W → W.cell? ⟨g3, 1, none⟩ = some (.int .i64 ((m3 : Int) + 1)) := fun W hb => (hb.cell (p := ⟨g3, 1, none⟩) q4).trans q6
  have z2 : ∀ W, Below w9.heap.size w9 W → W.cell? ⟨g3, 2, none⟩ = some (.int .i64 (d3 + 1)) := fun W hb => (hb.cell (p := ⟨g3, 2, none⟩) q4).trans q7
  clear q4 q5 q6 q7
  have hds := date_same
  have hdg := date_guard
  have td : dateB y3 ((m3 : Int) + 1) (d3 + 1) y3 ((m3 : Int) + 1) (d3 + 1) = true := dateB_yes ⟨rfl, rfl, rfl⟩
  go_upto_region 13 with fail
  refine flow_begin (tellOf []) (by kernel_rfl) (by kernel_rfl) ?_
  repeat (first | (refine flow_val (v := ?_) (by rfl) (by rfl) (fun w hb => ?_) ?_; rotate_left; (· ((go_simp) <;> ((repeat' apply And.intro) <;> with_reducible rfl))); try simp only [Act.put, List.setIfInBounds_toArray, List.set_cons_zero, List.set_cons_succ, Nat.reduceAdd]) | (refine flow_skip (by rfl) (by rfl) ?_; try simp only [Act.put, List.setIfInBounds_toArray, List.set_cons_zero, List.set_cons_succ, Nat.reduceAdd]))
  refine flow_nil fun w10 hb10 _ => ?_
  have HB10 := Lib.hid (below_then HB9.out hb10)
  clear hb10 x0 x1 x2 z0 z1 z2
  go_wp2_with fail
  go_ret
  exact ⟨rfl, HB10.out⟩

theorem walk (a0 : Int) (w0 : (Lit.int .i64 a0).wf = true) (a1 : Int) (w1 : (Lit.int .i64 a1).wf = true) (a2 : Int) (w2 : (Lit.int .i64 a2).wf = true) (W : World) (hL : laidMet Tryz.prog Rows.convertBackRow.laid W) (hsh : W.ShapedOpen Tryz.prog) :
    Calls Tryz.prog 3 #[.int .i64 a0, .int .i64 a1, .int .i64 a2] W fun e w' => e = .returned (.bool true) ∧ Below W.heap.size W w' := by
  have h := core a0 a1 a2 W (bounds_i64 w0).1 (bounds_i64 w0).2 (bounds_i64 w1).1 (bounds_i64 w1).2 ⟨sgs_of hL.tail.tail.tail.tail.tail.tail.tail, lvs_of hL.tail.tail.tail.tail.tail.tail, Shp.of hsh⟩
  exact h
end Go.Proofs.YtneeoghjddlenaaGreatDoor.convertBack
