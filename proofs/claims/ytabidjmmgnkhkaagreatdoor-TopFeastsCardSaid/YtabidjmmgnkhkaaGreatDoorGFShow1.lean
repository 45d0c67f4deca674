/- FShow1, FShow2, FShow3 -/
import Derived.Laws.EntriesVeiled
import Derived.Test.YtabidjmmgnkhkaaGreatDoorGFBack
import Derived.Test.YtabidjmmgnkhkaaGreatDoorGFParse
/- Contracts of feast.level and of the closure of feast.show. -/
namespace Go.Proofs.YtabidjmmgnkhkaaGreatDoor
open Go Go.RowKit
set_option linter.unusedVariables false
set_option maxRecDepth 100000 in
theorem flevel_any (k : Int) (w : World) : Calls Tryz.prog 63 #[.int .i64 k] w fun e w' => e = .returned (.int .i64 (fLev k : Int)) ∧ w = w' := by
 by_cases h : k = 9 ∨ k = 10 ∨ k = 11 ∨ k = 8 ∨ k = 12 ∨ k = 7
 ·rcases h with rfl | rfl | rfl | rfl | rfl | rfl
  all_goals
   go_enter Tryz.func63, Tryz.ntmps63
   go_wp2
   go_ret
   exact ⟨rfl, rfl⟩
 have e : fLev k = 4 := by unfold fLev; rw [if_neg (by omega), if_neg (by omega), if_neg (by omega), if_neg (by omega)]
 rw [e]
 have t1 : (k == 7) = false := by rw [beq_eq_false_iff_ne]; omega
 have t2 : (k == 8) = false := by rw [beq_eq_false_iff_ne]; omega
 have t3 : (k == 12) = false := by rw [beq_eq_false_iff_ne]; omega
 have t4 : (k == 9) = false := by rw [beq_eq_false_iff_ne]; omega
 have t5 : (k == 10) = false := by rw [beq_eq_false_iff_ne]; omega
 have t6 : (k == 11) = false := by rw [beq_eq_false_iff_ne]; omega
 clear h e
 go_enter Tryz.func63, Tryz.ntmps63
 go_wp2
 go_ret
 exact ⟨rfl, rfl⟩
def FShQ (s : List UInt8) (w : World) (e : Ending) (w' : World) : Prop := e = .returned (.string (str s)) ∧ Below w.heap.size w w'
set_option maxHeartbeats 4000000 in
set_option maxRecDepth 100000 in
theorem ftwo_any (w0 : World) (B : Nat) (hB : w0.heap.size = B) (W1 : World) (HB0 : Hid (Below B w0 W1)) (g go : Nat) (A : Option Addr) (c : Nat) (x y : FE) (lv : Nat) (hl : lv ≤ 4) (T1 T2 wd : List UInt8) (row : Row w0 B A ([x, y].flatMap feF))
  (h4 : W1.cell? ⟨g, 4, none⟩ = some (.slice A 2 c)) (ho : W1.cell? ⟨go, 0, none⟩ = some (.int .i64 (lv : Int)))
  (H1 : ∀ W, Below B w0 W → Calls Tryz.prog 38 #[feV x, .int .i64 (lv : Int)] W (FShQ T1 W)) (H2 : ∀ W, Below B w0 W → Calls Tryz.prog 38 #[feV y, .int .i64 ((lv : Int) + 1)] W (FShQ T2 W))
  (hsz : ((((str T1 ++ ⟨#[32]⟩) ++ str wd) ++ ⟨#[32]⟩) ++ str T2 : ByteArray).size ≤ 60000) :
  Calls Tryz.prog 65 #[.string (str wd), .pointer (some ⟨g, 0, none⟩), .pointer (some ⟨go, 0, none⟩)] W1 fun e w' => e = .returned (.string ((((str T1 ++ ⟨#[32]⟩) ++ str wd) ++ ⟨#[32]⟩) ++ str T2)) ∧ Below W1.heap.size W1 w' := by
 have HBs : Hid (B ≤ W1.heap.size) := by unfold Hid; have := HB0.out.size; omega
 have hgl : g < W1.heap.size := block_lt_of_cell h4
 have hol : go < W1.heap.size := block_lt_of_cell ho
 have z4 : ∀ W, Below W1.heap.size W1 W → W.cell? ⟨g, 4, none⟩ = some (.slice A 2 c) := fun W hW => (hW.cell (p := ⟨g, 4, none⟩) hgl).trans h4
 have zo : ∀ W, Below W1.heap.size W1 W → W.cell? ⟨go, 0, none⟩ = some (.int .i64 (lv : Int)) := fun W hW => (hW.cell (p := ⟨go, 0, none⟩) hol).trans ho
 obtain ⟨ba, o, rfl, hbB, hc⟩ := row.open_ (by cases x; simp [feF])
 rw [List.flatMap_cons, List.flatMap_cons, List.flatMap_nil, List.append_nil] at hc
 have hab : ∀ W, Below W1.heap.size W1 W → ∀ i v, (feF x ++ feF y)[i]? = some v → W.cell? ⟨ba, o + i, none⟩ = some v := fun W hW i v hv => ((HB0.out.trans (hW.mono HBs.out)).cell (p := ⟨ba, o + i, none⟩) hbB).trans (hc i v hv)
 obtain ⟨k1, a1, b1, n1, A1, c1, ks1⟩ := x
 obtain ⟨k2, a2, b2, n2, A2, c2, ks2⟩ := y
 have y0 : ∀ W, Below W1.heap.size W1 W → W.cell? ⟨ba, o, none⟩ = some (.int .i64 k1) := fun W hW => hab W hW 0 _ rfl
 have y1 : ∀ W, Below W1.heap.size W1 W → W.cell? ⟨ba, o + 1, none⟩ = some (.int .i64 a1) := fun W hW => hab W hW 1 _ rfl
 have y2 : ∀ W, Below W1.heap.size W1 W → W.cell? ⟨ba, o + 2, none⟩ = some (.int .i64 b1) := fun W hW => hab W hW 2 _ rfl
 have y3 : ∀ W, Below W1.heap.size W1 W → W.cell? ⟨ba, o + 3, none⟩ = some (.string n1) := fun W hW => hab W hW 3 _ rfl
 have y4 : ∀ W, Below W1.heap.size W1 W → W.cell? ⟨ba, o + 4, none⟩ = some (.slice A1 ks1.length c1) := fun W hW => hab W hW 4 _ rfl
 have y5 : ∀ W, Below W1.heap.size W1 W → W.cell? ⟨ba, o + 5, none⟩ = some (.int .i64 k2) := fun W hW => hab W hW 5 _ rfl
 have y6 : ∀ W, Below W1.heap.size W1 W → W.cell? ⟨ba, o + 5 + 1, none⟩ = some (.int .i64 a2) := fun W hW => hab W hW 6 _ rfl
 have y7 : ∀ W, Below W1.heap.size W1 W → W.cell? ⟨ba, o + 5 + 2, none⟩ = some (.int .i64 b2) := fun W hW => hab W hW 7 _ rfl
 have y8 : ∀ W, Below W1.heap.size W1 W → W.cell? ⟨ba, o + 5 + 3, none⟩ = some (.string n2) := fun W hW => hab W hW 8 _ rfl
 have y9 : ∀ W, Below W1.heap.size W1 W → W.cell? ⟨ba, o + 5 + 4, none⟩ = some (.slice A2 ks2.length c2) := fun W hW => hab W hW 9 _ rfl
 have HJ1 : Hid (∀ W, Below B w0 W → Calls Tryz.prog 38 #[.agg #[.int .i64 k1, .int .i64 a1, .int .i64 b1, .string n1, .slice A1 ks1.length c1], .int .i64 (lv : Int)] W (FShQ T1 W)) := H1
 have HJ2 : Hid (∀ W, Below B w0 W → Calls Tryz.prog 38 #[.agg #[.int .i64 k2, .int .i64 a2, .int .i64 b2, .string n2, .slice A2 ks2.length c2], .int .i64 ((lv : Int) + 1)] W (FShQ T2 W)) := H2
 have k5 : IntKind.i64.wrap ((lv : Int) + 1) = (lv : Int) + 1 := intFits _ (by omega) (by omega)
 clear hab hc hbB row h4 ho H1 H2 hgl hol
 generalize hs1' : str T1 = S1 at *
 generalize hs2' : str T2 = S2 at *
 generalize hs3' : str wd = S3 at *
 have r4 : (((S1 ++ ⟨#[32]⟩) ++ S3) ++ ⟨#[32]⟩ : ByteArray).size ≤ 60000 := by rw [ByteArray.size_append] at hsz; omega
 have r3 : ((S1 ++ ⟨#[32]⟩) ++ S3 : ByteArray).size ≤ 60000 := by rw [ByteArray.size_append] at r4; omega
 have r2 : (S1 ++ ⟨#[32]⟩ : ByteArray).size ≤ 60000 := by rw [ByteArray.size_append] at r3; omega
 have r1 : S1.size ≤ 60000 := by rw [ByteArray.size_append] at r2; omega
 have r5 : S2.size ≤ 60000 := by rw [ByteArray.size_append] at hsz; omega
 have r6 : S3.size ≤ 60000 := by rw [ByteArray.size_append] at r3; omega
 have r0 : (⟨#[32]⟩ : ByteArray).size = 1 := rfl
 go_enter Tryz.func65, Tryz.ntmps65
 go_upto_region 1 with fail
 refine flow_begin (tellOf [(5, det (.string S1)), (16, det (.string S2))]) (by kernel_rfl) (by kernel_rfl) ?_
 repeat (first | (refine flow_val (v := ?_) (by rfl) (by rfl) (fun w hb => ?_) ?_; rotate_left; (· ((go_simp) <;> ((repeat' apply And.intro) <;> with_reducible rfl))); try simp only [Act.put, List.setIfInBounds_toArray, List.set_cons_zero, List.set_cons_succ, Nat.reduceAdd]) | (refine flow_val (v := ?_) (by rfl) (by rfl) (fun w hb => ?_) ?_; rotate_left; (· (go_simp; (refine (if_neg ?_).trans ?_); (· omega); (· with_reducible rfl))); try simp only [Act.put, List.setIfInBounds_toArray, List.set_cons_zero, List.set_cons_succ, Nat.reduceAdd]) | (refine flow_skip (by rfl) (by rfl) ?_; try simp only [Act.put, List.setIfInBounds_toArray, List.set_cons_zero, List.set_cons_succ, Nat.reduceAdd]))
 refine flow_call (f := ?_) (args := ?_) [] (by kernel_rfl) (by rfl) (by rfl) (fun w hb => ?_) (fun w hb hu => ?_) ?_; rotate_left 2; (· ((go_simp) <;> ((repeat' apply And.intro) <;> with_reducible rfl)))
 ·refine (HJ1.out _ (HB0.out.trans (hb.mono HBs.out))).mono ?_
  rintro e w' ⟨rfl, hb'⟩
  exact ⟨by rw [hs1'], hb'⟩
 try simp only [Act.put, List.setIfInBounds_toArray, List.set_cons_zero, List.set_cons_succ, Nat.reduceAdd]
 repeat (first | (refine flow_val (v := ?_) (by rfl) (by rfl) (fun w hb => ?_) ?_; rotate_left; (· ((go_simp) <;> ((repeat' apply And.intro) <;> with_reducible rfl))); try simp only [Act.put, List.setIfInBounds_toArray, List.set_cons_zero, List.set_cons_succ, Nat.reduceAdd]) | (refine flow_val (v := ?_) (by rfl) (by rfl) (fun w hb => ?_) ?_; rotate_left; (· (go_simp; (refine (if_neg ?_).trans ?_); (· omega); (· with_reducible rfl))); try simp only [Act.put, List.setIfInBounds_toArray, List.set_cons_zero, List.set_cons_succ, Nat.reduceAdd]) | (refine flow_skip (by rfl) (by rfl) ?_; try simp only [Act.put, List.setIfInBounds_toArray, List.set_cons_zero, List.set_cons_succ, Nat.reduceAdd]))
 refine flow_call (f := ?_) (args := ?_) [] (by kernel_rfl) (by rfl) (by rfl) (fun w hb => ?_) (fun w hb hu => ?_) ?_; rotate_left 2; (· ((go_simp) <;> ((repeat' apply And.intro) <;> with_reducible rfl)))
 ·refine (HJ2.out _ (HB0.out.trans (hb.mono HBs.out))).mono ?_
  rintro e w' ⟨rfl, hb'⟩
  exact ⟨by rw [hs2'], hb'⟩
 try simp only [Act.put, List.setIfInBounds_toArray, List.set_cons_zero, List.set_cons_succ, Nat.reduceAdd]
 repeat (first | (refine flow_val (v := ?_) (by rfl) (by rfl) (fun w hb => ?_) ?_; rotate_left; (· ((go_simp) <;> ((repeat' apply And.intro) <;> with_reducible rfl))); try simp only [Act.put, List.setIfInBounds_toArray, List.set_cons_zero, List.set_cons_succ, Nat.reduceAdd]) | (refine flow_val (v := ?_) (by rfl) (by rfl) (fun w hb => ?_) ?_; rotate_left; (· (go_simp; (refine (if_neg ?_).trans ?_); (· omega); (· with_reducible rfl))); try simp only [Act.put, List.setIfInBounds_toArray, List.set_cons_zero, List.set_cons_succ, Nat.reduceAdd]) | (refine flow_skip (by rfl) (by rfl) ?_; try simp only [Act.put, List.setIfInBounds_toArray, List.set_cons_zero, List.set_cons_succ, Nat.reduceAdd]))
 refine flow_nil fun w2 hb2 _ => ?_
 have HB2 := Lib.hid hb2
 clear hb2 z4 zo y0 y1 y2 y3 y4 y5 y6 y7 y8 y9 HJ1 HJ2
 go_wp2_with fail
 go_ret
 exact ⟨rfl, HB2.out⟩
end Go.Proofs.YtabidjmmgnkhkaaGreatDoor
/- Contract of feast.show. -/
namespace Go.Proofs.YtabidjmmgnkhkaaGreatDoor
open Go Go.RowKit
set_option linter.unusedVariables false
theorem fsz_kid {x : FE} : ∀ {l : List FE}, x ∈ l → fsz x ≤ fszL l := by
 intro l
 induction l with
 | nil => intro h; cases h
 | cons y l ihl =>
  intro h
  rw [fszL]
  rcases List.mem_cons.1 h with rfl | h
  ·omega
  ·have := ihl h; omega
theorem fkid_cells {w0 : World} {B : Nat} {A : Option Addr} {k a b : Int} {nm : ByteArray} {A' : Option Addr} {c' : Nat} {ks : List FE} (row : Row w0 B A ([FE.node k a b nm A' c' ks].flatMap feF)) : ∃ ba o, A = some ⟨ba, o, none⟩ ∧ ba < B ∧ ∀ W, Below B w0 W → W.cell? ⟨ba, o, none⟩ = some (.int .i64 k) ∧ W.cell? ⟨ba, o + 1, none⟩ = some (.int .i64 a) ∧ W.cell? ⟨ba, o + 2, none⟩ = some (.int .i64 b) ∧ W.cell? ⟨ba, o + 3, none⟩ = some (.string nm) ∧ W.cell? ⟨ba, o + 4, none⟩ = some (.slice A' ks.length c') := by
 obtain ⟨ba, o, rfl, hb, hc⟩ := row.open_ (by simp [feF])
 rw [List.flatMap_cons, List.flatMap_nil, List.append_nil] at hc
 have hcell : ∀ W, Below B w0 W → ∀ i v, (feF (FE.node k a b nm A' c' ks))[i]? = some v → W.cell? ⟨ba, o + i, none⟩ = some v := fun W hW i v hv => (hW.cell (p := ⟨ba, o + i, none⟩) hb).trans (hc i v hv)
 exact ⟨ba, o, rfl, hb, fun W hW => ⟨hcell W hW 0 _ rfl, hcell W hW 1 _ rfl, hcell W hW 2 _ rfl, hcell W hW 3 _ rfl, hcell W hW 4 _ rfl⟩⟩
set_option maxHeartbeats 8000000 in
set_option maxRecDepth 100000 in
theorem fshow_any (w0 : World) (B : Nat) (hB : w0.heap.size = B) (hp0 : Pow w0) (t : FE) (hin : FeIn w0 B t) : FeOk t → fsz t ≤ 300 → ∀ (L : Nat), L ≤ 10 → ∀ w : World, Below B w0 w →
  Calls Tryz.prog 38 #[feV t, .int .i64 (L : Int)] w (FShQ (fshT L t) w) := by
 have HBq := Lib.hid hB
 induction hin with
 | @mk k a b nm A c ks hk ha hb hs hl row kids ih =>
  intro hok hsz L hL w hb0
  have hsl := fsh_len hok
  obtain ⟨node, okids⟩ : FeNode k a b nm ks.length ∧ ∀ x ∈ ks, FeOk x := by cases hok with | mk node kids => exact ⟨node, kids⟩
  obtain ⟨na, nb⟩ := fnums node
  have nn := fnm_len node
  have hBw : B ≤ w.heap.size := by rw [← hB]; have := hb0.size; omega
  have hsk : fszL ks ≤ 300 := by rw [fsz] at hsz; omega
  have HLen : Hid (∀ x ∈ ks, ∀ L, (str (fshT L x)).size ≤ 24000) := fun x hx L => by
   have h1 := fsz_kid hx
   have h2 := fsh_len (okids x hx)
   have h3 := fshT_len L x
   rw [str_size]
   omega
  have IH : Hid (∀ x ∈ ks, ∀ (L : Nat), L ≤ 10 → ∀ w : World, Below B w0 w → Calls Tryz.prog 38 #[feV x, .int .i64 (L : Int)] w (FShQ (fshT L x) w)) := fun x hx => ih x hx (okids x hx) (by have := fsz_kid hx; omega)
  have HP : Hid (∀ W, Below B w0 W → Pow W) := fun W hW => hp0.next (by rw [hB]; exact hW)
  have HND := Lib.hid node
  have HRow := Lib.hid row
  have HB0 := Lib.hid hb0
  have HIa := Lib.hid (fun W h => itoa_any a W (by omega) (by omega) (HP.out W h))
  have HIb := Lib.hid (fun W h => itoa_any b W (by omega) (by omega) (HP.out W h))
  have HLv := Lib.hid (fun W => flevel_any k W)
  have hlv := fLev_le k
  have HNa := Lib.hid (itoa_size a (by omega) (by omega))
  have HNb := Lib.hid (itoa_size b (by omega) (by omega))
  have HNn : Hid (nm.size ≤ 30) := by unfold Hid; rw [← str_nm nm, str_size]; exact nn
  change Calls Tryz.prog 38 #[.agg #[.int .i64 k, .int .i64 a, .int .i64 b, .string nm, .slice A ks.length c], .int .i64 (L : Int)] w _
  unfold FShQ fshT
  obtain ⟨T, hT⟩ : ∃ T, T = fsh (.node k a b nm A c ks) := ⟨_, rfl⟩
  have HTl : Hid ((str T).size ≤ 24000) := by unfold Hid; rw [hT, str_size]; omega
  show Calls Tryz.prog 38 #[.agg #[.int .i64 k, .int .i64 a, .int .i64 b, .string nm, .slice A ks.length c], .int .i64 (L : Int)] w fun e w' => e = .returned (.string (str (fPar L (k, fsh (.node k a b nm A c ks))))) ∧ Below w.heap.size w w'
  rw [← hT]
  have HT := Lib.hid hT
  have qX := Box.new w 57 #[.int .i64 k, .int .i64 a, .int .i64 b, .string nm, .slice A ks.length c]
  have hB1 := below_alloc1 w (.cells #[.int .i64 k, .int .i64 a, .int .i64 b, .string nm, .slice A ks.length c] 57)
  have hY := Box.new (w.alloc (.cells #[.int .i64 k, .int .i64 a, .int .i64 b, .string nm, .slice A ks.length c] 57)) 3 #[.int .i64 (fLev k : Int)]
  have hB2 := below_alloc2 w (.cells #[.int .i64 k, .int .i64 a, .int .i64 b, .string nm, .slice A ks.length c] 57) (.cells #[.int .i64 (fLev k : Int)] 3)
  have HX := Lib.hid (qX.alloc (.cells #[.int .i64 (fLev k : Int)] 3))
  have x0 := qX.cell 0
  have xl := qX.lt
  change _ = some (Value.int .i64 k) at x0
  rw [World.size_alloc] at hY
  have HY := Lib.hid hY
  have HBX := Lib.hid hB2
  clear hsl hok ih okids node hb0 hk ha hb hs hl hsz hsk hT hY hB2 hB1 na nb nn hp0 row kids qX
  go_enter Tryz.func38, Tryz.ntmps38
  go_upto_region 2 with (go_at_call 63; refine (HLv.out _).mono ?_; rintro e w' ⟨rfl, rfl⟩)
  generalize (w.alloc (.cells #[.int .i64 k, .int .i64 a, .int .i64 b, .string nm, .slice A ks.length c] 57)).alloc (.cells #[.int .i64 (fLev k : Int)] 3) = W1 at *
  have HB1 : Hid (Below B w0 W1) := HB0.out.trans (HBX.out.mono hBw)
  have hBs : B ≤ W1.heap.size := by have := HBX.out.size; omega
  have HBs := Lib.hid hBs
  generalize hg : w.heap.size = g at *
  have HG := Lib.hid hg
  clear x0 xl hg
  have x1 : ∀ W, Below W1.heap.size W1 W → W.cell? ⟨g, 1, none⟩ = some (.int .i64 a) := fun W hW => (HX.out.below hW).cell 1
  have x2 : ∀ W, Below W1.heap.size W1 W → W.cell? ⟨g, 2, none⟩ = some (.int .i64 b) := fun W hW => (HX.out.below hW).cell 2
  generalize hSa : str (Lib.itoa a) = Sa at *
  generalize hSb : str (Lib.itoa b) = Sb at *
  have HSa := Lib.hid hSa
  have HSb := Lib.hid hSb
  clear hSa hSb hBs hB HLv
  refine flow_begin (tellOf [(2, det (.string Sa)), (5, det (.string Sb))]) (by kernel_rfl) (by kernel_rfl) ?_
  repeat (first | (refine flow_val (v := ?_) (by rfl) (by rfl) (fun w hb => ?_) ?_; rotate_left; (· ((go_simp) <;> ((repeat' apply And.intro) <;> with_reducible rfl))); try simp only [Act.put, List.setIfInBounds_toArray, List.set_cons_zero, List.set_cons_succ, Nat.reduceAdd]) | (refine flow_skip (by rfl) (by rfl) ?_; try simp only [Act.put, List.setIfInBounds_toArray, List.set_cons_zero, List.set_cons_succ, Nat.reduceAdd]))
  refine flow_call (f := ?_) (args := ?_) [] (by kernel_rfl) (by rfl) (by rfl) (fun w hb => ?_) (fun w hb hu => ?_) ?_; rotate_left 2; (· ((go_simp) <;> ((repeat' apply And.intro) <;> with_reducible rfl)))
  ·exact HIa.out _ (HB1.out.trans (hb.mono HBs.out))
  try simp only [Act.put, List.setIfInBounds_toArray, List.set_cons_zero, List.set_cons_succ, Nat.reduceAdd]
  repeat (first | (refine flow_val (v := ?_) (by rfl) (by rfl) (fun w hb => ?_) ?_; rotate_left; (· ((go_simp) <;> ((repeat' apply And.intro) <;> with_reducible rfl))); try simp only [Act.put, List.setIfInBounds_toArray, List.set_cons_zero, List.set_cons_succ, Nat.reduceAdd]) | (refine flow_skip (by rfl) (by rfl) ?_; try simp only [Act.put, List.setIfInBounds_toArray, List.set_cons_zero, List.set_cons_succ, Nat.reduceAdd]))
  refine flow_call (f := ?_) (args := ?_) [] (by kernel_rfl) (by rfl) (by rfl) (fun w hb => ?_) (fun w hb hu => ?_) ?_; rotate_left 2; (· ((go_simp) <;> ((repeat' apply And.intro) <;> with_reducible rfl)))
  ·exact HIb.out _ (HB1.out.trans (hb.mono HBs.out))
  try simp only [Act.put, List.setIfInBounds_toArray, List.set_cons_zero, List.set_cons_succ, Nat.reduceAdd]
  repeat (first | (refine flow_val (v := ?_) (by rfl) (by rfl) (fun w hb => ?_) ?_; rotate_left; (· ((go_simp) <;> ((repeat' apply And.intro) <;> with_reducible rfl))); try simp only [Act.put, List.setIfInBounds_toArray, List.set_cons_zero, List.set_cons_succ, Nat.reduceAdd]) | (refine flow_skip (by rfl) (by rfl) ?_; try simp only [Act.put, List.setIfInBounds_toArray, List.set_cons_zero, List.set_cons_succ, Nat.reduceAdd]))
  refine flow_nil fun W2 hb2 _ => ?_
  have HB2 : Hid (Below B w0 W2) := HB1.out.trans (hb2.mono HBs.out)
  have HBs2 : Hid (B ≤ W2.heap.size) := by unfold Hid; have := hb2.size; have := HBs.out; omega
  have HX2 := Lib.hid (HX.out.below hb2)
  have HY2 := Lib.hid (HY.out.below hb2)
  have HBw : Hid (Below g w W2) := HBX.out.trans (hb2.mono (by have := HBX.out.size; have := HG.out; omega))
  clear hb2 x1 x2 HIa HIb HX HY HBX HB1 HBs HP HB0
  have x0 : W2.cell? ⟨g, 0, none⟩ = some (.int .i64 k) := HX2.out.cell 0
  go_upto_block 0 with fail
  clear x0
  go_cut [9] (fun s9 wx => s9 = .string (str T) ∧ Hid (Below W2.heap.size W2 wx))
  case first =>
   have ha21 := HNa.out
   have hb21 := HNb.out
   have hn30 := HNn.out
   have l1 : (⟨#[32]⟩ : ByteArray).size = 1 := rfl
   clear HBw HNa HNb HNn HTl
   rcases fnode_cases HND.out with ⟨h1, h2, rfl⟩ | ⟨rfl, x, rfl⟩ | ⟨rfl, x, rfl⟩ | ⟨rfl, x, rfl⟩ | ⟨hb, x, y, rfl⟩
   ·have hk : k = 1 ∨ k = 2 ∨ k = 3 ∨ k = 4 ∨ k = 5 ∨ k = 6 := by omega
    obtain ⟨z0, z1, z2, z3, z4⟩ := fecells HX2.out
    clear h1 h2 HND IH HLen HRow
    rcases hk with rfl | rfl | rfl | rfl | rfl | rfl
    ·have HE : Hid (str T = ((((⟨#[100, 97, 116, 101, 32]⟩ ++ nm) ++ ⟨#[32]⟩) ++ Sa) ++ ⟨#[32]⟩) ++ Sb) := by unfold Hid; rw [HT.out, fsB_1, HSa.out, HSb.out]
     have rl1 : (⟨#[100, 97, 116, 101, 32]⟩ : ByteArray).size = 5 := rfl
     have r0 : (⟨#[100, 97, 116, 101, 32]⟩ ++ nm : ByteArray).size ≤ 35 := by rw [ByteArray.size_append]; omega
     have r1 : ((⟨#[100, 97, 116, 101, 32]⟩ ++ nm) ++ ⟨#[32]⟩ : ByteArray).size ≤ 36 := by rw [ByteArray.size_append]; omega
     have r2 : (((⟨#[100, 97, 116, 101, 32]⟩ ++ nm) ++ ⟨#[32]⟩) ++ Sa : ByteArray).size ≤ 57 := by rw [ByteArray.size_append]; omega
     have r3 : ((((⟨#[100, 97, 116, 101, 32]⟩ ++ nm) ++ ⟨#[32]⟩) ++ Sa) ++ ⟨#[32]⟩ : ByteArray).size ≤ 58 := by rw [ByteArray.size_append]; omega
     have r4 : (((((⟨#[100, 97, 116, 101, 32]⟩ ++ nm) ++ ⟨#[32]⟩) ++ Sa) ++ ⟨#[32]⟩) ++ Sb : ByteArray).size ≤ 79 := by rw [ByteArray.size_append]; omega
     clear HT
     go_wp2_with fail
     go_meet
     exact ⟨by rw [HE.out], Below.refl _ _⟩
    ·have HE : Hid (str T = ((⟨#[109, 111, 110, 116, 104, 32]⟩ ++ nm) ++ ⟨#[32]⟩) ++ Sa) := by unfold Hid; rw [HT.out, fsB_2, HSa.out]
     have rl1 : (⟨#[109, 111, 110, 116, 104, 32]⟩ : ByteArray).size = 6 := rfl
     have r0 : (⟨#[109, 111, 110, 116, 104, 32]⟩ ++ nm : ByteArray).size ≤ 36 := by rw [ByteArray.size_append]; omega
     have r1 : ((⟨#[109, 111, 110, 116, 104, 32]⟩ ++ nm) ++ ⟨#[32]⟩ : ByteArray).size ≤ 37 := by rw [ByteArray.size_append]; omega
     have r2 : (((⟨#[109, 111, 110, 116, 104, 32]⟩ ++ nm) ++ ⟨#[32]⟩) ++ Sa : ByteArray).size ≤ 58 := by rw [ByteArray.size_append]; omega
     clear HT
     go_wp2_with fail
     go_meet
     exact ⟨by rw [HE.out], Below.refl _ _⟩
    ·have HE : Hid (str T = ⟨#[119, 101, 101, 107, 100, 97, 121, 32]⟩ ++ Sa) := by unfold Hid; rw [HT.out, fsB_3, HSa.out]
     have rl1 : (⟨#[119, 101, 101, 107, 100, 97, 121, 32]⟩ : ByteArray).size = 8 := rfl
     have r0 : (⟨#[119, 101, 101, 107, 100, 97, 121, 32]⟩ ++ Sa : ByteArray).size ≤ 29 := by rw [ByteArray.size_append]; omega
     clear HT
     go_wp2_with fail
     go_meet
     exact ⟨by rw [HE.out], Below.refl _ _⟩
    ·have HE : Hid (str T = ((⟨#[101, 118, 101, 114, 121, 32]⟩ ++ Sa) ++ ⟨#[32]⟩) ++ Sb) := by unfold Hid; rw [HT.out, fsB_4, HSa.out, HSb.out]
     have rl1 : (⟨#[101, 118, 101, 114, 121, 32]⟩ : ByteArray).size = 6 := rfl
     have r0 : (⟨#[101, 118, 101, 114, 121, 32]⟩ ++ Sa : ByteArray).size ≤ 27 := by rw [ByteArray.size_append]; omega
     have r1 : ((⟨#[101, 118, 101, 114, 121, 32]⟩ ++ Sa) ++ ⟨#[32]⟩ : ByteArray).size ≤ 28 := by rw [ByteArray.size_append]; omega
     have r2 : (((⟨#[101, 118, 101, 114, 121, 32]⟩ ++ Sa) ++ ⟨#[32]⟩) ++ Sb : ByteArray).size ≤ 49 := by rw [ByteArray.size_append]; omega
     clear HT
     go_wp2_with fail
     go_meet
     exact ⟨by rw [HE.out], Below.refl _ _⟩
    ·have HE : Hid (str T = ⟨#[100, 97, 121, 32]⟩ ++ Sa) := by unfold Hid; rw [HT.out, fsB_5, HSa.out]
     have rl1 : (⟨#[100, 97, 121, 32]⟩ : ByteArray).size = 4 := rfl
     have r0 : (⟨#[100, 97, 121, 32]⟩ ++ Sa : ByteArray).size ≤ 25 := by rw [ByteArray.size_append]; omega
     clear HT
     go_wp2_with fail
     go_meet
     exact ⟨by rw [HE.out], Below.refl _ _⟩
    ·have HE : Hid (str T = ((⟨#[100, 97, 121, 115, 32]⟩ ++ Sa) ++ ⟨#[32]⟩) ++ Sb) := by unfold Hid; rw [HT.out, fsB_6, HSa.out, HSb.out]
     have rl1 : (⟨#[100, 97, 121, 115, 32]⟩ : ByteArray).size = 5 := rfl
     have r0 : (⟨#[100, 97, 121, 115, 32]⟩ ++ Sa : ByteArray).size ≤ 26 := by rw [ByteArray.size_append]; omega
     have r1 : ((⟨#[100, 97, 121, 115, 32]⟩ ++ Sa) ++ ⟨#[32]⟩ : ByteArray).size ≤ 27 := by rw [ByteArray.size_append]; omega
     have r2 : (((⟨#[100, 97, 121, 115, 32]⟩ ++ Sa) ++ ⟨#[32]⟩) ++ Sb : ByteArray).size ≤ 48 := by rw [ByteArray.size_append]; omega
     clear HT
     go_wp2_with fail
     go_meet
     exact ⟨by rw [HE.out], Below.refl _ _⟩
   ·have HLx : Hid ((str (fshT 3 x)).size ≤ 24000) := HLen.out x (by simp) 3
    have HIx := Lib.hid (IH.out x (by simp) 3 (by omega))
    have hcl : ∃ T1, T1 = fshT 3 x := ⟨_, rfl⟩
    obtain ⟨T1, hT1⟩ := hcl
    have HT1 := Lib.hid hT1
    rw [← hT1] at HLx HIx
    clear hT1
    have HY3 : Hid (Box W2 (g + 1) 3 #[.int .i64 3]) := HY2.out
    obtain ⟨k', a', b', nm', A', c', ks'⟩ := x
    obtain ⟨ba, o, rfl, hba, hcs⟩ := fkid_cells HRow.out
    have hBa : ba < W2.heap.size := by have := HBs2.out; omega
    have y0 : ∀ W, Below W2.heap.size W2 W → W.cell? ⟨ba, o, none⟩ = some (.int .i64 k') := fun W hW => (hcs W (HB2.out.trans (hW.mono HBs2.out))).1
    have y1 : ∀ W, Below W2.heap.size W2 W → W.cell? ⟨ba, o + 1, none⟩ = some (.int .i64 a') := fun W hW => (hcs W (HB2.out.trans (hW.mono HBs2.out))).2.1
    have y2 : ∀ W, Below W2.heap.size W2 W → W.cell? ⟨ba, o + 2, none⟩ = some (.int .i64 b') := fun W hW => (hcs W (HB2.out.trans (hW.mono HBs2.out))).2.2.1
    have y3 : ∀ W, Below W2.heap.size W2 W → W.cell? ⟨ba, o + 3, none⟩ = some (.string nm') := fun W hW => (hcs W (HB2.out.trans (hW.mono HBs2.out))).2.2.2.1
    have y4 : ∀ W, Below W2.heap.size W2 W → W.cell? ⟨ba, o + 4, none⟩ = some (.slice A' ks'.length c') := fun W hW => (hcs W (HB2.out.trans (hW.mono HBs2.out))).2.2.2.2
    have z1 : ∀ W, Below W2.heap.size W2 W → W.cell? ⟨g, 1, none⟩ = some (.int .i64 a) := fun W hW => (HX2.out.below hW).cell 1
    have z3 : ∀ W, Below W2.heap.size W2 W → W.cell? ⟨g, 3, none⟩ = some (.string nm) := fun W hW => (HX2.out.below hW).cell 3
    have z4 : ∀ W, Below W2.heap.size W2 W → W.cell? ⟨g, 4, none⟩ = some (.slice (some ⟨ba, o, none⟩) 1 c) := fun W hW => (HX2.out.below hW).cell 4
    have zo : ∀ W, Below W2.heap.size W2 W → W.cell? ⟨g + 1, 0, none⟩ = some (.int .i64 3) := fun W hW => (HY3.out.below hW).cell 0
    have HJ : Hid (∀ W, Below B w0 W → Calls Tryz.prog 38 #[.agg #[.int .i64 k', .int .i64 a', .int .i64 b', .string nm', .slice A' ks'.length c'], .int .i64 3] W (FShQ T1 W)) := HIx.out
    clear hcs hba IH HLen HRow HND HIx
    have HE1 : Hid (¬ a < 0 → str T = (str T1 ++ ⟨#[32, 43, 32]⟩) ++ Sa) := fun h => by rw [HT.out, fsB_7p _ _ _ _ _ _ h, HT1.out, HSa.out]
    have HE2 : Hid (a < 0 → str T = (str T1 ++ ⟨#[32, 45, 32]⟩) ++ Sa.extract 1 Sa.size) := fun h => by
     rw [HT.out, fsB_7n _ _ _ _ _ _ h, HT1.out, ← HSa.out, str_size, ext_str, List.take_length]
    have hsa1 : 1 ≤ Sa.size := by
     rw [← HSa.out, str_size]
     have := itoa_ne a
     cases h : Lib.itoa a with
     | nil => exact absurd h this
     | cons b r => simp
    have hLx := HLx.out
    generalize hS1 : str T1 = S1 at *
    have rl1 : (⟨#[32, 43, 32]⟩ : ByteArray).size = 3 := rfl
    have r0 : (S1 ++ ⟨#[32, 43, 32]⟩ : ByteArray).size ≤ 24003 := by rw [ByteArray.size_append]; omega
    have r1 : ((S1 ++ ⟨#[32, 43, 32]⟩) ++ Sa : ByteArray).size ≤ 24024 := by rw [ByteArray.size_append]; omega
    go_upto_region 20 with fail
    refine flow_begin (tellOf [(5, det (.string S1))]) (by kernel_rfl) (by kernel_rfl) ?_
    repeat (first | (refine flow_val (v := ?_) (by rfl) (by rfl) (fun w hb => ?_) ?_; rotate_left; (· ((go_simp) <;> ((repeat' apply And.intro) <;> with_reducible rfl))); try simp only [Act.put, List.setIfInBounds_toArray, List.set_cons_zero, List.set_cons_succ, Nat.reduceAdd]) | (refine flow_val (v := ?_) (by rfl) (by rfl) (fun w hb => ?_) ?_; rotate_left; (· (go_simp; (refine (if_neg ?_).trans ?_); (· omega); (· with_reducible rfl))); try simp only [Act.put, List.setIfInBounds_toArray, List.set_cons_zero, List.set_cons_succ, Nat.reduceAdd]) | (refine flow_skip (by rfl) (by rfl) ?_; try simp only [Act.put, List.setIfInBounds_toArray, List.set_cons_zero, List.set_cons_succ, Nat.reduceAdd]))
    refine flow_call (f := ?_) (args := ?_) [] (by kernel_rfl) (by rfl) (by rfl) (fun w hb => ?_) (fun w hb hu => ?_) ?_; rotate_left 2; (· ((go_simp) <;> ((repeat' apply And.intro) <;> with_reducible rfl)))
    ·refine (HJ.out _ (HB2.out.trans (hb.mono HBs2.out))).mono ?_
     rintro e w' ⟨rfl, hb'⟩
     exact ⟨by rw [hS1], hb'⟩
    try simp only [Act.put, List.setIfInBounds_toArray, List.set_cons_zero, List.set_cons_succ, Nat.reduceAdd]
    repeat (first | (refine flow_val (v := ?_) (by rfl) (by rfl) (fun w hb => ?_) ?_; rotate_left; (· ((go_simp) <;> ((repeat' apply And.intro) <;> with_reducible rfl))); try simp only [Act.put, List.setIfInBounds_toArray, List.set_cons_zero, List.set_cons_succ, Nat.reduceAdd]) | (refine flow_val (v := ?_) (by rfl) (by rfl) (fun w hb => ?_) ?_; rotate_left; (· (go_simp; (refine (if_neg ?_).trans ?_); (· omega); (· with_reducible rfl))); try simp only [Act.put, List.setIfInBounds_toArray, List.set_cons_zero, List.set_cons_succ, Nat.reduceAdd]) | (refine flow_skip (by rfl) (by rfl) ?_; try simp only [Act.put, List.setIfInBounds_toArray, List.set_cons_zero, List.set_cons_succ, Nat.reduceAdd]))
    refine flow_nil fun W3 hb3 _ => ?_
    have HB3 := Lib.hid hb3
    have w1 := z1 W3 hb3
    clear hb3
    by_cases hneg : a < 0
    case neg =>
     have t1 : decide (a < 0) = false := decide_eq_false hneg
     have HE := Lib.hid (HE1.out hneg)
     clear hneg HE1 HE2 y0 y1 y2 y3 y4 z1 z3 z4 zo
     go_wp2_with fail
     go_meet
     exact ⟨by rw [HE.out], HB3⟩
    have t1 : decide (a < 0) = true := decide_eq_true hneg
    have HE := Lib.hid (HE2.out hneg)
    have HBs3 : Hid (W2.heap.size ≤ W3.heap.size) := HB3.out.size
    have up : ∀ W, Below W3.heap.size W3 W → Below W2.heap.size W2 W := fun W hW => HB3.out.trans (hW.mono HBs3.out)
    have hBa3 : ba < W3.heap.size := Nat.lt_of_lt_of_le hBa HBs3.out
    have y0' : ∀ W, Below W3.heap.size W3 W → W.cell? ⟨ba, o, none⟩ = some (.int .i64 k') := fun W hW => y0 W (up W hW)
    have y1' : ∀ W, Below W3.heap.size W3 W → W.cell? ⟨ba, o + 1, none⟩ = some (.int .i64 a') := fun W hW => y1 W (up W hW)
    have y2' : ∀ W, Below W3.heap.size W3 W → W.cell? ⟨ba, o + 2, none⟩ = some (.int .i64 b') := fun W hW => y2 W (up W hW)
    have y3' : ∀ W, Below W3.heap.size W3 W → W.cell? ⟨ba, o + 3, none⟩ = some (.string nm') := fun W hW => y3 W (up W hW)
    have y4' : ∀ W, Below W3.heap.size W3 W → W.cell? ⟨ba, o + 4, none⟩ = some (.slice A' ks'.length c') := fun W hW => y4 W (up W hW)
    have z4' : ∀ W, Below W3.heap.size W3 W → W.cell? ⟨g, 4, none⟩ = some (.slice (some ⟨ba, o, none⟩) 1 c) := fun W hW => z4 W (up W hW)
    have zo' : ∀ W, Below W3.heap.size W3 W → W.cell? ⟨g + 1, 0, none⟩ = some (.int .i64 3) := fun W hW => zo W (up W hW)
    have HUp := Lib.hid up
    have hsc : (Sa.extract 1 Sa.size).size ≤ 21 := by rw [ByteArray.size_extract]; omega
    have ql1 : (⟨#[32, 45, 32]⟩ : ByteArray).size = 3 := rfl
    have q0 : (S1 ++ ⟨#[32, 45, 32]⟩ : ByteArray).size ≤ 24003 := by rw [ByteArray.size_append]; omega
    have q1 : ((S1 ++ ⟨#[32, 45, 32]⟩) ++ Sa.extract 1 Sa.size : ByteArray).size ≤ 24024 := by rw [ByteArray.size_append]; omega
    clear hneg HE1 HE2 y0 y1 y2 y3 y4 z1 z3 z4 zo up
    go_upto_region 22 with fail
    refine flow_begin (tellOf [(5, det (.string S1))]) (by kernel_rfl) (by kernel_rfl) ?_
    repeat (first | (refine flow_val (v := ?_) (by rfl) (by rfl) (fun w hb => ?_) ?_; rotate_left; (· ((go_simp) <;> ((repeat' apply And.intro) <;> with_reducible rfl))); try simp only [Act.put, List.setIfInBounds_toArray, List.set_cons_zero, List.set_cons_succ, Nat.reduceAdd]) | (refine flow_val (v := ?_) (by rfl) (by rfl) (fun w hb => ?_) ?_; rotate_left; (· (go_simp; (refine (if_neg ?_).trans ?_); (· omega); (· with_reducible rfl))); try simp only [Act.put, List.setIfInBounds_toArray, List.set_cons_zero, List.set_cons_succ, Nat.reduceAdd]) | (refine flow_skip (by rfl) (by rfl) ?_; try simp only [Act.put, List.setIfInBounds_toArray, List.set_cons_zero, List.set_cons_succ, Nat.reduceAdd]))
    refine flow_call (f := ?_) (args := ?_) [] (by kernel_rfl) (by rfl) (by rfl) (fun w hb => ?_) (fun w hb hu => ?_) ?_; rotate_left 2; (· ((go_simp) <;> ((repeat' apply And.intro) <;> with_reducible rfl)))
    ·refine (HJ.out _ (HB2.out.trans ((HUp.out _ hb).mono HBs2.out))).mono ?_
     rintro e w' ⟨rfl, hb'⟩
     exact ⟨by rw [hS1], hb'⟩
    try simp only [Act.put, List.setIfInBounds_toArray, List.set_cons_zero, List.set_cons_succ, Nat.reduceAdd]
    repeat (first | (refine flow_val (v := ?_) (by rfl) (by rfl) (fun w hb => ?_) ?_; rotate_left; (· ((go_simp) <;> ((repeat' apply And.intro) <;> with_reducible rfl))); try simp only [Act.put, List.setIfInBounds_toArray, List.set_cons_zero, List.set_cons_succ, Nat.reduceAdd]) | (refine flow_val (v := ?_) (by rfl) (by rfl) (fun w hb => ?_) ?_; rotate_left; (· (go_simp; (refine (if_neg ?_).trans ?_); (· omega); (· with_reducible rfl))); try simp only [Act.put, List.setIfInBounds_toArray, List.set_cons_zero, List.set_cons_succ, Nat.reduceAdd]) | (refine flow_skip (by rfl) (by rfl) ?_; try simp only [Act.put, List.setIfInBounds_toArray, List.set_cons_zero, List.set_cons_succ, Nat.reduceAdd]))
    refine flow_val (v := .string (Sa.extract 1 Sa.size)) (by rfl) (by rfl) (fun w hb => ?_) ?_
    ·go_simp
     exact fun h => absurd h (by omega)
    try simp only [Act.put, List.setIfInBounds_toArray, List.set_cons_zero, List.set_cons_succ, Nat.reduceAdd]
    repeat (first | (refine flow_val (v := ?_) (by rfl) (by rfl) (fun w hb => ?_) ?_; rotate_left; (· ((go_simp) <;> ((repeat' apply And.intro) <;> with_reducible rfl))); try simp only [Act.put, List.setIfInBounds_toArray, List.set_cons_zero, List.set_cons_succ, Nat.reduceAdd]) | (refine flow_val (v := ?_) (by rfl) (by rfl) (fun w hb => ?_) ?_; rotate_left; (· (go_simp; (refine (if_neg ?_).trans ?_); (· omega); (· with_reducible rfl))); try simp only [Act.put, List.setIfInBounds_toArray, List.set_cons_zero, List.set_cons_succ, Nat.reduceAdd]) | (refine flow_skip (by rfl) (by rfl) ?_; try simp only [Act.put, List.setIfInBounds_toArray, List.set_cons_zero, List.set_cons_succ, Nat.reduceAdd]))
    refine flow_nil fun W4 hb4 _ => ?_
    have HB4 := Lib.hid (HUp.out _ hb4)
    clear hb4 y0' y1' y2' y3' y4' z4' zo' w1
    go_wp2_with fail
    go_meet
    exact ⟨by rw [HE.out], HB4⟩
   ·have HLx : Hid ((str (fshT 2 x)).size ≤ 24000) := HLen.out x (by simp) 2
    have HIx := Lib.hid (IH.out x (by simp) 2 (by omega))
    have hcl : ∃ T1, T1 = fshT 2 x := ⟨_, rfl⟩
    obtain ⟨T1, hT1⟩ := hcl
    have HT1 := Lib.hid hT1
    rw [← hT1] at HLx HIx
    clear hT1
    have HY3 : Hid (Box W2 (g + 1) 3 #[.int .i64 2]) := HY2.out
    obtain ⟨k', a', b', nm', A', c', ks'⟩ := x
    obtain ⟨ba, o, rfl, hba, hcs⟩ := fkid_cells HRow.out
    have hBa : ba < W2.heap.size := by have := HBs2.out; omega
    have y0 : ∀ W, Below W2.heap.size W2 W → W.cell? ⟨ba, o, none⟩ = some (.int .i64 k') := fun W hW => (hcs W (HB2.out.trans (hW.mono HBs2.out))).1
    have y1 : ∀ W, Below W2.heap.size W2 W → W.cell? ⟨ba, o + 1, none⟩ = some (.int .i64 a') := fun W hW => (hcs W (HB2.out.trans (hW.mono HBs2.out))).2.1
    have y2 : ∀ W, Below W2.heap.size W2 W → W.cell? ⟨ba, o + 2, none⟩ = some (.int .i64 b') := fun W hW => (hcs W (HB2.out.trans (hW.mono HBs2.out))).2.2.1
    have y3 : ∀ W, Below W2.heap.size W2 W → W.cell? ⟨ba, o + 3, none⟩ = some (.string nm') := fun W hW => (hcs W (HB2.out.trans (hW.mono HBs2.out))).2.2.2.1
    have y4 : ∀ W, Below W2.heap.size W2 W → W.cell? ⟨ba, o + 4, none⟩ = some (.slice A' ks'.length c') := fun W hW => (hcs W (HB2.out.trans (hW.mono HBs2.out))).2.2.2.2
    have z1 : ∀ W, Below W2.heap.size W2 W → W.cell? ⟨g, 1, none⟩ = some (.int .i64 a) := fun W hW => (HX2.out.below hW).cell 1
    have z3 : ∀ W, Below W2.heap.size W2 W → W.cell? ⟨g, 3, none⟩ = some (.string nm) := fun W hW => (HX2.out.below hW).cell 3
    have z4 : ∀ W, Below W2.heap.size W2 W → W.cell? ⟨g, 4, none⟩ = some (.slice (some ⟨ba, o, none⟩) 1 c) := fun W hW => (HX2.out.below hW).cell 4
    have zo : ∀ W, Below W2.heap.size W2 W → W.cell? ⟨g + 1, 0, none⟩ = some (.int .i64 2) := fun W hW => (HY3.out.below hW).cell 0
    have HJ : Hid (∀ W, Below B w0 W → Calls Tryz.prog 38 #[.agg #[.int .i64 k', .int .i64 a', .int .i64 b', .string nm', .slice A' ks'.length c'], .int .i64 2] W (FShQ T1 W)) := HIx.out
    clear hcs hba IH HLen HRow HND HIx
    have HE : Hid (str T = ((⟨#[111, 110, 32]⟩ ++ Sa) ++ ⟨#[32]⟩) ++ str T1) := by unfold Hid; rw [HT.out, fsB_8, HT1.out, HSa.out]
    have hLx := HLx.out
    generalize hS1 : str T1 = S1 at *
    have rl1 : (⟨#[111, 110, 32]⟩ : ByteArray).size = 3 := rfl
    have r0 : (⟨#[111, 110, 32]⟩ ++ Sa : ByteArray).size ≤ 24 := by rw [ByteArray.size_append]; omega
    have r1 : ((⟨#[111, 110, 32]⟩ ++ Sa) ++ ⟨#[32]⟩ : ByteArray).size ≤ 25 := by rw [ByteArray.size_append]; omega
    have r2 : (((⟨#[111, 110, 32]⟩ ++ Sa) ++ ⟨#[32]⟩) ++ S1 : ByteArray).size ≤ 24025 := by rw [ByteArray.size_append]; omega
    clear HT
    go_upto_region 24 with fail
    refine flow_begin (tellOf [(8, det (.string S1))]) (by kernel_rfl) (by kernel_rfl) ?_
    repeat (first | (refine flow_val (v := ?_) (by rfl) (by rfl) (fun w hb => ?_) ?_; rotate_left; (· ((go_simp) <;> ((repeat' apply And.intro) <;> with_reducible rfl))); try simp only [Act.put, List.setIfInBounds_toArray, List.set_cons_zero, List.set_cons_succ, Nat.reduceAdd]) | (refine flow_val (v := ?_) (by rfl) (by rfl) (fun w hb => ?_) ?_; rotate_left; (· (go_simp; (refine (if_neg ?_).trans ?_); (· omega); (· with_reducible rfl))); try simp only [Act.put, List.setIfInBounds_toArray, List.set_cons_zero, List.set_cons_succ, Nat.reduceAdd]) | (refine flow_skip (by rfl) (by rfl) ?_; try simp only [Act.put, List.setIfInBounds_toArray, List.set_cons_zero, List.set_cons_succ, Nat.reduceAdd]))
    refine flow_call (f := ?_) (args := ?_) [] (by kernel_rfl) (by rfl) (by rfl) (fun w hb => ?_) (fun w hb hu => ?_) ?_; rotate_left 2; (· ((go_simp) <;> ((repeat' apply And.intro) <;> with_reducible rfl)))
    ·refine (HJ.out _ (HB2.out.trans (hb.mono HBs2.out))).mono ?_
     rintro e w' ⟨rfl, hb'⟩
     exact ⟨by rw [hS1], hb'⟩
    try simp only [Act.put, List.setIfInBounds_toArray, List.set_cons_zero, List.set_cons_succ, Nat.reduceAdd]
    repeat (first | (refine flow_val (v := ?_) (by rfl) (by rfl) (fun w hb => ?_) ?_; rotate_left; (· ((go_simp) <;> ((repeat' apply And.intro) <;> with_reducible rfl))); try simp only [Act.put, List.setIfInBounds_toArray, List.set_cons_zero, List.set_cons_succ, Nat.reduceAdd]) | (refine flow_val (v := ?_) (by rfl) (by rfl) (fun w hb => ?_) ?_; rotate_left; (· (go_simp; (refine (if_neg ?_).trans ?_); (· omega); (· with_reducible rfl))); try simp only [Act.put, List.setIfInBounds_toArray, List.set_cons_zero, List.set_cons_succ, Nat.reduceAdd]) | (refine flow_skip (by rfl) (by rfl) ?_; try simp only [Act.put, List.setIfInBounds_toArray, List.set_cons_zero, List.set_cons_succ, Nat.reduceAdd]))
    refine flow_nil fun W3 hb3 _ => ?_
    have HB3 := Lib.hid hb3
    clear hb3 y0 y1 y2 y3 y4 z1 z3 z4 zo
    go_wp2_with fail
    go_meet
    exact ⟨by rw [HE.out], HB3⟩
   ·have HLx : Hid ((str (fshT 2 x)).size ≤ 24000) := HLen.out x (by simp) 2
    have HIx := Lib.hid (IH.out x (by simp) 2 (by omega))
    have hcl : ∃ T1, T1 = fshT 2 x := ⟨_, rfl⟩
    obtain ⟨T1, hT1⟩ := hcl
    have HT1 := Lib.hid hT1
    rw [← hT1] at HLx HIx
    clear hT1
    have HY3 : Hid (Box W2 (g + 1) 3 #[.int .i64 2]) := HY2.out
    obtain ⟨k', a', b', nm', A', c', ks'⟩ := x
    obtain ⟨ba, o, rfl, hba, hcs⟩ := fkid_cells HRow.out
    have hBa : ba < W2.heap.size := by have := HBs2.out; omega
    have y0 : ∀ W, Below W2.heap.size W2 W → W.cell? ⟨ba, o, none⟩ = some (.int .i64 k') := fun W hW => (hcs W (HB2.out.trans (hW.mono HBs2.out))).1
    have y1 : ∀ W, Below W2.heap.size W2 W → W.cell? ⟨ba, o + 1, none⟩ = some (.int .i64 a') := fun W hW => (hcs W (HB2.out.trans (hW.mono HBs2.out))).2.1
    have y2 : ∀ W, Below W2.heap.size W2 W → W.cell? ⟨ba, o + 2, none⟩ = some (.int .i64 b') := fun W hW => (hcs W (HB2.out.trans (hW.mono HBs2.out))).2.2.1
    have y3 : ∀ W, Below W2.heap.size W2 W → W.cell? ⟨ba, o + 3, none⟩ = some (.string nm') := fun W hW => (hcs W (HB2.out.trans (hW.mono HBs2.out))).2.2.2.1
    have y4 : ∀ W, Below W2.heap.size W2 W → W.cell? ⟨ba, o + 4, none⟩ = some (.slice A' ks'.length c') := fun W hW => (hcs W (HB2.out.trans (hW.mono HBs2.out))).2.2.2.2
    have z1 : ∀ W, Below W2.heap.size W2 W → W.cell? ⟨g, 1, none⟩ = some (.int .i64 a) := fun W hW => (HX2.out.below hW).cell 1
    have z3 : ∀ W, Below W2.heap.size W2 W → W.cell? ⟨g, 3, none⟩ = some (.string nm) := fun W hW => (HX2.out.below hW).cell 3
    have z4 : ∀ W, Below W2.heap.size W2 W → W.cell? ⟨g, 4, none⟩ = some (.slice (some ⟨ba, o, none⟩) 1 c) := fun W hW => (HX2.out.below hW).cell 4
    have zo : ∀ W, Below W2.heap.size W2 W → W.cell? ⟨g + 1, 0, none⟩ = some (.int .i64 2) := fun W hW => (HY3.out.below hW).cell 0
    have HJ : Hid (∀ W, Below B w0 W → Calls Tryz.prog 38 #[.agg #[.int .i64 k', .int .i64 a', .int .i64 b', .string nm', .slice A' ks'.length c'], .int .i64 2] W (FShQ T1 W)) := HIx.out
    clear hcs hba IH HLen HRow HND HIx
    have HE : Hid (str T = ((((((⟨#[110, 116, 104, 32]⟩ ++ Sa) ++ ⟨#[32, 105, 110, 32]⟩) ++ nm) ++ ⟨#[32]⟩) ++ Sb) ++ ⟨#[32]⟩) ++ str T1) := by unfold Hid; rw [HT.out, fsB_12, HT1.out, HSa.out, HSb.out]
    have hLx := HLx.out
    generalize hS1 : str T1 = S1 at *
    have rl1 : (⟨#[110, 116, 104, 32]⟩ : ByteArray).size = 4 := rfl
    have rl2 : (⟨#[32, 105, 110, 32]⟩ : ByteArray).size = 4 := rfl
    have r0 : (⟨#[110, 116, 104, 32]⟩ ++ Sa : ByteArray).size ≤ 25 := by rw [ByteArray.size_append]; omega
    have r1 : ((⟨#[110, 116, 104, 32]⟩ ++ Sa) ++ ⟨#[32, 105, 110, 32]⟩ : ByteArray).size ≤ 29 := by rw [ByteArray.size_append]; omega
    have r2 : (((⟨#[110, 116, 104, 32]⟩ ++ Sa) ++ ⟨#[32, 105, 110, 32]⟩) ++ nm : ByteArray).size ≤ 59 := by rw [ByteArray.size_append]; omega
    have r3 : ((((⟨#[110, 116, 104, 32]⟩ ++ Sa) ++ ⟨#[32, 105, 110, 32]⟩) ++ nm) ++ ⟨#[32]⟩ : ByteArray).size ≤ 60 := by rw [ByteArray.size_append]; omega
    have r4 : (((((⟨#[110, 116, 104, 32]⟩ ++ Sa) ++ ⟨#[32, 105, 110, 32]⟩) ++ nm) ++ ⟨#[32]⟩) ++ Sb : ByteArray).size ≤ 81 := by rw [ByteArray.size_append]; omega
    have r5 : ((((((⟨#[110, 116, 104, 32]⟩ ++ Sa) ++ ⟨#[32, 105, 110, 32]⟩) ++ nm) ++ ⟨#[32]⟩) ++ Sb) ++ ⟨#[32]⟩ : ByteArray).size ≤ 82 := by rw [ByteArray.size_append]; omega
    have r6 : (((((((⟨#[110, 116, 104, 32]⟩ ++ Sa) ++ ⟨#[32, 105, 110, 32]⟩) ++ nm) ++ ⟨#[32]⟩) ++ Sb) ++ ⟨#[32]⟩) ++ S1 : ByteArray).size ≤ 24082 := by rw [ByteArray.size_append]; omega
    clear HT
    go_upto_region 6 with fail
    refine flow_begin (tellOf [(15, det (.string S1))]) (by kernel_rfl) (by kernel_rfl) ?_
    repeat (first | (refine flow_val (v := ?_) (by rfl) (by rfl) (fun w hb => ?_) ?_; rotate_left; (· ((go_simp) <;> ((repeat' apply And.intro) <;> with_reducible rfl))); try simp only [Act.put, List.setIfInBounds_toArray, List.set_cons_zero, List.set_cons_succ, Nat.reduceAdd]) | (refine flow_val (v := ?_) (by rfl) (by rfl) (fun w hb => ?_) ?_; rotate_left; (· (go_simp; (refine (if_neg ?_).trans ?_); (· omega); (· with_reducible rfl))); try simp only [Act.put, List.setIfInBounds_toArray, List.set_cons_zero, List.set_cons_succ, Nat.reduceAdd]) | (refine flow_skip (by rfl) (by rfl) ?_; try simp only [Act.put, List.setIfInBounds_toArray, List.set_cons_zero, List.set_cons_succ, Nat.reduceAdd]))
    refine flow_call (f := ?_) (args := ?_) [] (by kernel_rfl) (by rfl) (by rfl) (fun w hb => ?_) (fun w hb hu => ?_) ?_; rotate_left 2; (· ((go_simp) <;> ((repeat' apply And.intro) <;> with_reducible rfl)))
    ·refine (HJ.out _ (HB2.out.trans (hb.mono HBs2.out))).mono ?_
     rintro e w' ⟨rfl, hb'⟩
     exact ⟨by rw [hS1], hb'⟩
    try simp only [Act.put, List.setIfInBounds_toArray, List.set_cons_zero, List.set_cons_succ, Nat.reduceAdd]
    repeat (first | (refine flow_val (v := ?_) (by rfl) (by rfl) (fun w hb => ?_) ?_; rotate_left; (· ((go_simp) <;> ((repeat' apply And.intro) <;> with_reducible rfl))); try simp only [Act.put, List.setIfInBounds_toArray, List.set_cons_zero, List.set_cons_succ, Nat.reduceAdd]) | (refine flow_val (v := ?_) (by rfl) (by rfl) (fun w hb => ?_) ?_; rotate_left; (· (go_simp; (refine (if_neg ?_).trans ?_); (· omega); (· with_reducible rfl))); try simp only [Act.put, List.setIfInBounds_toArray, List.set_cons_zero, List.set_cons_succ, Nat.reduceAdd]) | (refine flow_skip (by rfl) (by rfl) ?_; try simp only [Act.put, List.setIfInBounds_toArray, List.set_cons_zero, List.set_cons_succ, Nat.reduceAdd]))
    refine flow_nil fun W3 hb3 _ => ?_
    have HB3 := Lib.hid hb3
    clear hb3 y0 y1 y2 y3 y4 z1 z3 z4 zo
    go_wp2_with fail
    go_meet
    exact ⟨by rw [HE.out], HB3⟩
   ·have h4 : W2.cell? ⟨g, 4, none⟩ = some (.slice A 2 c) := HX2.out.cell 4
    have ho := HY2.out.cell 0
    have hx := HLen.out x (by simp)
    have hy := HLen.out y (by simp)
    have HIx := IH.out x (by simp)
    have HIy := IH.out y (by simp)
    have z0 : W2.cell? ⟨g, 0, none⟩ = some (.int .i64 k) := HX2.out.cell 0
    rcases hb with rfl | rfl | rfl
    ·have hx1 := hx 0
     have hy1 := hy 1
     have hsz : ((((str (fshT 0 x) ++ ⟨#[32]⟩) ++ str [111, 114]) ++ ⟨#[32]⟩) ++ str (fshT 1 y) : ByteArray).size ≤ 60000 := by
      have : (str [111, 114] : ByteArray).size ≤ 3 := by decide
      simp only [ByteArray.size_append, l1]; omega
     have HTw : Hid (Calls Tryz.prog 65 #[.string ⟨#[111, 114]⟩, .pointer (some ⟨g, 0, none⟩), .pointer (some ⟨g + 1, 0, none⟩)] W2 fun e w' => e = .returned (.string ((((str (fshT 0 x) ++ ⟨#[32]⟩) ++ str [111, 114]) ++ ⟨#[32]⟩) ++ str (fshT 1 y))) ∧ Below W2.heap.size W2 w') :=
      ftwo_any w0 B HBq.out W2 HB2 g (g + 1) A c x y 0 (by omega) _ _ [111, 114] HRow.out h4 ho (HIx 0 (by omega)) (HIy 1 (by omega)) hsz
     have HE : Hid (str T = (((str (fshT 0 x) ++ ⟨#[32]⟩) ++ str [111, 114]) ++ ⟨#[32]⟩) ++ str (fshT 1 y)) := by unfold Hid; rw [HT.out, fsB_bin 9 a b (by omega)]; rfl
     clear hx1 hy1 hsz h4 ho hx hy HIx HIy HT HRow IH HLen HND
     generalize (((str (fshT 0 x) ++ ⟨#[32]⟩) ++ str [111, 114]) ++ ⟨#[32]⟩) ++ str (fshT 1 y) = R at *
     go_wp2_with (go_at_call 65; refine HTw.out.mono ?_; rintro e w' ⟨rfl, hb'⟩)
     go_meet
     exact ⟨by rw [HE.out], hb'⟩
    ·have hx1 := hx 1
     have hy1 := hy 2
     have hsz : ((((str (fshT 1 x) ++ ⟨#[32]⟩) ++ str [97, 110, 100]) ++ ⟨#[32]⟩) ++ str (fshT 2 y) : ByteArray).size ≤ 60000 := by
      have : (str [97, 110, 100] : ByteArray).size ≤ 3 := by decide
      simp only [ByteArray.size_append, l1]; omega
     have HTw : Hid (Calls Tryz.prog 65 #[.string ⟨#[97, 110, 100]⟩, .pointer (some ⟨g, 0, none⟩), .pointer (some ⟨g + 1, 0, none⟩)] W2 fun e w' => e = .returned (.string ((((str (fshT 1 x) ++ ⟨#[32]⟩) ++ str [97, 110, 100]) ++ ⟨#[32]⟩) ++ str (fshT 2 y))) ∧ Below W2.heap.size W2 w') :=
      ftwo_any w0 B HBq.out W2 HB2 g (g + 1) A c x y 1 (by omega) _ _ [97, 110, 100] HRow.out h4 ho (HIx 1 (by omega)) (HIy 2 (by omega)) hsz
     have HE : Hid (str T = (((str (fshT 1 x) ++ ⟨#[32]⟩) ++ str [97, 110, 100]) ++ ⟨#[32]⟩) ++ str (fshT 2 y)) := by unfold Hid; rw [HT.out, fsB_bin 10 a b (by omega)]; rfl
     clear hx1 hy1 hsz h4 ho hx hy HIx HIy HT HRow IH HLen HND
     generalize (((str (fshT 1 x) ++ ⟨#[32]⟩) ++ str [97, 110, 100]) ++ ⟨#[32]⟩) ++ str (fshT 2 y) = R at *
     go_wp2_with (go_at_call 65; refine HTw.out.mono ?_; rintro e w' ⟨rfl, hb'⟩)
     go_meet
     exact ⟨by rw [HE.out], hb'⟩
    ·have hx1 := hx 1
     have hy1 := hy 2
     have hsz : ((((str (fshT 1 x) ++ ⟨#[32]⟩) ++ str [110, 111, 116]) ++ ⟨#[32]⟩) ++ str (fshT 2 y) : ByteArray).size ≤ 60000 := by
      have : (str [110, 111, 116] : ByteArray).size ≤ 3 := by decide
      simp only [ByteArray.size_append, l1]; omega
     have HTw : Hid (Calls Tryz.prog 65 #[.string ⟨#[110, 111, 116]⟩, .pointer (some ⟨g, 0, none⟩), .pointer (some ⟨g + 1, 0, none⟩)] W2 fun e w' => e = .returned (.string ((((str (fshT 1 x) ++ ⟨#[32]⟩) ++ str [110, 111, 116]) ++ ⟨#[32]⟩) ++ str (fshT 2 y))) ∧ Below W2.heap.size W2 w') :=
      ftwo_any w0 B HBq.out W2 HB2 g (g + 1) A c x y 1 (by omega) _ _ [110, 111, 116] HRow.out h4 ho (HIx 1 (by omega)) (HIy 2 (by omega)) hsz
     have HE : Hid (str T = (((str (fshT 1 x) ++ ⟨#[32]⟩) ++ str [110, 111, 116]) ++ ⟨#[32]⟩) ++ str (fshT 2 y)) := by unfold Hid; rw [HT.out, fsB_bin 11 a b (by omega)]; rfl
     clear hx1 hy1 hsz h4 ho hx hy HIx HIy HT HRow IH HLen HND
     generalize (((str (fshT 1 x) ++ ⟨#[32]⟩) ++ str [110, 111, 116]) ++ ⟨#[32]⟩) ++ str (fshT 2 y) = R at *
     go_wp2_with (go_at_call 65; refine HTw.out.mono ?_; rintro e w' ⟨rfl, hb'⟩)
     go_meet
     exact ⟨by rw [HE.out], hb'⟩
  case rest =>
  obtain ⟨rfl, hbx⟩ := hcut
  have HBe : Hid (Below g w wc) := HBw.out.trans (hbx.out.mono (by have := HBw.out.size; have := HG.out; omega))
  have yo : wc.cell? ⟨g + 1, 0, none⟩ = some (.int .i64 (fLev k : Int)) := (HY2.out.below hbx.out).cell 0
  by_cases hlt : fLev k < L
  ·have t1 : decide ((fLev k : Int) < (L : Int)) = true := decide_eq_true (by omega)
   have q1 := HTl.out
   have q2 : (⟨#[40]⟩ ++ str T : ByteArray).size ≤ 24001 := by rw [ByteArray.size_append, show (⟨#[40]⟩ : ByteArray).size = 1 from rfl]; omega
   have HR := Lib.hid (fpar_yes L k T hlt)
   have t2 : decide (fLev k < L) = true := decide_eq_true hlt
   generalize fLev k = lv at *
   go_wp2_with fail
   go_ret
   exact ⟨by rw [HR.out]; rfl, by rw [HG.out]; exact HBe.out⟩
  ·have t1 : decide ((fLev k : Int) < (L : Int)) = false := decide_eq_false (by omega)
   have HR := Lib.hid (fpar_no L k T hlt)
   have t2 : decide (fLev k < L) = false := decide_eq_false hlt
   generalize fLev k = lv at *
   go_wp2_with fail
   go_ret
   exact ⟨by rw [HR.out]; rfl, by rw [HG.out]; exact HBe.out⟩
end Go.Proofs.YtabidjmmgnkhkaaGreatDoor
/- Contracts of feast.Print, and of Parse at a text that was printed. -/
namespace Go.Proofs.YtabidjmmgnkhkaaGreatDoor
open Go Go.RowKit
set_option linter.unusedVariables false
def FPrintQ (t : FE) (w : World) (e : Ending) (w' : World) : Prop := Below w.heap.size w w' ∧ ((FeGood t ∧ e = .returned (.tuple #[.string (str (fsh t)), .int .i64 0])) ∨ (¬ FeGood t ∧ ∃ E : Int, E ≠ 0 ∧ e = .returned (.tuple #[.string ⟨#[]⟩, .int .i64 E])))
set_option maxHeartbeats 1000000 in
set_option maxRecDepth 100000 in
theorem fprint_any (t : FE) (w : World) (hv : Env w) (hp : Pow w) (hin : FeIn w w.heap.size t) : Calls Tryz.prog 15 #[feV t] w (FPrintQ t w) := by
 have HCk := Lib.hid (fun W (h : Below w.heap.size w W) => fcheck_any t W (hv.next h) (hin.next h h.size))
 have HSh := Lib.hid (fun (hg : FeGood t) W (h : Below w.heap.size w W) => fshow_any w w.heap.size rfl hp t hin hg.ok (by have := hg.sz; omega) 0 (by omega) W h)
 rw [fshT_own 0 t (by omega)] at HSh
 clear hv hp hin
 obtain ⟨t0, ht0⟩ : ∃ t0, t0 = t := ⟨_, rfl⟩
 obtain ⟨k, a, b, nm, A, c, ks⟩ := t
 have hfe : feV t0 = .agg #[.int .i64 k, .int .i64 a, .int .i64 b, .string nm, .slice A ks.length c] := by rw [ht0]; rfl
 rw [← ht0] at HCk HSh ⊢
 rw [hfe] at HCk HSh ⊢
 clear hfe ht0
 have HB := Lib.hid (below_alloc1 w (Obj.cells #[.int .i64 k, .int .i64 a, .int .i64 b, .string nm, .slice A ks.length c] 57))
 have HX := Lib.hid (Box.new w 57 #[.int .i64 k, .int .i64 a, .int .i64 b, .string nm, .slice A ks.length c])
 obtain ⟨x0, x1, x2, x3, x4⟩ := fecells HX.out
 unfold FCheckQ at HCk
 unfold FShQ at HSh
 unfold FPrintQ
 obtain ⟨S, hS⟩ : ∃ S, S = str (fsh t0) := ⟨_, rfl⟩
 rw [← hS] at HSh ⊢
 clear hS
 go_enter Tryz.func15, Tryz.ntmps15
 go_wp2_with fail
 clear x0 x1 x2 x3 x4
 generalize w.alloc (Obj.cells #[.int .i64 k, .int .i64 a, .int .i64 b, .string nm, .slice A ks.length c] 57) = W1 at *
 refine (HCk.out W1 HB.out).mono ?_
 rintro e w2 ⟨E, rfl, hE, hb2⟩
 have HB2 := Lib.hid (below_then HB.out hb2)
 have HX2 := Lib.hid (HX.out.below hb2)
 have HE := Lib.hid hE
 clear hb2 hE HB HX HCk
 by_cases hE0 : E = 0
 case neg =>
  have t1 : (E != 0) = true := by rw [bne_iff_ne]; exact hE0
  have HR : Hid (¬ FeGood t0 ∧ E ≠ 0) := ⟨fun h => hE0 (HE.out.2 h), hE0⟩
  clear hE0 HE HSh
  go_wp2_with fail
  go_ret2
  exact ⟨HB2.out, .inr ⟨HR.out.1, E, HR.out.2, rfl⟩⟩
 subst hE0
 have HGd := Lib.hid (HE.out.1 rfl)
 have HS2 := Lib.hid (HSh.out HGd.out w2 HB2.out)
 clear HE HSh
 obtain ⟨x0, x1, x2, x3, x4⟩ := fecells HX2.out
 go_wp2_with fail
 refine HS2.out.mono ?_
 rintro e w3 ⟨rfl, hb3⟩
 have HB3 := Lib.hid (below_then HB2.out hb3)
 clear hb3 x0 x1 x2 x3 x4 HS2
 go_wp2_with fail
 go_ret2
 exact ⟨HB3.out, .inl ⟨HGd.out, rfl⟩⟩
theorem fparse_yes {f : FE} {w w' : World} {e : Ending} (h : FParseQ (.yes f []) w e w') : ∃ t E, shp t = f ∧ (E = 0 ↔ FeGood t) ∧ ((E = 0 ∧ e = .returned (.tuple #[feV t, .int .i64 0, .int .i64 0]) ∧ FeAt w' (fun b => w.heap.size ≤ b) w'.heap.size t ∧ Below w.heap.size w w') ∨ NoFe E w e w') := by
 simpa only [FParseQ, ↓reduceIte] using h
theorem fparse_rest {f : FE} {l : List UInt8} {w w' : World} {e : Ending} (h : FParseQ (.yes f l) w e w') (hl : l ≠ []) : NoFe 4 w e w' := by
 simpa only [FParseQ, if_neg hl] using h
def FBackQ (t : FE) (w : World) (e : Ending) (w' : World) : Prop := ∃ u, shp u = shp t ∧ FeGood u ∧ e = .returned (.tuple #[feV u, .int .i64 0, .int .i64 0]) ∧ FeIn w' w'.heap.size u ∧ Below w.heap.size w w'
theorem fparse_back (t : FE) (w : World) (hv : Env w) (hg : FeGood t) (hS : (str (fsh t)).size ≤ 600) : Calls Tryz.prog 16 #[.string (str (fsh t))] w (FBackQ t w) := by
 obtain ⟨n, hn⟩ := rd_back hg
 rw [← str_data (fsh t)] at hn
 refine (fparse_any (str (fsh t)) w hv hS n _ hn).mono ?_
 intro e w' h
 obtain ⟨u, E, hu, hE, h⟩ := fparse_yes h
 have hgu : FeGood u := hg.same hu.symm
 rcases h with ⟨_, he, hat, hb⟩ | ⟨_, _, hne, _⟩
 ·exact ⟨u, hu, hgu, he, hat.in_, hb⟩
 ·exact absurd (hE.2 hgu) hne
theorem fsh_same {t u : FE} (h : shp u = shp t) (ht : FeGood t) (hu : FeGood u) : fsh u = fsh t := by rw [← fsh_shp hu.ok, ← fsh_shp ht.ok, h]
theorem fparse_or (S : ByteArray) (w : World) (hv : Env w) (hS : S.size ≤ 600) : ∃ n r, rd n (.ex 0) 0 (sk S.data.toList) = some r ∧ Calls Tryz.prog 16 #[.string S] w (FParseQ r w) := by
 have h := rd_total (8 * (sk S.data.toList).length + rank (.ex 0) + 1) (.ex 0) 0 (sk S.data.toList) (by show (0 : Nat) ≤ 2; omega) (by omega)
 obtain ⟨r, hr⟩ := Option.ne_none_iff_exists'.1 h
 exact ⟨_, r, hr, fparse_any S w hv hS _ r hr⟩
end Go.Proofs.YtabidjmmgnkhkaaGreatDoor
