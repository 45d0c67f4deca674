/- rule.Print, walked. -/
import Derived.Test.YtbmbphikjainiaaDoorShow2
import Derived.Test.YtbmbphikjainiaaDoorParseA
import Derived.Test.YtbmbphikjainiaaDoorBuild1
import Derived.Test.YtbmbphikjainiaaDoorBuild2
namespace Go.Proofs.YtbmbphikjainiaaDoor
open Go.RowKit
set_option linter.unusedVariables false

def headP (t : Tr) : List UInt8 := [99, 97, 108, 101, 110, 100, 97, 114, 32] ++ t.nm.data.toList ++ [10, 101, 112, 111, 99, 104, 32] ++ Lib.itoa t.ep ++ [10, 99, 121, 99, 108, 101, 32] ++ Lib.itoa t.cy ++ [10, 108, 101, 97, 112, 32] ++ shB t.ex ++ [10]
def monN (m : Mth) : List UInt8 := monL m ++ [10]
def printR (t : Tr) : List UInt8 := headP t ++ t.mo.flatMap monN
def RTof (t : Tr) : RT := ⟨t.nm.data.toList, t.ep, t.cy, [108, 101, 97, 112, 32] ++ shB t.ex, t.mo⟩
theorem rest_mons (t : RT) : ∀ (j k : Nat), k + j = t.mo.length → t.rest (4 + k) = (t.mo.drop k).flatMap monN := by
  intro j
  induction j with
  | zero =>
    intro k hk
    obtain rfl : k = t.mo.length := by omega
    rw [RT.done, List.drop_length]
    rfl
  | succ j ih =>
    intro k hk
    rw [t.step (4 + k) (by omega), show 4 + k + 1 = 4 + (k + 1) from by omega, ih (k + 1) (by omega), List.drop_eq_getElem_cons (show k < t.mo.length by omega), List.flatMap_cons]
    have e : t.line (4 + k) = monL t.mo[k] := by
      unfold RT.line
      rw [if_neg (by omega), if_neg (by omega), if_neg (by omega), if_neg (by omega), show 4 + k - 4 = k from by omega]
      simp [List.getD, List.getElem?_eq_getElem (show k < t.mo.length by omega)]
    rw [e]
    unfold monN
    simp
theorem printR_rest (t : Tr) : printR t = (RTof t).rest 0 := by
  rw [(RTof t).step 0 (by omega), (RTof t).step 1 (by omega), (RTof t).step 2 (by omega), (RTof t).step 3 (by omega), show (3 + 1 : Nat) = 4 + 0 from rfl, rest_mons (RTof t) _ 0 (Nat.zero_add _)]
  unfold printR headP RT.line RTof
  simp
theorem name_data {s : ByteArray} (h : NameOk s) : s.data.toList.length ≤ 12 := by
  have := h.2.1
  rw [Array.length_toList]
  exact this
theorem headP_len (t : Tr) (h : TrOk t) : (headP t).length ≤ 1500 := by
  have h1 := name_data h.hd.1
  have h2 := Lib.itoa_length_le t.ep (by have := h.hd.2.1; omega) (by have := h.hd.2.1; omega)
  have h3 := Lib.itoa_length_le t.cy (by have := h.hd.2.2; omega) (by have := h.hd.2.2; omega)
  have h4 := shB_len h.ex.1
  have h5 := h.ex.2
  unfold headP
  simp only [List.length_append, List.length_cons, List.length_nil]
  omega
theorem monN_len (m : Mth) (h1 : NameOk m.nm) (h2 : 0 ≤ m.sh ∧ m.sh ≤ 400) (h3 : 0 ≤ m.lo ∧ m.lo ≤ 400) : (monN m).length ≤ 80 := by
  have h1 := name_data h1
  have h4 := Lib.itoa_length_le m.sh (by omega) (by omega)
  have h5 := Lib.itoa_length_le m.lo (by omega) (by omega)
  unfold monN monL
  split <;> simp only [List.length_append, List.length_cons, List.length_nil] <;> omega
def PriQ (t : Tr) (w : World) (e : Ending) (w' : World) : Prop := e = .returned (.tuple #[.string (str (printR t)), .int .i64 0]) ∧ Below w.heap.size w w'
def PriNo (w : World) (e : Ending) (w' : World) : Prop := ∃ E : Int, E ≠ 0 ∧ e = .returned (.tuple #[.string ⟨#[]⟩, .int .i64 E]) ∧ Below w.heap.size w w'
theorem below0 (W : World) : Below W.heap.size W W := Below.refl _ _
end Go.Proofs.YtbmbphikjainiaaDoor
namespace Go.Proofs.YtbmbphikjainiaaDoor
open Go.RowKit
set_option linter.unusedVariables false

theorem str_own' (s : ByteArray) : str s.data.toList = s := by simp [str]
set_option maxRecDepth 100000 in
theorem rprint_no (t : Tr) (w : World) (hin : TrIn w t) (hfit : TrFit t) (hno : ¬ TrOk t) :
    Calls Tryd.prog 6 #[t.val] w (PriNo w) := by
  have HB0 := Lib.hid (below_alloc1 w (Obj.cells t.cells 27))
  have HZ := Lib.hid (fun W (hW : Below w.heap.size w W) => trcheck_any t W (hin.next hW) hfit)
  have HNO := Lib.hid hno
  clear hin hno hfit
  unfold PriNo
  unfold Tr.val Tr.cells at *
  go_enter Tryd.func6, Tryd.ntmps6
  go_wp2_with fail
  refine (HZ.out _ HB0.out).mono ?_
  rintro e w1 ⟨E, rfl, hE, hb⟩
  have hE0 : E ≠ 0 := fun h => HNO.out (hE.1 h)
  have t1 : (E != 0) = true := by rw [bne_iff_ne]; exact hE0
  have HB1 := Lib.hid (below_then HB0.out hb)
  clear hE hb
  go_wp2_with fail
  go_ret2
  exact ⟨E, hE0, rfl, HB1.out⟩
set_option maxHeartbeats 4000000 in
set_option maxRecDepth 100000 in
theorem rprint_yes (t : Tr) (w : World) (hin : TrIn w t) (hfit : TrFit t) (hok : TrOk t) (hs : Sgs w) (hv : Lvs w) (hp : Pow w) :
    Calls Tryd.prog 6 #[t.val] w (PriQ t w) := by
  have hhl := headP_len t hok
  have hl2 := hok.mo.n2
  have hnm : t.nm.size ≤ 12 := hok.hd.1.2.1
  have hep := hok.hd.2.1
  have hcy := hok.hd.2.2
  have hlx : (shB t.ex).length ≤ 1200 := by have h4 := shB_len hok.ex.1; have h5 := hok.ex.2; omega
  have hxx : (str (shB t.ex)).size ≤ 1200 := by rw [str_size]; exact hlx
  have HEP := Lib.hid (fun W (hW : Below w.heap.size w W) => itoa_any t.ep W (by omega) (by omega) (hp.next hW))
  have HCY := Lib.hid (fun W (hW : Below w.heap.size w W) => itoa_any t.cy W (by omega) (by omega) (hp.next hW))
  have hpow := Lib.hid (fun W (hW : Below w.heap.size w W) => hp.next hW)
  have HSH : Hid (∀ W, Below w.heap.size w W → Calls Tryd.prog 17 #[.agg #[.int .i64 t.k, .int .i64 t.n, .slice t.A t.ks.length t.c], .int .i64 0] W (fun e w' => e = .returned (.string (str (shB t.ex))) ∧ Below W.heap.size W w')) := fun W hW => by
    have h := show_any w w.heap.size rfl hs hv hp t.ex hin.ex hok.ex.1 (by have h5 := hok.ex.2; omega) 0 (by omega) W hW
    refine h.mono ?_
    rintro e w' ⟨rfl, hb⟩
    refine ⟨?_, hb⟩
    unfold shT
    rw [parB_no 0 _ _ (by omega)]
  have HCK := Lib.hid (fun W (hW : Below w.heap.size w W) => trcheck_any t W (hin.next hW) hfit)
  have HRW := Lib.hid (fun W (hW : Below w.heap.size w W) => (hin.next hW).r1)
  have HOK := Lib.hid hok
  have HFT := Lib.hid hfit
  have HB0 := Lib.hid (below_alloc1 w (Obj.cells t.cells 27))
  have HX := Lib.hid (Box.new w 27 t.cells)
  have HEH : Hid (str (headP t) = ((((((((⟨#[99, 97, 108, 101, 110, 100, 97, 114, 32]⟩ ++ t.nm) ++ ⟨#[10, 101, 112, 111, 99, 104, 32]⟩) ++ str (Lib.itoa t.ep)) ++ ⟨#[10, 99, 121, 99, 108, 101, 32]⟩) ++ str (Lib.itoa t.cy)) ++ ⟨#[10, 108, 101, 97, 112, 32]⟩) ++ str (shB t.ex)) ++ ⟨#[10]⟩)) := by
    unfold headP
    rw [show (⟨#[99, 97, 108, 101, 110, 100, 97, 114, 32]⟩ : ByteArray) = str [99, 97, 108, 101, 110, 100, 97, 114, 32] from rfl, show (⟨#[10, 101, 112, 111, 99, 104, 32]⟩ : ByteArray) = str [10, 101, 112, 111, 99, 104, 32] from rfl, show (⟨#[10, 99, 121, 99, 108, 101, 32]⟩ : ByteArray) = str [10, 99, 121, 99, 108, 101, 32] from rfl, show (⟨#[10, 108, 101, 97, 112, 32]⟩ : ByteArray) = str [10, 108, 101, 97, 112, 32] from rfl, show (⟨#[10]⟩ : ByteArray) = str [10] from rfl]
    conv => rhs; rw [← str_own' t.nm]
    simp only [str_append]
    unfold Hid
    rfl
  have u1 := itoa_size t.ep (by omega) (by omega)
  have u2 := itoa_size t.cy (by omega) (by omega)
  clear hin hfit hok hs hv hp hep hcy
  unfold PriQ
  unfold printR
  unfold Tr.val Tr.cells at *
  go_enter Tryd.func6, Tryd.ntmps6
  go_wp2_with fail
  generalize w.alloc (Obj.cells #[.string t.nm, .int .i64 t.ep, .int .i64 t.cy, .int .i64 t.k, .int .i64 t.n, .slice t.A t.ks.length t.c, .slice t.A1 t.mo.length t.c1] 27) = W0 at *
  generalize hg : w.heap.size = g at *
  have HG := Lib.hid hg
  clear hg
  refine (HCK.out W0 HB0.out).mono ?_
  rintro e w1 ⟨E, rfl, hE, hb⟩
  obtain rfl : E = 0 := hE.2 HOK.out
  have HX1 := Lib.hid (HX.out.below hb)
  have HB1 := Lib.hid (show Below g w w1 from HB0.out.trans (hb.mono (by have := HX.out.lt; omega)))
  clear hE hb HB0 HX HCK
  go_wp2_with fail
  have HB2 := Lib.hid (HB1.out.alloc (by have h1 := HB1.out.size; have h2 := HG.out; omega) (Obj.cells #[.pointer none, .slice none 0 0] 52))
  have HX2 := Lib.hid (HX1.out.alloc (Obj.cells #[.pointer none, .slice none 0 0] 52))
  have HBD := Lib.hid (bld_new w1)
  have hgb : g < w1.heap.size := HX1.out.lt
  generalize w1.alloc (Obj.cells #[.pointer none, .slice none 0 0] 52) = W2 at *
  generalize w1.heap.size = b at *
  clear HX1 HB1
  have z0 : ∀ W, Below W2.heap.size W2 W → W.cell? ⟨g, 0, none⟩ = some (.string t.nm) := fun W hW => (HX2.out.below hW).cell 0
  have z1 : ∀ W, Below W2.heap.size W2 W → W.cell? ⟨g, 1, none⟩ = some (.int .i64 t.ep) := fun W hW => (HX2.out.below hW).cell 1
  have z2 : ∀ W, Below W2.heap.size W2 W → W.cell? ⟨g, 2, none⟩ = some (.int .i64 t.cy) := fun W hW => (HX2.out.below hW).cell 2
  have z3 : ∀ W, Below W2.heap.size W2 W → W.cell? ⟨g, 3, none⟩ = some (.int .i64 t.k) := fun W hW => (HX2.out.below hW).cell 3
  have z4 : ∀ W, Below W2.heap.size W2 W → W.cell? ⟨g, 4, none⟩ = some (.int .i64 t.n) := fun W hW => (HX2.out.below hW).cell 4
  have z5 : ∀ W, Below W2.heap.size W2 W → W.cell? ⟨g, 5, none⟩ = some (.slice t.A t.ks.length t.c) := fun W hW => (HX2.out.below hW).cell 5
  generalize str (shB t.ex) = sx at *
  generalize str (Lib.itoa t.ep) = se at *
  generalize str (Lib.itoa t.cy) = sc at *
  have c0 : (⟨#[99, 97, 108, 101, 110, 100, 97, 114, 32]⟩ : ByteArray).size = 9 := rfl
  have c1 : (⟨#[10, 101, 112, 111, 99, 104, 32]⟩ : ByteArray).size = 7 := rfl
  have c2 : (⟨#[10, 99, 121, 99, 108, 101, 32]⟩ : ByteArray).size = 7 := rfl
  have c3 : (⟨#[10, 108, 101, 97, 112, 32]⟩ : ByteArray).size = 6 := rfl
  have c4 : (⟨#[10]⟩ : ByteArray).size = 1 := rfl
  have s1 : (⟨#[99, 97, 108, 101, 110, 100, 97, 114, 32]⟩ ++ t.nm : ByteArray).size ≤ 21 := by rw [ByteArray.size_append]; omega
  have s2 : ((⟨#[99, 97, 108, 101, 110, 100, 97, 114, 32]⟩ ++ t.nm) ++ ⟨#[10, 101, 112, 111, 99, 104, 32]⟩ : ByteArray).size ≤ 28 := by rw [ByteArray.size_append]; omega
  have s3 : (((⟨#[99, 97, 108, 101, 110, 100, 97, 114, 32]⟩ ++ t.nm) ++ ⟨#[10, 101, 112, 111, 99, 104, 32]⟩) ++ se : ByteArray).size ≤ 49 := by rw [ByteArray.size_append]; omega
  have s4 : ((((⟨#[99, 97, 108, 101, 110, 100, 97, 114, 32]⟩ ++ t.nm) ++ ⟨#[10, 101, 112, 111, 99, 104, 32]⟩) ++ se) ++ ⟨#[10, 99, 121, 99, 108, 101, 32]⟩ : ByteArray).size ≤ 56 := by rw [ByteArray.size_append]; omega
  have s5 : (((((⟨#[99, 97, 108, 101, 110, 100, 97, 114, 32]⟩ ++ t.nm) ++ ⟨#[10, 101, 112, 111, 99, 104, 32]⟩) ++ se) ++ ⟨#[10, 99, 121, 99, 108, 101, 32]⟩) ++ sc : ByteArray).size ≤ 77 := by rw [ByteArray.size_append]; omega
  have s6 : ((((((⟨#[99, 97, 108, 101, 110, 100, 97, 114, 32]⟩ ++ t.nm) ++ ⟨#[10, 101, 112, 111, 99, 104, 32]⟩) ++ se) ++ ⟨#[10, 99, 121, 99, 108, 101, 32]⟩) ++ sc) ++ ⟨#[10, 108, 101, 97, 112, 32]⟩ : ByteArray).size ≤ 83 := by rw [ByteArray.size_append]; omega
  have s7 : (((((((⟨#[99, 97, 108, 101, 110, 100, 97, 114, 32]⟩ ++ t.nm) ++ ⟨#[10, 101, 112, 111, 99, 104, 32]⟩) ++ se) ++ ⟨#[10, 99, 121, 99, 108, 101, 32]⟩) ++ sc) ++ ⟨#[10, 108, 101, 97, 112, 32]⟩) ++ sx : ByteArray).size ≤ 1283 := by rw [ByteArray.size_append]; omega
  have hg2 : g ≤ W2.heap.size := by have := HX2.out.lt; omega
  refine flow_begin_tail 19 (tellOf [(6, det (.string se)), (11, det (.string sc)), (16, det (.string sx))]) (by kernel_rfl) (by kernel_rfl) ?_
  simp only [List.take_succ_cons, List.take_zero, List.drop_succ_cons, List.drop_zero]
  repeat (first | (refine flow_val (v := ?_) (by rfl) (by rfl) (fun w hb => ?_) ?_; rotate_left; (· ((go_simp) <;> ((repeat' apply And.intro) <;> with_reducible rfl))); try simp only [Act.put, List.setIfInBounds_toArray, List.set_cons_zero, List.set_cons_succ, Nat.reduceAdd]) | (refine flow_val (v := ?_) (by rfl) (by rfl) (fun w hb => ?_) ?_; rotate_left; (· (go_simp; (refine (if_neg ?_).trans ?_); (· omega); (· with_reducible rfl))); try simp only [Act.put, List.setIfInBounds_toArray, List.set_cons_zero, List.set_cons_succ, Nat.reduceAdd]) | (refine flow_skip (by rfl) (by rfl) ?_; try simp only [Act.put, List.setIfInBounds_toArray, List.set_cons_zero, List.set_cons_succ, Nat.reduceAdd]))
  refine flow_call (f := ?_) (args := ?_) [] (by kernel_rfl) (by rfl) (by rfl) (fun w hb => ?_) (fun w hb hu => ?_) ?_; rotate_left 2; (· ((go_simp) <;> ((repeat' apply And.intro) <;> with_reducible rfl)))
  · exact HEP.out w (HB2.out.trans (hb.mono hg2))
  try simp only [Act.put, List.setIfInBounds_toArray, List.set_cons_zero, List.set_cons_succ, Nat.reduceAdd]
  repeat (first | (refine flow_val (v := ?_) (by rfl) (by rfl) (fun w hb => ?_) ?_; rotate_left; (· ((go_simp) <;> ((repeat' apply And.intro) <;> with_reducible rfl))); try simp only [Act.put, List.setIfInBounds_toArray, List.set_cons_zero, List.set_cons_succ, Nat.reduceAdd]) | (refine flow_val (v := ?_) (by rfl) (by rfl) (fun w hb => ?_) ?_; rotate_left; (· (go_simp; (refine (if_neg ?_).trans ?_); (· omega); (· with_reducible rfl))); try simp only [Act.put, List.setIfInBounds_toArray, List.set_cons_zero, List.set_cons_succ, Nat.reduceAdd]) | (refine flow_skip (by rfl) (by rfl) ?_; try simp only [Act.put, List.setIfInBounds_toArray, List.set_cons_zero, List.set_cons_succ, Nat.reduceAdd]))
  refine flow_call (f := ?_) (args := ?_) [] (by kernel_rfl) (by rfl) (by rfl) (fun w hb => ?_) (fun w hb hu => ?_) ?_; rotate_left 2; (· ((go_simp) <;> ((repeat' apply And.intro) <;> with_reducible rfl)))
  · exact HCY.out w (HB2.out.trans (hb.mono hg2))
  try simp only [Act.put, List.setIfInBounds_toArray, List.set_cons_zero, List.set_cons_succ, Nat.reduceAdd]
  repeat (first | (refine flow_val (v := ?_) (by rfl) (by rfl) (fun w hb => ?_) ?_; rotate_left; (· ((go_simp) <;> ((repeat' apply And.intro) <;> with_reducible rfl))); try simp only [Act.put, List.setIfInBounds_toArray, List.set_cons_zero, List.set_cons_succ, Nat.reduceAdd]) | (refine flow_val (v := ?_) (by rfl) (by rfl) (fun w hb => ?_) ?_; rotate_left; (· (go_simp; (refine (if_neg ?_).trans ?_); (· omega); (· with_reducible rfl))); try simp only [Act.put, List.setIfInBounds_toArray, List.set_cons_zero, List.set_cons_succ, Nat.reduceAdd]) | (refine flow_skip (by rfl) (by rfl) ?_; try simp only [Act.put, List.setIfInBounds_toArray, List.set_cons_zero, List.set_cons_succ, Nat.reduceAdd]))
  refine flow_call (f := ?_) (args := ?_) [] (by kernel_rfl) (by rfl) (by rfl) (fun w hb => ?_) (fun w hb hu => ?_) ?_; rotate_left 2; (· ((go_simp) <;> ((repeat' apply And.intro) <;> with_reducible rfl)))
  · exact HSH.out w (HB2.out.trans (hb.mono hg2))
  try simp only [Act.put, List.setIfInBounds_toArray, List.set_cons_zero, List.set_cons_succ, Nat.reduceAdd]
  repeat (first | (refine flow_val (v := ?_) (by rfl) (by rfl) (fun w hb => ?_) ?_; rotate_left; (· ((go_simp) <;> ((repeat' apply And.intro) <;> with_reducible rfl))); try simp only [Act.put, List.setIfInBounds_toArray, List.set_cons_zero, List.set_cons_succ, Nat.reduceAdd]) | (refine flow_val (v := ?_) (by rfl) (by rfl) (fun w hb => ?_) ?_; rotate_left; (· (go_simp; (refine (if_neg ?_).trans ?_); (· omega); (· with_reducible rfl))); try simp only [Act.put, List.setIfInBounds_toArray, List.set_cons_zero, List.set_cons_succ, Nat.reduceAdd]) | (refine flow_skip (by rfl) (by rfl) ?_; try simp only [Act.put, List.setIfInBounds_toArray, List.set_cons_zero, List.set_cons_succ, Nat.reduceAdd]))
  refine flow_nil fun w3 hb3 _ => ?_
  rw [← HEH.out]
  clear HEH c0 c1 c2 c3 s1 s2 s3 s4 s5 s6 s7 z0 z1 z2 z3 z4 z5 HSH HEP HCY u1 u2 hxx hlx
  have HBW := Lib.hid (bld_write (bld_next HBD.out hb3) (headP t) (by simp; omega))
  have HB3 := Lib.hid (HB2.out.trans (hb3.mono hg2))
  have hb3' := hb3
  clear hb3 HB2 HBD
  refine wpList_step fun K hK => ?_
  rw [if_pos (by rfl)]
  go_simp
  refine HBW.out.mono ?_
  rintro e w4 ⟨rfl, hbd, hb4⟩
  refine hK _ _ (wpList_nil ?_)
  clear hK HBW K
  have HB4 := Lib.hid (show Below g w w4 from HB3.out.trans (hb4.mono (by omega)))
  have HX4 := Lib.hid ((HX2.out.below hb3').belowB hb4 hgb)
  rw [List.nil_append] at hbd
  have HBD := Lib.hid hbd
  have x6 : w4.cell? ⟨g, 6, none⟩ = some (.slice t.A1 t.mo.length t.c1) := HX4.out.cell 6
  clear hbd hb4 HB3 hb3' HX2
  generalize hHL : headP t = HL at *
  have HHL := Lib.hid hHL
  clear hHL
  have HBL : Hid (∀ k, k ≤ t.mo.length → (HL ++ (t.mo.take k).flatMap monN).length ≤ 1500 + 80 * k) := fun k hk => by
    induction k with
    | zero => simp; omega
    | succ k ih =>
      have := ih (by omega)
      have hck := HOK.out.mo.each k (by omega)
      have hl := monN_len (t.mo.getD k mth0) hck.nm hck.sh hck.lo
      rw [List.take_succ_eq_append_getElem (by omega), List.flatMap_append, ← List.append_assoc, List.length_append]
      simp only [List.flatMap_cons, List.flatMap_nil, List.append_nil]
      have e : t.mo[k] = t.mo.getD k mth0 := by simp [List.getD, List.getElem?_eq_getElem (show k < t.mo.length by omega)]
      rw [e]
      omega
  go_wp2_with fail
  go_loopw [7, 36] (fun _ i wr => ∃ k : Nat, k ≤ t.mo.length ∧ i = .int .i64 k ∧ Hid (BldF b (HL ++ (t.mo.take k).flatMap monN) wr) ∧ Hid (Below g w wr)) (fun _ i _ => t.mo.length - (intOf i).toNat)
  case atStart => exact ⟨0, by omega, rfl, by simpa using Lib.hid (bldf_of HBD.out), HB4⟩
  case round =>
    clear x6 HX4 HB4 HBD
    obtain ⟨k, hk, rfl, hbd, hbr⟩ := hrel
    have hrow := HRW.out wr hbr.out
    by_cases hlt : k < t.mo.length
    · obtain ⟨ba, o, hA, hb, hc⟩ := hrow.open_ (flat_ne mthF_len (by omega) t.mo (by omega))
      have hc0 := flat_cell mthF_len mth0 hc k 0 hlt (by omega) _ rfl
      have hc1 := flat_cell mthF_len mth0 hc k 1 hlt (by omega) _ rfl
      have hc2 := flat_cell mthF_len mth0 hc k 2 hlt (by omega) _ rfl
      rw [Nat.add_zero] at hc0
      have hck := HOK.out.mo.each k hlt
      have h1 := hck.sh
      have h2 := hck.lo
      have hnm2 : (t.mo.getD k mth0).nm.size ≤ 12 := hck.nm.2.1
      have hll := monN_len (t.mo.getD k mth0) hck.nm h1 h2
      have hbl := HBL.out k hk
      have HS : Hid (HL ++ (t.mo.take (k + 1)).flatMap monN = (HL ++ (t.mo.take k).flatMap monN) ++ monN (t.mo.getD k mth0)) := by
        rw [List.take_succ_eq_append_getElem (by omega), List.flatMap_append, ← List.append_assoc]
        have e : t.mo[k] = t.mo.getD k mth0 := by simp [List.getD, List.getElem?_eq_getElem hlt]
        rw [e]
        unfold Hid
        simp
      have hgr : g < wr.heap.size := Nat.lt_trans hgb (bldf_lt hbd.out)
      generalize t.mo.getD k mth0 = m at *
      have HMN : Hid (monN m = (([109, 111, 110, 116, 104, 32] ++ m.nm.data.toList) ++ [32] ++ Lib.itoa m.sh) ++ ((if m.lo = m.sh then [] else [32] ++ Lib.itoa m.lo) ++ [10])) := by
        unfold Hid monN monL
        split <;> simp
      have HEA : Hid (str ((([109, 111, 110, 116, 104, 32] ++ m.nm.data.toList) ++ [32]) ++ Lib.itoa m.sh) = ((⟨#[109, 111, 110, 116, 104, 32]⟩ ++ m.nm) ++ ⟨#[32]⟩) ++ str (Lib.itoa m.sh)) := by
        rw [show (⟨#[109, 111, 110, 116, 104, 32]⟩ : ByteArray) = str [109, 111, 110, 116, 104, 32] from rfl, show (⟨#[32]⟩ : ByteArray) = str [32] from rfl]
        conv => rhs; rw [← str_own' m.nm]
        simp only [str_append]
        unfold Hid
        rfl
      have HEB : Hid (str ([32] ++ Lib.itoa m.lo) = ⟨#[32]⟩ ++ str (Lib.itoa m.lo)) := by
        rw [show (⟨#[32]⟩ : ByteArray) = str [32] from rfl, str_append]
        unfold Hid
        rfl
      have HIS := Lib.hid (fun W (hW : Below g w W) => itoa_any m.sh W (by omega) (by omega) (hpow.out W hW))
      have HIL := Lib.hid (fun W (hW : Below g w W) => itoa_any m.lo W (by omega) (by omega) (hpow.out W hW))
      have q1 := itoa_size m.sh (by omega) (by omega)
      have q2 := itoa_size m.lo (by omega) (by omega)
      have hl1 : ((([109, 111, 110, 116, 104, 32] ++ m.nm.data.toList) ++ [32]) ++ Lib.itoa m.sh).length ≤ 100 := by
        rw [← str_size, HEA.out, ByteArray.size_append, ByteArray.size_append, ByteArray.size_append]
        show 6 + m.nm.size + 1 + _ ≤ 100
        omega
      have hl2' : ([32] ++ Lib.itoa m.lo).length ≤ 100 := by
        rw [← str_size, HEB.out, ByteArray.size_append]
        show 1 + _ ≤ 100
        omega
      generalize hLA : ((([109, 111, 110, 116, 104, 32] ++ m.nm.data.toList) ++ [32]) ++ Lib.itoa m.sh) = LA at *
      generalize hLB : [32] ++ Lib.itoa m.lo = LB at *
      generalize HL ++ (t.mo.take k).flatMap monN = HK at *
      have HBW := Lib.hid (fun W (hW : BldF b HK W) => bldf_write hW LA (by omega))
      have HBW2 := Lib.hid (fun W (hW : BldF b (HK ++ LA) W) => bldf_write hW LB (by rw [List.length_append]; omega))
      have HBW3 := Lib.hid (fun W (hW : BldF b (HK ++ LA ++ LB) W) => bldf_write hW [10] (by rw [List.length_append, List.length_append]; simp; omega))
      have HBW4 := Lib.hid (fun W (hW : BldF b (HK ++ LA) W) => bldf_write hW [10] (by rw [List.length_append]; simp; omega))
      generalize str (Lib.itoa m.sh) = ss at *
      generalize str (Lib.itoa m.lo) = sl at *
      have HS2 : Hid (HL ++ (t.mo.take (k + 1)).flatMap monN = HK ++ (LA ++ ((if m.lo = m.sh then [] else LB) ++ [10]))) := by
        unfold Hid
        rw [HS.out, HMN.out]
      have k0 : (k : Int) < (t.mo.length : Int) := by omega
      have hbaw : ba < wr.heap.size := hb
      have hbr1 := hbr
      have hbd1 := hbd
      clear HS HMN HBL hck hll hbl hbr hbd hrow hc hl1 hl2' HOK HFT HRW hpow
      generalize m.nm = vn at *
      generalize m.sh = vs at *
      generalize m.lo = vl at *
      rw [hA]
      go_upto_region 9 with fail
      have hX5 := (Box.new wr 60 #[.string vn, .int .i64 vs, .int .i64 vl])
      have hB5 := below_alloc1 wr (Obj.cells #[.string vn, .int .i64 vs, .int .i64 vl] 60)
      generalize wr.alloc (Obj.cells #[.string vn, .int .i64 vs, .int .i64 vl] 60) = W5 at *
      generalize hgr5 : wr.heap.size = g5 at *
      have HGR := Lib.hid hgr5
      clear hgr5
      have hg6 := hX5.lt
      have HB6 := Lib.hid hB5
      have HBD6 := Lib.hid (bldf_next hbd1.out (by rw [HGR.out]; exact hB5))
      have hbg5 : b < g5 := by have := bldf_lt hbd1.out; have := HGR.out; omega
      have l0 : ∀ W, Below W5.heap.size W5 W → W.cell? ⟨g5, 0, none⟩ = some (.string vn) := fun W hW => (hX5.below hW).cell 0
      have l1 : ∀ W, Below W5.heap.size W5 W → W.cell? ⟨g5, 1, none⟩ = some (.int .i64 vs) := fun W hW => (hX5.below hW).cell 1
      have HX5 := Lib.hid hX5
      have r0 : (⟨#[109, 111, 110, 116, 104, 32]⟩ : ByteArray).size = 6 := rfl
      have r9 : (⟨#[32]⟩ : ByteArray).size = 1 := rfl
      have r1 : (⟨#[109, 111, 110, 116, 104, 32]⟩ ++ vn : ByteArray).size ≤ 18 := by rw [ByteArray.size_append]; omega
      have r2 : ((⟨#[109, 111, 110, 116, 104, 32]⟩ ++ vn) ++ ⟨#[32]⟩ : ByteArray).size ≤ 19 := by rw [ByteArray.size_append]; omega
      clear hX5 hB5 hc0 hc1 hc2 hbd1
      have hg5W : g5 ≤ W5.heap.size := by omega
      refine flow_begin_tail 8 (tellOf [(6, det (.string ss))]) (by kernel_rfl) (by kernel_rfl) ?_
      simp only [List.take_succ_cons, List.take_zero, List.drop_succ_cons, List.drop_zero]
      repeat (first | (refine flow_val (v := ?_) (by rfl) (by rfl) (fun w hb => ?_) ?_; rotate_left; (· ((go_simp) <;> ((repeat' apply And.intro) <;> with_reducible rfl))); try simp only [Act.put, List.setIfInBounds_toArray, List.set_cons_zero, List.set_cons_succ, Nat.reduceAdd]) | (refine flow_val (v := ?_) (by rfl) (by rfl) (fun w hb => ?_) ?_; rotate_left; (· (go_simp; (refine (if_neg ?_).trans ?_); (· omega); (· with_reducible rfl))); try simp only [Act.put, List.setIfInBounds_toArray, List.set_cons_zero, List.set_cons_succ, Nat.reduceAdd]) | (refine flow_skip (by rfl) (by rfl) ?_; try simp only [Act.put, List.setIfInBounds_toArray, List.set_cons_zero, List.set_cons_succ, Nat.reduceAdd]))
      refine flow_call (f := ?_) (args := ?_) [] (by kernel_rfl) (by rfl) (by rfl) (fun w hb => ?_) (fun w hb hu => ?_) ?_; rotate_left 2; (· ((go_simp) <;> ((repeat' apply And.intro) <;> with_reducible rfl)))
      · exact HIS.out w (hbr1.out.trans ((HB6.out.trans (hb.mono hg5W)).mono (by omega)))
      try simp only [Act.put, List.setIfInBounds_toArray, List.set_cons_zero, List.set_cons_succ, Nat.reduceAdd]
      repeat (first | (refine flow_val (v := ?_) (by rfl) (by rfl) (fun w hb => ?_) ?_; rotate_left; (· ((go_simp) <;> ((repeat' apply And.intro) <;> with_reducible rfl))); try simp only [Act.put, List.setIfInBounds_toArray, List.set_cons_zero, List.set_cons_succ, Nat.reduceAdd]) | (refine flow_val (v := ?_) (by rfl) (by rfl) (fun w hb => ?_) ?_; rotate_left; (· (go_simp; (refine (if_neg ?_).trans ?_); (· omega); (· with_reducible rfl))); try simp only [Act.put, List.setIfInBounds_toArray, List.set_cons_zero, List.set_cons_succ, Nat.reduceAdd]) | (refine flow_skip (by rfl) (by rfl) ?_; try simp only [Act.put, List.setIfInBounds_toArray, List.set_cons_zero, List.set_cons_succ, Nat.reduceAdd]))
      refine flow_nil fun w7 hb7 _ => ?_
      rw [← HEA.out]
      have HBWa := Lib.hid (HBW.out w7 (bldf_next HBD6.out hb7))
      have HB7 := Lib.hid (hbr1.out.trans ((HB6.out.trans (hb7.mono hg5W)).mono (show g ≤ g5 by omega)))
      have HX7 := Lib.hid (HX5.out.below hb7)
      clear hb7 HEA r0 r1 r2 l0 l1 HIS HBW HBD6 HB6 HX5
      refine wpList_step fun K hK => ?_
      rw [if_pos (by rfl)]
      go_simp
      refine HBWa.out.mono ?_
      rintro e w8 ⟨rfl, hbd, hb8, hbx⟩
      refine hK _ _ (wpList_nil ?_)
      clear hK HBWa K
      have HB8 := Lib.hid (HB7.out.trans (hb8.mono (by omega)))
      have hX8 := hbx g5 _ _ HX7.out (by omega) (by decide)
      have HBD8 := Lib.hid hbd
      have l1 : w8.cell? ⟨g5, 1, none⟩ = some (.int .i64 vs) := hX8.cell 1
      have l2 : w8.cell? ⟨g5, 2, none⟩ = some (.int .i64 vl) := hX8.cell 2
      have l8 : g5 < w8.heap.size := hX8.lt
      have HI8 := Lib.hid (HIL.out w8 HB8.out)
      clear hb8 hbd HB7 HX7 hbx hX8 HIL
      by_cases hvl : vl = vs
      · have t1 : (vl != vs) = false := by rw [hvl]; simp
        rw [if_pos hvl] at HS2
        clear hvl
        go_wp2_with fail
        refine (HBW4.out w8 HBD8.out).mono ?_
        rintro e w9 ⟨rfl, hbd9, hb9, _⟩
        have HB9 := Lib.hid (HB8.out.trans (hb9.mono (by omega)))
        have HBD9 := Lib.hid hbd9
        clear hb9 hbd9
        go_wp2_with fail
        go_roundw
        case rel => exact ⟨k + 1, by omega, by go_num, by rw [HS2.out]; simpa using HBD9, HB9⟩
        case measure => simp [intOf]; omega
      · have t1 : (vl != vs) = true := by rw [bne_iff_ne]; exact hvl
        rw [if_neg hvl] at HS2
        clear hvl
        go_wp2_with fail
        refine HI8.out.mono ?_
        rintro e w9 ⟨rfl, hb9⟩
        have HB9 := Lib.hid (HB8.out.trans (hb9.mono (by omega)))
        have HBD9 := Lib.hid (bldf_next HBD8.out hb9)
        have HW9 := Lib.hid (HBW2.out w9 HBD9.out)
        rw [HEB.out] at HW9
        clear hb9
        go_wp2_with fail
        refine HW9.out.mono ?_
        rintro e w10 ⟨rfl, hbd10, hb10, _⟩
        have HB10 := Lib.hid (HB9.out.trans (hb10.mono (by omega)))
        have HBD10 := Lib.hid hbd10
        clear hb10 hbd10
        go_wp2_with fail
        refine (HBW3.out w10 HBD10.out).mono ?_
        rintro e w11 ⟨rfl, hbd11, hb11, _⟩
        have HB11 := Lib.hid (HB10.out.trans (hb11.mono (by omega)))
        have HBD11 := Lib.hid hbd11
        clear hb11 hbd11
        go_wp2_with fail
        go_roundw
        case rel => exact ⟨k + 1, by omega, by go_num, by rw [HS2.out]; simpa using HBD11, HB11⟩
        case measure => simp [intOf]; omega
    · obtain rfl : k = t.mo.length := by omega
      rw [List.take_length] at hbd
      go_wp2_with fail
      refine (bldf_string hbd.out).mono ?_
      rintro e w9 ⟨rfl, hb9⟩
      have HB9 := Lib.hid (hbr.out.trans (hb9.mono (by omega)))
      clear hb9
      go_wp2_with fail
      go_ret2
      exact ⟨by rw [← HHL.out]; rfl, by have := HG.out; rw [this]; exact HB9.out⟩
end Go.Proofs.YtbmbphikjainiaaDoor
