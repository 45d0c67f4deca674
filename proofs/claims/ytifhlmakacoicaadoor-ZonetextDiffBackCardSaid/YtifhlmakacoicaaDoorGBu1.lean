/- Bu1, Bu5, Bu2, Bu3, Bu6, Bu4, Bu7, Bu8 -/
import Derived.Deep.DeepCutAuto
import Derived.BigQuiet
import Derived.Deep.AppendSrc
import Derived.Test.YtifhlmakacoicaaDoorGBuPl
import Derived.Test.YtifhlmakacoicaaDoorGZone1
import Derived.Test.YtifhlmakacoicaaDoorGFlow
import Derived.Test.YtifhlmakacoicaaDoorGZt1
import Derived.Test.YtifhlmakacoicaaDoorGFlowS
import Derived.Test.YtifhlmakacoicaaDoorGChgInfo
import Derived.Test.YtifhlmakacoicaaDoorGPlainFore
import Derived.Test.YtifhlmakacoicaaDoorGMoon1
/- Contracts of package bureau: show, Text. -/
namespace Go.Proofs.YtifhlmakacoicaaDoor
open Go.RowKit
set_option linter.unusedVariables false

def ShowQ (nm : ByteArray) (fr : Int) (chs : List Chg) (w : World) (e : Ending) (w' : World) : Prop := e = .returned (.string (str (shL nm fr chs))) ∧ Below w.heap.size w w'
set_option maxHeartbeats 4000000 in
set_option maxRecDepth 100000 in
theorem show_bu (nm : ByteArray) (first : Int) (A : Option Addr) (c : Nat) (chs : List Chg) (fr : Int) (w : World) (hz : ZIn w nm A chs) (hn : nm.size ≤ 12) (hfr : InstOk fr) (hl : chs.length ≤ 200) (hf : FitZ chs) (hp : Pow w) :
    Calls Tryd.prog 25 #[.agg #[.string nm, .int .i64 first, .slice A chs.length c], .int .i64 fr] w (ShowQ nm fr chs w) := by
  have HB0 := Lib.hid (below_alloc1 w (Obj.cells #[.string nm, .int .i64 first, .slice A chs.length c] 24))
  have HX := Lib.hid (Box.new w 24 #[.string nm, .int .i64 first, .slice A chs.length c])
  have HP := Lib.hid (fun W (hW : Below w.heap.size w W) => hp.next hW)
  have HZ := Lib.hid (fun W (hW : Below w.heap.size w W) => (hz.next hW).row)
  have HF := Lib.hid hf
  have HLEN := Lib.hid (shL_len nm fr chs hn hfr hf)
  have HEND : Hid (shL nm fr chs = shL nm fr (chs.take chs.length)) := by unfold Hid; rw [List.take_length]
  have HI0 := Lib.hid (fun W (hW : Below w.heap.size w W) => itoa_any fr W (by have := hfr.1; omega) (by have := hfr.2; omega) (hp.next hW))
  have q0 := itoa_size fr (by have := hfr.1; omega) (by have := hfr.2; omega)
  have HS0 : Hid (str (shL nm fr (chs.take 0)) = nm ++ ⟨#[32]⟩ ++ str (Lib.itoa fr)) := by
    unfold Hid
    rw [shL_zero, show (⟨#[32]⟩ : ByteArray) = str [32] from rfl]
    conv => rhs; rw [← str_own nm]
    simp only [str_append]
    simp
  clear hz hp hf
  unfold ShowQ
  generalize str (Lib.itoa fr) = sfr at *
  go_enter Tryd.func25, Tryd.ntmps25
  go_wp2_with fail
  generalize w.alloc (Obj.cells #[.string nm, .int .i64 first, .slice A chs.length c] 24) = W0 at *
  generalize hg : w.heap.size = g at *
  have HG := Lib.hid hg
  clear hg
  have hgW : g < W0.heap.size := HX.out.lt
  have s1 : (⟨#[32]⟩ : ByteArray).size = 1 := rfl
  have r1 : (nm ++ ⟨#[32]⟩ : ByteArray).size ≤ 13 := by rw [ByteArray.size_append]; omega
  have r2 : (nm ++ ⟨#[32]⟩ ++ sfr : ByteArray).size ≤ 34 := by rw [ByteArray.size_append]; omega
  have z0 : ∀ W, Below W0.heap.size W0 W → W.cell? ⟨g, 0, none⟩ = some (.string nm) := fun W hW => (HX.out.below hW).cell 0
  refine flow_begin (tellOf [(4, det (.string sfr))]) (by kernel_rfl) (by kernel_rfl) ?_
  repeat (first | (refine flow_val (v := ?_) (by rfl) (by rfl) (fun w hb => ?_) ?_; rotate_left; (· ((go_simp) <;> ((repeat' apply And.intro) <;> with_reducible rfl))); try simp only [Act.put, List.setIfInBounds_toArray, List.set_cons_zero, List.set_cons_succ, Nat.reduceAdd]) | (refine flow_val (v := ?_) (by rfl) (by rfl) (fun w hb => ?_) ?_; rotate_left; (· (go_simp; (refine (if_neg ?_).trans ?_); (· omega); (· with_reducible rfl))); try simp only [Act.put, List.setIfInBounds_toArray, List.set_cons_zero, List.set_cons_succ, Nat.reduceAdd]) | (refine flow_skip (by rfl) (by rfl) ?_; try simp only [Act.put, List.setIfInBounds_toArray, List.set_cons_zero, List.set_cons_succ, Nat.reduceAdd]))
  refine flow_call (f := ?_) (args := ?_) [] (by kernel_rfl) (by rfl) (by rfl) (fun w hb => ?_) (fun w hb hu => ?_) ?_; rotate_left 2; (· ((go_simp) <;> ((repeat' apply And.intro) <;> with_reducible rfl)))
  · exact HI0.out w (HB0.out.trans (hb.mono (by omega)))
  try simp only [Act.put, List.setIfInBounds_toArray, List.set_cons_zero, List.set_cons_succ, Nat.reduceAdd]
  repeat (first | (refine flow_val (v := ?_) (by rfl) (by rfl) (fun w hb => ?_) ?_; rotate_left; (· ((go_simp) <;> ((repeat' apply And.intro) <;> with_reducible rfl))); try simp only [Act.put, List.setIfInBounds_toArray, List.set_cons_zero, List.set_cons_succ, Nat.reduceAdd]) | (refine flow_val (v := ?_) (by rfl) (by rfl) (fun w hb => ?_) ?_; rotate_left; (· (go_simp; (refine (if_neg ?_).trans ?_); (· omega); (· with_reducible rfl))); try simp only [Act.put, List.setIfInBounds_toArray, List.set_cons_zero, List.set_cons_succ, Nat.reduceAdd]) | (refine flow_skip (by rfl) (by rfl) ?_; try simp only [Act.put, List.setIfInBounds_toArray, List.set_cons_zero, List.set_cons_succ, Nat.reduceAdd]))
  refine flow_nil fun w1 hb1 _ => ?_
  rw [← HS0.out]
  have HB1 := Lib.hid (HB0.out.trans (hb1.mono (by omega)))
  have HX1 := Lib.hid (HX.out.below hb1)
  have x2 : w1.cell? ⟨g, 2, none⟩ = some (.slice A chs.length c) := HX1.out.cell 2
  have hg1 : g < w1.heap.size := HX1.out.lt
  clear s1 r1 r2 z0 hb1 HX HB0 HI0 HS0 q0
  go_wp2_with fail
  go_loopw [5, 7, 17] (fun s _ i wr => ∃ k : Nat, k ≤ chs.length ∧ i = .int .i64 k ∧ s = .string (str (shL nm fr (chs.take k))) ∧ Hid (Below g w wr)) (fun _ _ i _ => chs.length - (intOf i).toNat)
  case atStart => exact ⟨0, by omega, rfl, rfl, HB1⟩
  case round =>
    obtain ⟨k, hk, rfl, rfl, hbr⟩ := hrel
    have hz := HZ.out wr hbr.out
    by_cases hlt : k < chs.length
    · obtain ⟨ba, o, rfl, hb, hc⟩ := hz.open_ (chCells_ne chs (by omega))
      obtain ⟨y0, y1, y2⟩ := ch_cells hc k hlt
      obtain ⟨⟨hi1, hi2⟩, ⟨_, ho1, ho2⟩, hl⟩ := HF.out k hlt
      have hgr : g ≤ wr.heap.size := by have := hbr.out.size; have := HG.out; omega
      have HLk := HLEN.out k (by omega)
      have HPk := Lib.hid (HP.out wr hbr.out)
      have HNO := Lib.hid (fun h => shL_no nm fr chs k hlt h)
      have HYES := Lib.hid (fun h => shL_yes nm fr chs k hlt h)
      generalize shL nm fr (chs.take k) = S at *
      generalize hS2 : shL nm fr (chs.take (k + 1)) = S2 at *
      have HS3 : Hid (Value.string (str S2) = .string (str (shL nm fr (chs.take (k + 1))))) := by unfold Hid; rw [hS2]
      clear hS2
      generalize (chs.getD k chg0).a = va at *
      generalize (chs.getD k chg0).o = vo at *
      generalize (chs.getD k chg0).l = vl at *
      clear hz hc
      by_cases hge : fr ≤ va
      · have HE := Lib.hid (HYES.out hge)
        have t1 : decide (fr ≤ va) = true := decide_eq_true hge
        have HI1 := Lib.hid (fun W (hW : Below wr.heap.size wr W) => itoa_any va W (by omega) (by omega) (HPk.out.next hW))
        have HI2 := Lib.hid (fun W (hW : Below wr.heap.size wr W) => itoa_any vo W (by omega) (by omega) (HPk.out.next hW))
        have q1 := itoa_size va (by omega) (by omega)
        have q2 := itoa_size vo (by omega) (by omega)
        have q3 := hl.2.2
        have q4 : (str S).size ≤ 40 + 40 * 200 := by rw [str_size]; omega
        have HES : Hid (str S2 = str S ++ (⟨#[32]⟩ ++ str (Lib.itoa va) ++ ⟨#[32]⟩ ++ str (Lib.itoa vo) ++ ⟨#[32]⟩ ++ vl)) := by
          unfold Hid
          rw [HE.out, show (⟨#[32]⟩ : ByteArray) = str [32] from rfl]
          conv => rhs; rw [← str_own vl]
          simp only [str_append]
          simp
        clear HE HNO HYES hge hl HPk hi1 hi2 ho1 ho2
        generalize str (Lib.itoa va) = sa at *
        generalize str (Lib.itoa vo) = so at *
        generalize str S = sS at *
        generalize str S2 = sS2 at *
        have s1 : (⟨#[32]⟩ : ByteArray).size = 1 := rfl
        have r1 : (⟨#[32]⟩ ++ sa : ByteArray).size ≤ 22 := by rw [ByteArray.size_append]; omega
        have r2 : (⟨#[32]⟩ ++ sa ++ ⟨#[32]⟩ : ByteArray).size ≤ 23 := by rw [ByteArray.size_append]; omega
        have r3 : (⟨#[32]⟩ ++ sa ++ ⟨#[32]⟩ ++ so : ByteArray).size ≤ 44 := by rw [ByteArray.size_append]; omega
        have r4 : (⟨#[32]⟩ ++ sa ++ ⟨#[32]⟩ ++ so ++ ⟨#[32]⟩ : ByteArray).size ≤ 45 := by rw [ByteArray.size_append]; omega
        have r5 : (⟨#[32]⟩ ++ sa ++ ⟨#[32]⟩ ++ so ++ ⟨#[32]⟩ ++ vl : ByteArray).size ≤ 51 := by rw [ByteArray.size_append]; omega
        have r6 : (sS ++ (⟨#[32]⟩ ++ sa ++ ⟨#[32]⟩ ++ so ++ ⟨#[32]⟩ ++ vl) : ByteArray).size ≤ 8200 := by rw [ByteArray.size_append]; omega
        go_upto_region 6 with fail
        have hX5 := Box.new wr 26 #[.int .i64 va, .int .i64 vo, .string vl]
        have hB5 := below_alloc1 wr (Obj.cells #[.int .i64 va, .int .i64 vo, .string vl] 26)
        generalize wr.alloc (Obj.cells #[.int .i64 va, .int .i64 vo, .string vl] 26) = W5 at *
        generalize hgr5 : wr.heap.size = g5 at *
        have HGR := Lib.hid hgr5
        clear hgr5
        have hg5 := hX5.lt
        have HB5 := Lib.hid hB5
        have l0 : ∀ W, Below W5.heap.size W5 W → W.cell? ⟨g5, 0, none⟩ = some (.int .i64 va) := fun W hW => (hX5.below hW).cell 0
        have l1 : ∀ W, Below W5.heap.size W5 W → W.cell? ⟨g5, 1, none⟩ = some (.int .i64 vo) := fun W hW => (hX5.below hW).cell 1
        have l2 : ∀ W, Below W5.heap.size W5 W → W.cell? ⟨g5, 2, none⟩ = some (.string vl) := fun W hW => (hX5.below hW).cell 2
        clear hX5 hB5 y0 y1 y2 hb
        refine flow_begin (tellOf [(3, det (.string sa)), (8, det (.string so))]) (by kernel_rfl) (by kernel_rfl) ?_
        repeat (first | (refine flow_val (v := ?_) (by rfl) (by rfl) (fun w hb => ?_) ?_; rotate_left; (· ((go_simp) <;> ((repeat' apply And.intro) <;> with_reducible rfl))); try simp only [Act.put, List.setIfInBounds_toArray, List.set_cons_zero, List.set_cons_succ, Nat.reduceAdd]) | (refine flow_val (v := ?_) (by rfl) (by rfl) (fun w hb => ?_) ?_; rotate_left; (· (go_simp; (refine (if_neg ?_).trans ?_); (· omega); (· with_reducible rfl))); try simp only [Act.put, List.setIfInBounds_toArray, List.set_cons_zero, List.set_cons_succ, Nat.reduceAdd]) | (refine flow_skip (by rfl) (by rfl) ?_; try simp only [Act.put, List.setIfInBounds_toArray, List.set_cons_zero, List.set_cons_succ, Nat.reduceAdd]))
        refine flow_call (f := ?_) (args := ?_) [] (by kernel_rfl) (by rfl) (by rfl) (fun w hb => ?_) (fun w hb hu => ?_) ?_; rotate_left 2; (· ((go_simp) <;> ((repeat' apply And.intro) <;> with_reducible rfl)))
        · exact HI1.out w (HB5.out.trans (hb.mono (by omega)))
        try simp only [Act.put, List.setIfInBounds_toArray, List.set_cons_zero, List.set_cons_succ, Nat.reduceAdd]
        repeat (first | (refine flow_val (v := ?_) (by rfl) (by rfl) (fun w hb => ?_) ?_; rotate_left; (· ((go_simp) <;> ((repeat' apply And.intro) <;> with_reducible rfl))); try simp only [Act.put, List.setIfInBounds_toArray, List.set_cons_zero, List.set_cons_succ, Nat.reduceAdd]) | (refine flow_val (v := ?_) (by rfl) (by rfl) (fun w hb => ?_) ?_; rotate_left; (· (go_simp; (refine (if_neg ?_).trans ?_); (· omega); (· with_reducible rfl))); try simp only [Act.put, List.setIfInBounds_toArray, List.set_cons_zero, List.set_cons_succ, Nat.reduceAdd]) | (refine flow_skip (by rfl) (by rfl) ?_; try simp only [Act.put, List.setIfInBounds_toArray, List.set_cons_zero, List.set_cons_succ, Nat.reduceAdd]))
        refine flow_call (f := ?_) (args := ?_) [] (by kernel_rfl) (by rfl) (by rfl) (fun w hb => ?_) (fun w hb hu => ?_) ?_; rotate_left 2; (· ((go_simp) <;> ((repeat' apply And.intro) <;> with_reducible rfl)))
        · exact HI2.out w (HB5.out.trans (hb.mono (by omega)))
        try simp only [Act.put, List.setIfInBounds_toArray, List.set_cons_zero, List.set_cons_succ, Nat.reduceAdd]
        repeat (first | (refine flow_val (v := ?_) (by rfl) (by rfl) (fun w hb => ?_) ?_; rotate_left; (· ((go_simp) <;> ((repeat' apply And.intro) <;> with_reducible rfl))); try simp only [Act.put, List.setIfInBounds_toArray, List.set_cons_zero, List.set_cons_succ, Nat.reduceAdd]) | (refine flow_val (v := ?_) (by rfl) (by rfl) (fun w hb => ?_) ?_; rotate_left; (· (go_simp; (refine (if_neg ?_).trans ?_); (· omega); (· with_reducible rfl))); try simp only [Act.put, List.setIfInBounds_toArray, List.set_cons_zero, List.set_cons_succ, Nat.reduceAdd]) | (refine flow_skip (by rfl) (by rfl) ?_; try simp only [Act.put, List.setIfInBounds_toArray, List.set_cons_zero, List.set_cons_succ, Nat.reduceAdd]))
        refine flow_nil fun w6 hb6 _ => ?_
        rw [← HES.out]
        have HB6 := Lib.hid (hbr.out.trans ((HB5.out.trans (hb6.mono (by omega))).mono (by omega)))
        clear s1 r1 r2 r3 r4 r5 r6 l0 l1 l2 hb6 HB5 HI1 HI2 HES q1 q2 q3 q4
        go_wp2_with fail
        go_roundw
        case rel => exact ⟨k + 1, by omega, by go_num, HS3.out, HB6⟩
        case measure => simp [intOf]; omega
      · have HE := Lib.hid (HNO.out hge)
        have t1 : decide (fr ≤ va) = false := decide_eq_false hge
        rw [← HE.out]
        have HB6 := Lib.hid (hbr.out.alloc (by have := hbr.out.size; have := HG.out; omega) (Obj.cells #[.int .i64 va, .int .i64 vo, .string vl] 26))
        clear HE HNO HYES hge hl HPk hi1 hi2 ho1 ho2
        go_wp2_with fail
        go_roundw
        case rel => exact ⟨k + 1, by omega, by go_num, HS3.out, HB6⟩
        case measure => simp [intOf]; omega
    · obtain rfl : k = chs.length := by omega
      rw [← HEND.out]
      go_wp2_with fail
      go_ret
      exact ⟨rfl, by have := HG.out; rw [this]; exact hbr.out⟩
end Go.Proofs.YtifhlmakacoicaaDoor

/- Contracts of package notice at the first author: Check, sum, isKey, Sign, Right. -/
namespace Go.Proofs.YtifhlmakacoicaaDoor
open Go.RowKit
set_option linter.unusedVariables false

set_option maxHeartbeats 2000000 in
set_option maxRecDepth 100000 in
theorem ncheck_yes (N S : Int) (s : ByteArray) (w : World) (n1 : 1 ≤ N) (n2 : N ≤ 2147483647) (s1 : 0 ≤ S) (s2 : S < 2147483647) (hs : s.size ≤ 200) (hall : AllIn 32 126 s) :
    Calls Tryd.prog 29 #[.agg #[.int .i64 0, .int .i64 N, .string s, .int .i64 S]] w fun e w' => e = .returned (.int .i64 0) ∧ Below w.heap.size w w' := by
  have HB0 := Lib.hid (below_alloc1 w (Obj.cells #[.int .i64 0, .int .i64 N, .string s, .int .i64 S] 39))
  have hX := Box.new w 39 #[.int .i64 0, .int .i64 N, .string s, .int .i64 S]
  have HA := Lib.hid hall
  clear hall
  have t1 : decide (N < 1) = false := decide_eq_false (by omega)
  have t2 : decide (2147483647 < N) = false := decide_eq_false (by omega)
  have t3 : decide (S < 0) = false := decide_eq_false (by omega)
  have t4 : decide (2147483647 ≤ S) = false := decide_eq_false (by omega)
  have t5 : decide (200 < (s.size : Int)) = false := decide_eq_false (by omega)
  have t6 : decide (200 < s.size) = false := decide_eq_false (by omega)
  go_enter Tryd.func29, Tryd.ntmps29
  go_upto_region 1 with fail
  generalize w.alloc (Obj.cells #[.int .i64 0, .int .i64 N, .string s, .int .i64 S] 39) = W0 at *
  have x0 : W0.cell? ⟨w.heap.size, 0, none⟩ = some (.int .i64 0) := hX.cell 0
  have x1 : W0.cell? ⟨w.heap.size, 1, none⟩ = some (.int .i64 N) := hX.cell 1
  have x2 : W0.cell? ⟨w.heap.size, 2, none⟩ = some (.string s) := hX.cell 2
  have x3 : W0.cell? ⟨w.heap.size, 3, none⟩ = some (.int .i64 S) := hX.cell 3
  have hl := hX.lt
  clear hX
  go_wp2_with fail
  go_loop [3, 39] (fun _ i => ∃ k : Nat, k ≤ s.size ∧ i = .int .i64 k) (fun _ i => s.size - (intOf i).toNat)
  case atStart => exact ⟨0, by omega, rfl⟩
  case round =>
    obtain ⟨k, hk, rfl⟩ := hrel
    by_cases hlt : k < s.size
    · have hh := HA.out k hlt
      have d1 : decide ((s[k].toNat : Int) < 32) = false := decide_eq_false (by omega)
      have d2 : decide (126 < (s[k].toNat : Int)) = false := decide_eq_false (by omega)
      clear hh
      go_wp2
      go_round
      case rel => exact ⟨k + 1, by omega, by go_num⟩
      case measure => simp [intOf]; omega
    · go_wp2
      go_ret
      exact ⟨rfl, HB0.out⟩

/-- the sum of the first bytes -/
def sumI (s : ByteArray) (key : Int) : Nat → Int
  | 0 => key
  | i + 1 => if h : i < s.size then (sumI s key i * 257 + (s[i].toNat : Int) + 1) % 2147483647 else 0
theorem sumI_in (s : ByteArray) (key : Int) (h1 : 1 ≤ key) (h2 : key ≤ 1000000) : ∀ i, 0 ≤ sumI s key i ∧ sumI s key i ≤ 2147483646
  | 0 => by unfold sumI; omega
  | i + 1 => by
    unfold sumI
    split
    · omega
    · omega
/-- what is summed -/
def sumT (N : Int) (s : ByteArray) : ByteArray := str (Lib.itoa 0) ++ ⟨#[32]⟩ ++ str (Lib.itoa N) ++ ⟨#[32]⟩ ++ s
/-- the sum -/
def sumV (key N : Int) (s : ByteArray) : Int := (sumI (sumT N s) key (sumT N s).size * 257 + key) % 2147483647
theorem sumV_in (key N : Int) (s : ByteArray) : 0 ≤ sumV key N s ∧ sumV key N s < 2147483647 := by unfold sumV; omega

set_option maxHeartbeats 2000000 in
set_option maxRecDepth 100000 in
theorem nsum_any (key N S : Int) (s : ByteArray) (w : World) (k1 : 1 ≤ key) (k2 : key ≤ 1000000) (n1 : 1 ≤ N) (n2 : N ≤ 2147483647) (hs : s.size ≤ 200) (hp : Pow w) :
    Calls Tryd.prog 31 #[.int .i64 key, .agg #[.int .i64 0, .int .i64 N, .string s, .int .i64 S]] w fun e w' => e = .returned (.int .i64 (sumV key N s)) ∧ Below w.heap.size w w' := by
  have HB0 := Lib.hid (below_alloc1 w (Obj.cells #[.int .i64 0, .int .i64 N, .string s, .int .i64 S] 39))
  have hX := Box.new w 39 #[.int .i64 0, .int .i64 N, .string s, .int .i64 S]
  have HI0 := Lib.hid (fun W (hW : Below w.heap.size w W) => itoa_any 0 W (by omega) (by omega) (hp.next hW))
  have HI1 := Lib.hid (fun W (hW : Below w.heap.size w W) => itoa_any N W (by omega) (by omega) (hp.next hW))
  have q0 := itoa_size 0 (by omega) (by omega)
  have q1 := itoa_size N (by omega) (by omega)
  have HIN := Lib.hid (sumI_in (sumT N s) key k1 k2)
  have HST : Hid (sumT N s = str (Lib.itoa 0) ++ ⟨#[32]⟩ ++ str (Lib.itoa N) ++ ⟨#[32]⟩ ++ s) := rfl
  have HSI : Hid (∀ i (h : i < (sumT N s).size), sumI (sumT N s) key (i + 1) = (sumI (sumT N s) key i * 257 + ((sumT N s)[i].toNat : Int) + 1) % 2147483647) := fun i h => by
    show (if h : i < (sumT N s).size then _ else _) = _
    rw [dif_pos h]
  have HS0 : Hid (sumI (sumT N s) key 0 = key) := rfl
  have hsz : (sumT N s).size ≤ 300 := by
    unfold sumT
    simp only [ByteArray.size_append]
    have : (⟨#[32]⟩ : ByteArray).size = 1 := rfl
    omega
  have HV : Hid (sumV key N s = (sumI (sumT N s) key (sumT N s).size * 257 + key) % 2147483647) := rfl
  clear hp
  rw [HV.out]
  clear HV
  generalize sumT N s = T at *
  generalize str (Lib.itoa 0) = sa at *
  generalize str (Lib.itoa N) = sb at *
  go_enter Tryd.func31, Tryd.ntmps31
  go_upto_region 1 with fail
  generalize w.alloc (Obj.cells #[.int .i64 0, .int .i64 N, .string s, .int .i64 S] 39) = W0 at *
  generalize hg : w.heap.size = g at *
  have HG := Lib.hid hg
  clear hg
  have x0 : ∀ W, Below W0.heap.size W0 W → W.cell? ⟨g, 0, none⟩ = some (.int .i64 0) := fun W hW => (hX.below hW).cell 0
  have x1 : ∀ W, Below W0.heap.size W0 W → W.cell? ⟨g, 1, none⟩ = some (.int .i64 N) := fun W hW => (hX.below hW).cell 1
  have x2 : ∀ W, Below W0.heap.size W0 W → W.cell? ⟨g, 2, none⟩ = some (.string s) := fun W hW => (hX.below hW).cell 2
  have hgl := hX.lt
  have z1 : (⟨#[32]⟩ : ByteArray).size = 1 := rfl
  have r1 : (sa ++ ⟨#[32]⟩ : ByteArray).size ≤ 22 := by rw [ByteArray.size_append]; omega
  have r2 : (sa ++ ⟨#[32]⟩ ++ sb : ByteArray).size ≤ 43 := by rw [ByteArray.size_append]; omega
  have r3 : (sa ++ ⟨#[32]⟩ ++ sb ++ ⟨#[32]⟩ : ByteArray).size ≤ 44 := by rw [ByteArray.size_append]; omega
  have r4 : (sa ++ ⟨#[32]⟩ ++ sb ++ ⟨#[32]⟩ ++ s : ByteArray).size ≤ 244 := by rw [ByteArray.size_append]; omega
  refine flow_begin (tellOf [(2, det (.string sa)), (6, det (.string sb))]) (by kernel_rfl) (by kernel_rfl) ?_
  repeat (first | (refine flow_val (v := ?_) (by rfl) (by rfl) (fun w hb => ?_) ?_; rotate_left; (· ((go_simp) <;> ((repeat' apply And.intro) <;> with_reducible rfl))); try simp only [Act.put, List.setIfInBounds_toArray, List.set_cons_zero, List.set_cons_succ, Nat.reduceAdd]) | (refine flow_val (v := ?_) (by rfl) (by rfl) (fun w hb => ?_) ?_; rotate_left; (· (go_simp; (refine (if_neg ?_).trans ?_); (· omega); (· with_reducible rfl))); try simp only [Act.put, List.setIfInBounds_toArray, List.set_cons_zero, List.set_cons_succ, Nat.reduceAdd]) | (refine flow_skip (by rfl) (by rfl) ?_; try simp only [Act.put, List.setIfInBounds_toArray, List.set_cons_zero, List.set_cons_succ, Nat.reduceAdd]))
  refine flow_call (f := ?_) (args := ?_) [] (by kernel_rfl) (by rfl) (by rfl) (fun w hb => ?_) (fun w hb hu => ?_) ?_; rotate_left 2; (· ((go_simp) <;> ((repeat' apply And.intro) <;> with_reducible rfl)))
  · exact HI0.out w (HB0.out.trans (hb.mono (by omega)))
  try simp only [Act.put, List.setIfInBounds_toArray, List.set_cons_zero, List.set_cons_succ, Nat.reduceAdd]
  repeat (first | (refine flow_val (v := ?_) (by rfl) (by rfl) (fun w hb => ?_) ?_; rotate_left; (· ((go_simp) <;> ((repeat' apply And.intro) <;> with_reducible rfl))); try simp only [Act.put, List.setIfInBounds_toArray, List.set_cons_zero, List.set_cons_succ, Nat.reduceAdd]) | (refine flow_val (v := ?_) (by rfl) (by rfl) (fun w hb => ?_) ?_; rotate_left; (· (go_simp; (refine (if_neg ?_).trans ?_); (· omega); (· with_reducible rfl))); try simp only [Act.put, List.setIfInBounds_toArray, List.set_cons_zero, List.set_cons_succ, Nat.reduceAdd]) | (refine flow_skip (by rfl) (by rfl) ?_; try simp only [Act.put, List.setIfInBounds_toArray, List.set_cons_zero, List.set_cons_succ, Nat.reduceAdd]))
  refine flow_call (f := ?_) (args := ?_) [] (by kernel_rfl) (by rfl) (by rfl) (fun w hb => ?_) (fun w hb hu => ?_) ?_; rotate_left 2; (· ((go_simp) <;> ((repeat' apply And.intro) <;> with_reducible rfl)))
  · exact HI1.out w (HB0.out.trans (hb.mono (by omega)))
  try simp only [Act.put, List.setIfInBounds_toArray, List.set_cons_zero, List.set_cons_succ, Nat.reduceAdd]
  repeat (first | (refine flow_val (v := ?_) (by rfl) (by rfl) (fun w hb => ?_) ?_; rotate_left; (· ((go_simp) <;> ((repeat' apply And.intro) <;> with_reducible rfl))); try simp only [Act.put, List.setIfInBounds_toArray, List.set_cons_zero, List.set_cons_succ, Nat.reduceAdd]) | (refine flow_val (v := ?_) (by rfl) (by rfl) (fun w hb => ?_) ?_; rotate_left; (· (go_simp; (refine (if_neg ?_).trans ?_); (· omega); (· with_reducible rfl))); try simp only [Act.put, List.setIfInBounds_toArray, List.set_cons_zero, List.set_cons_succ, Nat.reduceAdd]) | (refine flow_skip (by rfl) (by rfl) ?_; try simp only [Act.put, List.setIfInBounds_toArray, List.set_cons_zero, List.set_cons_succ, Nat.reduceAdd]))
  refine flow_nil fun w1 hb1 _ => ?_
  rw [← HST.out]
  have HB1 := Lib.hid (HB0.out.trans (hb1.mono (by omega)))
  clear x0 x1 x2 z1 r1 r2 r3 r4 hb1 hX HB0 HI0 HI1 q0 q1 HST hgl
  go_wp2_with fail
  go_loop [6, 7, 23] (fun h _ i => ∃ k : Nat, k ≤ T.size ∧ i = .int .i64 k ∧ h = .int .i64 (sumI T key k)) (fun _ _ i => T.size - (intOf i).toNat)
  case atStart => exact ⟨0, by omega, rfl, by rw [HS0.out]⟩
  case round =>
    obtain ⟨k, hk, rfl, rfl⟩ := hrel
    obtain ⟨i1, i2⟩ := HIN.out k
    by_cases hlt : k < T.size
    · have HN := Lib.hid (HSI.out k hlt)
      have hb : T[k].toNat < 256 := T[k].toNat_lt
      generalize hH : sumI T key k = H at *
      have HH := Lib.hid hH
      clear hH
      generalize hbb : T[k].toNat = bb at *
      have HBB := Lib.hid hbb
      have e1 : IntKind.i64.wrap (H * 257) = H * 257 := IntWalk.i64_in _ (by omega)
      have e2 : IntKind.i64.wrap (H * 257 + (bb : Int)) = H * 257 + (bb : Int) := IntWalk.i64_in _ (by omega)
      have e3 : IntKind.i64.wrap (H * 257 + (bb : Int) + 1) = H * 257 + (bb : Int) + 1 := IntWalk.i64_in _ (by omega)
      have e4 : (H * 257 + (bb : Int) + 1).tmod 2147483647 = (H * 257 + (bb : Int) + 1) % 2147483647 := Int.tmod_eq_emod_of_nonneg (by omega)
      go_wp2
      go_round
      case rel => exact ⟨k + 1, by omega, by go_num, by rw [HN.out]⟩
      case measure => simp [intOf]; omega
    · obtain rfl : k = T.size := by omega
      generalize hH : sumI T key T.size = H at *
      have HH := Lib.hid hH
      clear hH
      have e1 : IntKind.i64.wrap (H * 257) = H * 257 := IntWalk.i64_in _ (by omega)
      have e2 : IntKind.i64.wrap (H * 257 + key) = H * 257 + key := IntWalk.i64_in _ (by omega)
      have e4 : (H * 257 + key).tmod 2147483647 = (H * 257 + key) % 2147483647 := Int.tmod_eq_emod_of_nonneg (by omega)
      go_wp2
      go_ret
      exact ⟨by rw [HH.out]; rfl, by rw [HG.out]; exact HB1.out⟩
set_option maxRecDepth 100000 in
theorem isKey_yes (key : Int) (w : World) (k1 : 1 ≤ key) (k2 : key ≤ 1000000) : Calls Tryd.prog 30 #[.int .i64 key] w fun e w' => e = .returned (.bool true) ∧ w = w' := by
  have t1 : decide (1 ≤ key) = true := decide_eq_true k1
  have t2 : decide (key ≤ 1000000000) = true := decide_eq_true (by omega)
  go_enter Tryd.func30, Tryd.ntmps30
  go_wp2_with fail
  go_ret
  exact ⟨rfl, rfl⟩

set_option maxHeartbeats 2000000 in
set_option maxRecDepth 100000 in
theorem nsign_yes (key N S : Int) (s : ByteArray) (w : World) (k1 : 1 ≤ key) (k2 : key ≤ 1000000) (n1 : 1 ≤ N) (n2 : N ≤ 2147483647) (hs : s.size ≤ 200) (hall : AllIn 32 126 s) (hp : Pow w) :
    Calls Tryd.prog 9 #[.int .i64 key, .agg #[.int .i64 0, .int .i64 N, .string s, .int .i64 S]] w fun e w' => e = .returned (.tuple #[.agg #[.int .i64 0, .int .i64 N, .string s, .int .i64 (sumV key N s)], .int .i64 0]) ∧ Below w.heap.size w w' := by
  have h1 := below_alloc2 w (Obj.cells #[.int .i64 0, .int .i64 N, .string s, .int .i64 S] 39) (Obj.cells #[.int .i64 0, .int .i64 0, .string ⟨#[]⟩, .int .i64 0] 39)
  have y1 := (Box.new w 39 #[.int .i64 0, .int .i64 N, .string s, .int .i64 S]).alloc (Obj.cells #[.int .i64 0, .int .i64 0, .string ⟨#[]⟩, .int .i64 0] 39)
  have y2 := Box.new (w.alloc (Obj.cells #[.int .i64 0, .int .i64 N, .string s, .int .i64 S] 39)) 39 #[.int .i64 0, .int .i64 0, .string ⟨#[]⟩, .int .i64 0]
  rw [World.size_alloc] at y2
  have HCk := Lib.hid (fun W => ncheck_yes N 0 s W n1 n2 (by omega) (by omega) hs hall)
  have HSm := Lib.hid (fun W (hW : Below w.heap.size w W) => nsum_any key N 0 s W k1 k2 n1 n2 hs (hp.next hW))
  have HKy := Lib.hid (fun W => isKey_yes key W k1 k2)
  clear hp hall
  generalize sumV key N s = V at *
  go_enter Tryd.func9, Tryd.ntmps9
  go_upto_region 1 with fail
  generalize (w.alloc (Obj.cells #[.int .i64 0, .int .i64 N, .string s, .int .i64 S] 39)).alloc (Obj.cells #[.int .i64 0, .int .i64 0, .string ⟨#[]⟩, .int .i64 0] 39) = W0 at *
  generalize hg : w.heap.size = g at *
  have HG := Lib.hid hg
  clear hg
  have q3 : W0.cell? ⟨g, 3, none⟩ = some (.int .i64 S) := y1.cell 3
  have qf : W0.frozen? ⟨g, 3, none⟩ = false := y1.free 3
  have ql := y1.lt
  have HX1 := Lib.hid (y1.set_ 3 (.int .i64 0))
  have HY1 := Lib.hid (y2.far (p := ⟨g, 3, none⟩) (by show g + 1 ≠ g; omega) (.int .i64 0))
  have HB1 := Lib.hid (h1.setCell (p := ⟨g, 3, none⟩) (Nat.le_refl _) (.int .i64 0))
  clear y1 y2 h1
  go_upto_region 2 with fail
  clear q3 qf ql
  generalize W0.setCell ⟨g, 3, none⟩ (.int .i64 0) = W1 at *
  have x0 : W1.cell? ⟨g, 0, none⟩ = some (.int .i64 0) := HX1.out.cell 0
  have x1 : W1.cell? ⟨g, 1, none⟩ = some (.int .i64 N) := HX1.out.cell 1
  have x2 : W1.cell? ⟨g, 2, none⟩ = some (.string s) := HX1.out.cell 2
  have x3 : W1.cell? ⟨g, 3, none⟩ = some (.int .i64 0) := HX1.out.cell 3
  have hl1 := HX1.out.lt
  go_upto_region 3 with (go_at_call 29; refine (HCk.out _).mono ?_; rintro e w2 ⟨rfl, hb2⟩)
  have HX2 := Lib.hid (HX1.out.below hb2)
  have HY2 := Lib.hid (HY1.out.below hb2)
  have HB2 := Lib.hid (HB1.out.trans (hb2.mono (by omega)))
  clear x0 x1 x2 x3 hl1 hb2 HX1 HY1 HB1
  have x0 : w2.cell? ⟨g, 0, none⟩ = some (.int .i64 0) := HX2.out.cell 0
  have x1 : w2.cell? ⟨g, 1, none⟩ = some (.int .i64 N) := HX2.out.cell 1
  have x2 : w2.cell? ⟨g, 2, none⟩ = some (.string s) := HX2.out.cell 2
  have x3 : w2.cell? ⟨g, 3, none⟩ = some (.int .i64 0) := HX2.out.cell 3
  have hl2 := HX2.out.lt
  go_upto_region 7 with (go_at_call 30; refine (HKy.out _).mono ?_; rintro e w' ⟨rfl, rfl⟩)
  go_wp2_with fail
  refine (HSm.out _ HB2.out).mono ?_
  rintro e w3 ⟨rfl, hb3⟩
  have hx3 := HX2.out.below hb3
  have hy3 := HY2.out.below hb3
  have hb3' := HB2.out.trans (hb3.mono (by omega))
  clear x0 x1 x2 x3 hl2 hb3 HX2 HY2 HB2
  have q3 : w3.cell? ⟨g, 3, none⟩ = some (.int .i64 0) := hx3.cell 3
  have qf : w3.frozen? ⟨g, 3, none⟩ = false := hx3.free 3
  have ql := hx3.lt
  have HX4 := Lib.hid (hx3.set_ 3 (.int .i64 V))
  have HY4 := Lib.hid (hy3.far (p := ⟨g, 3, none⟩) (by show g + 1 ≠ g; omega) (.int .i64 V))
  have HB4 := Lib.hid (hb3'.setCell (p := ⟨g, 3, none⟩) (Nat.le_refl _) (.int .i64 V))
  clear hx3 hy3 hb3'
  go_upto_region 8 with fail
  clear q3 qf ql
  generalize w3.setCell ⟨g, 3, none⟩ (.int .i64 V) = W4 at *
  have x0 : W4.cell? ⟨g, 0, none⟩ = some (.int .i64 0) := HX4.out.cell 0
  have x1 : W4.cell? ⟨g, 1, none⟩ = some (.int .i64 N) := HX4.out.cell 1
  have x2 : W4.cell? ⟨g, 2, none⟩ = some (.string s) := HX4.out.cell 2
  have x3 : W4.cell? ⟨g, 3, none⟩ = some (.int .i64 V) := HX4.out.cell 3
  have r0 : W4.cell? ⟨g + 1, 0, none⟩ = some (.int .i64 0) := HY4.out.cell 0
  have r1 : W4.cell? ⟨g + 1, 1, none⟩ = some (.int .i64 0) := HY4.out.cell 1
  have r2 : W4.cell? ⟨g + 1, 2, none⟩ = some (.string ⟨#[]⟩) := HY4.out.cell 2
  have r3 : W4.cell? ⟨g + 1, 3, none⟩ = some (.int .i64 0) := HY4.out.cell 3
  have rf : ∀ i, W4.frozen? ⟨g + 1, i, none⟩ = false := fun i => HY4.out.free i
  have hl := HY4.out.lt
  go_wp2_with fail
  refine bodyPost_ret (v := .tuple #[.agg #[.int .i64 0, .int .i64 N, .string s, .int .i64 V], .int .i64 0]) (by simp [results, Tryd.results9, go_sem, r0, r1, r2, r3]) rfl ?_
  rw [HG.out]
  exact ⟨rfl, ((((HB4.out.setCell (p := ⟨g + 1, 0, none⟩) (by show g ≤ g + 1; omega) _).setCell (p := ⟨g + 1, 1, none⟩) (by show g ≤ g + 1; omega) _).setCell (p := ⟨g + 1, 2, none⟩) (by show g ≤ g + 1; omega) _).setCell (p := ⟨g + 1, 3, none⟩) (by show g ≤ g + 1; omega) _)⟩

set_option maxHeartbeats 2000000 in
set_option maxRecDepth 100000 in
theorem nright_yes (key N : Int) (s : ByteArray) (w : World) (k1 : 1 ≤ key) (k2 : key ≤ 1000000) (n1 : 1 ≤ N) (n2 : N ≤ 2147483647) (hs : s.size ≤ 200) (hall : AllIn 32 126 s) (hp : Pow w) :
    Calls Tryd.prog 34 #[.int .i64 key, .agg #[.int .i64 0, .int .i64 N, .string s, .int .i64 (sumV key N s)]] w fun e w' => e = .returned (.tuple #[.bool true, .int .i64 0]) ∧ Below w.heap.size w w' := by
  obtain ⟨v1, v2⟩ := sumV_in key N s
  have HCk := Lib.hid (fun W => ncheck_yes N (sumV key N s) s W n1 n2 v1 v2 hs hall)
  have HSm := Lib.hid (fun S W (hW : Below w.heap.size w W) => nsum_any key N S s W k1 k2 n1 n2 hs (hp.next hW))
  have HKy := Lib.hid (fun W => isKey_yes key W k1 k2)
  clear hp hall
  generalize sumV key N s = V at *
  have h1 := below_alloc1 w (Obj.cells #[.int .i64 0, .int .i64 N, .string s, .int .i64 V] 39)
  have y1 := Box.new w 39 #[.int .i64 0, .int .i64 N, .string s, .int .i64 V]
  go_enter Tryd.func34, Tryd.ntmps34
  go_upto_region 1 with fail
  generalize w.alloc (Obj.cells #[.int .i64 0, .int .i64 N, .string s, .int .i64 V] 39) = W0 at *
  generalize hg : w.heap.size = g at *
  have HG := Lib.hid hg
  clear hg
  have x0 : W0.cell? ⟨g, 0, none⟩ = some (.int .i64 0) := y1.cell 0
  have x1 : W0.cell? ⟨g, 1, none⟩ = some (.int .i64 N) := y1.cell 1
  have x2 : W0.cell? ⟨g, 2, none⟩ = some (.string s) := y1.cell 2
  have x3 : W0.cell? ⟨g, 3, none⟩ = some (.int .i64 V) := y1.cell 3
  have hl1 := y1.lt
  have HX1 := Lib.hid y1
  have HB1 := Lib.hid h1
  clear y1 h1
  go_upto_region 2 with (go_at_call 29; refine (HCk.out _).mono ?_; rintro e w2 ⟨rfl, hb2⟩)
  have HX2 := Lib.hid (HX1.out.below hb2)
  have HB2 := Lib.hid (HB1.out.trans (hb2.mono (by omega)))
  clear x0 x1 x2 x3 hl1 hb2 HX1 HB1
  have hl2 := HX2.out.lt
  go_upto_region 6 with (go_at_call 30; refine (HKy.out _).mono ?_; rintro e w' ⟨rfl, rfl⟩)
  have x0 : ∀ W, Below w2.heap.size w2 W → W.cell? ⟨g, 0, none⟩ = some (.int .i64 0) := fun W hW => (HX2.out.below hW).cell 0
  have x1 : ∀ W, Below w2.heap.size w2 W → W.cell? ⟨g, 1, none⟩ = some (.int .i64 N) := fun W hW => (HX2.out.below hW).cell 1
  have x2 : ∀ W, Below w2.heap.size w2 W → W.cell? ⟨g, 2, none⟩ = some (.string s) := fun W hW => (HX2.out.below hW).cell 2
  have x3 : ∀ W, Below w2.heap.size w2 W → W.cell? ⟨g, 3, none⟩ = some (.int .i64 V) := fun W hW => (HX2.out.below hW).cell 3
  refine flow_begin (tellOf [(4, det (.int .i64 V))]) (by kernel_rfl) (by kernel_rfl) ?_
  repeat (first | (refine flow_val (v := ?_) (by rfl) (by rfl) (fun w hb => ?_) ?_; rotate_left; (· ((go_simp) <;> ((repeat' apply And.intro) <;> with_reducible rfl))); try simp only [Act.put, List.setIfInBounds_toArray, List.set_cons_zero, List.set_cons_succ, Nat.reduceAdd]) | (refine flow_skip (by rfl) (by rfl) ?_; try simp only [Act.put, List.setIfInBounds_toArray, List.set_cons_zero, List.set_cons_succ, Nat.reduceAdd]))
  refine flow_call (f := ?_) (args := ?_) [] (by kernel_rfl) (by rfl) (by rfl) (fun w hb => ?_) (fun w hb hu => ?_) ?_; rotate_left 2; (· ((go_simp) <;> ((repeat' apply And.intro) <;> with_reducible rfl)))
  · exact HSm.out V w (HB2.out.trans (hb.mono (by omega)))
  try simp only [Act.put, List.setIfInBounds_toArray, List.set_cons_zero, List.set_cons_succ, Nat.reduceAdd]
  repeat (first | (refine flow_val (v := ?_) (by rfl) (by rfl) (fun w hb => ?_) ?_; rotate_left; (· ((go_simp) <;> ((repeat' apply And.intro) <;> with_reducible rfl))); try simp only [Act.put, List.setIfInBounds_toArray, List.set_cons_zero, List.set_cons_succ, Nat.reduceAdd]) | (refine flow_skip (by rfl) (by rfl) ?_; try simp only [Act.put, List.setIfInBounds_toArray, List.set_cons_zero, List.set_cons_succ, Nat.reduceAdd]))
  refine flow_nil fun w3 hb3 _ => ?_
  have HB3 := Lib.hid (HB2.out.trans (hb3.mono (by omega)))
  clear x0 x1 x2 x3 hb3 HX2 HB2
  go_wp2_with fail
  go_ret2
  exact ⟨rfl, by rw [HG.out]; exact HB3.out⟩
end Go.Proofs.YtifhlmakacoicaaDoor

/- Contract of bureau.read at a text that was written. -/
namespace Go.Proofs.YtifhlmakacoicaaDoor
open Go.RowKit
set_option linter.unusedVariables false

/-- the pieces of a text -/
def pcs (nm : ByteArray) (fr : Int) (L : List Chg) : List ByteArray := nm :: str (Lib.itoa fr) :: L.flatMap fun c => [str (Lib.itoa c.a), str (Lib.itoa c.o), c.l]
theorem pcs_eq (nm : ByteArray) (fr : Int) (L : List Chg) : (nm.data.toList :: txW fr L).map str = pcs nm fr L := by
  unfold txW pcs
  rw [List.map_cons, List.map_cons, str_own, List.map_flatMap]
  congr 2
theorem flat3_len (L : List Chg) : (L.flatMap fun c => [str (Lib.itoa c.a), str (Lib.itoa c.o), c.l]).length = L.length * 3 := by
  induction L with
  | nil => rfl
  | cons x r ih => simp only [List.flatMap_cons, List.length_append, List.length_cons, List.length_nil] at *; omega
theorem flat3_get (L : List Chg) (i : Nat) (h : i < L.length) :
    (L.flatMap fun c => [str (Lib.itoa c.a), str (Lib.itoa c.o), c.l])[i * 3]? = some (str (Lib.itoa (L.getD i chg0).a)) ∧ (L.flatMap fun c => [str (Lib.itoa c.a), str (Lib.itoa c.o), c.l])[i * 3 + 1]? = some (str (Lib.itoa (L.getD i chg0).o)) ∧ (L.flatMap fun c => [str (Lib.itoa c.a), str (Lib.itoa c.o), c.l])[i * 3 + 2]? = some (L.getD i chg0).l := by
  induction L generalizing i with
  | nil => simp at h
  | cons x r ih =>
    cases i with
    | zero => simp
    | succ i =>
      have := ih i (by simpa using h)
      simp only [List.flatMap_cons] at this ⊢
      rw [show (i + 1) * 3 = (i * 3) + 3 from by omega]
      simpa using this
theorem pcs_len (nm : ByteArray) (fr : Int) (L : List Chg) : (pcs nm fr L).length = 2 + L.length * 3 := by
  unfold pcs
  rw [List.length_cons, List.length_cons, flat3_len]
  omega
theorem pcs_get (nm : ByteArray) (fr : Int) (L : List Chg) (i : Nat) (h : i < L.length) :
    (pcs nm fr L)[2 + i * 3]? = some (str (Lib.itoa (L.getD i chg0).a)) ∧ (pcs nm fr L)[2 + i * 3 + 1]? = some (str (Lib.itoa (L.getD i chg0).o)) ∧ (pcs nm fr L)[2 + i * 3 + 2]? = some (L.getD i chg0).l := by
  obtain ⟨h1, h2, h3⟩ := flat3_get L i h
  unfold pcs
  refine ⟨?_, ?_, ?_⟩
  · rw [show 2 + i * 3 = i * 3 + 1 + 1 from by omega, List.getElem?_cons_succ, List.getElem?_cons_succ]; exact h1
  · rw [show 2 + i * 3 + 1 = i * 3 + 1 + 1 + 1 from by omega, List.getElem?_cons_succ, List.getElem?_cons_succ]; exact h2
  · rw [show 2 + i * 3 + 2 = i * 3 + 2 + 1 + 1 from by omega, List.getElem?_cons_succ, List.getElem?_cons_succ]; exact h3

def ReadQ (nm : ByteArray) (fr : Int) (L : List Chg) (w : World) (e : Ending) (w' : World) : Prop :=
  ∃ (A : Option Addr) (c : Nat), e = .returned (.tuple #[.agg #[.string nm, .int .i64 0, .slice A L.length c], .int .i64 fr, .bool true]) ∧ ZIn w' nm A L ∧ (L.length = 0 → A = none ∧ c = 0) ∧ Below w.heap.size w w'
/-- what the loop keeps: k changes are read -/
def RState (gz : Nat) (nm : ByteArray) (L : List Chg) (k : Nat) (wr : World) : Prop :=
  ∃ (A : Option Addr) (c : Nat), Box wr gz 24 #[.string nm, .int .i64 0, .slice A k c] ∧ wr.ownsRow (gz + 1) 26 3 (.slice A k c) k (chCells (L.take k)) ∧ (k = 0 → A = none ∧ c = 0)

set_option maxHeartbeats 4000000 in
set_option maxRecDepth 100000 in
theorem read_bu (nm : ByteArray) (fr : Int) (L : List Chg) (w : World) (hok : ZoneOk nm 0 L) (hfr : InstOk fr) (hge : ∀ x ∈ L, fr ≤ x.a) (hlen : (shL nm fr L).length ≤ 200) (hp : Pow w) (hsh : Shp w) :
    Calls Tryd.prog 41 #[.string (str (shL nm fr L))] w (ReadQ nm fr L w) := by
  have hlate : late fr L = L := by unfold late; rw [List.filter_eq_self]; intro x hx; exact decide_eq_true (hge x hx)
  have hS : shL nm fr L = joinW 32 nm.data.toList (txW fr L) := by unfold shL; rw [hlate]
  have HP := Lib.hid (fun W (hW : Below w.heap.size w W) => hp.next hW)
  have hplain : ∀ x ∈ nm.data.toList :: txW fr L, ∀ b ∈ x, b ≠ 32 := fun x hx b hb => by
    rcases List.mem_cons.1 hx with rfl | hx
    · exact (plain_name nm hok.1 b hb).1
    rcases List.mem_cons.1 hx with rfl | hx
    · exact (plain_itoa fr b hb).1
    obtain ⟨y, hy, hxy⟩ := List.mem_flatMap.1 hx
    obtain ⟨i, hi, rfl⟩ := List.getElem_of_mem hy
    have e : L.getD i chg0 = L[i] := by simp [List.getD, List.getElem?_eq_getElem hi]
    have hl := (hok.2.2.2 i hi).2.2.1
    rw [e] at hl
    unfold chgW at hxy
    simp only [List.mem_cons, List.not_mem_nil, or_false] at hxy
    rcases hxy with rfl | rfl | rfl
    · exact (plain_itoa _ b hb).1
    · exact (plain_itoa _ b hb).1
    · exact (plain_label _ hl b hb).1
  have hsp := fun W (hW : Below w.heap.size w W) => splitw_any 32 nm.data.toList (txW fr L) hplain (by rw [← hS]; omega) W (hsh.next hW)
  rw [← hS, pcs_eq] at hsp
  have hn1 : (txW fr L).length + 1 = 2 + L.length * 3 := by
    have := pcs_len nm fr L
    rw [← pcs_eq, List.length_map, List.length_cons] at this
    exact this
  rw [hn1] at hsp
  have HS := Lib.hid hsp
  have hL2 : L.length ≤ 200 := hok.2.2.1
  have HC : Hid (∀ i, i < L.length → ((pcs nm fr L).map Value.string)[2 + i * 3]? = some (.string (str (Lib.itoa (L.getD i chg0).a))) ∧ ((pcs nm fr L).map Value.string)[2 + i * 3 + 1]? = some (.string (str (Lib.itoa (L.getD i chg0).o))) ∧ ((pcs nm fr L).map Value.string)[2 + i * 3 + 2]? = some (.string (L.getD i chg0).l)) := fun i hi => by
    obtain ⟨a, b, c⟩ := pcs_get nm fr L i hi
    rw [List.getElem?_map, List.getElem?_map, List.getElem?_map, a, b, c]
    exact ⟨rfl, rfl, rfl⟩
  have HC0 : Hid (((pcs nm fr L).map Value.string)[0]? = some (.string nm) ∧ ((pcs nm fr L).map Value.string)[1]? = some (.string (str (Lib.itoa fr)))) := ⟨rfl, rfl⟩
  have HN : Hid (∀ w, Calls Tryd.prog 57 #[.string nm] w fun e w' => e = .returned (.bool true) ∧ w = w') := fun w => (isName_any nm w (by unfold maxLen; have := hok.1.2.1; omega)).mono fun e w' ⟨b, he, hb, hw⟩ => by
    obtain rfl : b = true := hb.2 hok.1
    exact ⟨he, hw⟩
  have HA0 := Lib.hid (fun w => atoi_num fr w (Nat.lt_of_lt_of_le (show fr.natAbs < 1000000000000000 by have := hfr.1; have := hfr.2; omega) (by decide)))
  have HOK := Lib.hid hok
  have HFR := Lib.hid hfr
  have HFit : Hid (∀ W A, Row W W.heap.size A (chCells L) → ZIn W nm A L) := fun W A hr => ⟨hr, by unfold maxLen; have := hok.1.2.1; omega, by unfold maxLen; omega, fun x hx => by
    obtain ⟨i, hi, rfl⟩ := List.getElem_of_mem hx
    obtain ⟨⟨a1, a2⟩, ⟨_, o1, o2⟩, l, _⟩ := hok.2.2.2 i hi
    have e : L.getD i chg0 = L[i] := by simp [List.getD, List.getElem?_eq_getElem hi]
    rw [e] at a1 a2 o1 o2 l
    exact ⟨by omega, by omega, by omega, by omega, by have := l.2.2; unfold maxLen; omega⟩⟩
  have HSH := Lib.hid (fun A c W (hz : ZIn W nm A L) (hW : Below w.heap.size w W) => show_bu nm 0 A c L fr W hz (by have := hok.1.2.1; omega) hfr hL2 hok.fit (hp.next hW))
  clear hp hsh hok hfr hplain hsp hS hlate hge hn1
  obtain ⟨i0, hi0, hz0, hz1, hz2⟩ := info_parts chg_info
  generalize hN : 2 + L.length * 3 = N at *
  have hN3 : (N : Int) % 3 = 2 := by omega
  have hN2 : 2 ≤ N ∧ N ≤ 602 := by omega
  have HNL := Lib.hid hN
  clear hN
  unfold ReadQ
  unfold ShowQ at HSH
  generalize str (shL nm fr L) = S at *
  generalize (pcs nm fr L).map Value.string = PC at *
  generalize str (Lib.itoa fr) = sfr at *
  go_enter Tryd.func41, Tryd.ntmps41
  go_upto_region 1 with fail
  have HX := Lib.hid (Box.new w 24 #[.string ⟨#[]⟩, .int .i64 0, .slice none 0 0])
  have HB0 := Lib.hid (below_alloc1 w (Obj.cells #[.string ⟨#[]⟩, .int .i64 0, .slice none 0 0] 24))
  generalize w.alloc (Obj.cells #[.string ⟨#[]⟩, .int .i64 0, .slice none 0 0] 24) = W0 at *
  generalize hg : w.heap.size = g at *
  have HG := Lib.hid hg
  clear hg
  go_wp2_with fail
  refine (HS.out W0 HB0.out).mono ?_
  rintro e w1 ⟨rfl, hw1⟩
  have hp : Box w1 W0.heap.size 9 PC.toArray := by rw [hw1]; exact Box.new _ _ _
  have hb1 : Below W0.heap.size W0 w1 := by rw [hw1]; exact below_alloc1 _ _
  have hgW : g < W0.heap.size := HX.out.lt
  have HB1 := Lib.hid (HB0.out.trans (hb1.mono (by omega)))
  have HX1 := Lib.hid (HX.out.below hb1)
  generalize hgp : W0.heap.size = gp at *
  have hgl1 : gp < w1.heap.size := hp.lt
  have HGP := Lib.hid hgp
  clear hgp hw1 HS HX HB0 hb1
  have HP1 := Lib.hid hp
  have y0 : w1.cell? ⟨gp, 0, none⟩ = some (.string nm) := by rw [hp.cell 0, List.getElem?_toArray]; exact HC0.out.1
  have y1 : w1.cell? ⟨gp, 1, none⟩ = some (.string sfr) := by rw [hp.cell 1, List.getElem?_toArray]; exact HC0.out.2
  clear hp
  go_upto_region 4 with (go_at_call 57; refine (HN.out _).mono ?_; rintro e w' ⟨rfl, rfl⟩)
  go_upto_region 5 with fail
  have HB2 := Lib.hid (HB1.out.alloc (by have := HB1.out.size; have := HG.out; omega) (Obj.cells #[.string nm, .int .i64 0, .slice none 0 0] 24))
  have HX2 := Lib.hid (HX1.out.alloc (Obj.cells #[.string nm, .int .i64 0, .slice none 0 0] 24))
  have HP2 := Lib.hid (HP1.out.alloc (Obj.cells #[.string nm, .int .i64 0, .slice none 0 0] 24))
  have hZ2 := Box.new w1 24 #[.string nm, .int .i64 0, .slice none 0 0]
  generalize w1.alloc (Obj.cells #[.string nm, .int .i64 0, .slice none 0 0] 24) = W2 at *
  generalize w1.heap.size = gz at *
  have hgp2 : gp < W2.heap.size := HP2.out.lt
  have y1 : W2.cell? ⟨gp, 1, none⟩ = some (.string sfr) := by rw [HP2.out.cell 1, List.getElem?_toArray]; exact HC0.out.2
  have HZ2 := Lib.hid hZ2
  clear y0 HB1 HX1 HP1 hZ2 HN
  go_upto_region 6 with (go_at_call 67; refine (HA0.out _).mono ?_; rintro e w3 ⟨rfl, hb3⟩)
  have HB3 := Lib.hid (HB2.out.trans (hb3.mono (by have := HX2.out.lt; omega)))
  have HX3 := Lib.hid (HX2.out.below hb3)
  have HP3 := Lib.hid (HP2.out.below hb3)
  have HZ3 := Lib.hid (HZ2.out.below hb3)
  have hgz3 := HZ3.out.lt
  clear y1 HB2 HX2 HP2 HZ2 hb3 hgp2 HA0
  have HRS : Hid (RState gz nm L 0 w3) := ⟨none, 0, HZ3.out, World.ownsRow_nil _ _ _ _, fun _ => ⟨rfl, rfl⟩⟩
  clear HZ3
  go_wp2_with fail
  go_loopw [9] (fun iv wr => ∃ n k : Nat, k ≤ L.length ∧ Hid (n = 2 + k * 3) ∧ n ≤ N ∧ iv = .int .i64 (n : Int) ∧ Hid (RState gz nm L k wr) ∧ Hid (Box wr g 24 #[.string ⟨#[]⟩, .int .i64 0, .slice none 0 0]) ∧ Hid (Box wr gp 9 PC.toArray) ∧ Hid (Below g w wr)) (fun iv _ => N - (intOf iv).toNat)
  case atStart => exact ⟨2, 0, by omega, rfl, by omega, rfl, HRS, HX3, HP3, HB3⟩
  case round =>
    clear HRS HX3 HP3 HB3 hgz3
    obtain ⟨n, k, hk, hnk, hnN, rfl, hrs, hx, hp, hbr⟩ := hrel
    by_cases hlt : n < N
    · have hkl : k < L.length := by have := hnk.out; have := HNL.out; omega
      have hn3 : n + 3 ≤ N := by have := hnk.out; have := HNL.out; omega
      obtain ⟨c0, c1, c2⟩ := HC.out k hkl
      rw [← hnk.out] at c0 c1 c2
      obtain ⟨⟨a1, a2⟩, ⟨_, o1, o2⟩, _⟩ := HOK.out.2.2.2 k hkl
      have HA1 := Lib.hid (fun w => atoi_num (L.getD k chg0).a w (Nat.lt_of_lt_of_le (show (L.getD k chg0).a.natAbs < 1000000000000000 by omega) (by decide)))
      have HA2 := Lib.hid (fun w => atoi_num (L.getD k chg0).o w (Nat.lt_of_lt_of_le (show (L.getD k chg0).o.natAbs < 1000000000000000 by omega) (by decide)))
      have HCE : Hid (chCells (L.take (k + 1)) = chCells (L.take k) ++ [.int .i64 (L.getD k chg0).a, .int .i64 (L.getD k chg0).o, .string (L.getD k chg0).l]) := by
        unfold Hid
        rw [List.take_succ_eq_append_getElem hkl, chCells_append]
        simp [chCells, List.getD, List.getElem?_eq_getElem hkl]
      have HC1 := Lib.hid c1
      have HC2 := Lib.hid c2
      have y0 : wr.cell? ⟨gp, n, none⟩ = some (.string (str (Lib.itoa (L.getD k chg0).a))) := by rw [hp.out.cell n, List.getElem?_toArray]; exact c0
      have hgpr : gp < wr.heap.size := hp.out.lt
      have hgzr : gz < wr.heap.size := by obtain ⟨_, _, h, _⟩ := hrs.out; exact h.lt
      clear a1 a2 o1 o2 c0 c1 c2
      generalize str (Lib.itoa (L.getD k chg0).a) = sa at *
      generalize str (Lib.itoa (L.getD k chg0).o) = so at *
      generalize (L.getD k chg0).a = va at *
      generalize (L.getD k chg0).o = vo at *
      generalize (L.getD k chg0).l = vl at *
      go_upto_region 10 with (go_at_call 67; refine (HA1.out _).mono ?_; rintro e w4 ⟨rfl, hb4⟩)
      have hp4 := hp.out.below hb4
      have y1 : w4.cell? ⟨gp, n + 1, none⟩ = some (.string so) := by rw [hp4.cell (n + 1), List.getElem?_toArray]; exact HC1.out
      have HP4 := Lib.hid hp4
      have HX4 := Lib.hid (hx.out.below hb4)
      have HB4 := Lib.hid (hbr.out.trans (hb4.mono (by have := hx.out.lt; omega)))
      obtain ⟨A, c, hz, ho, _⟩ := hrs.out
      have HZ4 := Lib.hid (hz.below hb4)
      have HO4 := Lib.hid (own_next ho hb4)
      clear hz ho hrs hx hp hbr hb4 hp4 y0 HA1
      go_upto_region 11 with (go_at_call 67; refine (HA2.out _).mono ?_; rintro e w5 ⟨rfl, hb5⟩)
      have hW5 := own_next HO4.out hb5
      have hZ5 := HZ4.out.below hb5
      have hP5 := HP4.out.below hb5
      have HX5 := Lib.hid (HX4.out.below hb5)
      have hB5 := HB4.out.trans (hb5.mono (by have := HX4.out.lt; omega))
      clear HP4 HX4 HB4 HZ4 HO4 hb5 y1 HA2
      have hk200 : k ≤ 200 := by omega
      have hbl : ∀ b, (Value.slice A k c).ownBlock = some b → b < w5.heap.size := fun b hb => (own_lt hW5 b hb).2
      have d2 : ∀ W, w5.grownBy W (Value.slice A k c).ownBlock → W.cell? ⟨gz, 2, none⟩ = some (.slice A k c) := fun W hW => (hZ5.grown hW (fun e => by have := own_lt hW5 gz e.symm; omega)).cell 2
      have d4 : ∀ W, w5.grownBy W (Value.slice A k c).ownBlock → W.cell? ⟨gp, n + 2, none⟩ = some (.string vl) := fun W hW => by
        rw [(hP5.grown hW (fun e => ownApart hW5 hP5 (by decide) gp e.symm rfl)).cell (n + 2), List.getElem?_toArray]; exact HC2.out
      have e2 : IntKind.i64.wrap ((n : Int) + 2) = (n : Int) + 2 := IntWalk.i64_in _ (by omega)
      have e3 : ((n : Int) + 2).toNat = n + 2 := by omega
      have e4 : 0 ≤ (n : Int) + 2 ∧ (n : Int) + 2 < (N : Int) := by omega
      refine flowG_begin_tail 13 11 (Value.slice A k c).ownBlock (tellOf []) (by kernel_rfl) (by kernel_rfl) ?_
      simp only [List.take_succ_cons, List.take_zero, List.drop_succ_cons, List.drop_zero]
      repeat (first | (refine flowG_val (v := ?_) (by rfl) (by rfl) (fun w hb => ?_) ?_; rotate_left; (· ((go_simp) <;> ((repeat' apply And.intro) <;> with_reducible rfl))); try simp only [Act.put, List.setIfInBounds_toArray, List.set_cons_zero, List.set_cons_succ, Nat.reduceAdd]) | (refine flowG_skip (by rfl) (by rfl) ?_; try simp only [Act.put, List.setIfInBounds_toArray, List.set_cons_zero, List.set_cons_succ, Nat.reduceAdd]))
      refine flowG_lits (n := ?_) (c := ?_) (t := ?_) (cs := ?_) hbl (by rfl) (by rfl) (fun w hb => ?_) (fun g14 hg14 => ?_); rotate_left 4; (· ((go_simp) <;> ((repeat' apply And.intro) <;> with_reducible rfl))); try simp only [Act.put, List.setIfInBounds_toArray, List.set_cons_zero, List.set_cons_succ, Nat.reduceAdd]
      refine flowG_app [10] (by kernel_rfl) rfl (by rfl) (by rfl) (.tmp 63) (.tmp 72) 22 rfl (gz + 1) 26 i0 (.agg #[.int .i64 0, .int .i64 0, .string ⟨#[]⟩]) 3 32 Tryd.underlying22 hi0 hz0 hz1 hz2 rfl (by decide) (.slice A k c) k (chCells (L.take k)) rfl rfl hW5 (by have := hZ5.lt; omega) ⟨g14, 0, none⟩ 1 1 [.int .i64 va, .int .i64 vo, .string vl] rfl rfl (fun w hb hu => World.news_of_block (cs := #[.int .i64 va, .int .i64 vo, .string vl]) (t := 26) (fr := (0, 0)) (usef_head hu)) (by simp [Value.oneCell']) (by simp only [maxLen]; omega) (by omega) fun A15 cap => ?_
      try simp only [Act.put, List.setIfInBounds_toArray, List.set_cons_zero, List.set_cons_succ, Nat.reduceAdd]
      repeat (first | (refine flowG_val (v := ?_) (by rfl) (by rfl) (fun w hb => ?_) ?_; rotate_left; (· ((go_simp) <;> ((repeat' apply And.intro) <;> with_reducible rfl))); try simp only [Act.put, List.setIfInBounds_toArray, List.set_cons_zero, List.set_cons_succ, Nat.reduceAdd]) | (refine flowG_skip (by rfl) (by rfl) ?_; try simp only [Act.put, List.setIfInBounds_toArray, List.set_cons_zero, List.set_cons_succ, Nat.reduceAdd]))
      refine flowG_nil fun w6 hgrow hf => ?_
      have hown6 : w6.ownsRow (gz + 1) 26 3 (.slice A15 (k + 1) cap) (k + 1) (chCells (L.take k) ++ [.int .i64 va, .int .i64 vo, .string vl]) := hf.1
      rw [← HCE.out] at hown6
      have hne : some gz ≠ (Value.slice A k c).ownBlock := fun e => by have := own_lt hW5 gz e.symm; omega
      have hneg : some g ≠ (Value.slice A k c).ownBlock := fun e => by have := own_lt hW5 g e.symm; omega
      have hx6 := hZ5.grown hgrow hne
      have HX6 := HX5.out.grown hgrow hneg
      have HP6 := hP5.grown hgrow (fun e => ownApart hW5 hP5 (by decide) gp e.symm rfl)
      have hb6 : Below g w w6 := hB5.grown hgrow (by have := HX5.out.lt; omega) (fun q hq => by have := own_lt hW5 q hq; omega)
      have hg6 : gz < w6.heap.size := hx6.lt
      have hf6 : w6.frozen? ⟨gz, 2, none⟩ = false := hx6.free 2
      have hc6 : w6.cell? ⟨gz, 2, none⟩ = some (.slice A k c) := hx6.cell 2
      have HRS7 : Hid (RState gz nm L (k + 1) (w6.setCell ⟨gz, 2, none⟩ (.slice A15 (k + 1) cap))) := ⟨A15, cap, hx6.set_ 2 _, own_heap hown6 fun b hb => by
        have h := ownApart hown6 hx6 (by decide) b hb
        rw [Below.heap_setCell _ _ _ b h], fun h => absurd h (by omega)⟩
      have HX7 := Lib.hid (HX6.far (p := ⟨gz, 2, none⟩) (by show g ≠ gz; omega) (.slice A15 (k + 1) cap))
      have HP7 := Lib.hid (HP6.far (p := ⟨gz, 2, none⟩) (by show gp ≠ gz; omega) (.slice A15 (k + 1) cap))
      have HB7 := Lib.hid (hb6.setCell (p := ⟨gz, 2, none⟩) (by show g ≤ gz; omega) (.slice A15 (k + 1) cap))
      clear e2 e3 e4 hown6 hgrow hne hneg hx6 HX6 HP6 hb6 hZ5 hW5 hB5 hP5 HX5 hf d2 d4 HC1 HC2 HCE
      refine wpList_step fun K hK => ?_
      rw [if_pos (by rfl)]
      go_simp
      refine hK _ _ (wpList_nil ?_)
      clear hK K hg6 hf6 hc6
      generalize w6.setCell ⟨gz, 2, none⟩ (.slice A15 (k + 1) cap) = W7 at *
      go_wp2_with fail
      go_roundw
      case rel => exact ⟨n + 3, k + 1, by omega, by have := hnk.out; unfold Hid; omega, by omega, by go_num, HRS7, HX7, HP7, HB7⟩
      case measure => simp [intOf]; omega
    · obtain rfl : k = L.length := by have := hnk.out; have := HNL.out; omega
      obtain ⟨A, c, hz, ho, hnil⟩ := hrs.out
      have HNIL := Lib.hid hnil
      clear hnil
      rw [List.take_length] at ho
      have hgzr : gz < wr.heap.size := hz.lt
      have HO := Lib.hid ho
      have HZN : Hid (∀ W, wr.grownBy W (some g) → ZIn W nm A L) := fun W hW => HFit.out W A (Row.of_ownS (own_heap ho fun b hb => hW.block b (own_lt ho b hb).2 (by have := own_lt ho b hb; intro e; injection e with e; omega)))
      have HBW : Hid (∀ W, wr.grownBy W (some g) → Below g w W) := fun W hW => hbr.out.grown hW (by have := hx.out.lt; omega) (fun q hq => by injection hq with hq; omega)
      have HZB : Hid (∀ W, wr.grownBy W (some g) → Box W gz 24 #[.string nm, .int .i64 0, .slice A L.length c]) := fun W hW => hz.grown hW (by intro e; injection e with e; omega)
      have HXr := Lib.hid hx.out
      have HBr := Lib.hid hbr.out
      clear hz ho hrs hx hp hbr
      go_upto_region 12 with fail
      have d0 : ∀ W, wr.grownBy W (some g) → W.cell? ⟨gz, 0, none⟩ = some (.string nm) := fun W hW => (HZB.out W hW).cell 0
      have d1 : ∀ W, wr.grownBy W (some g) → W.cell? ⟨gz, 1, none⟩ = some (.int .i64 0) := fun W hW => (HZB.out W hW).cell 1
      have d2 : ∀ W, wr.grownBy W (some g) → W.cell? ⟨gz, 2, none⟩ = some (.slice A L.length c) := fun W hW => (HZB.out W hW).cell 2
      refine flowG_begin 16 (some g) (tellOf [(3, det (.int .i64 0)), (7, det (.bool true)), (12, det (.string S))]) (by kernel_rfl) (by kernel_rfl) ?_
      repeat (first | (refine flowG_val (v := ?_) (by rfl) (by rfl) (fun w hb => ?_) ?_; rotate_left; (· ((go_simp) <;> ((repeat' apply And.intro) <;> with_reducible rfl))); try simp only [Act.put, List.setIfInBounds_toArray, List.set_cons_zero, List.set_cons_succ, Nat.reduceAdd]) | (refine flowG_skip (by rfl) (by rfl) ?_; try simp only [Act.put, List.setIfInBounds_toArray, List.set_cons_zero, List.set_cons_succ, Nat.reduceAdd]))
      refine flowG_told (f := ?_) (args := ?_) (t := det (.int .i64 0)) [] (by kernel_rfl) (by rfl) (by rfl) ⟨_, rfl⟩ (fun _ _ _ _ _ => trivial) (fun w hb => ?_) (fun w hb hu => ?_) ?_; rotate_left 2; (· ((go_simp) <;> ((repeat' apply And.intro) <;> with_reducible rfl)))
      · exact ((HZN.out w hb).check 0 c).mono fun e w' ⟨E, he, hE, hb'⟩ => ⟨_, he, by rw [hE.2 HOK.out]; rfl, trivial, hb'⟩
      rintro v rfl
      try simp only [Act.put, List.setIfInBounds_toArray, List.set_cons_zero, List.set_cons_succ, Nat.reduceAdd]
      repeat (first | (refine flowG_val (v := ?_) (by rfl) (by rfl) (fun w hb => ?_) ?_; rotate_left; (· ((go_simp) <;> ((repeat' apply And.intro) <;> with_reducible rfl))); try simp only [Act.put, List.setIfInBounds_toArray, List.set_cons_zero, List.set_cons_succ, Nat.reduceAdd]) | (refine flowG_skip (by rfl) (by rfl) ?_; try simp only [Act.put, List.setIfInBounds_toArray, List.set_cons_zero, List.set_cons_succ, Nat.reduceAdd]))
      refine flowG_told (f := ?_) (args := ?_) (t := det (.bool true)) [] (by kernel_rfl) (by rfl) (by rfl) ⟨_, rfl⟩ (fun _ _ _ _ _ => trivial) (fun w hb => ?_) (fun w hb hu => ?_) ?_; rotate_left 2; (· ((go_simp) <;> ((repeat' apply And.intro) <;> with_reducible rfl)))
      · exact (isInstant_yes fr w HFR.out).mono fun e w' ⟨he, n', hw'⟩ => ⟨_, he, rfl, trivial, by rw [hw']; exact below_drewN _ _⟩
      rintro v rfl
      try simp only [Act.put, List.setIfInBounds_toArray, List.set_cons_zero, List.set_cons_succ, Nat.reduceAdd]
      repeat (first | (refine flowG_val (v := ?_) (by rfl) (by rfl) (fun w hb => ?_) ?_; rotate_left; (· ((go_simp) <;> ((repeat' apply And.intro) <;> with_reducible rfl))); try simp only [Act.put, List.setIfInBounds_toArray, List.set_cons_zero, List.set_cons_succ, Nat.reduceAdd]) | (refine flowG_skip (by rfl) (by rfl) ?_; try simp only [Act.put, List.setIfInBounds_toArray, List.set_cons_zero, List.set_cons_succ, Nat.reduceAdd]))
      refine flowG_told (f := ?_) (args := ?_) (t := det (.string S)) [] (by kernel_rfl) (by rfl) (by rfl) ⟨_, rfl⟩ (fun _ _ _ _ _ => trivial) (fun w hb => ?_) (fun w hb hu => ?_) ?_; rotate_left 2; (· ((go_simp) <;> ((repeat' apply And.intro) <;> with_reducible rfl)))
      · exact (HSH.out A c w (HZN.out w hb) (HBW.out w hb)).mono fun e w' ⟨he, hb'⟩ => ⟨_, he, rfl, trivial, hb'⟩
      rintro v rfl
      try simp only [Act.put, List.setIfInBounds_toArray, List.set_cons_zero, List.set_cons_succ, Nat.reduceAdd]
      repeat (first | (refine flowG_val (v := ?_) (by rfl) (by rfl) (fun w hb => ?_) ?_; rotate_left; (· ((go_simp) <;> ((repeat' apply And.intro) <;> with_reducible rfl))); try simp only [Act.put, List.setIfInBounds_toArray, List.set_cons_zero, List.set_cons_succ, Nat.reduceAdd]) | (refine flowG_skip (by rfl) (by rfl) ?_; try simp only [Act.put, List.setIfInBounds_toArray, List.set_cons_zero, List.set_cons_succ, Nat.reduceAdd]))
      refine flowG_store (F := fun w => Box w g 24 #[.string nm, .int .i64 0, .slice A L.length c]) [] (by kernel_rfl) rfl (by rfl) (by rfl) (fun w w' hb h => h.below hb) (fun w hb hu => ?_) ?_
      · have hx := HXr.out.below hb
        have q0 : w.cell? ⟨g, 0, none⟩ = some (.string ⟨#[]⟩) := hx.cell 0
        have q1 : w.cell? ⟨g, 1, none⟩ = some (.int .i64 0) := hx.cell 1
        have q2 : w.cell? ⟨g, 2, none⟩ = some (.slice none 0 0) := hx.cell 2
        have qf : ∀ i, w.frozen? ⟨g, i, none⟩ = false := fun i => hx.free i
        have ql := hx.lt
        exact ⟨((w.setCell ⟨g, 0, none⟩ (.string nm)).setCell ⟨g, 1, none⟩ (.int .i64 0)).setCell ⟨g, 2, none⟩ (.slice A L.length c), by go_simp, ((hx.set_ 0 (.string nm)).set_ 1 (.int .i64 0)).set_ 2 (.slice A L.length c), ((grown_set _ g 0 _).trans (grown_set _ g 1 _)).trans (grown_set _ g 2 _)⟩
      repeat (first | (refine flowG_val (v := ?_) (by rfl) (by rfl) (fun w hb => ?_) ?_; rotate_left; (· ((go_simp) <;> ((repeat' apply And.intro) <;> with_reducible rfl))); try simp only [Act.put, List.setIfInBounds_toArray, List.set_cons_zero, List.set_cons_succ, Nat.reduceAdd]) | (refine flowG_skip (by rfl) (by rfl) ?_; try simp only [Act.put, List.setIfInBounds_toArray, List.set_cons_zero, List.set_cons_succ, Nat.reduceAdd]))
      refine flowG_nil fun w2 hgrow hf => ?_
      have hx2 : Box w2 g 24 #[.string nm, .int .i64 0, .slice A L.length c] := hf.1
      have HZ2 := Lib.hid (HZN.out w2 hgrow)
      have HB2 := Lib.hid (HBW.out w2 hgrow)
      have r0 : w2.cell? ⟨g, 0, none⟩ = some (.string nm) := hx2.cell 0
      have r1 : w2.cell? ⟨g, 1, none⟩ = some (.int .i64 0) := hx2.cell 1
      have r2 : w2.cell? ⟨g, 2, none⟩ = some (.slice A L.length c) := hx2.cell 2
      clear hgrow hf hx2 d0 d1 d2 HSH HZN HBW HZB HXr HBr
      go_wp2_with fail
      refine bodyPost_ret (v := .tuple #[.agg #[.string nm, .int .i64 0, .slice A L.length c], .int .i64 fr, .bool true]) (by simp [results, Tryd.results41, go_sem, r0, r1, r2]) rfl ?_
      exact ⟨A, c, rfl, HZ2.out, HNIL.out, by rw [HG.out]; exact HB2.out⟩
end Go.Proofs.YtifhlmakacoicaaDoor

/- Contracts of package bureau: copyZone. -/
namespace Go.Proofs.YtifhlmakacoicaaDoor
open Go.RowKit
set_option linter.unusedVariables false

def CopyQ (nm : ByteArray) (first : Int) (chs : List Chg) (w : World) (e : Ending) (w' : World) : Prop :=
  ∃ (A : Option Addr) (c : Nat), e = .returned (.agg #[.string nm, .int .i64 first, .slice A chs.length c]) ∧ w'.ownsRow w.heap.size 26 3 (.slice A chs.length c) chs.length (chCells chs) ∧ Below w.heap.size w w'
set_option maxHeartbeats 2000000 in
set_option maxRecDepth 100000 in
theorem copy_bu (nm : ByteArray) (first : Int) (A : Option Addr) (c : Nat) (chs : List Chg) (w : World) (hz : ZIn w nm A chs) (hl : chs.length ≤ 200) :
    Calls Tryd.prog 39 #[.agg #[.string nm, .int .i64 first, .slice A chs.length c]] w (CopyQ nm first chs w) := by
  have h1 := below_alloc2 w (Obj.cells #[.string nm, .int .i64 first, .slice A chs.length c] 24) (Obj.cells #[.string ⟨#[]⟩, .int .i64 0, .slice none 0 0] 24)
  have y1 := (Box.new w 24 #[.string nm, .int .i64 first, .slice A chs.length c]).alloc (Obj.cells #[.string ⟨#[]⟩, .int .i64 0, .slice none 0 0] 24)
  have y2 := Box.new (w.alloc (Obj.cells #[.string nm, .int .i64 first, .slice A chs.length c] 24)) 24 #[.string ⟨#[]⟩, .int .i64 0, .slice none 0 0]
  rw [World.size_alloc] at y2
  have HZ := Lib.hid (fun W (hW : Below w.heap.size w W) => (hz.next hW).row)
  clear hz
  unfold CopyQ
  go_enter Tryd.func39, Tryd.ntmps39
  go_upto_region 1 with fail
  generalize (w.alloc (Obj.cells #[.string nm, .int .i64 first, .slice A chs.length c] 24)).alloc (Obj.cells #[.string ⟨#[]⟩, .int .i64 0, .slice none 0 0] 24) = W0 at *
  generalize hg : w.heap.size = g at *
  have HG := Lib.hid hg
  clear hg
  have HC := Lib.hid (clone_chs A c chs W0 (HZ.out W0 h1) (by omega))
  have x0 : W0.cell? ⟨g, 2, none⟩ = some (.slice A chs.length c) := y1.cell 2
  have hgl : g + 1 < W0.heap.size := y2.lt
  have HY1 := Lib.hid y1
  have HY2 := Lib.hid y2
  have HB1 := Lib.hid h1
  clear y1 y2 h1 HZ
  go_wp2_with fail
  refine HC.out.mono ?_
  rintro e w1 ⟨v, rfl, ho, hb⟩
  obtain ⟨A1, c1, rfl, _⟩ := own_form ho
  have hy1 := HY1.out.below hb
  have hy2 := HY2.out.below hb
  have hb1 := HB1.out.trans (hb.mono (by omega))
  have x2 : w1.cell? ⟨g, 2, none⟩ = some (.slice A chs.length c) := hy1.cell 2
  have xf : w1.frozen? ⟨g, 2, none⟩ = false := hy1.free 2
  have hl1 := hy1.lt
  have HY1' := Lib.hid (hy1.set_ 2 (.slice A1 chs.length c1))
  have HY2' := Lib.hid (hy2.far (p := ⟨g, 2, none⟩) (by show g + 1 ≠ g; omega) (.slice A1 chs.length c1))
  have HB1' := Lib.hid (hb1.setCell (p := ⟨g, 2, none⟩) (Nat.le_refl _) (.slice A1 chs.length c1))
  have HO1 := Lib.hid (own_lower ho (show g ≤ W0.heap.size by omega))
  have HO : Hid ((w1.setCell ⟨g, 2, none⟩ (.slice A1 chs.length c1)).ownsRow g 26 3 (.slice A1 chs.length c1) chs.length (chCells chs)) := own_heap HO1.out fun b hb => by
    have h := ownApart HO1.out hy1 (by decide) b hb
    rw [Below.heap_setCell _ _ _ b h]
  clear HC ho hb hy1 hy2 hb1 HY1 HY2 HB1 x0 HO1 hgl
  go_upto_region 2 with fail
  clear x2 xf hl1
  generalize w1.setCell ⟨g, 2, none⟩ (.slice A1 chs.length c1) = W2 at *
  have x0 : W2.cell? ⟨g, 0, none⟩ = some (.string nm) := HY1'.out.cell 0
  have x1 : W2.cell? ⟨g, 1, none⟩ = some (.int .i64 first) := HY1'.out.cell 1
  have x2 : W2.cell? ⟨g, 2, none⟩ = some (.slice A1 chs.length c1) := HY1'.out.cell 2
  have r0 : W2.cell? ⟨g + 1, 0, none⟩ = some (.string ⟨#[]⟩) := HY2'.out.cell 0
  have r1 : W2.cell? ⟨g + 1, 1, none⟩ = some (.int .i64 0) := HY2'.out.cell 1
  have r2 : W2.cell? ⟨g + 1, 2, none⟩ = some (.slice none 0 0) := HY2'.out.cell 2
  have rf : ∀ i, W2.frozen? ⟨g + 1, i, none⟩ = false := fun i => HY2'.out.free i
  have hl2 := HY2'.out.lt
  go_wp2_with fail
  refine bodyPost_ret (v := .agg #[.string nm, .int .i64 first, .slice A1 chs.length c1]) (by simp [results, Tryd.results39, go_sem, r0, r1, r2]) rfl ?_
  rw [HG.out]
  refine ⟨A1, c1, rfl, own_heap HO.out fun b hb => ?_, ((HB1'.out.setCell (p := ⟨g + 1, 0, none⟩) (by show g ≤ g + 1; omega) _).setCell (p := ⟨g + 1, 1, none⟩) (by show g ≤ g + 1; omega) _).setCell (p := ⟨g + 1, 2, none⟩) (by show g ≤ g + 1; omega) _⟩
  have h := ownApart HO.out HY2'.out (by decide) b hb
  rw [Below.heap_setCell _ _ _ b h, Below.heap_setCell _ _ _ b h, Below.heap_setCell _ _ _ b h]
end Go.Proofs.YtifhlmakacoicaaDoor

/- slices.DeleteFunc of the last changes of a zone. -/
namespace Go.Proofs.YtifhlmakacoicaaDoor
open Go.RowKit
set_option linter.unusedVariables false

theorem grown_setCell1 (w : World) (g o : Nat) (u : Value) : w.grownBy (w.setCell ⟨g, o, none⟩ u) (some g) :=
  ⟨rfl, rfl, rfl, by rw [World.size_setCell]; exact Nat.le_refl _, fun k hk hne => Below.heap_setCell w ⟨g, o, none⟩ u k (fun e => hne (by rw [e]))⟩
theorem grown_setCellsR (g : Nat) : ∀ (xs : List Value) (o : Nat) (w : World) , w.grownBy (w.setCells g o xs) (some g)
  | [], _, w => ⟨rfl, rfl, rfl, Nat.le_refl _, fun _ _ _ => rfl⟩
  | x :: xs, o, w => World.grownBy.trans (grown_setCell1 w g o x) (grown_setCellsR g xs (o + 1) _)
theorem box_setCellsR {t : TypeId} (g : Nat) : ∀ (xs : List Value) (o : Nat) (w : World) (cur : Array Value), Box w g t cur → ∃ cur' : Array Value, cur'.size = cur.size ∧ (∀ j, j < o → cur'[j]? = cur[j]?) ∧ Box (w.setCells g o xs) g t cur'
  | [], _, w, cur, h => ⟨cur, rfl, fun _ _ => rfl, h⟩
  | x :: xs, o, w, cur, h => by
    obtain ⟨cur', h1, h2, h3⟩ := box_setCellsR g xs (o + 1) (w.setCell ⟨g, o, none⟩ x) _ (h.set_ o x)
    refine ⟨cur', by simpa using h1, fun j hj => ?_, h3⟩
    rw [h2 j (by omega)]
    rw [Array.getElem?_setIfInBounds_ne (by omega)]
/-- the cells that clear writes -/
def zsC (m : Nat) : List Value := (Builtin.zeroCells #[.int .i64 0, .int .i64 0, .string ⟨#[]⟩] m).toList
theorem zsC_len (m : Nat) : (zsC m).length = m * 3 := by simp [zsC, Builtin.zeroCells]
theorem zsC_one (m : Nat) : ∀ v ∈ zsC m, v.oneCell' = true := fun v hv => by
  unfold zsC Builtin.zeroCells at hv
  simp only [Array.toList_map, List.mem_map] at hv
  obtain ⟨i, _, rfl⟩ := hv
  have h3 : i % 3 < 3 := Nat.mod_lt _ (by omega)
  show (#[Value.int .i64 0, .int .i64 0, .string ⟨#[]⟩][i % 3]!).oneCell' = true
  generalize i % 3 = k at h3
  match k, h3 with
  | 0, _ => rfl
  | 1, _ => rfl
  | 2, _ => rfl
theorem run_clear_chs (w : World) (ty : TypeId) (g o m c : Nat) (cur : Array Value) (hg : Box w g 26 cur) (hm : 1 ≤ m) (hfit : o + m * 3 ≤ cur.size) :
    (Builtin.clear_ #[22] ty #[.slice (some ⟨g, o, none⟩) m c]).run Tryd.prog w = .ok (.tuple #[]) (w.setCells g o (zsC m)) := by
  obtain ⟨i0, hi0, hz0, hz1, hz2⟩ := info_parts chg_info
  have hst := run_storeCells_cells (P := Tryd.prog) g o (zsC m) 0 w (fun j hj => by
    rw [hg.cell, zsC_len] at *
    rw [Array.getElem?_eq_getElem (by omega)]
    rfl) (fun j hj => hg.free _) (zsC_one m)
  simp only [Nat.add_zero] at hst
  have hzc : (Builtin.zeroCells (Value.agg #[.int .i64 0, .int .i64 0, .string ⟨#[]⟩]).cells m).toList = zsC m := rfl
  have hv : ∀ w, (zeroValue 26).run Tryd.prog w = .ok (.agg #[.int .i64 0, .int .i64 0, .string ⟨#[]⟩]) w := fun w => by simp [zeroValue, typeInfo, hi0, hz0]
  obtain ⟨k, rfl⟩ : ∃ k, m = k + 1 := ⟨m - 1, by omega⟩
  simp [Builtin.clear_, run_underlying Tryd.underlying22, hv, hzc, hst]

set_option maxRecDepth 100000 in
theorem take1_any (gf : Nat) (fr a o : Int) (l : ByteArray) (W : World) (hx : W.cell? ⟨gf, 0, none⟩ = some (.int .i64 fr)) :
    Calls Tryd.prog 43 (#[.agg #[.int .i64 a, .int .i64 o, .string l]] ++ #[.pointer (some ⟨gf, 0, none⟩)]) W fun e w' => e = .returned (.bool (decide (fr ≤ a))) ∧ Below W.heap.size W w' := by
  have hlt : gf < W.heap.size := block_lt_of_cell hx
  have hx' : (W.alloc (Obj.cells #[.int .i64 a, .int .i64 o, .string l] 26)).cell? ⟨gf, 0, none⟩ = some (.int .i64 fr) := ((below_alloc1 W _).cell (p := ⟨gf, 0, none⟩) hlt).trans hx
  have HB := Lib.hid (below_alloc1 W (Obj.cells #[.int .i64 a, .int .i64 o, .string l] 26))
  go_enter Tryd.func43, Tryd.ntmps43
  go_wp2_with fail
  go_ret
  exact ⟨rfl, HB.out⟩

/-- what IndexFunc says -/
def idxV (k n : Nat) : Value := if k < n then .int .i64 k else .int .i64 (-1)
set_option maxHeartbeats 1000000 in
set_option maxRecDepth 100000 in
theorem idx_late (gf : Nat) (fr : Int) (A : Option Addr) (c : Nat) (chs : List Chg) (w : World) (hl : chs.length ≤ 200) (hs : Sorted chs) (hx : w.cell? ⟨gf, 0, none⟩ = some (.int .i64 fr)) (hr : Row w w.heap.size A (chCells chs)) :
    Calls Tryd.prog 68 #[.slice A chs.length c, .func (.func 43) #[] #[.pointer (some ⟨gf, 0, none⟩)]] w fun e w' => e = .returned (idxV (seg chs (fr - 1)) chs.length) ∧ Below w.heap.size w w' := by
  have HC := Lib.hid (fun W (hW : Below w.heap.size w W) a o l => take1_any gf fr a o l W ((hW.cell (p := ⟨gf, 0, none⟩) (block_lt_of_cell hx)).trans hx))
  have HR := Lib.hid (fun W (hW : Below w.heap.size w W) => hr.next hW)
  have hlo := Lib.hid (seg_before chs (fr - 1))
  have hhi := Lib.hid (seg_after chs (fr - 1))
  have hsl := seg_le chs (fr - 1)
  have eg : ∀ args w, (callFunc 43 args).run Tryd.prog w = .ok (.enter 43 args) w := fun args w => by kernel_rfl
  clear hr hx hs
  generalize seg chs (fr - 1) = k0 at *
  unfold idxV
  go_enter Tryd.func68, Tryd.ntmps68
  go_wp2_with fail
  go_loopw [5, 8] (fun _ i wr => ∃ k : Nat, k ≤ k0 ∧ i = .int .i64 (k : Int) ∧ Hid (Below w.heap.size w wr)) (fun _ i _ => chs.length - (intOf i).toNat)
  case atStart => exact ⟨0, by omega, rfl, Below.refl _ _⟩
  case round =>
    obtain ⟨k, hk, rfl, hbr⟩ := hrel
    by_cases hlt : k < chs.length
    · obtain ⟨b, o, rfl, _, hcs⟩ := (HR.out _ hbr.out).open_ (chCells_ne chs (by omega))
      obtain ⟨y0, y1, y2⟩ := ch_cells hcs k hlt
      have HCk := Lib.hid (HC.out wr hbr.out (chs.getD k chg0).a (chs.getD k chg0).o (chs.getD k chg0).l)
      have hlow : k < k0 → (chs.getD k chg0).a ≤ fr - 1 := hlo.out k
      have hhigh : k = k0 → fr - 1 < (chs.getD k chg0).a := fun e => by
        have := hhi.out
        rw [← e] at this
        rcases this with h | h
        · omega
        · exact h
      clear hcs
      generalize (chs.getD k chg0).a = va at *
      generalize (chs.getD k chg0).o = vo at *
      generalize (chs.getD k chg0).l = vl at *
      by_cases hkk : k < k0
      · have t1 : decide (fr ≤ va) = false := decide_eq_false (by have := hlow hkk; omega)
        rw [t1] at HCk
        clear hlow hhigh t1
        go_wp2_with (go_at_fn 43; refine HCk.out.mono ?_; rintro e w' ⟨rfl, hb'⟩)
        have HB' := Lib.hid (below_then hbr.out hb')
        go_roundw
        case rel => exact ⟨k + 1, by omega, by go_num, HB'⟩
        case measure => simp [intOf]; omega
      · obtain rfl : k = k0 := by omega
        have t1 : decide (fr ≤ va) = true := decide_eq_true (by have := hhigh rfl; omega)
        rw [t1] at HCk
        clear hlow hhigh t1
        go_wp2_with (go_at_fn 43; refine HCk.out.mono ?_; rintro e w' ⟨rfl, hb'⟩)
        have HB' := Lib.hid (below_then hbr.out hb')
        go_ret
        exact ⟨rfl, HB'.out⟩
    · go_wp2_with fail
      go_ret
      exact ⟨rfl, hbr.out⟩

def DelQ (B : Nat) (chs : List Chg) (k : Nat) (row : Option Nat) (w : World) (e : Ending) (w' : World) : Prop :=
  ∃ (A : Option Addr) (c : Nat), e = .returned (.slice A k c) ∧ w'.ownsRow B 26 3 (.slice A k c) k (chCells (chs.take k)) ∧ w.grownBy w' row
set_option maxHeartbeats 2000000 in
set_option maxRecDepth 100000 in
theorem delete_late (B gf : Nat) (fr : Int) (A : Option Addr) (c : Nat) (chs : List Chg) (w : World) (hl : chs.length ≤ 200) (hs : Sorted chs) (hx : w.cell? ⟨gf, 0, none⟩ = some (.int .i64 fr)) (ho : w.ownsRow B 26 3 (.slice A chs.length c) chs.length (chCells chs)) :
    Calls Tryd.prog 42 #[.slice A chs.length c, .func (.func 43) #[] #[.pointer (some ⟨gf, 0, none⟩)]] w (DelQ B chs (seg chs (fr - 1)) (Value.slice A chs.length c).ownBlock w) := by
  have HI := Lib.hid (idx_late gf fr A c chs w hl hs hx (Row.of_ownS ho))
  have HC := Lib.hid (fun W (hW : Below w.heap.size w W) a o l => take1_any gf fr a o l W ((hW.cell (p := ⟨gf, 0, none⟩) (block_lt_of_cell hx)).trans hx))
  have HO := Lib.hid (fun W (hW : Below w.heap.size w W) => own_next ho hW)
  have hsl := seg_le chs (fr - 1)
  have eg : ∀ args w, (callFunc 43 args).run Tryd.prog w = .ok (.enter 43 args) w := fun args w => by kernel_rfl
  have HGE : Hid (∀ i, seg chs (fr - 1) ≤ i → i < chs.length → fr ≤ (chs.getD i chg0).a) := fun i h1 h2 => by
    rcases seg_after chs (fr - 1) with e | e
    · omega
    · have := hs.le _ _ h1 h2
      omega
  clear hx hs
  unfold DelQ
  generalize seg chs (fr - 1) = k at *
  unfold idxV at HI
  by_cases hk : k < chs.length
  · rw [if_pos hk] at HI
    obtain ⟨g, cap, cur, hv, hbg, hgb, hnc, hcm, hcs, htk⟩ : ∃ g cap cur, Value.slice A chs.length c = .slice (some ⟨g, 0, none⟩) chs.length cap ∧ B ≤ g ∧ w.heap[g]? = some (.cells cur 26 (0, 0)) ∧ chs.length ≤ cap ∧ cap ≤ maxLen ∧ cur.size = cap * 3 ∧ cur.toList.take (chs.length * 3) = chCells chs := by
      rcases ho.2 with ⟨_, h0⟩ | h
      · omega
      · exact h
    cases hv
    have HBX : Hid (∀ W, Below w.heap.size w W → Box W g 26 cur) := fun W hW => Box.below (w := w) (t := 26) hgb hW
    have HTK := Lib.hid htk
    have HCS := Lib.hid hcs
    have HCM := Lib.hid hcm
    have hck : ¬ c = k := by omega
    clear hgb htk hcs hcm ho
    go_enter Tryd.func42, Tryd.ntmps42
    go_wp2_with fail
    refine HI.out.mono ?_
    rintro e w1 ⟨rfl, hb1⟩
    have HB1 := Lib.hid hb1
    have tk : ((k : Int) == -1) = false := by rw [beq_eq_false_iff_ne]; omega
    clear hb1 HI
    go_wp2_with fail
    go_loopw [5, 6, 7] (fun iv jv _ wr => ∃ j : Nat, k + 1 ≤ j ∧ j ≤ chs.length ∧ iv = .int .i64 (k : Int) ∧ jv = .int .i64 (j : Int) ∧ Hid (Below w.heap.size w wr)) (fun _ jv _ _ => chs.length - (intOf jv).toNat)
    case atStart => exact ⟨k + 1, by omega, by omega, rfl, by go_num, HB1⟩
    case round =>
      clear HB1 tk
      obtain ⟨j, hj1, hj2, rfl, rfl, hbr⟩ := hrel
      by_cases hlt : j < chs.length
      · obtain ⟨b, o, e1, hbl, hcs⟩ := (Row.of_ownS (HO.out wr hbr.out)).open_ (chCells_ne chs (by omega))
        cases e1
        obtain ⟨y0, y1, y2⟩ := ch_cells hcs j hlt
        rw [Nat.zero_add] at y0 y1 y2
        have HCj := Lib.hid (fun W (hW : Below w.heap.size w W) => HC.out W hW (chs.getD j chg0).a (chs.getD j chg0).o (chs.getD j chg0).l)
        have t1 : decide (fr ≤ (chs.getD j chg0).a) = true := decide_eq_true (HGE.out j (by omega) hlt)
        rw [t1] at HCj
        clear hcs t1
        generalize (chs.getD j chg0).a = va at *
        generalize (chs.getD j chg0).o = vo at *
        generalize (chs.getD j chg0).l = vl at *
        go_upto_region 8 with fail
        have hX := Box.new wr 26 #[.int .i64 va, .int .i64 vo, .string vl]
        have HB2 := Lib.hid (hbr.out.alloc hbr.out.size (Obj.cells #[.int .i64 va, .int .i64 vo, .string vl] 26))
        generalize wr.alloc (Obj.cells #[.int .i64 va, .int .i64 vo, .string vl] 26) = W2 at *
        generalize wr.heap.size = g2 at *
        have x0 : W2.cell? ⟨g2, 0, none⟩ = some (.int .i64 va) := hX.cell 0
        have x1 : W2.cell? ⟨g2, 1, none⟩ = some (.int .i64 vo) := hX.cell 1
        have x2 : W2.cell? ⟨g2, 2, none⟩ = some (.string vl) := hX.cell 2
        clear hX y0 y1 y2
        go_wp2_with (go_at_fn 43; refine (HCj.out _ HB2.out).mono ?_; rintro e w3 ⟨rfl, hb3⟩)
        have HB3 := Lib.hid (below_then HB2.out hb3)
        clear hb3 x0 x1 x2
        go_roundw
        case rel => exact ⟨j + 1, by omega, by omega, rfl, by go_num, HB3⟩
        case measure => simp [intOf]; omega
      · obtain rfl : j = chs.length := by omega
        have hbx := HBX.out wr hbr.out
        obtain ⟨cur', h1, h2, h3⟩ := box_setCellsR g (zsC (chs.length - k)) (k * 3) wr cur hbx
        have hCL : ∀ ty cc, (Builtin.clear_ #[22] ty #[.slice (some ⟨g, k * 3, none⟩) (chs.length - k) cc]).run Tryd.prog wr = .ok (.tuple #[]) (wr.setCells g (k * 3) (zsC (chs.length - k))) := fun ty cc => run_clear_chs wr ty g (k * 3) (chs.length - k) cc cur hbx (by omega) (by rw [HCS.out]; omega)
        have HH3 := Lib.hid h3
        have HH2 := Lib.hid h2
        have HH1 := Lib.hid h1
        have HGR := Lib.hid (World.grownBy.trans (grown_bel (row := some g) hbr.out) (grown_setCellsR g (zsC (chs.length - k)) (k * 3) wr))
        clear h1 h2 h3 hbx
        generalize wr.setCells g (k * 3) (zsC (chs.length - k)) = W4 at *
        go_wp2_with fail
        go_ret
        refine ⟨some ⟨g, 0, none⟩, c, rfl, ⟨?_, .inr ⟨g, c, cur', rfl, hbg, HH3.out, by omega, HCM.out, by rw [HH1.out]; exact HCS.out, ?_⟩⟩, HGR.out⟩
        · rw [chCells_length, List.length_take]; omega
        · have e1 : cur'.toList.take (k * 3) = cur.toList.take (k * 3) := by
            apply List.ext_getElem?
            intro i
            rw [List.getElem?_take, List.getElem?_take]
            split
            · rename_i hi
              have := HH2.out i hi
              simpa using this
            · rfl
          have e2 : (cur.toList.take (chs.length * 3)).take (k * 3) = cur.toList.take (k * 3) := by rw [List.take_take, Nat.min_eq_left (by omega)]
          rw [e1, ← e2, HTK.out]
          clear HH1 HH2 HH3 HTK HCS HBX HGR e1 e2
          have := chCells_append (chs.take k) (chs.drop k)
          rw [List.take_append_drop] at this
          rw [this, List.take_append_of_le_length (by rw [chCells_length, List.length_take]; omega), List.take_of_length_le (by rw [chCells_length, List.length_take]; omega)]
  · rw [if_neg hk] at HI
    obtain rfl : k = chs.length := by omega
    go_enter Tryd.func42, Tryd.ntmps42
    go_wp2_with fail
    refine HI.out.mono ?_
    rintro e w1 ⟨rfl, hb1⟩
    have HB1 := Lib.hid hb1
    have HO1 := Lib.hid (HO.out w1 hb1)
    clear hb1 HI
    go_wp2_with fail
    go_ret
    exact ⟨A, c, rfl, by rw [List.take_length]; exact HO1.out, grown_bel HB1.out⟩
end Go.Proofs.YtifhlmakacoicaaDoor

/- Contracts of package bureau: a bureau in memory; New at one zone. -/
namespace Go.Proofs.YtifhlmakacoicaaDoor
open Go.RowKit
set_option linter.unusedVariables false

/-- the cells of a zone -/
def znCells (nm : ByteArray) (first : Int) (A : Option Addr) (n c : Nat) : List Value := [.string nm, .int .i64 first, .slice A n c]
/-- a bureau of one author in memory: its key, the zone at the start, the zone now, the number of the last notice -/
def BuIn (w : World) (B D gb : Nat) (key : Int) (nm : ByteArray) (first : Int) (O N : List Chg) (num : Int) : Prop :=
  ∃ (bk bo gn gm ck co cn cm : Nat) (oA nA : Option Addr) (oc nc : Nat),
    B ≤ gb ∧ Box w gb 82 #[.slice (some ⟨bk, 0, none⟩) 1 ck, .slice (some ⟨bo, 0, none⟩) 1 co, .slice (some ⟨gn, 0, none⟩) 1 cn, .slice (some ⟨gm, 0, none⟩) 1 cm] ∧
    w.ownsRow B 3 1 (.slice (some ⟨bk, 0, none⟩) 1 ck) 1 [.int .i64 key] ∧ w.ownsRow B 24 3 (.slice (some ⟨bo, 0, none⟩) 1 co) 1 (znCells nm first oA O.length oc) ∧ w.ownsRow B 26 3 (.slice oA O.length oc) O.length (chCells O) ∧ ZIn w nm oA O ∧
    w.ownsRow B 24 3 (.slice (some ⟨gn, 0, none⟩) 1 cn) 1 (znCells nm first nA N.length nc) ∧ ZIn w nm nA N ∧
    B ≤ gm ∧ Box w gm 3 #[.int .i64 num] ∧ bk ≠ gm ∧ bo ≠ gn ∧ gn < D ∧ gm < D
theorem BuIn.next {w w' : World} {B D gb : Nat} {key : Int} {nm : ByteArray} {first : Int} {O N : List Chg} {num : Int} (h : BuIn w B D gb key nm first O N num) (hb : Below w.heap.size w w') : BuIn w' B D gb key nm first O N num := by
  obtain ⟨bk, bo, gn, gm, ck, co, cn, cm, oA, nA, oc, nc, h1, h2, h3, h4, h5, h5z, h6, h7, h8, h9, h10, h11⟩ := h
  exact ⟨bk, bo, gn, gm, ck, co, cn, cm, oA, nA, oc, nc, h1, h2.below hb, own_next h3 hb, own_next h4 hb, own_next h5 hb, h5z.next hb, own_next h6 hb, h7.next hb, h8, h9.below hb, h10, h11⟩

set_option maxRecDepth 100000 in
theorem idxZ_nil (A : Option Addr) (c : Nat) (fv : Value) (w : World) :
    Calls Tryd.prog 65 #[.slice A 0 c, fv] w fun e w' => e = .returned (.int .i64 (-1)) ∧ w = w' := by
  go_enter Tryd.func65, Tryd.ntmps65
  go_wp2_with fail
  refine wp_loop_rounds 1 ?_
  rw [rounds_succ]
  go_wp2_with fail
  go_ret
  exact ⟨rfl, rfl⟩
set_option maxRecDepth 100000 in
theorem hasZ_nil (A : Option Addr) (c : Nat) (fv : Value) (w : World) :
    Calls Tryd.prog 37 #[.slice A 0 c, fv] w fun e w' => e = .returned (.bool false) ∧ w = w' := by
  go_enter Tryd.func37, Tryd.ntmps37
  go_wp2_with (go_at_call 65; refine (idxZ_nil _ _ _ _).mono ?_; rintro e w' ⟨rfl, rfl⟩)
  go_ret
  exact ⟨rfl, rfl⟩

theorem zn_info : (Tryd.prog.info? 24).map (fun i => (i.zero, i.size, i.bytes)) = some (some (.agg #[.string ⟨#[]⟩, .int .i64 0, .slice none 0 0]), 3, 48) := by kernel_rfl
def NewQ (key : Int) (nm : ByteArray) (first : Int) (chs : List Chg) (w : World) (e : Ending) (w' : World) : Prop :=
  Below w.heap.size w w' ∧ ((¬ ZoneOk nm first chs ∧ ∃ E : Int, E ≠ 0 ∧ e = .returned (.tuple #[.pointer none, .int .i64 E])) ∨ (ZoneOk nm first chs ∧ ∃ gb, e = .returned (.tuple #[.pointer (some ⟨gb, 0, none⟩), .int .i64 0]) ∧ BuIn w' w.heap.size w'.heap.size gb key nm first chs chs 0))
set_option maxHeartbeats 4000000 in
set_option maxRecDepth 100000 in
theorem new_bu (bz oz cz bk ok ck : Nat) (key : Int) (nm : ByteArray) (first : Int) (A : Option Addr) (c : Nat) (chs : List Chg) (w : World) (hz : ZIn w nm A chs) (hr : Row w w.heap.size (some ⟨bz, oz, none⟩) (znCells nm first A chs.length c)) (hk : Row w w.heap.size (some ⟨bk, ok, none⟩) [.int .i64 key]) (h1 : 1 ≤ key) (h2 : key ≤ 1000000) :
    Calls Tryd.prog 14 #[.slice (some ⟨bz, oz, none⟩) 1 cz, .slice (some ⟨bk, ok, none⟩) 1 ck] w (NewQ key nm first chs w) := by
  have HZ := Lib.hid (fun W (hW : Below w.heap.size w W) => hz.next hW)
  have HR := Lib.hid (fun W (hW : Below w.heap.size w W) => hr.next hW)
  have HK := Lib.hid (fun W (hW : Below w.heap.size w W) => hk.next hW)
  clear hz hr hk
  unfold NewQ
  go_enter Tryd.func14, Tryd.ntmps14
  go_upto_region 5 with fail
  generalize hwB : w.heap.size = B at *
  have HWB := Lib.hid hwB
  have HCl := Lib.hid (fun W (hb : Below B w W) => clone_ints (some ⟨bk, ok, none⟩) ck [key] W (HK.out W hb) (by show 0 < 1; omega) (by show 1 ≤ 1000000; omega))
  have hmk : ∀ W, (Instr.makeSlice 34 (.int .i64 1) (.int .i64 1)).run Tryd.prog W = .ok (.slice (some ⟨W.heap.size, 0, none⟩) 1 1) (W.alloc (.cells #[.int .i64 0] 3)) := fun W => by
    obtain ⟨i0, hi0, hz0, hz1, hz2⟩ := info_parts infoInt2
    have := run_make (P := Tryd.prog) W 34 3 i0 (.int .i64 0) Tryd.underlying34 hi0 hz0 .i64 .i64 1 1 (by omega) (by omega) (by rw [hz2]; omega) (by omega)
    rw [hz1, show madeCells (Value.int .i64 0).cells (Int.toNat 1 * 1) = #[.int .i64 0] from by kernel_rfl] at this
    exact this
  refine flow_begin (tellOf [(1, ⟨fun v => ∃ A' c', v = .slice A' 1 c', fun v W => W.ownsRow B 3 1 v 1 [.int .i64 key]⟩)]) (by kernel_rfl) (by kernel_rfl) ?_
  repeat (first | (refine flow_val (v := ?_) (by rfl) (by rfl) (fun w hb => ?_) ?_; rotate_left; (· ((go_simp) <;> ((repeat' apply And.intro) <;> with_reducible rfl))); try simp only [Act.put, List.setIfInBounds_toArray, List.set_cons_zero, List.set_cons_succ, Nat.reduceAdd]) | (refine flow_skip (by rfl) (by rfl) ?_; try simp only [Act.put, List.setIfInBounds_toArray, List.set_cons_zero, List.set_cons_succ, Nat.reduceAdd]))
  refine flow_told (f := ?_) (args := ?_) [] (by kernel_rfl) (by rfl) (by rfl) ?_ ?_ (fun w hb => ?_) (fun w hb hu => ?_) ?_; rotate_left 4; (· ((go_simp) <;> ((repeat' apply And.intro) <;> with_reducible rfl)))
  · refine (HCl.out w (by rw [← HWB.out]; exact hb)).mono ?_
    rintro e w' ⟨v, he, ho, hb'⟩
    obtain ⟨A', c', hv', _, _⟩ := own_form ho
    exact ⟨v, he, ⟨A', c', hv'⟩, own_lower ho (by have := hb.size; have := HWB.out; omega), hb'⟩
  rintro v ⟨A1, c1, rfl⟩
  try simp only [Act.put, List.setIfInBounds_toArray, List.set_cons_zero, List.set_cons_succ, Nat.reduceAdd]
  repeat (first | (refine flow_val (v := ?_) (by rfl) (by rfl) (fun w hb => ?_) ?_; rotate_left; (· ((go_simp) <;> ((repeat' apply And.intro) <;> with_reducible rfl))); try simp only [Act.put, List.setIfInBounds_toArray, List.set_cons_zero, List.set_cons_succ, Nat.reduceAdd]) | (refine flow_skip (by rfl) (by rfl) ?_; try simp only [Act.put, List.setIfInBounds_toArray, List.set_cons_zero, List.set_cons_succ, Nat.reduceAdd]))
  refine flow_lits (n := ?_) (c := ?_) (t := ?_) (cs := ?_) (by rfl) (by rfl) (fun w hb => ?_) (fun gm hgm => ?_); rotate_left 4; (· ((go_simp) <;> ((repeat' apply And.intro) <;> with_reducible rfl))); try simp only [Act.put, List.setIfInBounds_toArray, List.set_cons_zero, List.set_cons_succ, Nat.reduceAdd]
  repeat (first | (refine flow_val (v := ?_) (by rfl) (by rfl) (fun w hb => ?_) ?_; rotate_left; (· ((go_simp) <;> ((repeat' apply And.intro) <;> with_reducible rfl))); try simp only [Act.put, List.setIfInBounds_toArray, List.set_cons_zero, List.set_cons_succ, Nat.reduceAdd]) | (refine flow_skip (by rfl) (by rfl) ?_; try simp only [Act.put, List.setIfInBounds_toArray, List.set_cons_zero, List.set_cons_succ, Nat.reduceAdd]))
  refine flow_box (t := ?_) (cs := ?_) (by rfl) (by rfl) (fun w hb => ?_) (fun gb hgb => ?_); rotate_left 2; (· ((go_simp) <;> ((repeat' apply And.intro) <;> with_reducible rfl))); try simp only [Act.put, List.setIfInBounds_toArray, List.set_cons_zero, List.set_cons_succ, Nat.reduceAdd]
  repeat (first | (refine flow_val (v := ?_) (by rfl) (by rfl) (fun w hb => ?_) ?_; rotate_left; (· ((go_simp) <;> ((repeat' apply And.intro) <;> with_reducible rfl))); try simp only [Act.put, List.setIfInBounds_toArray, List.set_cons_zero, List.set_cons_succ, Nat.reduceAdd]) | (refine flow_skip (by rfl) (by rfl) ?_; try simp only [Act.put, List.setIfInBounds_toArray, List.set_cons_zero, List.set_cons_succ, Nat.reduceAdd]))
  refine flow_nil fun w1 hb1 hf => ?_
  have hx1 : Box w1 gb 82 #[.slice A1 1 c1, .slice none 0 0, .slice none 0 0, .slice (some ⟨gm, 0, none⟩) 1 1] := hf.1
  have hm1 : Box w1 gm 3 #[.int .i64 0] := hf.2.1
  have ho1 : w1.ownsRow B 3 1 (.slice A1 1 c1) 1 [.int .i64 key] := hf.2.2.1
  have hBw : B ≤ w1.heap.size := by have := hb1.size; have := HWB.out; omega
  rw [hwB] at hb1 hgm hgb
  have HB1 := Lib.hid hb1
  have HX1 := Lib.hid hx1
  have HM1 := Lib.hid hm1
  have HO1 := Lib.hid ho1
  obtain ⟨b', o', e', hb', hc'⟩ := (HR.out w1 hb1).open_ (by simp [znCells])
  cases e'
  have y0 : w1.cell? ⟨bz, oz, none⟩ = some (.string nm) := hc' 0 _ rfl
  have y1 : w1.cell? ⟨bz, oz + 1, none⟩ = some (.int .i64 first) := hc' 1 _ rfl
  have y2 : w1.cell? ⟨bz, oz + 2, none⟩ = some (.slice A chs.length c) := hc' 2 _ rfl
  have hgmb : gm ≠ gb := fun e => by
    subst e
    have h := Option.some.inj (hm1.symm.trans hx1)
    injection h with h1 h2
    exact absurd h2 (by decide)
  clear hf hb1 HCl hx1 hm1 ho1 hmk hc'
  go_wp2_with fail
  refine wp_loop_rounds 2 ?_
  rw [rounds_succ]
  go_upto_region 9 with fail
  have HX2 := Lib.hid (HX1.out.alloc (Obj.cells #[.string nm, .int .i64 first, .slice A chs.length c] 24))
  have HM2 := Lib.hid (HM1.out.alloc (Obj.cells #[.string nm, .int .i64 first, .slice A chs.length c] 24))
  have HO2 := Lib.hid (own_next HO1.out (below_alloc1 w1 (Obj.cells #[.string nm, .int .i64 first, .slice A chs.length c] 24)))
  have HB2 := Lib.hid (HB1.out.alloc hBw (Obj.cells #[.string nm, .int .i64 first, .slice A chs.length c] 24))
  have hY2 := Box.new w1 24 #[.string nm, .int .i64 first, .slice A chs.length c]
  generalize w1.alloc (Obj.cells #[.string nm, .int .i64 first, .slice A chs.length c] 24) = W2 at *
  have hgy : gb < w1.heap.size := HX1.out.lt
  generalize w1.heap.size = gy at *
  have x0 : W2.cell? ⟨gy, 0, none⟩ = some (.string nm) := hY2.cell 0
  have x1 : W2.cell? ⟨gy, 1, none⟩ = some (.int .i64 first) := hY2.cell 1
  have x2 : W2.cell? ⟨gy, 2, none⟩ = some (.slice A chs.length c) := hY2.cell 2
  have hgyl : gy < W2.heap.size := hY2.lt
  have HY2 := Lib.hid hY2
  clear y0 y1 y2 hY2 HX1 HM1 HO1 HB1
  have HCk := Lib.hid ((HZ.out W2 HB2.out).check first c)
  go_upto_region 10 with (go_at_call 23; refine HCk.out.mono ?_; rintro e w3 ⟨E, rfl, hE, hb3⟩)
  have HX3 := Lib.hid (HX2.out.below hb3)
  have HM3 := Lib.hid (HM2.out.below hb3)
  have HO3 := Lib.hid (own_next HO2.out hb3)
  have HB3 := Lib.hid (HB2.out.trans (hb3.mono (by omega)))
  have hY3 := HY2.out.below hb3
  clear HX2 HM2 HO2 HB2 HY2 x0 x1 x2 hb3 HCk
  by_cases hok : ZoneOk nm first chs
  · obtain rfl : E = 0 := hE.2 hok
    have hcl : chs.length ≤ 200 := hok.2.2.1
    have HOK := Lib.hid hok
    clear hE hok
    have hl3 := hY3.lt
    have HY3 := Lib.hid hY3
    obtain ⟨b', o', e', hb', hc'⟩ := (HK.out w3 HB3.out).open_ (by simp)
    cases e'
    have k0 : w3.cell? ⟨bk, ok, none⟩ = some (.int .i64 key) := hc' 0 _ rfl
    clear hc' hY3
    go_upto_region 14 with (go_at_call 37; refine (hasZ_nil _ _ _ _).mono ?_; rintro e w' ⟨rfl, rfl⟩)
    have t1 : decide (key < 1) = false := decide_eq_false (by omega)
    have t2 : decide (1000000000 < key) = false := decide_eq_false (by omega)
    go_upto_region 16 with fail
    clear k0 t1 t2
    have hgb3 : gb < w3.heap.size := by omega
    have hrow : ∀ b, some gb = some b → b < w3.heap.size := fun b hb => by injection hb with hb; omega
    have gl1 : ∀ W, Below w3.heap.size w3 W → W.cell? ⟨gb, 1, none⟩ = some (.slice none 0 0) := fun W hW => (HX3.out.below hW).cell 1
    have gl2 : ∀ W, Below w3.heap.size w3 W → W.cell? ⟨gb, 2, none⟩ = some (.slice none 0 0) := fun W hW => (HX3.out.below hW).cell 2
    have d0 : ∀ W, w3.grownBy W (some gb) → W.cell? ⟨gy, 0, none⟩ = some (.string nm) := fun W hW => (HY3.out.grown hW (by intro e; injection e with e; omega)).cell 0
    have d1 : ∀ W, w3.grownBy W (some gb) → W.cell? ⟨gy, 1, none⟩ = some (.int .i64 first) := fun W hW => (HY3.out.grown hW (by intro e; injection e with e; omega)).cell 1
    have d2 : ∀ W, w3.grownBy W (some gb) → W.cell? ⟨gy, 2, none⟩ = some (.slice A chs.length c) := fun W hW => (HY3.out.grown hW (by intro e; injection e with e; omega)).cell 2
    have e0 : ∀ W, Below w3.heap.size w3 W → W.cell? ⟨gy, 0, none⟩ = some (.string nm) := fun W hW => (HY3.out.below hW).cell 0
    have HCopy := Lib.hid (fun W (hW : Below w3.heap.size w3 W) => copy_bu nm first A c chs W (HZ.out W (HB3.out.trans (hW.mono (by omega)))) hcl)
    obtain ⟨i0, hi0, hz0, hz1, hz2⟩ := info_parts zn_info
    obtain ⟨CT, hCT⟩ : ∃ CT : Told, CT = ⟨fun u => ∃ A' c', u = .agg #[.string nm, .int .i64 first, .slice A' chs.length c'], fun u W => ∀ A' c', u = .agg #[.string nm, .int .i64 first, .slice A' chs.length c'] → W.ownsRow w3.heap.size 26 3 (.slice A' chs.length c') chs.length (chCells chs)⟩ := ⟨_, rfl⟩
    have HCTs : Hid (∃ v, CT.V v) := by rw [hCT]; exact ⟨_, none, 0, rfl⟩
    have HCTk : Hid (∀ v w w', World.grownBy w w' (some gb) → CT.F v w → CT.F v w') := by
      rw [hCT]
      intro v w w' hg hF A' c' e
      exact own_heap (hF A' c' e) fun b hb => hg.block b (own_lt (hF A' c' e) b hb).2 (by have := own_lt (hF A' c' e) b hb; intro e; injection e with e; omega)
    have HCTc : Hid (∀ W, Below w3.heap.size w3 W → Calls Tryd.prog 39 #[.agg #[.string nm, .int .i64 first, .slice A chs.length c]] W fun e w' => ∃ v, e = .returned v ∧ CT.V v ∧ CT.F v w' ∧ Below W.heap.size W w') := fun W hW => by
      rw [hCT]
      refine (HCopy.out W hW).mono ?_
      rintro e w' ⟨A', c', he, ho, hb⟩
      exact ⟨_, he, ⟨A', c', rfl⟩, fun A2 c2' e2 => by cases e2; exact own_lower ho hW.size, hb⟩
    have HCTv : Hid (∀ v, CT.V v → ∃ A' c', v = .agg #[.string nm, .int .i64 first, .slice A' chs.length c'] ∧ ∀ W, CT.F v W → W.ownsRow w3.heap.size 26 3 (.slice A' chs.length c') chs.length (chCells chs)) := by
      rw [hCT]
      rintro v ⟨A', c', rfl⟩
      exact ⟨A', c', rfl, fun W h => h A' c' rfl⟩
    clear hCT HCopy
    refine flowM_begin_tail 21 20 [5, 7, 9, 13, 15, 17, 20] (some gb) (tellOf [(7, CT), (15, CT)]) (by kernel_rfl) (by kernel_rfl) (by kernel_rfl) (by decide) ?_
    simp only [List.take_succ_cons, List.take_zero, List.drop_succ_cons, List.drop_zero]
    repeat (refine flowM_val (v := ?_) (by rfl) (by rfl) (fun w hb => ?_) ?_; rotate_left; (· ((go_simp) <;> ((repeat' apply And.intro) <;> with_reducible rfl))); try simp only [Act.put, List.setIfInBounds_toArray, List.set_cons_zero, List.set_cons_succ, Nat.reduceAdd])
    (refine flowM_pre (v := ?_) (by decide) (by rfl) (by rfl) (fun w hb => ?_) ?_; rotate_left; (· ((go_simp) <;> ((repeat' apply And.intro) <;> with_reducible rfl))); try simp only [Act.put, List.setIfInBounds_toArray, List.set_cons_zero, List.set_cons_succ, Nat.reduceAdd])
    repeat (refine flowM_val (v := ?_) (by rfl) (by rfl) (fun w hb => ?_) ?_; rotate_left; (· ((go_simp) <;> ((repeat' apply And.intro) <;> with_reducible rfl))); try simp only [Act.put, List.setIfInBounds_toArray, List.set_cons_zero, List.set_cons_succ, Nat.reduceAdd])
    refine flowM_told (f := ?_) (args := ?_) (t := CT) [] (by kernel_rfl) (by decide) (by rfl) (by rfl) HCTs.out HCTk.out (fun w hb => ?_) (fun w hb hu => ?_) ?_; rotate_left 2; (· ((go_simp) <;> ((repeat' apply And.intro) <;> with_reducible rfl)))
    · exact HCTc.out w hb
    intro v hv
    obtain ⟨oA, oc, rfl, HF1⟩ := HCTv.out v hv
    clear hv
    try simp only [Act.put, List.setIfInBounds_toArray, List.set_cons_zero, List.set_cons_succ, Nat.reduceAdd]
    refine flowM_lits (n := ?_) (c := ?_) (t := ?_) (cs := ?_) hrow (by rfl) (by rfl) (fun w hb => ?_) (fun g8 hg8 => ?_); rotate_left 4; (· ((go_simp) <;> ((repeat' apply And.intro) <;> with_reducible rfl))); try simp only [Act.put, List.setIfInBounds_toArray, List.set_cons_zero, List.set_cons_succ, Nat.reduceAdd]
    refine flowM_app_nil none [8] (by kernel_rfl) (by decide) hrow (by rfl) (by rfl) (.tmp 64) (.tmp 67) 37 rfl 24 i0 (.agg #[.string ⟨#[]⟩, .int .i64 0, .slice none 0 0]) 3 48 Tryd.underlying37 hi0 hz0 hz1 hz2 rfl (by decide) rfl ⟨g8, 0, none⟩ 1 1 (znCells nm first oA chs.length oc) rfl rfl (fun w hb hu => World.news_of_block (cs := #[.string nm, .int .i64 first, .slice oA chs.length oc]) (t := 24) (fr := (0, 0)) (usef_head hu)) (by simp [Value.oneCell', znCells]) (by simp only [maxLen]; omega) (by omega) (fun _ _ _ b hb => by cases hb) fun A9 c9 => ?_
    try simp only [Act.put, List.setIfInBounds_toArray, List.set_cons_zero, List.set_cons_succ, Nat.reduceAdd]
    repeat (refine flowM_val (v := ?_) (by rfl) (by rfl) (fun w hb => ?_) ?_; rotate_left; (· ((go_simp) <;> ((repeat' apply And.intro) <;> with_reducible rfl))); try simp only [Act.put, List.setIfInBounds_toArray, List.set_cons_zero, List.set_cons_succ, Nat.reduceAdd])
    (refine flowM_pre (v := ?_) (by decide) (by rfl) (by rfl) (fun w hb => ?_) ?_; rotate_left; (· ((go_simp) <;> ((repeat' apply And.intro) <;> with_reducible rfl))); try simp only [Act.put, List.setIfInBounds_toArray, List.set_cons_zero, List.set_cons_succ, Nat.reduceAdd])
    repeat (refine flowM_val (v := ?_) (by rfl) (by rfl) (fun w hb => ?_) ?_; rotate_left; (· ((go_simp) <;> ((repeat' apply And.intro) <;> with_reducible rfl))); try simp only [Act.put, List.setIfInBounds_toArray, List.set_cons_zero, List.set_cons_succ, Nat.reduceAdd])
    refine flowM_told (f := ?_) (args := ?_) (t := CT) [] (by kernel_rfl) (by decide) (by rfl) (by rfl) HCTs.out HCTk.out (fun w hb => ?_) (fun w hb hu => ?_) ?_; rotate_left 2; (· ((go_simp) <;> ((repeat' apply And.intro) <;> with_reducible rfl)))
    · exact HCTc.out w hb
    intro v hv
    obtain ⟨nA, nc, rfl, HF2⟩ := HCTv.out v hv
    clear hv
    try simp only [Act.put, List.setIfInBounds_toArray, List.set_cons_zero, List.set_cons_succ, Nat.reduceAdd]
    refine flowM_lits (n := ?_) (c := ?_) (t := ?_) (cs := ?_) hrow (by rfl) (by rfl) (fun w hb => ?_) (fun g16 hg16 => ?_); rotate_left 4; (· ((go_simp) <;> ((repeat' apply And.intro) <;> with_reducible rfl))); try simp only [Act.put, List.setIfInBounds_toArray, List.set_cons_zero, List.set_cons_succ, Nat.reduceAdd]
    refine flowM_app_nil (Value.slice A9 1 c9).ownBlock [16, 9] (by kernel_rfl) (by decide) hrow (by rfl) (by rfl) (.tmp 72) (.tmp 75) 37 rfl 24 i0 (.agg #[.string ⟨#[]⟩, .int .i64 0, .slice none 0 0]) 3 48 Tryd.underlying37 hi0 hz0 hz1 hz2 rfl (by decide) rfl ⟨g16, 0, none⟩ 1 1 (znCells nm first nA chs.length nc) rfl rfl (fun w hb hu => World.news_of_block (cs := #[.string nm, .int .i64 first, .slice nA chs.length nc]) (t := 24) (fr := (0, 0)) (usef_head hu)) (by simp [Value.oneCell', znCells]) (by simp only [maxLen]; omega) (by omega) (fun w hb hu b hb' => (own_lt (usef_at (k := 9) rfl hu (by decide)).1 b hb').2) fun A17 c17 => ?_
    try simp only [Act.put, List.setIfInBounds_toArray, List.set_cons_zero, List.set_cons_succ, Nat.reduceAdd]
    repeat (refine flowM_val (v := ?_) (by rfl) (by rfl) (fun w hb => ?_) ?_; rotate_left; (· ((go_simp) <;> ((repeat' apply And.intro) <;> with_reducible rfl))); try simp only [Act.put, List.setIfInBounds_toArray, List.set_cons_zero, List.set_cons_succ, Nat.reduceAdd])
    refine flowM_store (F := fun w => Box w gb 82 #[.slice A1 1 c1, .slice A9 1 c9, .slice none 0 0, .slice (some ⟨gm, 0, none⟩) 1 1]) [] (by kernel_rfl) rfl (by decide) (by rfl) (by rfl) (fun w w' hb h => h.below hb) (fun w hb hu => ?_) ?_
    · have hx := HX3.out.below hb
      have q1 : w.cell? ⟨gb, 1, none⟩ = some (.slice none 0 0) := hx.cell 1
      have qf : ∀ i, w.frozen? ⟨gb, i, none⟩ = false := fun i => hx.free i
      have ql := hx.lt
      exact ⟨w.setCell ⟨gb, 1, none⟩ (.slice A9 1 c9), by go_simp, hx.set_ 1 (.slice A9 1 c9), grown_set _ gb 1 _⟩
    refine flowM_nil fun w4 hgrow hf => ?_
    have hx4 : Box w4 gb 82 #[.slice A1 1 c1, .slice A9 1 c9, .slice none 0 0, .slice (some ⟨gm, 0, none⟩) 1 1] := hf.1
    have hn4 : w4.ownsRow w3.heap.size 24 3 (.slice A17 1 c17) 1 (znCells nm first nA chs.length nc) := hf.2.1.1
    have hne4 := hf.2.1.2
    have hnz4 := HF2 w4 hf.2.2.2.1
    have ho4 : w4.ownsRow w3.heap.size 24 3 (.slice A9 1 c9) 1 (znCells nm first oA chs.length oc) := hf.2.2.2.2.1.1
    have hoz4 := HF1 w4 hf.2.2.2.2.2.2.1
    have hb4 : Below B w w4 := HB3.out.grown hgrow (by omega) (fun q hq => by injection hq with hq; omega)
    have hk4 : w4.ownsRow B 3 1 (.slice A1 1 c1) 1 [.int .i64 key] := own_heap HO3.out fun b hb => hgrow.block b (own_lt HO3.out b hb).2 (by have h := ownApart HO3.out HX3.out (by decide) b hb; intro e; injection e with e; exact h e)
    have hm4 := HM3.out.grown hgrow (by intro e; injection e with e; exact hgmb e)
    obtain ⟨W5, hW5⟩ : ∃ W5, W5 = w4.setCell ⟨gb, 2, none⟩ (.slice A17 1 c17) := ⟨_, rfl⟩
    have hfar : ∀ b, b ≠ gb → W5.heap[b]? = w4.heap[b]? := fun b hb => by rw [hW5]; exact Below.heap_setCell _ _ _ b hb
    have hx5 : Box W5 gb 82 #[.slice A1 1 c1, .slice A9 1 c9, .slice A17 1 c17, .slice (some ⟨gm, 0, none⟩) 1 1] := by rw [hW5]; exact hx4.set_ 2 _
    have hz0 := HZ.out w3 HB3.out
    obtain ⟨g1, _, hv1, _, _⟩ := hk4.form (by omega)
    cases hv1
    obtain ⟨g9, _, hv9, _, _⟩ := ho4.form (by omega)
    cases hv9
    obtain ⟨g17, _, hv17, _, _⟩ := hn4.form (by omega)
    cases hv17
    have hkm : g1 ≠ gm := fun e => by
      subst e
      have a := (Row.of_own hk4).open_ (by simp)
      obtain ⟨b2, o2, e2, _, hc2⟩ := a
      cases e2
      have a1 := hc2 0 _ rfl
      have a2 : w4.cell? ⟨g1, 0, none⟩ = some (.int .i64 0) := hm4.cell 0
      rw [Nat.zero_add] at a1
      have a3 := Option.some.inj (a1.symm.trans a2)
      injection a3 with _ a4
      omega
    have hbn : g9 ≠ g17 := fun e => hne4 g9 rfl (by rw [e]; rfl)
    have HIN : Hid (BuIn W5 B W5.heap.size gb key nm first chs chs 0) := ⟨g1, g9, g17, gm, c1, c9, c17, 1, oA, nA, oc, nc, hgb, hx5,
      own_heap hk4 fun b hb => hfar b (ownApart hk4 hx4 (by decide) b hb),
      own_lower (own_heap ho4 fun b hb => hfar b (ownApart ho4 hx4 (by decide) b hb)) (by omega),
      own_lower (own_heap hoz4 fun b hb => hfar b (ownApart hoz4 hx4 (by decide) b hb)) (by omega),
      ⟨Row.of_ownS (own_heap hoz4 fun b hb => hfar b (ownApart hoz4 hx4 (by decide) b hb)), hz0.name, hz0.len, hz0.fit⟩,
      own_lower (own_heap hn4 fun b hb => hfar b (ownApart hn4 hx4 (by decide) b hb)) (by omega),
      ⟨Row.of_ownS (own_heap hnz4 fun b hb => hfar b (ownApart hnz4 hx4 (by decide) b hb)), hz0.name, hz0.len, hz0.fit⟩,
      hgm, (hfar gm hgmb).trans hm4, hkm, hbn, (own_lt (own_heap hn4 fun b hb => hfar b (ownApart hn4 hx4 (by decide) b hb)) g17 rfl).2, Box.lt (w := W5) ((hfar gm hgmb).trans hm4)⟩
    have HB5 : Hid (Below B w W5) := by rw [hW5]; exact hb4.setCell (p := ⟨gb, 2, none⟩) hgb _
    have q2 : w4.cell? ⟨gb, 2, none⟩ = some (.slice none 0 0) := hx4.cell 2
    have qf : w4.frozen? ⟨gb, 2, none⟩ = false := hx4.free 2
    have ql := hx4.lt
    clear hne4 hkm hbn hf hx4 hn4 hnz4 ho4 hoz4 hk4 hm4 hb4 hfar hx5 hz0 hgrow gl1 gl2 d0 d1 d2 e0 HF1 HF2 HCTs HCTk HCTc HCTv HX3 HM3 HO3 HB3 HY3 HZ HR HK hrow
    refine wpList_step fun K hK => ?_
    rw [if_pos (by rfl)]
    go_simp
    refine hK _ _ ?_
    clear hK K
    refine wpList_step fun K hK => ?_
    rw [if_pos (by rfl)]
    go_simp
    refine hK _ _ ?_
    clear hK K
    refine wpList_step fun K hK => ?_
    rw [if_pos (by rfl)]
    go_simp
    refine hK _ _ (wpList_nil ?_)
    clear hK K q2 qf ql
    rw [← hW5]
    clear hW5
    go_wp2_with fail
    rw [rounds_succ]
    go_wp2_with fail
    go_ret2
    rw [HWB.out]
    exact ⟨HB5.out, .inr ⟨HOK.out, gb, rfl, HIN.out⟩⟩
  · have hE0 : E ≠ 0 := fun h => hok (hE.1 h)
    have t1 : (E != 0) = true := by rw [bne_iff_ne]; exact hE0
    have HNO := Lib.hid hok
    clear hE hok
    go_wp2_with fail
    go_ret2
    rw [HWB.out]
    exact ⟨HB3.out, .inl ⟨HNO.out, E, hE0, rfl⟩⟩
  · exact ⟨_, none, 0, rfl⟩
  · exact fun v w w' hb h => own_next h hb
end Go.Proofs.YtifhlmakacoicaaDoor

/- Contracts of package bureau: is, Zone; the zone of a row is replaced. -/
namespace Go.Proofs.YtifhlmakacoicaaDoor
open Go.RowKit
set_option linter.unusedVariables false

theorem own_zone_set {w : World} {B : Nat} {An : Option Addr} {cn : Nat} {xs : List Value} (h : w.ownsRow B 24 3 (.slice An 1 cn) 1 xs) :
    ∃ gn : Nat, An = some ⟨gn, 0, none⟩ ∧ B ≤ gn ∧ gn < w.heap.size ∧ 1 ≤ cn ∧ (∃ cur : Array Value, 3 ≤ cur.size ∧ Box w gn 24 cur) ∧
      ∀ W x y z, Below w.heap.size w W → (((W.setCell ⟨gn, 0, none⟩ x).setCell ⟨gn, 1, none⟩ y).setCell ⟨gn, 2, none⟩ z).ownsRow B 24 3 (.slice An 1 cn) 1 [x, y, z] := by
  rcases h.2 with ⟨_, h0⟩ | ⟨g, cap, cur, hv, hbg, hg, hnc, hcm, hcs, htk⟩
  · omega
  · cases hv
    have hbx : Box w g 24 cur := hg
    refine ⟨g, rfl, hbg, hbx.lt, hnc, ⟨cur, by omega, hbx⟩, fun W x y z hW => ⟨rfl, .inr ⟨g, cn, _, rfl, hbg, (((hbx.below hW).set_ 0 x).set_ 1 y).set_ 2 z, hnc, hcm, by simpa using hcs, ?_⟩⟩⟩
    have hsz : 3 ≤ cur.toList.length := by rw [Array.length_toList]; omega
    match h3 : cur.toList, hsz with
    | a :: b :: c :: r, _ =>
      have : cur = (a :: b :: c :: r).toArray := by rw [← h3]
      subst this
      rfl

set_option maxRecDepth 100000 in
theorem is_bu {w : World} {B D gb : Nat} {key : Int} {nm : ByteArray} {first : Int} {O N : List Chg} {num : Int} (h : BuIn w B D gb key nm first O N num) :
    Calls Tryd.prog 40 #[.pointer (some ⟨gb, 0, none⟩), .int .i64 0] w fun e w' => e = .returned (.bool true) ∧ w = w' := by
  obtain ⟨bk, bo, gn, gm, ck, co, cn, cm, oA, nA, oc, nc, h1, h2, h3, h4, h5, h5z, h6, h7, h8, h9, h10, h11⟩ := h
  have c0 : w.cell? ⟨gb, 0, none⟩ = some (.slice (some ⟨bk, 0, none⟩) 1 ck) := h2.cell 0
  clear h1 h2 h3 h4 h5 h5z h6 h7 h8 h9 h10 h11
  go_enter Tryd.func40, Tryd.ntmps40
  go_wp2_with fail
  go_ret
  exact ⟨rfl, rfl⟩

def ZoneQ (nm : ByteArray) (first : Int) (N : List Chg) (w : World) (e : Ending) (w' : World) : Prop :=
  ∃ (A : Option Addr) (c : Nat), e = .returned (.tuple #[.agg #[.string nm, .int .i64 first, .slice A N.length c], .int .i64 0]) ∧ ZIn w' nm A N ∧ Below w.heap.size w w'
set_option maxHeartbeats 2000000 in
set_option maxRecDepth 100000 in
theorem zone_bu {w : World} {B D gb : Nat} {key : Int} {nm : ByteArray} {first : Int} {O N : List Chg} {num : Int} (h : BuIn w B D gb key nm first O N num) (hl : N.length ≤ 200) :
    Calls Tryd.prog 16 #[.pointer (some ⟨gb, 0, none⟩), .int .i64 0] w (ZoneQ nm first N w) := by
  have HB0 := Lib.hid (below_alloc1 w (Obj.cells #[.string ⟨#[]⟩, .int .i64 0, .slice none 0 0] 24))
  have HX := Lib.hid (Box.new w 24 #[.string ⟨#[]⟩, .int .i64 0, .slice none 0 0])
  have HH := Lib.hid (h.next HB0.out)
  clear h
  unfold ZoneQ
  go_enter Tryd.func16, Tryd.ntmps16
  go_upto_region 1 with fail
  generalize w.alloc (Obj.cells #[.string ⟨#[]⟩, .int .i64 0, .slice none 0 0] 24) = W0 at *
  generalize hg : w.heap.size = g at *
  have HG := Lib.hid hg
  clear hg
  have HIs := Lib.hid (is_bu HH.out)
  go_upto_region 3 with (go_at_call 40; refine HIs.out.mono ?_; rintro e w' ⟨rfl, rfl⟩)
  obtain ⟨bk, bo, gn, gm, ck, co, cn, cm, oA, nA, oc, nc, h1, h2, h3, h4, h5, h5z, h6, h7, h8, h9, h10, h11⟩ := HH.out
  obtain ⟨gn', egn, _, hgn, hcn, _, _⟩ := own_zone_set h6
  cases egn
  obtain ⟨b', o', e', hb', hc'⟩ := (Row.of_ownS h6).open_ (by simp [znCells])
  cases e'
  have x2 : W0.cell? ⟨gb, 2, none⟩ = some (.slice (some ⟨gn, 0, none⟩) 1 cn) := h2.cell 2
  have y0 : W0.cell? ⟨gn, 0, none⟩ = some (.string nm) := hc' 0 _ rfl
  have y1 : W0.cell? ⟨gn, 1, none⟩ = some (.int .i64 first) := hc' 1 _ rfl
  have y2 : W0.cell? ⟨gn, 2, none⟩ = some (.slice nA N.length nc) := hc' 2 _ rfl
  have HC := Lib.hid (copy_bu nm first nA nc N W0 h7 hl)
  have HF := Lib.hid h7
  have hgl : g < W0.heap.size := HX.out.lt
  have hgb := h2.lt
  clear h1 h2 h3 h4 h5 h5z h6 h7 h8 h9 h10 h11 hc' HH HIs hb'
  go_wp2_with fail
  refine HC.out.mono ?_
  rintro e w1 ⟨A1, c1, rfl, ho, hb⟩
  have hx1 := HX.out.below hb
  have r0 : w1.cell? ⟨g, 0, none⟩ = some (.string ⟨#[]⟩) := hx1.cell 0
  have r1 : w1.cell? ⟨g, 1, none⟩ = some (.int .i64 0) := hx1.cell 1
  have r2 : w1.cell? ⟨g, 2, none⟩ = some (.slice none 0 0) := hx1.cell 2
  have rf : ∀ i, w1.frozen? ⟨g, i, none⟩ = false := fun i => hx1.free i
  have hl1 := hx1.lt
  have HB1 := Lib.hid (HB0.out.trans (hb.mono (by omega)))
  have HZ1 : Hid (ZIn (((w1.setCell ⟨g, 0, none⟩ (.string nm)).setCell ⟨g, 1, none⟩ (.int .i64 first)).setCell ⟨g, 2, none⟩ (.slice A1 N.length c1)) nm A1 N) :=
    ⟨Row.of_ownS (own_heap ho fun b hb' => by
      have h : b ≠ g := by have := own_lt ho b hb'; omega
      rw [Below.heap_setCell _ _ _ b h, Below.heap_setCell _ _ _ b h, Below.heap_setCell _ _ _ b h]), HF.out.name, HF.out.len, HF.out.fit⟩
  clear ho hb hx1 HB0 HX HC HF x2 y0 y1 y2
  go_wp2_with fail
  refine bodyPost_ret (v := .tuple #[.agg #[.string nm, .int .i64 first, .slice A1 N.length c1], .int .i64 0]) (by simp [results, Tryd.results16, go_sem, r0, r1, r2]) rfl ?_
  rw [HG.out]
  exact ⟨A1, c1, rfl, HZ1.out, ((HB1.out.setCell (p := ⟨g, 0, none⟩) (Nat.le_refl _) _).setCell (p := ⟨g, 1, none⟩) (Nat.le_refl _) _).setCell (p := ⟨g, 2, none⟩) (Nat.le_refl _) _⟩
end Go.Proofs.YtifhlmakacoicaaDoor

/- Contract of bureau.Take at a notice with the right sum. -/
namespace Go.Proofs.YtifhlmakacoicaaDoor
open Go.RowKit
set_option linter.unusedVariables false

theorem wpList_app_run {P : Program} {ops : Array Oper} {rest : List Oper} {o : Oper} {a : Act} {Q : Exit → Act → World → Prop} {w w' : World} {v' : Value} (hgd : o.guard = none) (s x : Operand) (t ty : TypeId) (hty : o.type = ty)
    (ho : o.op = .call { callee := .builtin .append, args := #[s, x], argTypes := #[t, t] }) (v xv : Value) (hs : a.eval s = v) (hx : a.eval x = xv) (hrun : (Builtin.append_ #[t, t] ty #[v, xv]).run P w = .ok v' w')
    (h : wpList P ops Q rest (a.put o.dst v') w') : wpList P ops Q (o :: rest) a w :=
  wpList_plain hgd fun K hK => by
    subst hty
    unfold Oper.wp
    rw [run_app_op s x t t ho v xv v' hs hx hrun]
    exact hK _ _ h
/-- append of nothing -/
theorem app_none (A : Option Addr) (n c : Nat) (xs : List Value) (B : Nat) (w0 : World) (h : w0.ownsRow B 26 3 (.slice A n c) n xs) (W : World) (ty : TypeId) :
    (Builtin.append_ #[22, 22] ty #[.slice A n c, .slice none 0 0]).run Tryd.prog W = .ok (.slice A n c) W := by
  obtain ⟨i0, hi0, hz0, hz1, hz2⟩ := info_parts chg_info
  rcases h.2 with ⟨hv, h0⟩ | ⟨g, cap, cur, hv, hbg, hg, hnc, hcm, hcs, htk⟩
  · cases hv
    simp [Builtin.append_, run_underlying Tryd.underlying22, sizeOf, typeInfo, hi0, Builtin.lenOf, Builtin.firstCells]
  · cases hv
    exact run_append_room_src (P := Tryd.prog) W 22 22 ty 26 i0 Tryd.underlying22 hi0 g 0 n c (.slice none 0 0) 0 [] (Src.ofNil W Tryd.underlying22 0) (by omega) (fun j hj => by simp at hj) (fun j hj => by simp at hj)

/-- append of changes to a row of one's own -/
theorem addr_plain (b o j : Nat) : (⟨b, o, none⟩ : Addr).add j = ⟨b, o + j, none⟩ := by unfold Addr.add; split <;> simp_all
theorem app_any (B : Nat) (A : Option Addr) (n c : Nat) (X L : List Chg) (nm : ByteArray) (A4 : Option Addr) (c4 : Nat) (W : World) (ty : TypeId) (h : W.ownsRow B 26 3 (.slice A n c) n (chCells X)) (hz : ZIn W nm A4 L) (hnil : L.length = 0 → A4 = none ∧ c4 = 0) (hB : B ≤ W.heap.size) (h2 : n ≤ 1000) (h3 : L.length ≤ 1000) :
    ∃ A' c' W', (Builtin.append_ #[22, 22] ty #[.slice A n c, .slice A4 L.length c4]).run Tryd.prog W = .ok (.slice A' (n + L.length) c') W' ∧ W'.ownsRow B 26 3 (.slice A' (n + L.length) c') (n + L.length) (chCells (X ++ L)) ∧ W.grownBy W' (Value.slice A n c).ownBlock := by
  obtain ⟨i0, hi0, hz0, hz1, hz2⟩ := info_parts chg_info
  by_cases h0 : L.length = 0
  · obtain ⟨rfl, rfl⟩ := hnil h0
    obtain rfl : L = [] := List.eq_nil_of_length_eq_zero h0
    refine ⟨A, c, W, app_none A n c _ B W h W ty, ?_, World.grownBy.refl _ _⟩
    rw [List.append_nil]
    exact h
  · obtain ⟨b, o, rfl, hb, hc⟩ := hz.row.open_ (chCells_ne L (by omega))
    obtain ⟨v', w', r1, r2, r3, _⟩ := run_append_own (P := Tryd.prog) W B 22 ty 26 i0 (.agg #[.int .i64 0, .int .i64 0, .string ⟨#[]⟩]) 3 32 Tryd.underlying22 hi0 hz0 hz1 hz2 rfl (by decide) (.slice A n c) n (chCells X) h ⟨b, o, none⟩ L.length c4 (chCells L) (by rw [chCells_length]) (fun j u hu => by rw [addr_plain]; exact hc j u hu) (chs_one L) (by simp only [maxLen]; omega) (by omega) hB
    obtain ⟨A', c', rfl, _⟩ := own_form r2
    exact ⟨A', c', w', r1, by rw [chCells_append]; exact r2, r3⟩

/-- the changes that Take makes -/
def mixL (fr : Int) (O L : List Chg) : List Chg := O.take (seg O (fr - 1)) ++ L
def TakeQ (B D gb : Nat) (key : Int) (nm : ByteArray) (first : Int) (O : List Chg) (num M : Int) (fr : Int) (L : List Chg) (w : World) (e : Ending) (w' : World) : Prop :=
  Below B w w' ∧ (∀ b, D ≤ b → b < w.heap.size → w'.heap[b]? = w.heap[b]?) ∧ ((M ≤ num ∧ e = .returned (.int .i64 9) ∧ Below w.heap.size w w') ∨ (num < M ∧ 200 < (mixL fr O L).length ∧ e = .returned (.int .i64 2)) ∨ (num < M ∧ (mixL fr O L).length ≤ 200 ∧ e = .returned (.int .i64 0) ∧ BuIn w' B D gb key nm first O (mixL fr O L) M))

set_option maxHeartbeats 4000000 in
set_option maxRecDepth 100000 in
theorem take_bu (B D gb : Nat) (key : Int) (nm : ByteArray) (first : Int) (O N : List Chg) (num M : Int) (fr : Int) (L : List Chg) (w : World) (h : BuIn w B D gb key nm first O N num) (hBw : B ≤ w.heap.size) (k1 : 1 ≤ key) (k2 : key ≤ 1000000) (m1 : 1 ≤ M) (m2 : M ≤ 2)
    (hO : ZoneOk nm first O) (hok : ZoneOk nm 0 L) (hfr : InstOk fr) (hge : ∀ x ∈ L, fr ≤ x.a) (hlen : (shL nm fr L).length ≤ 200) (hall : AllIn 32 126 (str (shL nm fr L))) (hp : Pow w) (hsh : Shp w) :
    Calls Tryd.prog 15 #[.pointer (some ⟨gb, 0, none⟩), .agg #[.int .i64 0, .int .i64 M, .string (str (shL nm fr L)), .int .i64 (sumV key M (str (shL nm fr L)))]] w (TakeQ B D gb key nm first O num M fr L w) := by
  have hss : (str (shL nm fr L)).size ≤ 200 := by rw [str_size]; exact hlen
  obtain ⟨v1, v2⟩ := sumV_in key M (str (shL nm fr L))
  have HCk := Lib.hid (fun W => ncheck_yes M (sumV key M (str (shL nm fr L))) (str (shL nm fr L)) W m1 (by omega) v1 v2 hss hall)
  have HRi := Lib.hid (fun W (hW : Below w.heap.size w W) => nright_yes key M (str (shL nm fr L)) W k1 k2 m1 (by omega) hss hall (hp.next hW))
  have HRd := Lib.hid (fun W (hW : Below w.heap.size w W) => read_bu nm fr L W hok hfr hge hlen (hp.next hW) (hsh.next hW))
  have HIn := Lib.hid (fun W (hW : Below w.heap.size w W) => h.next hW)
  have HIs := Lib.hid (fun W (hW : Below w.heap.size w W) => is_bu (h.next hW))
  have hOl : O.length ≤ 200 := hO.2.2.1
  have hLl : L.length ≤ 200 := hok.2.2.1
  have HSo := Lib.hid hO.sorted
  unfold ReadQ at HRd
  clear hp hsh hO hok hge hlen hall hfr hss h
  unfold TakeQ
  generalize str (shL nm fr L) = T at *
  generalize sumV key M T = V at *
  have HX0 := Lib.hid (Box.new w 39 #[.int .i64 0, .int .i64 M, .string T, .int .i64 V])
  have HB0 := Lib.hid (below_alloc1 w (Obj.cells #[.int .i64 0, .int .i64 M, .string T, .int .i64 V] 39))
  go_enter Tryd.func15, Tryd.ntmps15
  go_upto_region 1 with fail
  generalize w.alloc (Obj.cells #[.int .i64 0, .int .i64 M, .string T, .int .i64 V] 39) = W0 at *
  obtain ⟨g, hg⟩ : ∃ g, g = w.heap.size := ⟨_, rfl⟩
  rw [← hg] at HX0 ⊢
  have HG := Lib.hid hg
  clear hg
  have x0 : W0.cell? ⟨g, 0, none⟩ = some (.int .i64 0) := HX0.out.cell 0
  have x1 : W0.cell? ⟨g, 1, none⟩ = some (.int .i64 M) := HX0.out.cell 1
  have x2 : W0.cell? ⟨g, 2, none⟩ = some (.string T) := HX0.out.cell 2
  have x3 : W0.cell? ⟨g, 3, none⟩ = some (.int .i64 V) := HX0.out.cell 3
  have hl0 := HX0.out.lt
  go_upto_region 2 with (go_at_call 29; refine (HCk.out _).mono ?_; rintro e w1 ⟨rfl, hb1⟩)
  have HX1 := Lib.hid (HX0.out.below hb1)
  have HB1 := Lib.hid (below_then HB0.out hb1)
  clear x0 x1 x2 x3 hl0 hb1 HX0 HB0 HCk
  have x0 : w1.cell? ⟨g, 0, none⟩ = some (.int .i64 0) := HX1.out.cell 0
  have hl1 := HX1.out.lt
  have HIs1 := Lib.hid (HIs.out w1 HB1.out)
  go_upto_region 6 with (go_at_call 40; refine HIs1.out.mono ?_; rintro e w' ⟨rfl, rfl⟩)
  clear x0 HIs1 HIs
  obtain ⟨bk, bo, gn, gm, ck, co, cn, cm, oA, nA, oc, nc, h1, h2, h3, h4, h5, h5z, h6, h7, h8, h9, h10, h11⟩ := HIn.out w1 HB1.out
  obtain ⟨bk', ok, ek, hbk, hck⟩ := (Row.of_own h3).open_ (by simp)
  cases ek
  have hgb := h2.lt
  have hgml := h9.lt
  have a0 : ∀ W, Below w1.heap.size w1 W → W.cell? ⟨gb, 0, none⟩ = some (.slice (some ⟨bk, 0, none⟩) 1 ck) := fun W hW => (h2.below hW).cell 0
  have ak : ∀ W, Below w1.heap.size w1 W → W.cell? ⟨bk, 0, none⟩ = some (.int .i64 key) := fun W hW => (hW.cell (p := ⟨bk, 0, none⟩) hbk).trans (hck 0 _ rfl)
  have b0 : ∀ W, Below w1.heap.size w1 W → W.cell? ⟨g, 0, none⟩ = some (.int .i64 0) := fun W hW => (HX1.out.below hW).cell 0
  have b1 : ∀ W, Below w1.heap.size w1 W → W.cell? ⟨g, 1, none⟩ = some (.int .i64 M) := fun W hW => (HX1.out.below hW).cell 1
  have b2 : ∀ W, Below w1.heap.size w1 W → W.cell? ⟨g, 2, none⟩ = some (.string T) := fun W hW => (HX1.out.below hW).cell 2
  have b3 : ∀ W, Below w1.heap.size w1 W → W.cell? ⟨g, 3, none⟩ = some (.int .i64 V) := fun W hW => (HX1.out.below hW).cell 3
  have H2 := Lib.hid h2
  have H4 := Lib.hid h4
  have H5 := Lib.hid h5
  have H5z := Lib.hid h5z
  have H6 := Lib.hid h6
  have H9 := Lib.hid h9
  have H3 := Lib.hid h3
  have HNE := Lib.hid (And.intro h1 (And.intro h8 (And.intro h10 h11)))
  have HBG := Lib.hid (own_lt h6 gn rfl)
  clear h1 h2 h3 h4 h5 h5z h6 h7 h8 h9 h10 h11 hck HIn
  refine flow_begin (tellOf [(9, det (.tuple #[.bool true, .int .i64 0]))]) (by kernel_rfl) (by kernel_rfl) ?_
  repeat (first | (refine flow_val (v := ?_) (by rfl) (by rfl) (fun w hb => ?_) ?_; rotate_left; (· ((go_simp) <;> ((repeat' apply And.intro) <;> with_reducible rfl))); try simp only [Act.put, List.setIfInBounds_toArray, List.set_cons_zero, List.set_cons_succ, Nat.reduceAdd]) | (refine flow_skip (by rfl) (by rfl) ?_; try simp only [Act.put, List.setIfInBounds_toArray, List.set_cons_zero, List.set_cons_succ, Nat.reduceAdd]))
  refine flow_call (f := ?_) (args := ?_) [] (by kernel_rfl) (by rfl) (by rfl) (fun w hb => ?_) (fun w hb hu => ?_) ?_; rotate_left 2; (· ((go_simp) <;> ((repeat' apply And.intro) <;> with_reducible rfl)))
  · exact HRi.out w (below_then HB1.out hb)
  try simp only [Act.put, List.setIfInBounds_toArray, List.set_cons_zero, List.set_cons_succ, Nat.reduceAdd]
  repeat (first | (refine flow_val (v := ?_) (by rfl) (by rfl) (fun w hb => ?_) ?_; rotate_left; (· ((go_simp) <;> ((repeat' apply And.intro) <;> with_reducible rfl))); try simp only [Act.put, List.setIfInBounds_toArray, List.set_cons_zero, List.set_cons_succ, Nat.reduceAdd]) | (refine flow_skip (by rfl) (by rfl) ?_; try simp only [Act.put, List.setIfInBounds_toArray, List.set_cons_zero, List.set_cons_succ, Nat.reduceAdd]))
  refine flow_nil fun w2 hb2 _ => ?_
  have HX2 := Lib.hid (HX1.out.below hb2)
  have HB2 := Lib.hid (below_then HB1.out hb2)
  have HG2 := Lib.hid (H2.out.below hb2)
  have HN2 := Lib.hid (own_next H6.out hb2)
  have HM2 := Lib.hid (H9.out.below hb2)
  have HK2 := Lib.hid (own_next H3.out hb2)
  have HO2 := Lib.hid (own_next H4.out hb2)
  have HQ2 := Lib.hid (own_next H5.out hb2)
  have HZ2 := Lib.hid (H5z.out.next hb2)
  have hgw : g < w1.heap.size := HX1.out.lt
  have hgw2 : g < w2.heap.size := HX2.out.lt
  clear a0 ak b0 b1 b2 b3 hb2 HX1 HB1 H2 H3 H4 H5 H5z H6 H9 HRi hbk hgb hgml hl1
  go_upto_region 9 with fail
  have c3 : ∀ W, Below w2.heap.size w2 W → W.cell? ⟨gb, 3, none⟩ = some (.slice (some ⟨gm, 0, none⟩) 1 cm) := fun W hW => (HG2.out.below hW).cell 3
  have cm0 : ∀ W, Below w2.heap.size w2 W → W.cell? ⟨gm, 0, none⟩ = some (.int .i64 num) := fun W hW => (HM2.out.below hW).cell 0
  have b0 : ∀ W, Below w2.heap.size w2 W → W.cell? ⟨g, 0, none⟩ = some (.int .i64 0) := fun W hW => (HX2.out.below hW).cell 0
  have b1 : ∀ W, Below w2.heap.size w2 W → W.cell? ⟨g, 1, none⟩ = some (.int .i64 M) := fun W hW => (HX2.out.below hW).cell 1
  refine flow_begin (tellOf []) (by kernel_rfl) (by kernel_rfl) ?_
  repeat (first | (refine flow_val (v := ?_) (by rfl) (by rfl) (fun w hb => ?_) ?_; rotate_left; (· ((go_simp) <;> ((repeat' apply And.intro) <;> with_reducible rfl))); try simp only [Act.put, List.setIfInBounds_toArray, List.set_cons_zero, List.set_cons_succ, Nat.reduceAdd]) | (refine flow_skip (by rfl) (by rfl) ?_; try simp only [Act.put, List.setIfInBounds_toArray, List.set_cons_zero, List.set_cons_succ, Nat.reduceAdd]))
  refine flow_nil fun w3 hb3 _ => ?_
  have HX3 := Lib.hid (HX2.out.below hb3)
  have HB3 := Lib.hid (below_then HB2.out hb3)
  have HG3 := Lib.hid (HG2.out.below hb3)
  have HN3 := Lib.hid (own_next HN2.out hb3)
  have HM3 := Lib.hid (HM2.out.below hb3)
  have HK3 := Lib.hid (own_next HK2.out hb3)
  have HO3 := Lib.hid (own_next HO2.out hb3)
  have HQ3 := Lib.hid (own_next HQ2.out hb3)
  have HZ3 := Lib.hid (HZ2.out.next hb3)
  clear c3 cm0 b0 b1 hb3 HX2 HB2 HG2 HN2 HM2 HK2 HO2 HQ2 HZ2
  by_cases hMn : M ≤ num
  · have t1 : decide (M ≤ num) = true := decide_eq_true hMn
    have HMN := Lib.hid hMn
    rw [t1]
    clear hMn t1
    go_wp2_with fail
    go_ret
    exact ⟨HB3.out.mono hBw, fun b _ hb => HB3.out.block b hb, .inl ⟨HMN.out, rfl, HB3.out⟩⟩
  have t1 : decide (M ≤ num) = false := decide_eq_false hMn
  have HMN := Lib.hid (show num < M by omega)
  rw [t1]
  clear hMn t1
  have x2 : w3.cell? ⟨g, 2, none⟩ = some (.string T) := HX3.out.cell 2
  have HR3 := Lib.hid (HRd.out w3 HB3.out)
  go_wp2_with fail
  refine HR3.out.mono ?_
  rintro e w4 ⟨A4, c4, rfl, hz4, hn4, hb4⟩
  have HX4 := Lib.hid (HX3.out.below hb4)
  have HB4 := Lib.hid (below_then HB3.out hb4)
  have HG4 := Lib.hid (HG3.out.below hb4)
  have HN4 := Lib.hid (own_next HN3.out hb4)
  have HM4 := Lib.hid (HM3.out.below hb4)
  have HK4 := Lib.hid (own_next HK3.out hb4)
  have HO4 := Lib.hid (own_next HO3.out hb4)
  have HQ4 := Lib.hid (own_next HQ3.out hb4)
  have HZ4 := Lib.hid (HZ3.out.next hb4)
  have HL4 := Lib.hid hz4
  have HNL := Lib.hid hn4
  clear x2 HR3 HRd hb4 HX3 HB3 HG3 HN3 HM3 HK3 HO3 HQ3 HZ3 hz4 hn4
  go_upto_region 12 with fail
  obtain ⟨S, hSd⟩ : ∃ S : World → Prop, S = fun W => Box W g 39 #[.int .i64 0, .int .i64 M, .string T, .int .i64 V] ∧ Box W gb 82 #[.slice (some ⟨bk, 0, none⟩) 1 ck, .slice (some ⟨bo, 0, none⟩) 1 co, .slice (some ⟨gn, 0, none⟩) 1 cn, .slice (some ⟨gm, 0, none⟩) 1 cm] ∧ W.ownsRow B 24 3 (.slice (some ⟨gn, 0, none⟩) 1 cn) 1 (znCells nm first nA N.length nc) ∧ Box W gm 3 #[.int .i64 num] ∧ W.ownsRow B 3 1 (.slice (some ⟨bk, 0, none⟩) 1 ck) 1 [.int .i64 key] ∧ W.ownsRow B 24 3 (.slice (some ⟨bo, 0, none⟩) 1 co) 1 (znCells nm first oA O.length oc) ∧ W.ownsRow B 26 3 (.slice oA O.length oc) O.length (chCells O) ∧ ZIn W nm oA O := ⟨_, rfl⟩
  have HSd := Lib.hid hSd
  have HSn : Hid (∀ W W', Below W.heap.size W W' → S W → S W') := by
    intro W W' hW h
    rw [hSd] at h ⊢
    obtain ⟨s1, s2, s3, s4, s5, s6, s6z, s7⟩ := h
    exact ⟨s1.below hW, s2.below hW, own_next s3 hW, s4.below hW, own_next s5 hW, own_next s6 hW, own_next s6z hW, s7.next hW⟩
  have HS4 : Hid (S w4) := by unfold Hid; rw [hSd]; exact ⟨HX4.out, HG4.out, HN4.out, HM4.out, HK4.out, HO4.out, HQ4.out, HZ4.out⟩
  have hgw4 : g < w4.heap.size := HX4.out.lt
  have hgm4 : gm < w4.heap.size := HM4.out.lt
  have hgb4 : gb < w4.heap.size := HG4.out.lt
  have hgn4 : gn < w4.heap.size := (own_lt HN4.out gn rfl).2
  clear hSd HX4 HG4 HN4 HM4 HK4 HO4 HQ4 HZ4
  have hb5 := below_alloc2 w4 (Obj.cells #[.string nm, .int .i64 0, .slice A4 L.length c4] 24) (Obj.cells #[.int .i64 fr] 3)
  have y8 := (Box.new w4 24 #[.string nm, .int .i64 0, .slice A4 L.length c4]).alloc (Obj.cells #[.int .i64 fr] 3)
  have y9 := Box.new (w4.alloc (Obj.cells #[.string nm, .int .i64 0, .slice A4 L.length c4] 24)) 3 #[.int .i64 fr]
  rw [World.size_alloc] at y9
  generalize (w4.alloc (Obj.cells #[.string nm, .int .i64 0, .slice A4 L.length c4] 24)).alloc (Obj.cells #[.int .i64 fr] 3) = W5 at *
  have HS5 := Lib.hid (HSn.out w4 W5 hb5 HS4.out)
  have HB5 := Lib.hid (below_then HB4.out hb5)
  have HL5 := Lib.hid (HL4.out.next hb5)
  obtain ⟨g8, hg8⟩ : ∃ g8, g8 = w4.heap.size := ⟨_, rfl⟩
  rw [← hg8] at y8 y9 hgw4 hgm4 hgb4 hgn4 ⊢
  have HY8 := Lib.hid y8
  have HY9 := Lib.hid y9
  have h85 := y9.lt
  clear hg8 hb5 y8 y9 HS4 HB4 HL4
  go_upto_region 14 with fail
  have hs5 := HS5.out
  rw [HSd.out] at hs5
  obtain ⟨s1, s2, s3, s4, s5, s6, s6z, s7⟩ := hs5
  obtain ⟨bo', oo', e', hbo, hco⟩ := (Row.of_ownS s6).open_ (by simp [znCells])
  cases e'
  have b0 : ∀ W, Below W5.heap.size W5 W → W.cell? ⟨g, 0, none⟩ = some (.int .i64 0) := fun W hW => (s1.below hW).cell 0
  have a1 : ∀ W, Below W5.heap.size W5 W → W.cell? ⟨gb, 1, none⟩ = some (.slice (some ⟨bo, 0, none⟩) 1 co) := fun W hW => (s2.below hW).cell 1
  have z0 : ∀ W, Below W5.heap.size W5 W → W.cell? ⟨bo, 0, none⟩ = some (.string nm) := fun W hW => (hW.cell (p := ⟨bo, 0, none⟩) hbo).trans (hco 0 _ rfl)
  have z1 : ∀ W, Below W5.heap.size W5 W → W.cell? ⟨bo, 1, none⟩ = some (.int .i64 first) := fun W hW => (hW.cell (p := ⟨bo, 1, none⟩) hbo).trans (hco 1 _ rfl)
  have z2 : ∀ W, Below W5.heap.size W5 W → W.cell? ⟨bo, 2, none⟩ = some (.slice oA O.length oc) := fun W hW => (hW.cell (p := ⟨bo, 2, none⟩) hbo).trans (hco 2 _ rfl)
  have HCp := Lib.hid (fun W (hW : Below W5.heap.size W5 W) => copy_bu nm first oA oc O W (s7.next hW) hOl)
  clear s1 s2 s3 s4 s5 s6 s6z s7 hco hbo
  refine flow_begin_tail 10 (tellOf [(8, ⟨fun u => ∃ A' c', u = .agg #[.string nm, .int .i64 first, .slice A' O.length c'], fun u W => ∀ A' c', u = .agg #[.string nm, .int .i64 first, .slice A' O.length c'] → W.ownsRow W5.heap.size 26 3 (.slice A' O.length c') O.length (chCells O)⟩)]) (by kernel_rfl) (by kernel_rfl) ?_
  simp only [List.take_succ_cons, List.take_zero, List.drop_succ_cons, List.drop_zero]
  repeat (first | (refine flow_val (v := ?_) (by rfl) (by rfl) (fun w hb => ?_) ?_; rotate_left; (· ((go_simp) <;> ((repeat' apply And.intro) <;> with_reducible rfl))); try simp only [Act.put, List.setIfInBounds_toArray, List.set_cons_zero, List.set_cons_succ, Nat.reduceAdd]) | (refine flow_skip (by rfl) (by rfl) ?_; try simp only [Act.put, List.setIfInBounds_toArray, List.set_cons_zero, List.set_cons_succ, Nat.reduceAdd]))
  refine flow_told (f := ?_) (args := ?_) [] (by kernel_rfl) (by rfl) (by rfl) ?_ ?_ (fun w hb => ?_) (fun w hb hu => ?_) ?_; rotate_left 4; (· ((go_simp) <;> ((repeat' apply And.intro) <;> with_reducible rfl)))
  · refine (HCp.out w hb).mono ?_
    rintro e w' ⟨A', c', he, ho, hb'⟩
    exact ⟨_, he, ⟨A', c', rfl⟩, fun A2 c2' e2 => by cases e2; exact own_lower ho hb.size, hb'⟩
  rintro v ⟨A6, c6, rfl⟩
  try simp only [Act.put, List.setIfInBounds_toArray, List.set_cons_zero, List.set_cons_succ, Nat.reduceAdd]
  refine flow_box (t := ?_) (cs := ?_) (by rfl) (by rfl) (fun w hb => ?_) (fun g11 hg11 => ?_); rotate_left 2; (· ((go_simp) <;> ((repeat' apply And.intro) <;> with_reducible rfl))); try simp only [Act.put, List.setIfInBounds_toArray, List.set_cons_zero, List.set_cons_succ, Nat.reduceAdd]
  try simp only [Act.put, List.setIfInBounds_toArray, List.set_cons_zero, List.set_cons_succ, Nat.reduceAdd]
  refine flow_nil fun w6 hb6 hf => ?_
  have hy11 := hf.1
  have hr6 := hf.2.1 A6 c6 rfl
  have hap : ∀ b, (Value.slice A6 O.length c6).ownBlock = some b → b ≠ g11 := fun b hb => ownApart hr6 hy11 (by decide) b hb
  have HB7 : Hid (Below W5.heap.size W5 (((w6.setCell ⟨g11, 0, none⟩ (.string nm)).setCell ⟨g11, 1, none⟩ (.int .i64 first)).setCell ⟨g11, 2, none⟩ (.slice A6 O.length c6))) := ((hb6.setCell (p := ⟨g11, 0, none⟩) hg11 _).setCell (p := ⟨g11, 1, none⟩) hg11 _).setCell (p := ⟨g11, 2, none⟩) hg11 _
  have HY7 : Hid (Box (((w6.setCell ⟨g11, 0, none⟩ (.string nm)).setCell ⟨g11, 1, none⟩ (.int .i64 first)).setCell ⟨g11, 2, none⟩ (.slice A6 O.length c6)) g11 24 #[.string nm, .int .i64 first, .slice A6 O.length c6]) := ((Box.set_ (w := w6) hy11 0 (.string nm)).set_ 1 (.int .i64 first)).set_ 2 (.slice A6 O.length c6)
  have HR7 : Hid ((((w6.setCell ⟨g11, 0, none⟩ (.string nm)).setCell ⟨g11, 1, none⟩ (.int .i64 first)).setCell ⟨g11, 2, none⟩ (.slice A6 O.length c6)).ownsRow W5.heap.size 26 3 (.slice A6 O.length c6) O.length (chCells O)) := own_heap hr6 fun b hb => by
    have h := hap b hb
    rw [Below.heap_setCell _ _ _ b h, Below.heap_setCell _ _ _ b h, Below.heap_setCell _ _ _ b h]
  have q0 : w6.cell? ⟨g11, 0, none⟩ = some (.string ⟨#[]⟩) := Box.cell (w := w6) hy11 0
  have q1 : w6.cell? ⟨g11, 1, none⟩ = some (.int .i64 0) := Box.cell (w := w6) hy11 1
  have q2 : w6.cell? ⟨g11, 2, none⟩ = some (.slice none 0 0) := Box.cell (w := w6) hy11 2
  have qf : ∀ i, w6.frozen? ⟨g11, i, none⟩ = false := fun i => Box.free (w := w6) hy11 i
  have ql : g11 < w6.heap.size := Box.lt (w := w6) hy11
  clear hap hr6 hy11 hf hb6 b0 a1 z0 z1 z2 HCp
  refine wpList_step fun K hK => ?_
  rw [if_pos (by rfl)]
  go_simp
  refine hK _ _ (wpList_nil ?_)
  clear hK K q0 q1 q2 qf ql
  generalize ((w6.setCell ⟨g11, 0, none⟩ (.string nm)).setCell ⟨g11, 1, none⟩ (.int .i64 first)).setCell ⟨g11, 2, none⟩ (.slice A6 O.length c6) = W7 at *
  have HY8' := Lib.hid (HY8.out.below HB7.out)
  have HY9' := Lib.hid (HY9.out.below HB7.out)
  have HL7 := Lib.hid (HL5.out.next HB7.out)
  have n8 : W7.cell? ⟨g8, 0, none⟩ = some (.string nm) := HY8'.out.cell 0
  have n11 : W7.cell? ⟨g11, 0, none⟩ = some (.string nm) := HY7.out.cell 0
  have n12 : W7.cell? ⟨g11, 2, none⟩ = some (.slice A6 O.length c6) := HY7.out.cell 2
  have hl7 := HY7.out.lt
  have hl78 := HY8'.out.lt
  have HD := Lib.hid (delete_late W5.heap.size (g8 + 1) fr A6 c6 O W7 hOl HSo.out (HY9'.out.cell 0) HR7.out)
  obtain ⟨k, hk⟩ : ∃ k, k = seg O (fr - 1) := ⟨_, rfl⟩
  have hkl : k ≤ O.length := by rw [hk]; exact seg_le _ _
  rw [← hk] at HD
  have HK := Lib.hid hk
  clear hk
  go_upto_region 17 with fail
  go_wp2_with fail
  refine HD.out.mono ?_
  rintro e w8 ⟨A7, c7, rfl, hr8, hgr8⟩
  have hb8 := HB7.out.grown hgr8 HB7.out.size (fun q hq => (own_lt HR7.out q hq).1)
  have hy8 := HY7.out.grown hgr8 (fun e => ownApart HR7.out HY7.out (by decide) g11 e.symm rfl)
  have HB9 := Lib.hid (hb8.setCell (p := ⟨g11, 2, none⟩) hg11 (.slice A7 k c7))
  have HY9b := Lib.hid (hy8.set_ 2 (.slice A7 k c7))
  have HR9 : Hid ((w8.setCell ⟨g11, 2, none⟩ (.slice A7 k c7)).ownsRow W5.heap.size 26 3 (.slice A7 k c7) k (chCells (O.take k))) := own_heap hr8 fun b hb => by
    have h := ownApart hr8 hy8 (by decide) b hb
    rw [Below.heap_setCell _ _ _ b h]
  have q2 : w8.cell? ⟨g11, 2, none⟩ = some (.slice A6 O.length c6) := hy8.cell 2
  have qf : w8.frozen? ⟨g11, 2, none⟩ = false := hy8.free 2
  have ql := hy8.lt
  clear hb8 hy8 hr8 hgr8 HD n8 n11 n12 hl7 hl78 HB7 HY7 HR7 HL7 HY8' HY9'
  go_upto_region 18 with fail
  clear q2 qf ql
  generalize w8.setCell ⟨g11, 2, none⟩ (.slice A7 k c7) = W9 at *
  have hy89 := HY8.out.below HB9.out
  have n11 : W9.cell? ⟨g11, 2, none⟩ = some (.slice A7 k c7) := HY9b.out.cell 2
  have n8 : W9.cell? ⟨g8, 2, none⟩ = some (.slice A4 L.length c4) := hy89.cell 2
  have hl8 := hy89.lt
  have hl11 := HY9b.out.lt
  obtain ⟨A10, c10, w10, hrun, hr10, hgr10⟩ := app_any W5.heap.size A7 k c7 (O.take k) L nm A4 c4 W9 22 HR9.out (HL5.out.next HB9.out) HNL.out HB9.out.size (by omega) (by omega)
  have hb10 := HB9.out.grown hgr10 HB9.out.size (fun q hq => (own_lt HR9.out q hq).1)
  have hy10 := HY9b.out.grown hgr10 (fun e => ownApart HR9.out HY9b.out (by decide) g11 e.symm rfl)
  have q2 : w10.cell? ⟨g11, 2, none⟩ = some (.slice A7 k c7) := hy10.cell 2
  have qf : w10.frozen? ⟨g11, 2, none⟩ = false := hy10.free 2
  have ql := hy10.lt
  obtain ⟨n, hn⟩ : ∃ n, n = k + L.length := ⟨_, rfl⟩
  have hn4 : n ≤ 400 := by omega
  rw [← hn] at hrun hr10
  have hmx : (mixL fr O L).length = n := by unfold mixL; rw [List.length_append, List.length_take, ← HK.out]; omega
  have hmx2 : O.take k ++ L = mixL fr O L := by rw [HK.out]; rfl
  have HMX := Lib.hid hmx
  have HMX2 := Lib.hid hmx2
  have HNK := Lib.hid hn
  have HB11 := Lib.hid (hb10.setCell (p := ⟨g11, 2, none⟩) hg11 (.slice A10 n c10))
  have HY11 := Lib.hid (hy10.set_ 2 (.slice A10 n c10))
  have HR11 : Hid ((w10.setCell ⟨g11, 2, none⟩ (.slice A10 n c10)).ownsRow W5.heap.size 26 3 (.slice A10 n c10) n (chCells (O.take k ++ L))) := own_heap hr10 fun b hb => by
    have h := ownApart hr10 hy10 (by decide) b hb
    rw [Below.heap_setCell _ _ _ b h]
  clear hb10 hy10 hr10 hgr10 hn hmx hmx2 hy89 HB9 HY9b HR9
  have HRUN := Lib.hid hrun
  clear hrun
  go_upto_region 19 with (at_builtin; refine wpList_app_run rfl (.tmp 77) (.tmp 79) 22 22 rfl rfl _ _ rfl rfl HRUN.out ?_; clear n8 n11 hl8 hl11)
  clear q2 qf ql HRUN
  generalize w10.setCell ⟨g11, 2, none⟩ (.slice A10 n c10) = W11 at *
  have HBW := Lib.hid (below_then HB5.out HB11.out)
  have HS11 := Lib.hid (HSn.out W5 W11 HB11.out HS5.out)
  have c2' : W11.cell? ⟨g11, 2, none⟩ = some (.slice A10 n c10) := HY11.out.cell 2
  have cl : g11 < W11.heap.size := HY11.out.lt
  clear HY8 HY9 HSo
  by_cases hn2 : 200 < n
  · have t1 : decide (200 < (n : Int)) = true := decide_eq_true (by omega)
    have HN2 := Lib.hid hn2
    clear hn2
    go_wp2_with fail
    go_ret
    exact ⟨HBW.out.mono hBw, fun b _ hb => HBW.out.block b hb, .inr (.inl ⟨HMN.out, by rw [HMX.out]; exact HN2.out, rfl⟩)⟩
  have t1 : decide (200 < (n : Int)) = false := decide_eq_false (by omega)
  go_upto_region 21 with fail
  clear t1 c2' cl
  have hs11 := HS11.out
  rw [HSd.out] at hs11
  obtain ⟨s1, s2, s3, s4, s5, s6, s6z, s7⟩ := hs11
  obtain ⟨n1, n8, n10, n11, n12, n13⟩ := HNE.out
  have e1 : some g ≠ some gn := by intro e; injection e with e; exact ownApart s3 s1 (by decide) gn rfl e.symm
  have e2 : some gb ≠ some gn := by intro e; injection e with e; exact ownApart s3 s2 (by decide) gn rfl e.symm
  have e3 : some gm ≠ some gn := by intro e; injection e with e; exact ownApart s3 s4 (by decide) gn rfl e.symm
  have e4 : some g11 ≠ some gn := by intro e; injection e with e; omega
  have b0 : ∀ W, W11.grownBy W (some gn) → W.cell? ⟨g, 0, none⟩ = some (.int .i64 0) := fun W hW => (s1.grown hW e1).cell 0
  have b1 : ∀ W, W11.grownBy W (some gn) → W.cell? ⟨g, 1, none⟩ = some (.int .i64 M) := fun W hW => (s1.grown hW e1).cell 1
  have a2 : ∀ W, W11.grownBy W (some gn) → W.cell? ⟨gb, 2, none⟩ = some (.slice (some ⟨gn, 0, none⟩) 1 cn) := fun W hW => (s2.grown hW e2).cell 2
  have a3 : ∀ W, W11.grownBy W (some gn) → W.cell? ⟨gb, 3, none⟩ = some (.slice (some ⟨gm, 0, none⟩) 1 cm) := fun W hW => (s2.grown hW e2).cell 3
  have d0 : ∀ W, W11.grownBy W (some gn) → W.cell? ⟨g11, 0, none⟩ = some (.string nm) := fun W hW => (HY11.out.grown hW e4).cell 0
  have d1 : ∀ W, W11.grownBy W (some gn) → W.cell? ⟨g11, 1, none⟩ = some (.int .i64 first) := fun W hW => (HY11.out.grown hW e4).cell 1
  have d2 : ∀ W, W11.grownBy W (some gn) → W.cell? ⟨g11, 2, none⟩ = some (.slice A10 n c10) := fun W hW => (HY11.out.grown hW e4).cell 2
  obtain ⟨gn', egn, _, hgnl, hcn, ⟨cur, hcur, hbx⟩, hset⟩ := own_zone_set s3
  cases egn
  have HSet := Lib.hid hset
  have HBX := Lib.hid hbx
  have hcn1 : (0 : Int) < (1 : Int) := by omega
  have HKf := Lib.hid s5
  have HOf := Lib.hid s6
  have HOz := Lib.hid s6z
  have HZf := Lib.hid s7
  have HMf := Lib.hid s4
  have HGf := Lib.hid s2
  have HLf := Lib.hid (HL5.out)
  clear s1 s2 s3 s4 s5 s6 s6z s7 hset hbx HS5 HS11 HSn HSd
  refine flowG_begin_tail 17 16 (some gn) (tellOf []) (by kernel_rfl) (by kernel_rfl) ?_
  simp only [List.take_succ_cons, List.take_zero, List.drop_succ_cons, List.drop_zero]
  repeat (first | (refine flowG_val (v := ?_) (by rfl) (by rfl) (fun w hb => ?_) ?_; rotate_left; (· ((go_simp) <;> ((repeat' apply And.intro) <;> with_reducible rfl))); try simp only [Act.put, List.setIfInBounds_toArray, List.set_cons_zero, List.set_cons_succ, Nat.reduceAdd]) | (refine flowG_skip (by rfl) (by rfl) ?_; try simp only [Act.put, List.setIfInBounds_toArray, List.set_cons_zero, List.set_cons_succ, Nat.reduceAdd]))
  refine flowG_store (F := fun w => w.ownsRow B 24 3 (.slice (some ⟨gn, 0, none⟩) 1 cn) 1 [.string nm, .int .i64 first, .slice A10 n c10]) [] (by kernel_rfl) rfl (by rfl) (by rfl) (fun w w' hb h => own_next h hb) (fun w hb hu => ?_) ?_
  · have hx := HBX.out.below hb
    obtain ⟨q0, h0⟩ : ∃ v, w.cell? ⟨gn, 0, none⟩ = some v := ⟨_, by rw [hx.cell 0, Array.getElem?_eq_getElem (by omega)]⟩
    obtain ⟨q1, h1⟩ : ∃ v, w.cell? ⟨gn, 1, none⟩ = some v := ⟨_, by rw [hx.cell 1, Array.getElem?_eq_getElem (by omega)]⟩
    obtain ⟨q2, h2⟩ : ∃ v, w.cell? ⟨gn, 2, none⟩ = some v := ⟨_, by rw [hx.cell 2, Array.getElem?_eq_getElem (by omega)]⟩
    have qf : ∀ i, w.frozen? ⟨gn, i, none⟩ = false := fun i => hx.free i
    have ql := hx.lt
    have hst := HSet.out w (.string nm) (.int .i64 first) (.slice A10 n c10) hb
    clear hx
    exact ⟨((w.setCell ⟨gn, 0, none⟩ (.string nm)).setCell ⟨gn, 1, none⟩ (.int .i64 first)).setCell ⟨gn, 2, none⟩ (.slice A10 n c10), by go_simp, hst, ((grown_set _ gn 0 _).trans (grown_set _ gn 1 _)).trans (grown_set _ gn 2 _)⟩
  refine flowG_nil fun w12 hgrow hf => ?_
  have hn12 : w12.ownsRow B 24 3 (.slice (some ⟨gn, 0, none⟩) 1 cn) 1 (znCells nm first A10 n c10) := hf.1
  have hfar1 : ∀ b, b < W11.heap.size → b ≠ gn → w12.heap[b]? = W11.heap[b]? := fun b h1 h2 => hgrow.block b h1 (by intro e; injection e with e; exact h2 e)
  have hk12 := own_heap HKf.out fun b hb => hfar1 b (own_lt HKf.out b hb).2 (ownApart HKf.out HBX.out (by decide) b hb)
  have ho12 := own_heap HOf.out fun b hb => hfar1 b (own_lt HOf.out b hb).2 (by injection hb with hb; rw [← hb]; exact n11)
  have hq12 := own_heap HOz.out fun b hb => hfar1 b (own_lt HOz.out b hb).2 (ownApart HOz.out HBX.out (by decide) b hb)
  have hr12 := own_heap HR11.out fun b hb => hfar1 b (own_lt HR11.out b hb).2 (by have := own_lt HR11.out b hb; omega)
  have hg12 := HGf.out.grown hgrow e2
  have hm12 := HMf.out.grown hgrow e3
  have hb12 : Below B w w12 := (HBW.out.mono hBw).grown hgrow (by have := HBW.out.size; omega) (fun q hq => by injection hq with hq; have := HBG.out; omega)
  have hgm4' : gm < W5.heap.size := by omega
  have hfar2 : ∀ b, b ≠ gm → (w12.setCell ⟨gm, 0, none⟩ (.int .i64 M)).heap[b]? = w12.heap[b]? := fun b hb => Below.heap_setCell _ _ _ b hb
  have hgbm : gb ≠ gm := fun e => by
    subst e
    have h := Option.some.inj (hg12.symm.trans hm12)
    injection h with h1 h2
    exact absurd h2 (by decide)
  have hr13 : (w12.setCell ⟨gm, 0, none⟩ (.int .i64 M)).ownsRow W5.heap.size 26 3 (.slice A10 n c10) n (chCells (O.take k ++ L)) := own_heap hr12 fun b hb => hfar2 b (by have := own_lt hr12 b hb; omega)
  have hZO : ZIn (w12.setCell ⟨gm, 0, none⟩ (.int .i64 M)) nm oA O := ⟨Row.of_ownS (own_heap hq12 fun b hb => hfar2 b (ownApart hq12 hm12 (by decide) b hb)), HZf.out.name, HZf.out.len, HZf.out.fit⟩
  have hIN : BuIn (w12.setCell ⟨gm, 0, none⟩ (.int .i64 M)) B D gb key nm first O (mixL fr O L) M := by
    rw [← HMX2.out]
    have hlen : (O.take k ++ L).length = n := by rw [HMX2.out]; exact HMX.out
    refine ⟨bk, bo, gn, gm, ck, co, cn, cm, oA, A10, oc, c10, n1, (hfar2 gb hgbm).trans hg12,
      own_heap hk12 fun b hb => hfar2 b (by injection hb with hb; rw [← hb]; exact n10),
      own_heap ho12 fun b hb => hfar2 b (ownApart ho12 hm12 (by decide) b hb),
      own_heap hq12 fun b hb => hfar2 b (ownApart hq12 hm12 (by decide) b hb), hZO, ?_, ⟨?_, HZf.out.name, by rw [hlen]; unfold maxLen; omega, fun x hx => ?_⟩, n8, hm12.set_ 0 _, n10, n11, n12, n13⟩
    · rw [hlen]
      exact own_heap hn12 fun b hb => hfar2 b (ownApart hn12 hm12 (by decide) b hb)
    · exact Row.of_ownS hr13
    · rcases List.mem_append.1 hx with hx | hx
      · exact HZf.out.fit x (List.mem_of_mem_take hx)
      · exact HLf.out.fit x hx
  have HIN := Lib.hid hIN
  have HFAR : Hid (∀ b, D ≤ b → b < w.heap.size → (w12.setCell ⟨gm, 0, none⟩ (.int .i64 M)).heap[b]? = w.heap[b]?) := fun b h1 h2 => by
    rw [hfar2 b (by omega), hfar1 b (by have := HBW.out.size; omega) (by omega)]
    exact HBW.out.block b h2
  have HB13 : Hid (Below B w (w12.setCell ⟨gm, 0, none⟩ (.int .i64 M))) := hb12.setCell (p := ⟨gm, 0, none⟩) n8 _
  have q0 : w12.cell? ⟨gm, 0, none⟩ = some (.int .i64 num) := hm12.cell 0
  have qf : w12.frozen? ⟨gm, 0, none⟩ = false := hm12.free 0
  have ql := hm12.lt
  clear n12 n13 hIN hZO hr13 hfar1 hfar2 hk12 ho12 hq12 hr12 hg12 hm12 hb12 hn12 hf hgrow b0 b1 a2 a3 d0 d1 d2 e1 e2 e3 e4 HKf HOf HOz HZf HMf HGf HLf HSet HBX n1 n8 n10 n11
  refine wpList_step fun K hK => ?_
  rw [if_pos (by rfl)]
  go_simp
  refine hK _ _ ?_
  clear hK K
  refine wpList_step fun K hK => ?_
  rw [if_pos (by rfl)]
  go_simp
  refine hK _ _ (wpList_nil ?_)
  clear hK K q0 qf ql
  generalize w12.setCell ⟨gm, 0, none⟩ (.int .i64 M) = W13 at *
  go_wp2_with fail
  go_ret
  exact ⟨HB13.out, HFAR.out, .inr (.inr ⟨HMN.out, by rw [HMX.out]; omega, rfl, HIN.out⟩)⟩
  · exact ⟨_, none, 0, rfl⟩
  · exact fun v w w' hb h A' c' e => own_next (h A' c' e) hb
end Go.Proofs.YtifhlmakacoicaaDoor
