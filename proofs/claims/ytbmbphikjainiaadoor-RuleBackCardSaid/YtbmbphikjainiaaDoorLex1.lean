/- Contracts of package rule: run, scan, token. -/
import Derived.Test.YtbmbphikjainiaaDoorPlainParse
import Derived.Test.YtbmbphikjainiaaDoorNum1
import Derived.Test.YtbmbphikjainiaaDoorWords
import Derived.Test.YtbmbphikjainiaaDoorFlowG
import Derived.BigQuiet
import Derived.Deep.QuietTactic
import Derived.Test.YtbmbphikjainiaaDoorPlainSplit
import Derived.Deep.DeepCutAuto
namespace Go.Proofs.YtbmbphikjainiaaDoor
open Go.RowKit
set_option linter.unusedVariables false

/-- bytes of a range -/
def inB (lo hi : UInt8) (b : UInt8) : Bool := decide (lo.toNat ≤ b.toNat) && decide (b.toNat ≤ hi.toNat)
theorem tw_stop (p : UInt8 → Bool) : ∀ (l : List UInt8) (m : Nat), m ≤ l.length → (∀ j (h : j < l.length), j < m → p l[j] = true) → (∀ h : m < l.length, p l[m] = false) → (l.takeWhile p).length = m
  | [], m, hm, _, _ => by simp at hm; subst hm; rfl
  | x :: l, 0, _, _, hs => by
    have := hs (by simp)
    simp at this
    simp [this]
  | x :: l, m + 1, hm, ha, hs => by
    have h0 := ha 0 (by simp) (by omega)
    simp at h0
    have ih := tw_stop p l m (by simpa using hm) (fun j h hj => by have := ha (j + 1) (by simpa using h) (by omega); simpa using this) (fun h => by have := hs (by simpa using h); simpa using this)
    simp [h0, ih]
/-- the end of the longest run of such bytes -/
def runE (lo hi : UInt8) (S : List UInt8) (n : Nat) : Nat := n + ((S.drop n).takeWhile (inB lo hi)).length
theorem runE_stop (lo hi : UInt8) (S : List UInt8) (n k : Nat) (hn : n ≤ k) (hk : k ≤ S.length) (ha : ∀ j (h : j < S.length), n ≤ j → j < k → inB lo hi S[j] = true) (hs : ∀ h : k < S.length, inB lo hi S[k] = false) : runE lo hi S n = k := by
  unfold runE
  rw [tw_stop (inB lo hi) (S.drop n) (k - n) (by rw [List.length_drop]; omega) (fun j h hj => by
    rw [List.getElem_drop]
    exact ha (n + j) (by rw [List.length_drop] at h; omega) (by omega) (by omega)) (fun h => by
    rw [List.getElem_drop]
    rw [List.length_drop] at h
    have := hs (by omega)
    simp only [show n + (k - n) = k from by omega]
    exact this)]
  omega
theorem runE_le (lo hi : UInt8) (S : List UInt8) (n : Nat) (h : n ≤ S.length) : n ≤ runE lo hi S n ∧ runE lo hi S n ≤ S.length := by
  unfold runE
  have := (List.takeWhile_prefix (inB lo hi) (l := S.drop n)).length_le
  rw [List.length_drop] at this
  omega

set_option maxHeartbeats 1000000 in
set_option maxRecDepth 100000 in
theorem run_any (S : ByteArray) (n : Nat) (lo hi : UInt8) (w : World) (hS : S.size ≤ 5000) (hn : n ≤ S.size) :
    Calls Tryd.prog 48 #[.string S, .int .i64 (n : Int), .int .u8 (lo.toNat : Int), .int .u8 (hi.toNat : Int)] w fun e w' => e = .returned (.int .i64 (runE lo hi S.data.toList n : Int)) ∧ w = w' := by
  have hl : S.data.toList.length = S.size := Array.length_toList
  have HR := Lib.hid (fun k h1 h2 h3 h4 => runE_stop lo hi S.data.toList n k h1 h2 h3 h4)
  generalize runE lo hi S.data.toList n = R at *
  go_enter Tryd.func48, Tryd.ntmps48
  go_wp2_with fail
  go_loop [1] (fun nv => ∃ k : Nat, n ≤ k ∧ k ≤ S.size ∧ nv = .int .i64 (k : Int) ∧ Hid (∀ j (h : j < S.data.toList.length), n ≤ j → j < k → inB lo hi S.data.toList[j] = true)) (fun nv => S.size - (intOf nv).toNat)
  case atStart => exact ⟨n, Nat.le_refl _, hn, rfl, fun j h h1 h2 => by omega⟩
  case round =>
    obtain ⟨k, hk1, hk2, rfl, hall⟩ := hrel
    by_cases hlt : k < S.size
    · have hb : S.data.toList[k]'(by omega) = S[k] := by simp [ByteArray.getElem_eq_getElem_data]
      by_cases hin : inB lo hi S[k] = true
      · have HN : Hid (∀ j (h : j < S.data.toList.length), n ≤ j → j < k + 1 → inB lo hi S.data.toList[j] = true) := fun j h h1 h2 => by
          by_cases e : j = k
          · subst e; rw [hb]; exact hin
          · exact hall.out j h h1 (by omega)
        unfold inB at hin
        rw [Bool.and_eq_true, decide_eq_true_eq, decide_eq_true_eq] at hin
        obtain ⟨i1, i2⟩ := hin
        have j1 : decide ((lo.toNat : Int) ≤ (S[k].toNat : Int)) = true := decide_eq_true (by omega)
        have j2 : decide ((S[k].toNat : Int) ≤ (hi.toNat : Int)) = true := decide_eq_true (by omega)
        have j3 : decide (lo.toNat ≤ S[k].toNat) = true := decide_eq_true (by omega)
        have j4 : decide (S[k].toNat ≤ hi.toNat) = true := decide_eq_true (by omega)
        clear hb
        go_wp2_with fail
        go_round
        case rel => exact ⟨k + 1, by omega, by omega, by go_num, HN⟩
        case measure => simp [intOf]; omega
      · have hRk := HR.out k hk1 (by omega) hall.out (fun h => by rw [hb]; simpa using hin)
        have hin2 : inB lo hi S[k] = false := by simpa using hin
        clear hb hin
        subst hRk
        unfold inB at hin2
        rw [Bool.and_eq_false_iff, decide_eq_false_iff_not, decide_eq_false_iff_not] at hin2
        by_cases h1 : lo.toNat ≤ S[R].toNat
        · have h2 : ¬ S[R].toNat ≤ hi.toNat := by rcases hin2 with h | h; exact absurd h1 h; exact h
          clear hin2
          have j1 : decide ((lo.toNat : Int) ≤ (S[R].toNat : Int)) = true := decide_eq_true (by omega)
          have j2 : decide ((S[R].toNat : Int) ≤ (hi.toNat : Int)) = false := decide_eq_false (by omega)
          have j3 : decide (lo.toNat ≤ S[R].toNat) = true := decide_eq_true (by omega)
          have j4 : decide (S[R].toNat ≤ hi.toNat) = false := decide_eq_false (by omega)
          go_wp2_with fail
          go_ret
          exact ⟨rfl, rfl⟩
        · clear hin2
          have j1 : decide ((lo.toNat : Int) ≤ (S[R].toNat : Int)) = false := decide_eq_false (by omega)
          have j3 : decide (lo.toNat ≤ S[R].toNat) = false := decide_eq_false (by omega)
          go_wp2_with fail
          go_ret
          exact ⟨rfl, rfl⟩
    · have hRk := HR.out k hk1 (by omega) hall.out (fun h => by omega)
      subst hRk
      go_wp2_with fail
      go_ret
      exact ⟨rfl, rfl⟩
/-- a reader in memory -/
def Rd (w : World) (g : Nat) (S : ByteArray) (a n : Nat) (op : Int) : Prop := Box w g 45 #[.string S, .int .i64 (a : Int), .int .i64 (n : Int), .int .i64 op, .int .i64 0]
/-- where the reader is: its word, and those that follow -/
structure Lx (S : List UInt8) (a n : Nat) (ts : List Tok) : Prop where
  an : a ≤ n
  ns : n ≤ S.length
  cur : (S.take n).drop a = ts.headD []
  rest : toks (S.drop n) = ts.tail
  ne : ∀ c, ts.head? = some c → c ≠ []
theorem toks_ne : ∀ (f : Nat) (l : List UInt8) (c : Tok), c ∈ toksN f l → c ≠ []
  | 0, l, c, h => by cases h
  | f + 1, l, c, h => by
    unfold toksN at h
    split at h
    · cases h
    · rename_i hs
      rcases List.mem_cons.1 h with rfl | h
      · exact tk_ne _ hs
      · exact toks_ne f _ c h
theorem take_pre (l w r : List UInt8) (h : w ++ r = l) : l.take w.length = w := by
  subst h
  simp
theorem inB_sp (b : UInt8) : inB 32 32 b = (b == 32) := by
  unfold inB
  rw [Bool.eq_iff_iff, Bool.and_eq_true, decide_eq_true_eq, decide_eq_true_eq, beq_iff_eq, ← UInt8.toNat_inj]
  show 32 ≤ b.toNat ∧ b.toNat ≤ 32 ↔ b.toNat = 32
  omega
theorem inB_low : inB 97 122 = isLow := rfl
theorem inB_dig : inB 48 57 = isDig := rfl
theorem sk_drop (S : List UInt8) (n : Nat) (hn : n ≤ S.length) : sk (S.drop n) = S.drop (runE 32 32 S n) := by
  unfold runE sk
  rw [← List.drop_drop, show inB 32 32 = (fun b : UInt8 => b == 32) from funext inB_sp]
  generalize S.drop n = l
  induction l with
  | nil => rfl
  | cons x l ih =>
    rw [List.dropWhile_cons, List.takeWhile_cons]
    split
    · simpa using ih
    · simp
/-- the next word: where it begins, where it ends -/
theorem lx_scan (S : List UInt8) (n : Nat) (hn : n ≤ S.length) (ts : List Tok) (h : toks (S.drop n) = ts) (a m : Nat) (ha : a = runE 32 32 S n) (hm : m = max (runE 97 122 S a) (runE 48 57 S a)) :
    n ≤ a ∧ a ≤ S.length ∧ a ≤ m ∧ m ≤ S.length ∧ (if m = a ∧ a < S.length then Lx S a (m + 1) ts else Lx S a m ts) := by
  have h1 := runE_le 32 32 S n hn
  rw [← ha] at h1
  have h2 := runE_le 97 122 S a h1.2
  have h3 := runE_le 48 57 S a h1.2
  refine ⟨h1.1, h1.2, by omega, by omega, ?_⟩
  have hsk := sk_drop S n hn
  rw [← ha] at hsk
  have hlow : runE 97 122 S a = a + ((S.drop a).takeWhile isLow).length := rfl
  have hdig : runE 48 57 S a = a + ((S.drop a).takeWhile isDig).length := rfl
  have hnec : ∀ c, ts.head? = some c → c ≠ [] := fun c hc => by
    rw [← h] at hc
    exact toks_ne _ _ c (List.mem_of_mem_head? hc)
  by_cases hend : a = S.length
  · have he : S.drop a = [] := by rw [hend]; simp
    rw [he] at hlow hdig hsk
    have hts : ts = [] := by rw [← h]; exact toks_nil _ hsk
    have hma : m = a := by simp at hlow hdig; omega
    rw [if_neg (by omega), hma, hts]
    exact ⟨Nat.le_refl _, h1.2, by simp, by rw [he]; rfl, fun c hc => by cases hc⟩
  · have hne : S.drop a ≠ [] := fun e => by have := congrArg List.length e; rw [List.length_drop, List.length_nil] at this; omega
    have hts : ts = tk (S.drop a) :: toks ((S.drop a).drop (tk (S.drop a)).length) := by
      rw [← h, toks_cons _ (by rw [hsk]; exact hne), hsk]
    have hfin : ∀ q, q = a + (tk (S.drop a)).length → q ≤ S.length → Lx S a q ts := fun q hq hq2 => by
      refine ⟨by omega, hq2, ?_, ?_, hnec⟩
      · rw [hts]
        show _ = tk (S.drop a)
        rw [hq, List.drop_take, show a + (tk (S.drop a)).length - a = (tk (S.drop a)).length from by omega]
        exact take_pre _ _ _ (tk_pre (S.drop a))
      · rw [hts, hq, ← List.drop_drop]
        rfl
    by_cases hl : (S.drop a).takeWhile isLow = []
    · by_cases hd : (S.drop a).takeWhile isDig = []
      · rw [hl] at hlow
        rw [hd] at hdig
        have hma : m = a := by simp at hlow hdig; omega
        have htk : tk (S.drop a) = (S.drop a).take 1 := by unfold tk; rw [if_neg (by simpa using hl), if_neg (by simpa using hd)]
        rw [if_pos ⟨hma, by omega⟩]
        refine hfin (m + 1) ?_ (by omega)
        rw [htk, List.length_take, List.length_drop, hma]
        omega
      · have htk : tk (S.drop a) = (S.drop a).takeWhile isDig := by unfold tk; rw [if_neg (by simpa using hl), if_pos (by simpa using hd)]
        rw [hl] at hlow
        have hpos := List.length_pos_iff.2 hd
        have hma : m = a + ((S.drop a).takeWhile isDig).length := by simp at hlow; omega
        rw [if_neg (by omega)]
        exact hfin m (by rw [htk]; exact hma) (by omega)
    · have htk : tk (S.drop a) = (S.drop a).takeWhile isLow := by unfold tk; rw [if_pos (by simpa using hl)]
      have hd : (S.drop a).takeWhile isDig = [] := by
        cases hS : S.drop a with
        | nil => rfl
        | cons x l =>
          rw [hS] at hl
          rw [List.takeWhile_cons] at hl ⊢
          have hx : isLow x = true := by
            by_cases hx : isLow x = true
            · exact hx
            · rw [if_neg hx] at hl; exact absurd rfl hl
          rw [if_neg]
          unfold isLow at hx; unfold isDig
          simp at hx ⊢
          omega
      rw [hd] at hdig
      have hpos := List.length_pos_iff.2 hl
      have hma : m = a + ((S.drop a).takeWhile isLow).length := by simp at hdig; omega
      rw [if_neg (by omega)]
      exact hfin m (by rw [htk]; exact hma) (by omega)

theorem grown_set (w : World) (g i : Nat) (v : Value) : w.grownBy (w.setCell ⟨g, i, none⟩ v) (some g) := by
  refine ⟨rfl, rfl, rfl, by simp, fun b hb hne => ?_⟩
  exact Below.heap_setCell _ _ _ b (fun e => hne (by rw [e]))
theorem rd_set1 {w : World} {g : Nat} {S : ByteArray} {a n : Nat} {op : Int} (h : Rd w g S a n op) (a' : Nat) : Rd (w.setCell ⟨g, 1, none⟩ (.int .i64 (a' : Int))) g S a' n op := Box.set_ h 1 _
theorem rd_set2 {w : World} {g : Nat} {S : ByteArray} {a n : Nat} {op : Int} (h : Rd w g S a n op) (n' : Nat) : Rd (w.setCell ⟨g, 2, none⟩ (.int .i64 (n' : Int))) g S a n' op := Box.set_ h 2 _
theorem rd_next {w w' : World} {g : Nat} {S : ByteArray} {a n : Nat} {op : Int} (h : Rd w g S a n op) (hb : Below w.heap.size w w') : Rd w' g S a n op := Box.below h hb
set_option maxHeartbeats 2000000 in
set_option maxRecDepth 100000 in
/-- the reader goes on to the next word -/
theorem scan_any (g : Nat) (S : ByteArray) (a n : Nat) (op : Int) (ts : List Tok) (w : World) (hx : Rd w g S a n op) (hS : S.size ≤ 5000) (hn : n ≤ S.size) (ht : toks (S.data.toList.drop n) = ts) :
    Calls Tryd.prog 28 #[.pointer (some ⟨g, 0, none⟩)] w fun e w' => e = .returned (.tuple #[]) ∧ ∃ a' n', Rd w' g S a' n' op ∧ Lx S.data.toList a' n' ts ∧ w.grownBy w' (some g) := by
  have hl : S.data.toList.length = S.size := Array.length_toList
  obtain ⟨A, hA⟩ : ∃ A, A = runE 32 32 S.data.toList n := ⟨_, rfl⟩
  obtain ⟨M1, hM1⟩ : ∃ M1, M1 = runE 97 122 S.data.toList A := ⟨_, rfl⟩
  obtain ⟨M2, hM2⟩ : ∃ M2, M2 = runE 48 57 S.data.toList A := ⟨_, rfl⟩
  obtain ⟨h1, h2, h3, h4, hlx⟩ := lx_scan S.data.toList n (by omega) ts ht A (max M1 M2) hA (by rw [hM1, hM2])
  have HR1 := Lib.hid (fun W => run_any S n 32 32 W hS hn)
  have HR2 := Lib.hid (fun W => run_any S A 97 122 W hS (by omega))
  have HR3 := Lib.hid (fun W => run_any S A 48 57 W hS (by omega))
  rw [← hA] at HR1
  rw [← hM1] at HR2
  rw [← hM2] at HR3
  clear hA hM1 hM2 ht
  have HX := Lib.hid hx
  have HLX := Lib.hid hlx
  unfold Rd at hx
  clear hlx
  have c0 : ∀ W, Below w.heap.size w W → W.cell? ⟨g, 0, none⟩ = some (.string S) := fun W hW => (hx.below hW).cell 0
  have c2 : ∀ W, Below w.heap.size w W → W.cell? ⟨g, 2, none⟩ = some (.int .i64 (n : Int)) := fun W hW => (hx.below hW).cell 2
  clear hx
  go_enter Tryd.func28, Tryd.ntmps28
  go_wp2_with fail
  refine flow_begin_tail 12 (tellOf [(9, det (.int .i64 (A : Int)))]) (by kernel_rfl) (by kernel_rfl) ?_
  simp only [List.take_succ_cons, List.take_zero, List.drop_succ_cons, List.drop_zero]
  repeat (first | (refine flow_val (v := ?_) (by rfl) (by rfl) (fun w hb => ?_) ?_; rotate_left; (· ((go_simp) <;> ((repeat' apply And.intro) <;> with_reducible rfl))); try simp only [Act.put, List.setIfInBounds_toArray, List.set_cons_zero, List.set_cons_succ, Nat.reduceAdd]) | (refine flow_skip (by rfl) (by rfl) ?_; try simp only [Act.put, List.setIfInBounds_toArray, List.set_cons_zero, List.set_cons_succ, Nat.reduceAdd]))
  refine flow_call (f := ?_) (args := ?_) [] (by kernel_rfl) (by rfl) (by rfl) (fun w hb => ?_) (fun w hb hu => ?_) ?_; rotate_left 2; (· ((go_simp) <;> ((repeat' apply And.intro) <;> with_reducible rfl)))
  · exact (HR1.out w).mono fun e w' ⟨he, hw⟩ => ⟨he, by rw [← hw]; exact Below.refl _ _⟩
  try simp only [Act.put, List.setIfInBounds_toArray, List.set_cons_zero, List.set_cons_succ, Nat.reduceAdd]
  repeat (first | (refine flow_val (v := ?_) (by rfl) (by rfl) (fun w hb => ?_) ?_; rotate_left; (· ((go_simp) <;> ((repeat' apply And.intro) <;> with_reducible rfl))); try simp only [Act.put, List.setIfInBounds_toArray, List.set_cons_zero, List.set_cons_succ, Nat.reduceAdd]) | (refine flow_skip (by rfl) (by rfl) ?_; try simp only [Act.put, List.setIfInBounds_toArray, List.set_cons_zero, List.set_cons_succ, Nat.reduceAdd]))
  refine flow_nil fun w1 hb1 _ => ?_
  have hx1 := rd_next HX.out hb1
  have HG1 : Hid (w.grownBy w1 (some g)) := grown_bel hb1
  have q1 : w1.cell? ⟨g, 1, none⟩ = some (.int .i64 (a : Int)) := Box.cell hx1 1
  have qf : w1.frozen? ⟨g, 1, none⟩ = false := Box.free hx1 1
  have ql : g < w1.heap.size := Box.lt hx1
  have hx2 := rd_set1 hx1 A
  have HG2 := Lib.hid (World.grownBy.trans HG1.out (grown_set w1 g 1 (.int .i64 (A : Int))))
  clear hb1 c0 c2 hx1 HX HG1
  refine wpList_step fun K hK => ?_
  rw [if_pos (by rfl)]
  go_simp
  refine hK _ _ (wpList_nil ?_)
  clear hK K q1 qf ql
  generalize w1.setCell ⟨g, 1, none⟩ (.int .i64 (A : Int)) = w2 at *
  go_upto_region 1 with fail
  have HX2 := Lib.hid hx2
  unfold Rd at hx2
  have c0 : ∀ W, Below w2.heap.size w2 W → W.cell? ⟨g, 0, none⟩ = some (.string S) := fun W hW => (hx2.below hW).cell 0
  have c1 : ∀ W, Below w2.heap.size w2 W → W.cell? ⟨g, 1, none⟩ = some (.int .i64 (A : Int)) := fun W hW => (hx2.below hW).cell 1
  clear hx2
  refine flow_begin_tail 22 (tellOf [(9, det (.int .i64 (M1 : Int))), (18, det (.int .i64 (M2 : Int)))]) (by kernel_rfl) (by kernel_rfl) ?_
  simp only [List.take_succ_cons, List.take_zero, List.drop_succ_cons, List.drop_zero]
  repeat (first | (refine flow_val (v := ?_) (by rfl) (by rfl) (fun w hb => ?_) ?_; rotate_left; (· ((go_simp) <;> ((repeat' apply And.intro) <;> with_reducible rfl))); try simp only [Act.put, List.setIfInBounds_toArray, List.set_cons_zero, List.set_cons_succ, Nat.reduceAdd]) | (refine flow_skip (by rfl) (by rfl) ?_; try simp only [Act.put, List.setIfInBounds_toArray, List.set_cons_zero, List.set_cons_succ, Nat.reduceAdd]))
  refine flow_call (f := ?_) (args := ?_) [] (by kernel_rfl) (by rfl) (by rfl) (fun w hb => ?_) (fun w hb hu => ?_) ?_; rotate_left 2; (· ((go_simp) <;> ((repeat' apply And.intro) <;> with_reducible rfl)))
  · exact (HR2.out w).mono fun e w' ⟨he, hw⟩ => ⟨he, by rw [← hw]; exact Below.refl _ _⟩
  try simp only [Act.put, List.setIfInBounds_toArray, List.set_cons_zero, List.set_cons_succ, Nat.reduceAdd]
  repeat (first | (refine flow_val (v := ?_) (by rfl) (by rfl) (fun w hb => ?_) ?_; rotate_left; (· ((go_simp) <;> ((repeat' apply And.intro) <;> with_reducible rfl))); try simp only [Act.put, List.setIfInBounds_toArray, List.set_cons_zero, List.set_cons_succ, Nat.reduceAdd]) | (refine flow_skip (by rfl) (by rfl) ?_; try simp only [Act.put, List.setIfInBounds_toArray, List.set_cons_zero, List.set_cons_succ, Nat.reduceAdd]))
  refine flow_call (f := ?_) (args := ?_) [] (by kernel_rfl) (by rfl) (by rfl) (fun w hb => ?_) (fun w hb hu => ?_) ?_; rotate_left 2; (· ((go_simp) <;> ((repeat' apply And.intro) <;> with_reducible rfl)))
  · exact (HR3.out w).mono fun e w' ⟨he, hw⟩ => ⟨he, by rw [← hw]; exact Below.refl _ _⟩
  try simp only [Act.put, List.setIfInBounds_toArray, List.set_cons_zero, List.set_cons_succ, Nat.reduceAdd]
  repeat (first | (refine flow_val (v := ?_) (by rfl) (by rfl) (fun w hb => ?_) ?_; rotate_left; (· ((go_simp) <;> ((repeat' apply And.intro) <;> with_reducible rfl))); try simp only [Act.put, List.setIfInBounds_toArray, List.set_cons_zero, List.set_cons_succ, Nat.reduceAdd]) | (refine flow_skip (by rfl) (by rfl) ?_; try simp only [Act.put, List.setIfInBounds_toArray, List.set_cons_zero, List.set_cons_succ, Nat.reduceAdd]))
  refine flow_nil fun w3 hb3 _ => ?_
  have hmx : max (M1 : Int) (M2 : Int) = ((max M1 M2 : Nat) : Int) := by omega
  rw [hmx]
  clear hmx
  generalize max M1 M2 = M at *
  have hx3 := rd_next HX2.out hb3
  have HG3 := Lib.hid (World.grownBy.trans HG2.out (grown_bel (row := some g) hb3))
  have q1 : w3.cell? ⟨g, 2, none⟩ = some (.int .i64 (n : Int)) := Box.cell hx3 2
  have qf : w3.frozen? ⟨g, 2, none⟩ = false := Box.free hx3 2
  have ql : g < w3.heap.size := Box.lt hx3
  have hx4 := rd_set2 hx3 M
  have HG4 := Lib.hid (World.grownBy.trans HG3.out (grown_set w3 g 2 (.int .i64 (M : Int))))
  clear hb3 c0 c1 hx3 HX2 HG2 HG3
  refine wpList_step fun K hK => ?_
  rw [if_pos (by rfl)]
  go_simp
  refine hK _ _ (wpList_nil ?_)
  clear hK K q1 qf ql
  generalize w3.setCell ⟨g, 2, none⟩ (.int .i64 (M : Int)) = w4 at *
  go_upto_region 2 with fail
  have HX4 := Lib.hid hx4
  have x0 : w4.cell? ⟨g, 0, none⟩ = some (.string S) := Box.cell hx4 0
  have x1 : w4.cell? ⟨g, 1, none⟩ = some (.int .i64 (A : Int)) := Box.cell hx4 1
  have x2 : w4.cell? ⟨g, 2, none⟩ = some (.int .i64 (M : Int)) := Box.cell hx4 2
  have xf : w4.frozen? ⟨g, 2, none⟩ = false := Box.free hx4 2
  have xl : g < w4.heap.size := Box.lt hx4
  clear hx4
  by_cases hc : M = A ∧ A < S.size
  · have hLX := HLX.out
    rw [if_pos (by rw [hl]; exact hc)] at hLX
    obtain ⟨hc1, hc2⟩ := hc
    have HLX2 := Lib.hid hLX
    have t1 : ((M : Int) == (A : Int)) = true := by rw [beq_iff_eq]; omega
    have t2 : decide ((A : Int) < (S.size : Int)) = true := decide_eq_true (by omega)
    have t3 : decide (A < S.size) = true := decide_eq_true hc2
    clear hLX HLX hc1
    go_quiet (fail)
    go_wp2_with fail
    go_end0
    rw [show ((M : Int) + 1) = ((M + 1 : Nat) : Int) from by omega]
    exact ⟨rfl, A, M + 1, rd_set2 (HX4.out.drewN nq) (M + 1), HLX2.out, World.grownBy.trans HG4.out (World.grownBy.trans (grown_bel (below_drewN w4 nq)) (grown_set (w4.drewN nq) g 2 _))⟩
  · have hLX := HLX.out
    rw [if_neg (by rw [hl]; exact hc)] at hLX
    have HLX2 := Lib.hid hLX
    clear hLX HLX
    by_cases hma : M = A
    · have hc2 : ¬ A < S.size := fun h => hc ⟨hma, h⟩
      have t1 : ((M : Int) == (A : Int)) = true := by rw [beq_iff_eq]; omega
      have t2 : decide ((A : Int) < (S.size : Int)) = false := decide_eq_false (by omega)
      have t3 : decide (A < S.size) = false := decide_eq_false hc2
      clear hc hma
      go_quiet (fail)
      go_wp2_with fail
      go_end0
      exact ⟨rfl, A, M, HX4.out.drewN nq, HLX2.out, World.grownBy.trans HG4.out (grown_bel (below_drewN w4 nq))⟩
    · have t1 : ((M : Int) == (A : Int)) = false := by rw [beq_eq_false_iff_ne]; omega
      clear hc hma
      go_quiet (fail)
      go_wp2_with fail
      go_end0
      exact ⟨rfl, A, M, HX4.out.drewN nq, HLX2.out, World.grownBy.trans HG4.out (grown_bel (below_drewN w4 nq))⟩

def tokS (ts : List Tok) : ByteArray := str (ts.headD [])
set_option maxRecDepth 100000 in
/-- the word where the reader is -/
theorem token_any (g : Nat) (S : ByteArray) (a n : Nat) (op : Int) (ts : List Tok) (w : World) (hx : Rd w g S a n op) (hS : S.size ≤ 5000) (hL : Lx S.data.toList a n ts) :
    Calls Tryd.prog 35 #[.pointer (some ⟨g, 0, none⟩)] w fun e w' => e = .returned (.string (tokS ts)) ∧ ∃ m, w' = w.drewN m := by
  have hl : S.data.toList.length = S.size := Array.length_toList
  have h1 := hL.an
  have h2 := hL.ns
  have hcur := hL.cur
  have e : S.extract a n = tokS ts := by
    unfold tokS
    rw [← hcur]
    have h := ext_str S.data.toList a n
    rw [show str S.data.toList = S from by apply ByteArray.ext; simp [str]] at h
    exact h
  rw [← e]
  have x0 : w.cell? ⟨g, 0, none⟩ = some (.string S) := Box.cell hx 0
  have x1 : w.cell? ⟨g, 1, none⟩ = some (.int .i64 (a : Int)) := Box.cell hx 1
  have x2 : w.cell? ⟨g, 2, none⟩ = some (.int .i64 (n : Int)) := Box.cell hx 2
  have hn : n ≤ S.size := by omega
  clear hcur hL hx e h2 hl
  go_enter Tryd.func35, Tryd.ntmps35
  go_wp2_with fail
  go_quiet (fail)
  go_wp2_with fail
  go_ret
  exact ⟨rfl, _, rfl⟩
end Go.Proofs.YtbmbphikjainiaaDoor
