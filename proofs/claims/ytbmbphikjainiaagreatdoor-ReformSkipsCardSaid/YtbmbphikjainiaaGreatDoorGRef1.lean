/- Ref1, Ref2, Ref3 -/
import Derived.Test.YtbmbphikjainiaaGreatDoorGCat1
import Derived.Test.YtbmbphikjainiaaGreatDoorGFlow
import Derived.Test.YtbmbphikjainiaaGreatDoorGCatOk
import Derived.Test.YtbmbphikjainiaaGreatDoorGCal5
/- Calendars that were changed: plain words; slices.Contains at []string; contract of reform.Check. -/
namespace Go.Proofs.YtbmbphikjainiaaGreatDoor
open Go Go.RowKit
set_option linter.unusedVariables false

theorem mem_getS (l : List ByteArray) (i : Nat) (h : i < l.length) : l.getD i ⟨#[]⟩ ∈ l := by simp [List.getD, List.getElem?_eq_getElem h]
theorem not_mem_getS (l : List ByteArray) (x : ByteArray) (h : ∀ i, i < l.length → l.getD i ⟨#[]⟩ ≠ x) : x ∉ l := fun hm => by
  obtain ⟨i, hi, e⟩ := List.getElem_of_mem hm
  exact h i hi (by rw [← e]; simp [List.getD, List.getElem?_eq_getElem hi])
def strsV (l : List ByteArray) : List Value := l.map Value.string
theorem strs_ne (l : List ByteArray) (h : 0 < l.length) : strsV l ≠ [] := by
  cases l with
  | nil => simp at h
  | cons a l => simp [strsV]
theorem bytes_beq (a b : ByteArray) : (a.toList == b.toList) = decide (a = b) := by
  rw [Bool.eq_iff_iff, beq_iff_eq, decide_eq_true_eq, Lib.toList_data, Lib.toList_data]
  constructor
  · intro h
    rw [← str_own' a, ← str_own' b, h]
  · rintro rfl; rfl

set_option maxHeartbeats 1000000 in
set_option maxRecDepth 100000 in
theorem index_strs (A : Option Addr) (c : Nat) (l : List ByteArray) (x : ByteArray) (w : World) (hr : Row w w.heap.size A (strsV l)) (hl : l.length ≤ maxLen) :
    Calls Tryz.prog 114 #[.slice A l.length c, .string x] w (IsIdx (x ∈ l) w) := by
  unfold maxLen at hl
  obtain ⟨P, hP⟩ : ∃ P : Prop, P = (x ∈ l) := ⟨_, rfl⟩
  rw [← hP]
  have HP := Lib.hid hP
  clear hP
  go_enter Tryz.func114, Tryz.ntmps114
  go_wp2_with fail
  go_loop [5, 8] (fun _ i => ∃ k : Nat, k ≤ l.length ∧ i = .int .i64 (k : Int) ∧ Hid (∀ j, j < k → l.getD j ⟨#[]⟩ ≠ x)) (fun _ i => l.length - (intOf i).toNat)
  case atStart => exact ⟨0, by omega, rfl, fun j hj => by omega⟩
  case round =>
    obtain ⟨k, hk, rfl, hall⟩ := hrel
    by_cases hlt : k < l.length
    · obtain ⟨b, o, rfl, _, hcs⟩ := hr.open_ (strs_ne l (by omega))
      have hc : w.cell? ⟨b, o + k, none⟩ = some (.string (l.getD k ⟨#[]⟩)) := hcs k _ (by simp [strsV, List.getD, List.getElem?_eq_getElem hlt])
      have hmem := Lib.hid (mem_getS l k hlt)
      have HX : Hid (l.getD k ⟨#[]⟩ ≠ x → ∀ j, j < k + 1 → l.getD j ⟨#[]⟩ ≠ x) := fun h j hj => by
        by_cases e : j = k
        · subst e; exact h
        · exact hall.out j (by omega)
      clear hcs hr
      generalize l.getD k ⟨#[]⟩ = y at *
      by_cases he : x = y
      · have t1 : (x.toList == y.toList) = true := by rw [bytes_beq]; exact decide_eq_true he
        have HE := Lib.hid he
        clear he
        go_wp2_with fail
        go_ret
        exact ⟨(k : Int), rfl, ⟨fun _ => by rw [HP.out, HE.out]; exact hmem.out, fun _ => by omega⟩, rfl⟩
      · have t1 : (x.toList == y.toList) = false := by rw [bytes_beq]; exact decide_eq_false he
        have HE := Lib.hid he
        clear he
        go_wp2_with fail
        go_round
        case rel => exact ⟨k + 1, by omega, by go_num, HX.out (fun h => HE.out h.symm)⟩
        case measure => simp [intOf]; omega
    · go_wp2_with fail
      go_ret
      exact ⟨-1, rfl, ⟨fun h => by omega, fun h => absurd (HP.out ▸ h) (not_mem_getS l x (fun i hi => hall.out i (by omega)))⟩, rfl⟩

set_option maxRecDepth 100000 in
theorem contains_strs (A : Option Addr) (c : Nat) (l : List ByteArray) (x : ByteArray) (w : World) (hr : Row w w.heap.size A (strsV l)) (hl : l.length ≤ maxLen) :
    Calls Tryz.prog 96 #[.slice A l.length c, .string x] w (Asks (x ∈ l) w) := by
  have HI := Lib.hid (fun w hr => index_strs A c l x w hr hl)
  obtain ⟨P, hP⟩ : ∃ P : Prop, P = (x ∈ l) := ⟨_, rfl⟩
  rw [← hP] at HI ⊢
  clear hP hl
  go_enter Tryz.func96, Tryz.ntmps96
  go_wp2_with fail
  refine (HI.out _ hr).mono ?_
  rintro e w' ⟨i, rfl, hi, rfl⟩
  have HH := Lib.hid hi
  clear hi HI
  by_cases h0 : 0 ≤ i
  · have t1 : decide (0 ≤ i) = true := decide_eq_true h0
    have HP := Lib.hid (HH.out.1 h0)
    clear h0
    go_wp2_with fail
    go_ret
    exact Asks.yes HP.out
  · have t1 : decide (0 ≤ i) = false := decide_eq_false h0
    have HP : Hid (¬ P) := fun h => h0 (HH.out.2 h)
    clear h0
    go_wp2_with fail
    go_ret
    exact Asks.no HP.out

/-- a part: from a day on, a calendar -/
structure Pt where
  fr : Int
  cal : ByteArray
def pt0 : Pt := ⟨0, ⟨#[]⟩⟩
def ptF (p : Pt) : List Value := [.int .i64 p.fr, .string p.cal]
theorem ptF_len (p : Pt) : (ptF p).length = 2 := rfl
structure Rf where
  nm : ByteArray
  ps : List Pt
  A : Option Addr
  c : Nat
abbrev Rf.cells (r : Rf) : Array Value := #[.string r.nm, .slice r.A r.ps.length r.c]
abbrev Rf.val (r : Rf) : Value := .agg r.cells
def RfIn (w : World) (r : Rf) : Prop := Row w w.heap.size r.A (r.ps.flatMap ptF)
theorem RfIn.next {w w' : World} {r : Rf} (h : RfIn w r) (hb : Below w.heap.size w w') : RfIn w' r := Row.next h hb
structure RfFit (r : Rf) : Prop where
  nm : r.nm.size ≤ maxLen
  l1 : r.ps.length ≤ r.c
  m1 : r.c ≤ maxLen
def namesL : List ByteArray := catR.map fun r => str r.nm
theorem namesL_len : namesL.length = 40 := rfl
theorem names_strs : nmsV catL = strsV namesL := by
  unfold nmsV catL strsV namesL
  rw [List.map_map, List.map_map]
  refine List.map_congr_left fun r hr => ?_
  exact cut_nm r hr
structure PtOk (ps : List Pt) (i : Nat) : Prop where
  is : -4000000 ≤ (ps.getD i pt0).fr ∧ (ps.getD i pt0).fr ≤ 4000000
  up : 0 < i → (ps.getD (i - 1) pt0).fr < (ps.getD i pt0).fr
  nm : (ps.getD i pt0).cal ∈ namesL
structure RfOk (r : Rf) : Prop where
  nm : NameOk r.nm
  n1 : 1 ≤ r.ps.length
  n2 : r.ps.length ≤ 10
  z : (r.ps.getD 0 pt0).fr = -4000000
  each : ∀ i, i < r.ps.length → PtOk r.ps i

set_option maxHeartbeats 4000000 in
set_option maxRecDepth 100000 in
theorem rcheck_any (r : Rf) (w : World) (hr : RfIn w r) (hf : RfFit r) (hsh : Shp w) : Calls Tryz.prog 68 #[r.val] w (Errs (RfOk r) w) := by
  have HX := Lib.hid (Box.new w 68 r.cells)
  have HB := Lib.hid (below_alloc1 w (Obj.cells r.cells 68))
  have HR := Lib.hid (hr.next HB.out)
  have HS := Lib.hid (hsh.next HB.out)
  have hlm : r.ps.length ≤ maxLen := Nat.le_trans hf.l1 hf.m1
  unfold maxLen at hlm
  have HN := Lib.hid (fun W => isName_any r.nm W hf.nm)
  obtain ⟨Q, hQ⟩ : ∃ Q : Prop, Q = RfOk r := ⟨_, rfl⟩
  have QI : Hid (Q ↔ RfOk r) := by unfold Hid; rw [hQ]
  rw [← hQ]
  clear hr hsh hf hQ
  go_enter Tryz.func68, Tryz.ntmps68
  go_wp2_with fail
  generalize w.alloc (Obj.cells r.cells 68) = W0 at *
  obtain ⟨g, hg⟩ : ∃ g, g = w.heap.size := ⟨_, rfl⟩
  rw [← hg] at HX
  rw [← hg]
  clear hg
  have hgw : g < W0.heap.size := HX.out.lt
  refine (HN.out _).mono ?_
  rintro e w' ⟨b, rfl, hb, rfl⟩
  clear HN
  cases b
  case false =>
    have HNo : Hid (¬ Q) := fun h => by have := hb.2 (QI.out.1 h).nm; cases this
    clear hb
    go_wp2_with fail
    go_ret
    exact Errs.no (by decide) HNo.out HB.out
  have HNm := Lib.hid (hb.1 rfl)
  clear hb
  have x1 : W0.cell? ⟨g, 1, none⟩ = some (.slice r.A r.ps.length r.c) := HX.out.cell 1
  by_cases h1 : r.ps.length < 1
  · have t1 : decide ((r.ps.length : Int) < 1) = true := decide_eq_true (by omega)
    have HNo : Hid (¬ Q) := fun h => by have := (QI.out.1 h).n1; omega
    clear h1
    go_wp2_with fail
    go_ret
    exact Errs.no (by decide) HNo.out HB.out
  have t1 : decide ((r.ps.length : Int) < 1) = false := decide_eq_false (by omega)
  by_cases h2 : 10 < r.ps.length
  · have t2 : decide (10 < (r.ps.length : Int)) = true := decide_eq_true (by omega)
    have HNo : Hid (¬ Q) := fun h => by have := (QI.out.1 h).n2; omega
    clear h1 h2
    go_wp2_with fail
    go_ret
    exact Errs.no (by decide) HNo.out HB.out
  have t2 : decide (10 < (r.ps.length : Int)) = false := decide_eq_false (by omega)
  have hn1 : 1 ≤ r.ps.length := by omega
  have hn2 : r.ps.length ≤ 10 := by omega
  clear h1 h2
  obtain ⟨b, o, hA, hbl, hcs⟩ := Row.open_ HR.out (flat_ne ptF_len (by omega) r.ps (by omega))
  have HCS := Lib.hid hcs
  clear hcs
  have hc0 : W0.cell? ⟨b, o, none⟩ = some (.int .i64 (r.ps.getD 0 pt0).fr) := by
    have h := flat_cell ptF_len pt0 HCS.out 0 0 (by omega) (by omega) _ rfl
    simpa using h
  rw [hA] at x1
  have HA := Lib.hid hA
  clear hA
  by_cases h3 : (r.ps.getD 0 pt0).fr = -4000000
  case neg =>
    have t3 : ((r.ps.getD 0 pt0).fr != -4000000) = true := by rw [bne_iff_ne]; exact h3
    have HNo : Hid (¬ Q) := fun h => h3 (QI.out.1 h).z
    clear h3
    generalize (r.ps.getD 0 pt0).fr = f0 at *
    go_wp2_with fail
    go_ret
    exact Errs.no (by decide) HNo.out HB.out
  have HZ := Lib.hid h3
  rw [h3] at hc0
  clear h3
  have HNs := Lib.hid (names_any W0 HS.out)
  rw [names_strs] at HNs
  go_wp2_with fail
  refine HNs.out.mono ?_
  rintro e w3 ⟨v, rfl, hown, hb3⟩
  obtain ⟨gn, cap, rfl⟩ := ownsRow_succ (k := 39) hown
  have HRn := Lib.hid (row_own hown)
  have HB3 := Lib.hid (below_then HB.out hb3)
  have HX3 := Lib.hid (HX.out.below hb3)
  have HCS3 : Hid (∀ j v, (r.ps.flatMap ptF)[j]? = some v → w3.cell? ⟨b, o + j, none⟩ = some v) := fun j v hj => (hb3.cell (p := ⟨b, o + j, none⟩) hbl).trans (HCS.out j v hj)
  have hbl3 : b < w3.heap.size := Nat.lt_of_lt_of_le hbl hb3.size
  have hg3 : g < w3.heap.size := HX3.out.lt
  clear hown hb3 HNs x1 t1 t2 hc0 HX HB HR HS HCS hbl hgw
  have x1 : w3.cell? ⟨g, 1, none⟩ = some (.slice (some ⟨b, o, none⟩) r.ps.length r.c) := by rw [← HA.out]; exact HX3.out.cell 1
  go_wp2_with fail
  clear x1
  go_loopw [4, 5, 30, 35, 40, 55] (fun _ _ i _ _ _ wr => ∃ j : Nat, j ≤ r.ps.length ∧ i = .int .i64 (j : Int) ∧ Hid (∀ q, q < j → PtOk r.ps q) ∧ Hid (Below w3.heap.size w3 wr)) (fun _ _ i _ _ _ _ => r.ps.length - (intOf i).toNat)
  case atStart => exact ⟨0, by omega, rfl, fun q h => absurd h (Nat.not_lt_zero q), Below.refl _ _⟩
  case round =>
    obtain ⟨j, hj, rfl, hall, hbr⟩ := hrel
    by_cases hlt : j < r.ps.length
    case neg =>
      obtain rfl : j = r.ps.length := by omega
      have t1 : decide ((r.ps.length : Int) < (r.ps.length : Int)) = false := decide_eq_false (by omega)
      have HBf := Lib.hid (below_then HB3.out hbr.out)
      have HY : Hid Q := QI.out.2 ⟨HNm.out, hn1, hn2, HZ.out, hall.out⟩
      clear hlt
      go_wp2_with fail
      go_ret
      exact Errs.ok HY.out HBf.out
    have t1 : decide ((j : Int) < (r.ps.length : Int)) = true := decide_eq_true (by omega)
    have hcr : ∀ q v, (r.ps.flatMap ptF)[q]? = some v → wr.cell? ⟨b, o + q, none⟩ = some v := fun q v hq => (hbr.out.cell (p := ⟨b, o + q, none⟩) hbl3).trans (HCS3.out q v hq)
    have c0 := flat_cell ptF_len pt0 hcr j 0 hlt (by omega) _ rfl
    have c1 := flat_cell ptF_len pt0 hcr j 1 hlt (by omega) _ rfl
    rw [Nat.add_zero] at c0
    clear hcr
    obtain ⟨z, hz⟩ : ∃ z, z = r.ps.getD j pt0 := ⟨_, rfl⟩
    rw [← hz] at c0 c1
    have HZj := Lib.hid hz
    clear hz
    have HXr := Lib.hid (HX3.out.below hbr.out)
    have x1 : wr.cell? ⟨g, 1, none⟩ = some (.slice (some ⟨b, o, none⟩) r.ps.length r.c) := by rw [← HA.out]; exact HXr.out.cell 1
    have HWr : Hid (w3.heap.size ≤ wr.heap.size) := hbr.out.size
    have HRr := Lib.hid (HRn.out.next hbr.out)
    have HI := Lib.hid (fun W => isDay_any z.fr W)
    have HB4 := Lib.hid (below_then hbr.out (below_alloc1 wr (Obj.cells #[.int .i64 z.fr, .string z.cal] 70)))
    have HP4 := Lib.hid (Box.new wr 70 #[.int .i64 z.fr, .string z.cal])
    have HX4 := Lib.hid (HXr.out.alloc (Obj.cells #[.int .i64 z.fr, .string z.cal] 70))
    have HR4 := Lib.hid (HRr.out.next (below_alloc1 wr (Obj.cells #[.int .i64 z.fr, .string z.cal] 70)))
    go_upto_region 11 with fail
    clear c0 c1 x1 HRr HXr
    obtain ⟨w4, hw4⟩ : ∃ w4, w4 = wr.alloc (Obj.cells #[.int .i64 z.fr, .string z.cal] 70) := ⟨_, rfl⟩
    rw [← hw4] at HB4 HP4 HX4 HR4 ⊢
    have HW4 : Hid (w3.heap.size ≤ w4.heap.size) := HB4.out.size
    clear hw4 hbr
    generalize wr.heap.size = gp at *
    have p0 : w4.cell? ⟨gp, 0, none⟩ = some (.int .i64 z.fr) := HP4.out.cell 0
    have p1 : w4.cell? ⟨gp, 1, none⟩ = some (.string z.cal) := HP4.out.cell 1
    have HBF := Lib.hid (below_then HB3.out HB4.out)
    by_cases hday : -4000000 ≤ z.fr ∧ z.fr ≤ 4000000
    case neg =>
      rw [decide_eq_false hday] at HI
      have HNo : Hid (¬ Q) := fun h => hday (by rw [HZj.out]; exact ((QI.out.1 h).each j hlt).is)
      clear hday
      go_wp2_with (go_at_call 65; refine (HI.out _).mono ?_; rintro e w' ⟨rfl, rfl⟩)
      go_ret
      exact Errs.no (by decide) HNo.out HBF.out
    rw [decide_eq_true hday] at HI
    have HDay := Lib.hid hday
    clear hday
    have HC := Lib.hid (fun W (h : Row W W.heap.size (some ⟨gn, 0, none⟩) (strsV namesL)) => contains_strs (some ⟨gn, 0, none⟩) cap namesL z.cal W h (by rw [namesL_len]; unfold maxLen; omega))
    rw [namesL_len] at HC
    go_upto_region 13 with (go_at_call 65; refine (HI.out _).mono ?_; rintro e w' ⟨rfl, rfl⟩)
    clear p0 p1
    have p0 : ∀ W, Below w4.heap.size w4 W → W.cell? ⟨gp, 0, none⟩ = some (.int .i64 z.fr) := fun W hb => (HP4.out.below hb).cell 0
    have x1 : ∀ W, Below w4.heap.size w4 W → W.cell? ⟨g, 1, none⟩ = some (.slice (some ⟨b, o, none⟩) r.ps.length r.c) := fun W hb => by rw [← HA.out]; exact (HX4.out.below hb).cell 1
    refine with_lex (by kernel_rfl) fun HLX => ?_
    by_cases h0 : 0 < j
    · have t2 : decide ((0 : Int) < (j : Int)) = true := decide_eq_true (by omega)
      have t2' : decide (0 < j) = true := decide_eq_true h0
      obtain ⟨k, hk⟩ : ∃ k, k = j - 1 := ⟨_, rfl⟩
      have e1 : IntKind.i64.wrap ((j : Int) - 1) = (k : Int) := by rw [intFits _ (by omega) (by omega)]; omega
      have hk2 : (k : Int) < (r.ps.length : Int) := by omega
      have ck : ∀ W, Below w4.heap.size w4 W → W.cell? ⟨b, o + k * 2, none⟩ = some (.int .i64 (r.ps.getD k pt0).fr) := fun W hb => by
        have hcr : ∀ q v, (r.ps.flatMap ptF)[q]? = some v → W.cell? ⟨b, o + q, none⟩ = some v := fun q v hq => ((below_then HB4.out hb).cell (p := ⟨b, o + q, none⟩) hbl3).trans (HCS3.out q v hq)
        have h := flat_cell ptF_len pt0 hcr k 0 (by omega) (by omega) _ rfl
        rwa [Nat.add_zero] at h
      obtain ⟨fk, hfk⟩ : ∃ fk, fk = (r.ps.getD k pt0).fr := ⟨_, rfl⟩
      rw [← hfk] at ck
      have HFk : Hid (fk = (r.ps.getD (j - 1) pt0).fr) := by unfold Hid; rw [hfk, hk]
      clear hfk hk
      by_cases hle : z.fr ≤ fk
      · have t3 : decide (z.fr ≤ fk) = true := decide_eq_true hle
        have HNo : Hid (¬ Q) := fun h => by
          have := ((QI.out.1 h).each j hlt).up h0
          rw [← HFk.out, ← HZj.out] at this
          omega
        clear hle
        refine flow_begin (tellOf []) (by kernel_rfl) HLX.out ?_
        repeat (first | (refine flow_val (v := ?_) (by rfl) (by rfl) (fun w hb => ?_) ?_; rotate_left; (· ((go_simp) <;> ((repeat' apply And.intro) <;> with_reducible rfl))); try simp only [Act.put, List.setIfInBounds_toArray, List.set_cons_zero, List.set_cons_succ, Nat.reduceAdd]) | (refine flow_skip (by rfl) (by rfl) ?_; try simp only [Act.put, List.setIfInBounds_toArray, List.set_cons_zero, List.set_cons_succ, Nat.reduceAdd]))
        refine flow_nil fun w5 hb5 _ => ?_
        have HB5 := Lib.hid (below_then HBF.out hb5)
        clear hb5 p0 x1 ck e1
        go_wp2_with fail
        go_ret
        exact Errs.no (by decide) HNo.out HB5.out
      · have t3 : decide (z.fr ≤ fk) = false := decide_eq_false hle
        have HUp : Hid (0 < j → (r.ps.getD (j - 1) pt0).fr < (r.ps.getD j pt0).fr) := fun _ => by rw [← HFk.out, ← HZj.out]; omega
        clear hle
        refine flow_begin (tellOf []) (by kernel_rfl) HLX.out ?_
        repeat (first | (refine flow_val (v := ?_) (by rfl) (by rfl) (fun w hb => ?_) ?_; rotate_left; (· ((go_simp) <;> ((repeat' apply And.intro) <;> with_reducible rfl))); try simp only [Act.put, List.setIfInBounds_toArray, List.set_cons_zero, List.set_cons_succ, Nat.reduceAdd]) | (refine flow_skip (by rfl) (by rfl) ?_; try simp only [Act.put, List.setIfInBounds_toArray, List.set_cons_zero, List.set_cons_succ, Nat.reduceAdd]))
        refine flow_nil fun w5 hb5 _ => ?_
        clear p0 x1 ck e1
        have HBz := Lib.hid (below_then HB4.out hb5)
        have HB5 := Lib.hid (below_then HBF.out hb5)
        have HP5 := Lib.hid (HP4.out.below hb5)
        have HR5 := Lib.hid (HR4.out.next hb5)
        clear hb5
        have p1 : w5.cell? ⟨gp, 1, none⟩ = some (.string z.cal) := HP5.out.cell 1
        go_wp2_with fail
        refine (HC.out _ HR5.out).mono ?_
        rintro e w' ⟨bb, rfl, hbb, rfl⟩
        cases bb
        · have HNo : Hid (¬ Q) := fun h => by have := hbb.2 (by rw [HZj.out]; exact ((QI.out.1 h).each j hlt).nm); cases this
          clear hbb
          go_wp2_with fail
          go_ret
          exact Errs.no (by decide) HNo.out HB5.out
        · have HOn : Hid (PtOk r.ps j) := ⟨by rw [← HZj.out]; exact HDay.out, HUp.out, by rw [← HZj.out]; exact hbb.1 rfl⟩
          have HAl : Hid (∀ q, q < j + 1 → PtOk r.ps q) := fun q hq => by
            by_cases h : q < j
            · exact hall.out q h
            · obtain rfl : q = j := by omega
              exact HOn.out
          clear hbb p1
          go_wp2_with fail
          go_roundw
          case rel => exact ⟨j + 1, by omega, by go_num, HAl, HBz⟩
          case measure => simp [intOf]; omega
    · have t2 : decide ((0 : Int) < (j : Int)) = false := decide_eq_false (by omega)
      have t2' : decide (0 < j) = false := decide_eq_false h0
      have HUp : Hid (0 < j → (r.ps.getD (j - 1) pt0).fr < (r.ps.getD j pt0).fr) := fun h => absurd h h0
      refine flow_begin (tellOf []) (by kernel_rfl) HLX.out ?_
      repeat (first | (refine flow_val (v := ?_) (by rfl) (by rfl) (fun w hb => ?_) ?_; rotate_left; (· ((go_simp) <;> ((repeat' apply And.intro) <;> with_reducible rfl))); try simp only [Act.put, List.setIfInBounds_toArray, List.set_cons_zero, List.set_cons_succ, Nat.reduceAdd]) | (refine flow_skip (by rfl) (by rfl) ?_; try simp only [Act.put, List.setIfInBounds_toArray, List.set_cons_zero, List.set_cons_succ, Nat.reduceAdd]))
      refine flow_nil fun w5 hb5 _ => ?_
      clear p0 x1
      have HBz := Lib.hid (below_then HB4.out hb5)
      have HB5 := Lib.hid (below_then HBF.out hb5)
      have HP5 := Lib.hid (HP4.out.below hb5)
      have HR5 := Lib.hid (HR4.out.next hb5)
      clear hb5
      have p1 : w5.cell? ⟨gp, 1, none⟩ = some (.string z.cal) := HP5.out.cell 1
      go_wp2_with fail
      refine (HC.out _ HR5.out).mono ?_
      rintro e w' ⟨bb, rfl, hbb, rfl⟩
      cases bb
      · have HNo : Hid (¬ Q) := fun h => by have := hbb.2 (by rw [HZj.out]; exact ((QI.out.1 h).each j hlt).nm); cases this
        clear hbb
        go_wp2_with fail
        go_ret
        exact Errs.no (by decide) HNo.out HB5.out
      · have HOn : Hid (PtOk r.ps j) := ⟨by rw [← HZj.out]; exact HDay.out, HUp.out, by rw [← HZj.out]; exact hbb.1 rfl⟩
        have HAl : Hid (∀ q, q < j + 1 → PtOk r.ps q) := fun q hq => by
          by_cases h : q < j
          · exact hall.out q h
          · obtain rfl : q = j := by omega
            exact HOn.out
        clear hbb p1
        go_wp2_with fail
        go_roundw
        case rel => exact ⟨j + 1, by omega, by go_num, HAl, HBz⟩
        case measure => simp [intOf]; omega
end Go.Proofs.YtbmbphikjainiaaGreatDoor

/- Contract of reform.FromDay. -/
namespace Go.Proofs.YtbmbphikjainiaaGreatDoor
open Go Go.RowKit
set_option linter.unusedVariables false

/-- the calendar of a row, as such -/
def calR (r : CatRow) : Cal := ⟨str r.nm, r.t.ep, r.t.cy, r.t.mo, r.t.leaps r.t.cy.toNat, none, 0, none, 0⟩
theorem calR_of (r : CatRow) : CalOf r (calR r) := ⟨rfl, rfl, rfl, rfl, rfl⟩
theorem calR_ok {r : CatRow} {c : Cal} (h : CalOf r c) (ok : CalOk c) : CalOk (calR r) := by
  refine ⟨?_, ?_, ?_⟩
  · have := ok.hd; rw [h.nm, h.ep, h.cy] at this; exact this
  · have := ok.mo; rw [h.mo] at this; exact this
  · have := ok.lp; rw [h.lp, h.cy] at this; exact this
theorem str_inj {a b : List UInt8} (h : str a = str b) : a = b := by rw [← str_data a, ← str_data b, h]
theorem name_row {s : ByteArray} (h : s ∈ namesL) : ∃ r, r ∈ catR ∧ s = str r.nm := by
  obtain ⟨r, hr, e⟩ := List.mem_map.1 h
  exact ⟨r, hr, e.symm⟩
/-- the part of a day -/
structure PartAt (ps : List Pt) (k : Nat) (day : Int) : Prop where
  lt : k < ps.length
  lo : (ps.getD k pt0).fr ≤ day
  hi : ∀ q, k < q → q < ps.length → day < (ps.getD q pt0).fr
theorem PartAt.unique {ps : List Pt} {k k' : Nat} {day : Int} (h : PartAt ps k day) (h' : PartAt ps k' day) : k = k' := by
  by_cases h1 : k < k'
  · have := h.hi k' h1 h'.lt; have := h'.lo; omega
  · by_cases h2 : k' < k
    · have := h'.hi k h2 h.lt; have := h.lo; omega
    · omega
/-- a day has this date in the calendar of a part -/
def OnPart (ps : List Pt) (k : Nat) (y : Int) (m : Nat) (d n : Int) : Prop := ∃ r, r ∈ catR ∧ (ps.getD k pt0).cal = str r.nm ∧ CalOk (calR r) ∧ IsOn (calR r) y m d n
theorem OnPart.unique {ps : List Pt} {k : Nat} {y y' : Int} {m m' : Nat} {d d' n : Int} (h : OnPart ps k y m d n) (h' : OnPart ps k y' m' d' n) : y = y' ∧ m = m' ∧ d = d' := by
  obtain ⟨r, hr, e, ok, ho⟩ := h
  obtain ⟨r', hr', e', _, ho'⟩ := h'
  obtain rfl := row_one r r' hr hr' (str_inj (e.symm.trans e'))
  exact ho.unique ok ho'
theorem OnPart.day {ps : List Pt} {k : Nat} {y : Int} {m : Nat} {d n n' : Int} (h : OnPart ps k y m d n) (h' : OnPart ps k y m d n') : n = n' := by
  obtain ⟨r, hr, e, ok, ho⟩ := h
  obtain ⟨r', hr', e', _, ho'⟩ := h'
  obtain rfl := row_one r r' hr hr' (str_inj (e.symm.trans e'))
  rw [ho.on, ho'.on]
/-- what FromDay says -/
def RFD (r : Rf) (day : Int) (e : Ending) : Prop := ∃ a1 a2 a3 E : Int, e = .returned (.tuple #[.agg (dateC a1 a2 a3), .int .i64 E]) ∧
  (E = 0 → RfOk r ∧ (-4000000 ≤ day ∧ day ≤ 4000000) ∧ ∃ (k : Nat) (y : Int) (m : Nat) (d : Int), PartAt r.ps k day ∧ OnPart r.ps k y m d day ∧ -10000 ≤ y ∧ y ≤ 10000 ∧ a1 = y ∧ a2 = (m : Int) + 1 ∧ a3 = d + 1) ∧
  (RfOk r → -4000000 ≤ day → day ≤ 4000000 → ∀ (k : Nat) (y : Int) (m : Nat) (d : Int), PartAt r.ps k day → OnPart r.ps k y m d day → -10000 ≤ y → y ≤ 10000 → E = 0 ∧ a1 = y ∧ a2 = (m : Int) + 1 ∧ a3 = d + 1)
def RFDQ (r : Rf) (day : Int) (w : World) (e : Ending) (w' : World) : Prop := Below w.heap.size w w' ∧ RFD r day e
theorem RFD.no {r : Rf} {day E : Int} (hE : E ≠ 0) (h : ¬ (RfOk r ∧ -4000000 ≤ day ∧ day ≤ 4000000)) : RFD r day (.returned (.tuple #[.agg (dateC 0 0 0), .int .i64 E])) :=
  ⟨0, 0, 0, E, rfl, fun e => absurd e hE, fun a b c => absurd ⟨a, b, c⟩ h⟩

set_option maxHeartbeats 4000000 in
set_option maxRecDepth 100000 in
theorem rfromDay_any (r : Rf) (day : Int) (w : World) (hr : RfIn w r) (hf : RfFit r) (hv : Env w) : Calls Tryz.prog 35 #[r.val, .int .i64 day] w (RFDQ r day w) := by
  have HX := Lib.hid ((Box.new w 68 r.cells).alloc (Obj.cells (dateC 0 0 0) 41))
  have HD := Lib.hid (Box.new (w.alloc (Obj.cells r.cells 68)) 41 (dateC 0 0 0))
  have HB := Lib.hid (below_alloc2 w (Obj.cells r.cells 68) (Obj.cells (dateC 0 0 0) 41))
  have HR := Lib.hid (hr.next HB.out)
  have HE := Lib.hid (hv.next HB.out)
  simp only [World.size_alloc] at HD
  have HC := Lib.hid (fun W (h : RfIn W r) (hE : Env W) => rcheck_any r W h hf hE.h)
  have HI := Lib.hid (fun W => isDay_any day W)
  clear hr hf hv
  unfold RFDQ
  go_enter Tryz.func35, Tryz.ntmps35
  go_wp2_with fail
  generalize (w.alloc (Obj.cells r.cells 68)).alloc (Obj.cells (dateC 0 0 0) 41) = W0 at *
  generalize hg : w.heap.size = g at *
  have HG := Lib.hid hg
  clear hg
  refine (HC.out W0 HR.out HE.out).mono ?_
  rintro e w1 ⟨E, rfl, hE, hb1⟩
  have HB1 := Lib.hid (show Below g w w1 from HB.out.trans (hb1.mono (by have := HX.out.lt; omega)))
  have HX1 := Lib.hid (HX.out.below hb1)
  have HD1 := Lib.hid (HD.out.below hb1)
  have HR1 := Lib.hid (HR.out.next hb1)
  have HE1 := Lib.hid (HE.out.next hb1)
  clear hb1 HX HD HB HR HE HC
  have r0 : w1.cell? ⟨g + 1, 0, none⟩ = some (.int .i64 0) := HD1.out.cell 0
  have r1 : w1.cell? ⟨g + 1, 1, none⟩ = some (.int .i64 0) := HD1.out.cell 1
  have r2 : w1.cell? ⟨g + 1, 2, none⟩ = some (.int .i64 0) := HD1.out.cell 2
  have rf : ∀ i, w1.frozen? ⟨g + 1, i, none⟩ = false := fun i => HD1.out.free i
  have hgl := HD1.out.lt
  have HSt : Hid (Below g w (((w1.setCell ⟨g + 1, 0, none⟩ (.int .i64 0)).setCell ⟨g + 1, 1, none⟩ (.int .i64 0)).setCell ⟨g + 1, 2, none⟩ (.int .i64 0))) := ((HB1.out.setCell (p := ⟨g + 1, 0, none⟩) (show g ≤ g + 1 by omega) _).setCell (p := ⟨g + 1, 1, none⟩) (show g ≤ g + 1 by omega) _).setCell (p := ⟨g + 1, 2, none⟩) (show g ≤ g + 1 by omega) _
  by_cases hE0 : E = 0
  case neg =>
    have t1 : (E != 0) = true := by rw [bne_iff_ne]; exact hE0
    have HNo : Hid (¬ (RfOk r ∧ -4000000 ≤ day ∧ day ≤ 4000000)) := fun h => hE0 (hE.2 h.1)
    have HE0 : Hid (E ≠ 0) := hE0
    clear hE hE0
    go_wp2_with fail
    refine bodyPost_ret (v := .tuple #[.agg (dateC 0 0 0), .int .i64 E]) (by simp [results, Tryz.results35, go_sem, r0, r1, r2]) rfl ?_
    exact ⟨by rw [HG.out]; exact HSt.out, RFD.no HE0.out HNo.out⟩
  subst hE0
  have HOk := Lib.hid (hE.1 rfl)
  clear hE
  by_cases hday : -4000000 ≤ day ∧ day ≤ 4000000
  case neg =>
    rw [decide_eq_false hday] at HI
    have HNo : Hid (¬ (RfOk r ∧ -4000000 ≤ day ∧ day ≤ 4000000)) := fun h => hday h.2
    clear hday
    go_wp2_with (go_at_call 65; refine (HI.out _).mono ?_; rintro e w' ⟨rfl, rfl⟩)
    refine bodyPost_ret (v := .tuple #[.agg (dateC 0 0 0), .int .i64 3]) (by simp [results, Tryz.results35, go_sem, r0, r1, r2]) rfl ?_
    exact ⟨by rw [HG.out]; exact HSt.out, RFD.no (by decide) HNo.out⟩
  rw [decide_eq_true hday] at HI
  obtain ⟨hd1, hd2⟩ := hday
  clear r0 r1 r2 rf HSt
  have hn1 := HOk.out.n1
  have hn2 := HOk.out.n2
  obtain ⟨b, o, hA, hbl, hcs⟩ := Row.open_ HR1.out (flat_ne ptF_len (by omega) r.ps (by omega))
  have HCS := Lib.hid hcs
  have HA := Lib.hid hA
  clear hcs hA
  have x1 : w1.cell? ⟨g, 1, none⟩ = some (.slice (some ⟨b, o, none⟩) r.ps.length r.c) := by rw [← HA.out]; exact HX1.out.cell 1
  have hgg : g < w1.heap.size := HX1.out.lt
  go_wp2_with (go_at_call 65; refine (HI.out _).mono ?_; rintro e w' ⟨rfl, rfl⟩)
  clear x1 HI
  go_loopw [7, 8, 9, 23] (fun kv _ _ i wr => ∃ j kk : Nat, j ≤ r.ps.length ∧ i = .int .i64 (j : Int) ∧ kv = .int .i64 (kk : Int) ∧ kk < r.ps.length ∧ Hid ((r.ps.getD kk pt0).fr ≤ day ∧ ∀ q, kk < q → q < j → day < (r.ps.getD q pt0).fr) ∧ kk ≤ j ∧ Hid (Below w1.heap.size w1 wr)) (fun _ _ _ i _ => r.ps.length - (intOf i).toNat)
  case atStart => exact ⟨0, 0, by omega, rfl, rfl, by omega, ⟨by rw [HOk.out.z]; exact hd1, fun q a b => by omega⟩, by omega, Below.refl _ _⟩
  case round =>
    obtain ⟨j, kk, hj, rfl, rfl, hkk, hin, hkj, hbr⟩ := hrel
    have HXr := Lib.hid (HX1.out.below hbr.out)
    have HDr := Lib.hid (HD1.out.below hbr.out)
    have hglr := HDr.out.lt
    have hcr : Hid (∀ q v, (r.ps.flatMap ptF)[q]? = some v → wr.cell? ⟨b, o + q, none⟩ = some v) := fun q v hq => (hbr.out.cell (p := ⟨b, o + q, none⟩) hbl).trans (HCS.out q v hq)
    by_cases hlt : j < r.ps.length
    · have t1 : decide ((j : Int) < (r.ps.length : Int)) = true := decide_eq_true (by omega)
      have c0 := flat_cell ptF_len pt0 hcr.out j 0 hlt (by omega) _ rfl
      have c1 := flat_cell ptF_len pt0 hcr.out j 1 hlt (by omega) _ rfl
      rw [Nat.add_zero] at c0
      obtain ⟨z, hz⟩ : ∃ z, z = r.ps.getD j pt0 := ⟨_, rfl⟩
      rw [← hz] at c0 c1
      have HZj := Lib.hid hz
      clear hz
      have HBz := Lib.hid (below_then hbr.out (below_alloc1 wr (Obj.cells #[.int .i64 z.fr, .string z.cal] 70)))
      by_cases hle : z.fr ≤ day
      · have t2 : decide (z.fr ≤ day) = true := decide_eq_true hle
        have HI2 : Hid ((r.ps.getD j pt0).fr ≤ day ∧ ∀ q, j < q → q < j + 1 → day < (r.ps.getD q pt0).fr) := ⟨by rw [← HZj.out]; exact hle, fun q a b => by omega⟩
        clear hle
        go_wp2_with fail
        go_roundw
        case rel => exact ⟨j + 1, j, by omega, by go_num, rfl, hlt, HI2, by omega, HBz⟩
        case measure => simp [intOf]; omega
      · have t2 : decide (z.fr ≤ day) = false := decide_eq_false hle
        have HI2 : Hid ((r.ps.getD kk pt0).fr ≤ day ∧ ∀ q, kk < q → q < j + 1 → day < (r.ps.getD q pt0).fr) := ⟨hin.out.1, fun q a b => by
          by_cases h : q < j
          · exact hin.out.2 q a h
          · obtain rfl : q = j := by omega
            rw [← HZj.out]; omega⟩
        clear hle
        go_wp2_with fail
        go_roundw
        case rel => exact ⟨j + 1, kk, by omega, by go_num, rfl, hkk, HI2, by omega, HBz⟩
        case measure => simp [intOf]; omega
    · obtain rfl : j = r.ps.length := by omega
      have t1 : decide ((r.ps.length : Int) < (r.ps.length : Int)) = false := decide_eq_false (by omega)
      have HPA : Hid (PartAt r.ps kk day) := ⟨hkk, hin.out.1, hin.out.2⟩
      have c1 := flat_cell ptF_len pt0 hcr.out kk 1 hkk (by omega) _ rfl
      have hnm := (HOk.out.each kk hkk).nm
      obtain ⟨row, hrow, hce⟩ := name_row hnm
      rw [hce] at c1
      have HCE := Lib.hid (show row ∈ catR ∧ (r.ps.getD kk pt0).cal = str row.nm from ⟨hrow, hce⟩)
      have HDt := Lib.hid (Date_any row hrow day wr (HE1.out.next hbr.out))
      unfold DateQ at HDt
      have x1 : wr.cell? ⟨g, 1, none⟩ = some (.slice (some ⟨b, o, none⟩) r.ps.length r.c) := by rw [← HA.out]; exact HXr.out.cell 1
      have hgr : g < wr.heap.size := HXr.out.lt
      have hkk' : (kk : Int) < (r.ps.length : Int) := by omega
      clear hnm hrow hce hin hlt
      obtain ⟨cn, hcn⟩ : ∃ cn, cn = str row.nm := ⟨_, rfl⟩
      rw [← hcn] at c1 HDt
      clear hcn
      go_wp2_with fail
      refine HDt.out.mono ?_
      rintro e w2 ⟨c, hof, ok, hb2, hc⟩
      have HOf := Lib.hid hof
      have HOkc := Lib.hid ok
      have HB2 := Lib.hid (show Below g w w2 from HB1.out.trans ((below_then hbr.out hb2).mono (by omega)))
      have HD2 := Lib.hid (HDr.out.below hb2)
      clear hof ok hb2 HDt c1 x1 hbr HXr HDr hcr hglr
      have rf : ∀ i, w2.frozen? ⟨g + 1, i, none⟩ = false := fun i => HD2.out.free i
      have r0 : w2.cell? ⟨g + 1, 0, none⟩ = some (.int .i64 0) := HD2.out.cell 0
      have r1 : w2.cell? ⟨g + 1, 1, none⟩ = some (.int .i64 0) := HD2.out.cell 1
      have r2 : w2.cell? ⟨g + 1, 2, none⟩ = some (.int .i64 0) := HD2.out.cell 2
      have hl2 := HD2.out.lt
      rcases hc with ⟨y, m, d, g1, g2, g3, rfl⟩ | ⟨g1, rfl⟩
      · have HFin : Hid (RFD r day (.returned (.tuple #[.agg (dateC y ((m : Int) + 1) (d + 1)), .int .i64 0]))) := by
          have hop : OnPart r.ps kk y m d day := ⟨row, HCE.out.1, by rw [HCE.out.2], calR_ok HOf.out HOkc.out, (HOf.out.on (calR_of row) y m d day).1 g3⟩
          refine ⟨_, _, _, 0, rfl, fun _ => ⟨HOk.out, ⟨hd1, hd2⟩, kk, y, m, d, HPA.out, hop, g1, g2, rfl, rfl, rfl⟩, fun _ _ _ k' y' m' d' hp ho _ _ => ?_⟩
          obtain rfl := hp.unique HPA.out
          obtain ⟨rfl, rfl, rfl⟩ := ho.unique hop
          exact ⟨rfl, rfl, rfl, rfl⟩
        clear g1 g2 g3
        go_wp2_with fail
        refine bodyPost_ret (v := .tuple #[.agg (dateC y ((m : Int) + 1) (d + 1)), .int .i64 0]) (by simp [results, Tryz.results35, go_sem, r0, r1, r2]) rfl ?_
        exact ⟨by rw [HG.out]; exact ((HB2.out.setCell (p := ⟨g + 1, 0, none⟩) (show g ≤ g + 1 by omega) _).setCell (p := ⟨g + 1, 1, none⟩) (show g ≤ g + 1 by omega) _).setCell (p := ⟨g + 1, 2, none⟩) (show g ≤ g + 1 by omega) _, HFin.out⟩
      · have HFin : Hid (RFD r day (.returned (.tuple #[.agg (dateC 0 0 0), .int .i64 3]))) := by
          refine ⟨_, _, _, 3, rfl, fun h => absurd h (by decide), fun _ _ _ k' y' m' d' hp ho q1 q2 => ?_⟩
          obtain rfl := hp.unique HPA.out
          obtain ⟨row', hr', e', ok', ho'⟩ := ho
          obtain rfl := row_one row row' HCE.out.1 hr' (str_inj (by rw [← HCE.out.2, e']))
          have hoc := (HOf.out.on (calR_of row) y' m' d' day).2 ho'
          have q := hoc.year HOkc.out
          have s1 := Cal.ny_le HOkc.out q1
          have s2 := Cal.ny_le HOkc.out (show y' + 1 ≤ (10001 : Int) by omega)
          exact absurd ⟨hd1, hd2, by omega, by omega⟩ g1
        clear g1
        go_wp2_with fail
        refine bodyPost_ret (v := .tuple #[.agg (dateC 0 0 0), .int .i64 3]) (by simp [results, Tryz.results35, go_sem, r0, r1, r2]) rfl ?_
        exact ⟨by rw [HG.out]; exact ((HB2.out.setCell (p := ⟨g + 1, 0, none⟩) (show g ≤ g + 1 by omega) _).setCell (p := ⟨g + 1, 1, none⟩) (show g ≤ g + 1 by omega) _).setCell (p := ⟨g + 1, 2, none⟩) (show g ≤ g + 1 by omega) _, HFin.out⟩
end Go.Proofs.YtbmbphikjainiaaGreatDoor

/- Contract of reform.Days. -/
namespace Go.Proofs.YtbmbphikjainiaaGreatDoor
open Go Go.RowKit
set_option linter.unusedVariables false

/-- a day of a part with this date -/
def Gd (ps : List Pt) (a1 a2 a3 : Int) (k : Nat) (n : Int) : Prop := PartAt ps k n ∧ (-4000000 ≤ n ∧ n ≤ 4000000) ∧ ∃ m : Nat, a2 = (m : Int) + 1 ∧ -10000 ≤ a1 ∧ a1 ≤ 10000 ∧ OnPart ps k a1 m (a3 - 1) n
theorem Gd.unique {ps : List Pt} {a1 a2 a3 : Int} {k : Nat} {n n' : Int} (h : Gd ps a1 a2 a3 k n) (h' : Gd ps a1 a2 a3 k n') : n = n' := by
  obtain ⟨_, _, m, e, _, _, ho⟩ := h
  obtain ⟨_, _, m', e', _, _, ho'⟩ := h'
  obtain rfl : m = m' := by omega
  exact ho.day ho'
/-- the days of the first j parts with a date -/
structure DL (ps : List Pt) (a1 a2 a3 : Int) (j : Nat) (xs : List Int) : Prop where
  all : ∀ x ∈ xs, ∃ k, k < j ∧ Gd ps a1 a2 a3 k x
  has : ∀ k n, k < j → Gd ps a1 a2 a3 k n → n ∈ xs
  inc : xs.Pairwise (· < ·)
theorem DL.nil (ps : List Pt) (a1 a2 a3 : Int) : DL ps a1 a2 a3 0 [] := ⟨fun x h => (by cases h), fun k n h => absurd h (Nat.not_lt_zero k), List.Pairwise.nil⟩
theorem DL.skip {ps : List Pt} {a1 a2 a3 : Int} {j : Nat} {xs : List Int} (h : DL ps a1 a2 a3 j xs) (hn : ∀ n, ¬ Gd ps a1 a2 a3 j n) : DL ps a1 a2 a3 (j + 1) xs :=
  ⟨fun x hx => by obtain ⟨k, hk, g⟩ := h.all x hx; exact ⟨k, by omega, g⟩, fun k n hk g => by
    by_cases e : k = j
    · subst e; exact absurd g (hn n)
    · exact h.has k n (by omega) g, h.inc⟩
theorem DL.put {ps : List Pt} {a1 a2 a3 : Int} {j : Nat} {xs : List Int} {n : Int} (h : DL ps a1 a2 a3 j xs) (hj : j < ps.length) (hn : Gd ps a1 a2 a3 j n) : DL ps a1 a2 a3 (j + 1) (xs ++ [n]) :=
  ⟨fun x hx => by
    rcases List.mem_append.1 hx with hx | hx
    · obtain ⟨k, hk, g⟩ := h.all x hx; exact ⟨k, by omega, g⟩
    · rw [List.mem_singleton.1 hx]; exact ⟨j, by omega, hn⟩, fun k m hk g => by
    by_cases e : k = j
    · subst e; rw [g.unique hn]; simp
    · exact List.mem_append_left _ (h.has k m (by omega) g), by
    rw [List.pairwise_append]
    refine ⟨h.inc, by simp, fun x hx y hy => ?_⟩
    rw [List.mem_singleton.1 hy]
    obtain ⟨k, hk, g⟩ := h.all x hx
    have a := g.1.hi j hk hj
    have b := hn.1.lo
    omega⟩
theorem RfOk.mono {r : Rf} (h : RfOk r) (i : Nat) : ∀ t, i + t < r.ps.length → (r.ps.getD i pt0).fr + (t : Int) ≤ (r.ps.getD (i + t) pt0).fr := by
  intro t
  induction t with
  | zero => intro _; simp
  | succ t ih =>
    intro ht
    have h1 := ih (by omega)
    have h2 := (h.each (i + (t + 1)) ht).up (by omega)
    rw [show i + (t + 1) - 1 = i + t from by omega] at h2
    omega
theorem RfOk.part {r : Rf} (h : RfOk r) {k : Nat} {n : Int} (hk : k < r.ps.length) (h1 : (r.ps.getD k pt0).fr ≤ n) (h2 : k + 1 = r.ps.length ∨ n < (r.ps.getD (k + 1) pt0).fr) : PartAt r.ps k n :=
  ⟨hk, h1, fun q hq hql => by
    rcases h2 with h2 | h2
    · omega
    · have := h.mono (k + 1) (q - (k + 1)) (by omega)
      rw [show k + 1 + (q - (k + 1)) = q from by omega] at this
      omega⟩
/-- what Days says -/
def RDays (r : Rf) (a1 a2 a3 : Int) (B : Nat) (w' : World) (e : Ending) : Prop := (¬ RfOk r ∧ ∃ E : Int, E ≠ 0 ∧ e = .returned (.tuple #[.slice none 0 0, .int .i64 E])) ∨
  (RfOk r ∧ ∃ (A : Option Addr) (c : Nat) (xs : List Int), xs.length ≤ 10 ∧ DL r.ps a1 a2 a3 r.ps.length xs ∧ w'.ownsRow B 3 1 (.slice A xs.length c) xs.length (ints xs) ∧ e = .returned (.tuple #[.slice A xs.length c, .int .i64 0]))
def RDaysQ (r : Rf) (a1 a2 a3 : Int) (w : World) (e : Ending) (w' : World) : Prop := Below w.heap.size w w' ∧ RDays r a1 a2 a3 w.heap.size w' e

set_option maxHeartbeats 4000000 in
set_option maxRecDepth 100000 in
theorem rdays_any (r : Rf) (a1 a2 a3 : Int) (w : World) (hr : RfIn w r) (hf : RfFit r) (hv : Env w) : Calls Tryz.prog 34 #[r.val, .agg (dateC a1 a2 a3)] w (RDaysQ r a1 a2 a3 w) := by
  have HX := Lib.hid ((Box.new w 68 r.cells).alloc (Obj.cells (dateC a1 a2 a3) 41))
  have HD := Lib.hid (Box.new (w.alloc (Obj.cells r.cells 68)) 41 (dateC a1 a2 a3))
  have HB := Lib.hid (below_alloc2 w (Obj.cells r.cells 68) (Obj.cells (dateC a1 a2 a3) 41))
  have HR := Lib.hid (hr.next HB.out)
  have HE := Lib.hid (hv.next HB.out)
  simp only [World.size_alloc] at HD
  have HC := Lib.hid (fun W (h : RfIn W r) (hE : Env W) => rcheck_any r W h hf hE.h)
  clear hr hf hv
  unfold RDaysQ
  go_enter Tryz.func34, Tryz.ntmps34
  go_wp2_with fail
  generalize (w.alloc (Obj.cells r.cells 68)).alloc (Obj.cells (dateC a1 a2 a3) 41) = W0 at *
  generalize hg : w.heap.size = g at *
  have HG := Lib.hid hg
  clear hg
  refine (HC.out W0 HR.out HE.out).mono ?_
  rintro e w1 ⟨E, rfl, hE, hb1⟩
  have HB1 := Lib.hid (show Below g w w1 from HB.out.trans (hb1.mono (by have := HX.out.lt; omega)))
  have HX1 := Lib.hid (HX.out.below hb1)
  have HD1 := Lib.hid (HD.out.below hb1)
  have HR1 := Lib.hid (HR.out.next hb1)
  have HE1 := Lib.hid (HE.out.next hb1)
  clear hb1 HX HD HB HR HE HC
  have hgl := HD1.out.lt
  by_cases hE0 : E = 0
  case neg =>
    have t1 : (E != 0) = true := by rw [bne_iff_ne]; exact hE0
    have HNo : Hid (RDays r a1 a2 a3 w.heap.size w1 (.returned (.tuple #[.slice none 0 0, .int .i64 E]))) := .inl ⟨fun h => hE0 (hE.2 h), E, hE0, rfl⟩
    clear hE hE0
    go_wp2_with fail
    go_ret2
    exact ⟨by rw [HG.out]; exact HB1.out, HNo.out⟩
  subst hE0
  have HOk := Lib.hid (hE.1 rfl)
  clear hE
  have hn1 := HOk.out.n1
  have hn2 := HOk.out.n2
  obtain ⟨b, o, hA, hbl, hcs⟩ := Row.open_ HR1.out (flat_ne ptF_len (by omega) r.ps (by omega))
  have HCS := Lib.hid hcs
  have HA := Lib.hid hA
  clear hcs hA
  have x1 : w1.cell? ⟨g, 1, none⟩ = some (.slice (some ⟨b, o, none⟩) r.ps.length r.c) := by rw [← HA.out]; exact HX1.out.cell 1
  go_wp2_with fail
  clear x1
  obtain ⟨LB, hLB⟩ : ∃ LB, LB = w1.heap.size := ⟨_, rfl⟩
  have HLB := Lib.hid hLB
  have hgLB : g + 1 < LB := by omega
  have hbLB : b < LB := by omega
  clear hLB
  obtain ⟨i0, hi0, hz0, hz1, hz2⟩ := info_parts infoInt2
  go_loopw [7, 8, 9, 10, 11, 20] (fun lv _ _ _ _ i wr => ∃ (j : Nat) (xs : List Int), j ≤ r.ps.length ∧ i = .int .i64 (j : Int) ∧ xs.length ≤ j ∧ Hid (DL r.ps a1 a2 a3 j xs) ∧ Hid (wr.ownsRow LB 3 1 lv xs.length (ints xs)) ∧ Hid (Below LB w1 wr)) (fun _ _ _ _ _ i _ => r.ps.length - (intOf i).toNat)
  case atStart => exact ⟨0, [], by omega, rfl, Nat.le_refl _, DL.nil _ _ _ _, World.ownsRow_nil _ _ _ _, Below.refl _ _⟩
  case round =>
    obtain ⟨j, xs, hj, rfl, hxl, hdl, hlv, hbr⟩ := hrel
    have HBw : Hid (Below w1.heap.size w1 wr) := by have := hbr.out; rw [HLB.out] at this; exact this
    have HXr := Lib.hid (HX1.out.below HBw.out)
    have HDr := Lib.hid (HD1.out.below HBw.out)
    have HBgr : Hid (Below g w wr) := HB1.out.trans (HBw.out.mono (by have := HX1.out.lt; omega))
    have hglr := HDr.out.lt
    have hLr : LB ≤ wr.heap.size := by have := HBw.out.size; have := HLB.out; omega
    by_cases hlt : j < r.ps.length
    case neg =>
      obtain rfl : j = r.ps.length := by omega
      have t1 : decide ((r.ps.length : Int) < (r.ps.length : Int)) = false := decide_eq_false (by omega)
      obtain ⟨A, c, rfl, _, _⟩ := own_form hlv.out
      have HFin : Hid (RDays r a1 a2 a3 w.heap.size wr (.returned (.tuple #[.slice A xs.length c, .int .i64 0]))) := .inr ⟨HOk.out, A, c, xs, by omega, hdl.out, by rw [HG.out]; exact own_lower hlv.out (by omega), rfl⟩
      clear hlt
      go_wp2_with fail
      go_ret2
      exact ⟨by rw [HG.out]; exact HBgr.out, HFin.out⟩
    have t1 : decide ((j : Int) < (r.ps.length : Int)) = true := decide_eq_true (by omega)
    have hcr : Hid (∀ W, Below wr.heap.size wr W → ∀ q v, (r.ps.flatMap ptF)[q]? = some v → W.cell? ⟨b, o + q, none⟩ = some v) := fun W hW q v hq => ((below_then HBw.out hW).cell (p := ⟨b, o + q, none⟩) hbl).trans (HCS.out q v hq)
    have c0 := flat_cell ptF_len pt0 (hcr.out wr (Below.refl _ _)) j 0 hlt (by omega) _ rfl
    have c1 := flat_cell ptF_len pt0 (hcr.out wr (Below.refl _ _)) j 1 hlt (by omega) _ rfl
    rw [Nat.add_zero] at c0
    have hnm := (HOk.out.each j hlt).nm
    obtain ⟨row, hrow, hce⟩ := name_row hnm
    obtain ⟨z, hz⟩ : ∃ z, z = (r.ps.getD j pt0).fr := ⟨_, rfl⟩
    obtain ⟨cn, hcn⟩ : ∃ cn, cn = (r.ps.getD j pt0).cal := ⟨_, rfl⟩
    rw [← hz] at c0
    rw [← hcn] at c1 hce
    have HCE := Lib.hid (show row ∈ catR ∧ (r.ps.getD j pt0).cal = str row.nm from ⟨hrow, by rw [← hcn, hce]⟩)
    have HZj := Lib.hid hz
    have HDy := Lib.hid (fun W (hE : Env W) => Day_any row hrow a1 a2 a3 W hE)
    rw [← hce] at HDy
    clear hz hcn hnm hrow hce
    have y0 : wr.cell? ⟨g + 1, 0, none⟩ = some (.int .i64 a1) := HDr.out.cell 0
    have y1 : wr.cell? ⟨g + 1, 1, none⟩ = some (.int .i64 a2) := HDr.out.cell 1
    have y2 : wr.cell? ⟨g + 1, 2, none⟩ = some (.int .i64 a3) := HDr.out.cell 2
    have hba := Lib.hid (below_alloc1 wr (Obj.cells #[.int .i64 z, .string cn] 70))
    have HP4 := Lib.hid (Box.new wr 70 #[.int .i64 z, .string cn])
    have HX4 := Lib.hid (HXr.out.alloc (Obj.cells #[.int .i64 z, .string cn] 70))
    have HL4 := Lib.hid (own_next hlv.out hba.out)
    have HE4 := Lib.hid (HE1.out.next (below_then HBw.out hba.out))
    go_wp2_with fail
    obtain ⟨w4, hw4⟩ : ∃ w4, w4 = wr.alloc (Obj.cells #[.int .i64 z, .string cn] 70) := ⟨_, rfl⟩
    rw [← hw4] at hba HP4 HX4 HL4 HE4 ⊢
    clear hw4 c0 c1 y0 y1 y2 hlv HXr HDr
    obtain ⟨gp, hgp⟩ : ∃ gp, gp = wr.heap.size := ⟨_, rfl⟩
    rw [← hgp] at HP4
    rw [← hgp]
    have HGP := Lib.hid hgp
    clear hgp
    refine (HDy.out w4 HE4.out).mono ?_
    rintro e w5 ⟨c, hof, ok, hb5, hc⟩
    have HP5 := Lib.hid (HP4.out.below hb5)
    have HX5 := Lib.hid (HX4.out.below hb5)
    have HL5 := Lib.hid (own_next HL4.out hb5)
    have HW5 := Lib.hid (below_then hba.out hb5)
    have HBr5 : Hid (Below LB w1 w5) := by have := below_then HBw.out HW5.out; rw [← HLB.out] at this; exact this
    have hL5 : LB ≤ w5.heap.size := by have := HW5.out.size; omega
    obtain ⟨v, E, rfl, hg0, hg1⟩ : ∃ v E : Int, e = .returned (.tuple #[.int .i64 v, .int .i64 E]) ∧ (E = 0 → (-4000000 ≤ v ∧ v ≤ 4000000) ∧ ∃ m : Nat, a2 = (m : Int) + 1 ∧ -10000 ≤ a1 ∧ a1 ≤ 10000 ∧ OnPart r.ps j a1 m (a3 - 1) v) ∧ (E ≠ 0 → ∀ n, ¬ Gd r.ps a1 a2 a3 j n) := by
      have tr : ∀ (m : Nat) n, OnPart r.ps j a1 m (a3 - 1) n → IsOn c a1 m (a3 - 1) n := fun m n ho => by
        obtain ⟨row', hr', e', _, ho'⟩ := ho
        obtain rfl := row_one row row' HCE.out.1 hr' (str_inj (by rw [← HCE.out.2, e']))
        exact (hof.on (calR_of row) _ _ _ _).2 ho'
      rcases hc with ⟨m0, n0, hm0, q1, q2, ho, rfl⟩ | ⟨hno, he⟩
      · have hop : OnPart r.ps j a1 m0 (a3 - 1) n0 := ⟨row, HCE.out.1, HCE.out.2, calR_ok hof ok, (hof.on (calR_of row) _ _ _ _).1 ho⟩
        by_cases hI : -4000000 ≤ n0 ∧ n0 ≤ 4000000
        · rw [show dayR n0 = .tuple #[.int .i64 n0, .int .i64 0] from if_pos hI]
          exact ⟨n0, 0, rfl, fun _ => ⟨hI, m0, hm0, q1, q2, hop⟩, fun h => absurd rfl h⟩
        · rw [show dayR n0 = .tuple #[.int .i64 0, .int .i64 3] from if_neg hI]
          refine ⟨0, 3, rfl, fun h => absurd h (by decide), fun _ n hg => ?_⟩
          obtain ⟨_, hIn, m', e', _, _, ho'⟩ := hg
          obtain rfl : m0 = m' := by omega
          have := hop.day ho'
          subst this
          exact hI hIn
      · have key : ∀ n, ¬ Gd r.ps a1 a2 a3 j n := fun n hg => by
          obtain ⟨_, _, m', e', q1, q2, ho'⟩ := hg
          exact hno m' n e' q1 q2 (tr m' n ho')
        rcases he with rfl | rfl
        · exact ⟨0, 3, rfl, fun h => absurd h (by decide), fun _ => key⟩
        · exact ⟨0, 1, rfl, fun h => absurd h (by decide), fun _ => key⟩
    have HG0 := Lib.hid hg0
    have HG1 := Lib.hid hg1
    clear hof ok hb5 hc hg0 hg1 HDy HE4 HP4 HX4 HL4 hba
    have p0 : w5.cell? ⟨gp, 0, none⟩ = some (.int .i64 z) := HP5.out.cell 0
    have x1 : w5.cell? ⟨g, 1, none⟩ = some (.slice (some ⟨b, o, none⟩) r.ps.length r.c) := by rw [← HA.out]; exact HX5.out.cell 1
    by_cases hE : E = 0
    case neg =>
      have t2 : (E == 0) = false := by rw [beq_eq_false_iff_ne]; exact hE
      have HD2 := Lib.hid (hdl.out.skip (HG1.out hE))
      clear hE
      go_wp2_with fail
      go_roundw
      case rel => exact ⟨j + 1, xs, by omega, by go_num, by omega, HD2, HL5, HBr5⟩
      case measure => simp [intOf]; omega
    subst hE
    have HOn := Lib.hid (HG0.out rfl)
    clear HG0 HG1
    by_cases hge : z ≤ v
    case neg =>
      have t2 : decide (z ≤ v) = false := decide_eq_false hge
      have HD2 : Hid (DL r.ps a1 a2 a3 (j + 1) xs) := hdl.out.skip fun n hg => by
        obtain ⟨m, em, _, _, ho⟩ := HOn.out.2
        obtain ⟨hp, _, m', em', _, _, ho'⟩ := hg
        obtain rfl : m = m' := by omega
        have := ho.day ho'
        have := hp.lo
        have := HZj.out
        omega
      clear hge
      go_wp2_with fail
      go_roundw
      case rel => exact ⟨j + 1, xs, by omega, by go_num, by omega, HD2, HL5, HBr5⟩
      case measure => simp [intOf]; omega
    have t2 : decide (z ≤ v) = true := decide_eq_true hge
    by_cases hlast : j + 1 = r.ps.length
    · have t3 : ((j : Int) + 1 == (r.ps.length : Int)) = true := by rw [beq_iff_eq]; omega
      have HPut : Hid (Gd r.ps a1 a2 a3 j v) := ⟨HOk.out.part hlt (by rw [← HZj.out]; exact hge) (.inl (by omega)), HOn.out.1, HOn.out.2⟩
      clear hge hlast
      have HDp := Lib.hid (hdl.out.put hlt HPut.out)
      go_wp2_with (at_builtin; refine wpList_append_own _ rfl (.tmp 59) (.tmp 61) 33 rfl LB 3 i0 (.int .i64 0) 1 8 Tryz.underlying33 hi0 hz0 hz1 hz2 rfl (by decide) u7 xs.length _ rfl (HL5.out.alloc _) ⟨w5.heap.size, 0, none⟩ 1 1 [.int .i64 v] rfl rfl (cell_one_new _ _ _) (oneI _) ?c3 ?c4 ?c5 ?_)
      try (case c3 => first | omega | (simp only [maxLen]; omega) | (simp; omega))
      try (case c4 => first | omega | (simp only [maxLen]; omega) | (simp; omega))
      try (case c5 => first | omega | (simp only [maxLen]; omega) | (simp; omega))
      intro v' w6 hown' hgrow _
      have hlb := own_base HL5.out
      have HO6 : Hid (w6.ownsRow LB 3 1 v' (xs ++ [v]).length (ints (xs ++ [v]))) := by unfold Hid; rw [ints_snoc, List.length_append]; exact hown'
      have HB6 : Hid (Below LB w1 w6) := (HBr5.out.alloc (by omega) _).grown hgrow (by simp; omega) (fun q hq => by have := hlb q hq; omega)
      clear hown' hgrow
      go_wp2_with fail
      go_roundw
      case rel => exact ⟨j + 1, xs ++ [v], by omega, by go_num, by simp; omega, HDp, HO6, HB6⟩
      case measure => simp [intOf]; omega
    have t3 : ((j : Int) + 1 == (r.ps.length : Int)) = false := by rw [beq_eq_false_iff_ne]; omega
    have hq2 : (j : Int) + 1 < (r.ps.length : Int) := by omega
    have cq : w5.cell? ⟨b, o + (j + 1) * 2, none⟩ = some (.int .i64 (r.ps.getD (j + 1) pt0).fr) := by
      have h := flat_cell ptF_len pt0 (hcr.out w5 HW5.out) (j + 1) 0 (by omega) (by omega) _ rfl
      rwa [Nat.add_zero] at h
    obtain ⟨fq, hfq⟩ : ∃ fq, fq = (r.ps.getD (j + 1) pt0).fr := ⟨_, rfl⟩
    rw [← hfq] at cq
    have HFq : Hid (fq = (r.ps.getD (j + 1) pt0).fr) := hfq
    clear hfq
    by_cases hnx : v < fq
    · have t4 : decide (v < fq) = true := decide_eq_true hnx
      have HPut : Hid (Gd r.ps a1 a2 a3 j v) := ⟨HOk.out.part hlt (by rw [← HZj.out]; exact hge) (.inr (by rw [← HFq.out]; exact hnx)), HOn.out.1, HOn.out.2⟩
      clear hge hlast hnx
      have HDp := Lib.hid (hdl.out.put hlt HPut.out)
      go_wp2_with (at_builtin; refine wpList_append_own _ rfl (.tmp 59) (.tmp 61) 33 rfl LB 3 i0 (.int .i64 0) 1 8 Tryz.underlying33 hi0 hz0 hz1 hz2 rfl (by decide) u7 xs.length _ rfl (HL5.out.alloc _) ⟨w5.heap.size, 0, none⟩ 1 1 [.int .i64 v] rfl rfl (cell_one_new _ _ _) (oneI _) ?c3 ?c4 ?c5 ?_)
      try (case c3 => first | omega | (simp only [maxLen]; omega) | (simp; omega))
      try (case c4 => first | omega | (simp only [maxLen]; omega) | (simp; omega))
      try (case c5 => first | omega | (simp only [maxLen]; omega) | (simp; omega))
      intro v' w6 hown' hgrow _
      have hlb := own_base HL5.out
      have HO6 : Hid (w6.ownsRow LB 3 1 v' (xs ++ [v]).length (ints (xs ++ [v]))) := by unfold Hid; rw [ints_snoc, List.length_append]; exact hown'
      have HB6 : Hid (Below LB w1 w6) := (HBr5.out.alloc (by omega) _).grown hgrow (by simp; omega) (fun q hq => by have := hlb q hq; omega)
      clear hown' hgrow
      go_wp2_with fail
      go_roundw
      case rel => exact ⟨j + 1, xs ++ [v], by omega, by go_num, by simp; omega, HDp, HO6, HB6⟩
      case measure => simp [intOf]; omega
    · have t4 : decide (v < fq) = false := decide_eq_false hnx
      have HD2 : Hid (DL r.ps a1 a2 a3 (j + 1) xs) := hdl.out.skip fun n hg => by
        obtain ⟨m, em, _, _, ho⟩ := HOn.out.2
        obtain ⟨hp, _, m', em', _, _, ho'⟩ := hg
        obtain rfl : m = m' := by omega
        have := ho.day ho'
        have := hp.hi (j + 1) (by omega) (by omega)
        have := HFq.out
        omega
      clear hge hlast hnx
      go_wp2_with fail
      go_roundw
      case rel => exact ⟨j + 1, xs, by omega, by go_num, by omega, HD2, HL5, HBr5⟩
      case measure => simp [intOf]; omega
end Go.Proofs.YtbmbphikjainiaaGreatDoor
