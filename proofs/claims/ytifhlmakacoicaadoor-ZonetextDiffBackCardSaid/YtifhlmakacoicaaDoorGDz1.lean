/- Dz1, Dz2, Dz3, Dz4, Dz5, Dz6, Dz9a, Dz7, Dz8, Dz9 -/
import Derived.Test.YtifhlmakacoicaaDoorGSrt1
import Derived.Test.YtifhlmakacoicaaDoorGSd0
import Derived.Test.YtifhlmakacoicaaDoorGInsC1
import Derived.Test.YtifhlmakacoicaaDoorGBu1
/- slices.Index and Contains at changes; SortStableFunc at edits. -/
namespace Go.Proofs.YtifhlmakacoicaaDoor
open Go.RowKit
set_option linter.unusedVariables false

deriving instance DecidableEq for Chg
theorem bytes_beq' (a b : ByteArray) : (a.toList == b.toList) = decide (a = b) := by
  rw [Bool.eq_iff_iff, beq_iff_eq, decide_eq_true_eq, Lib.toList_data, Lib.toList_data]
  constructor
  · intro h
    cases a; cases b
    exact congrArg ByteArray.mk (Array.toList_inj.mp h)
  · rintro rfl; rfl
def IdxQ (chs : List Chg) (x : Chg) (w : World) (e : Ending) (w' : World) : Prop :=
  Below w.heap.size w w' ∧ ((e = .returned (.int .i64 (-1)) ∧ x ∉ chs) ∨ ∃ k, k < chs.length ∧ e = .returned (.int .i64 (k : Int)) ∧ chs.getD k chg0 = x)
set_option maxHeartbeats 4000000 in
set_option maxRecDepth 100000 in
theorem idx_chs (A : Option Addr) (c : Nat) (chs : List Chg) (x : Chg) (w : World) (hr : Row w w.heap.size A (chCells chs)) (hl : chs.length ≤ 1000) :
    Calls Tryd.prog 72 #[.slice A chs.length c, .agg #[.int .i64 x.a, .int .i64 x.o, .string x.l]] w (IdxQ chs x w) := by
  have hx := Box.new w 26 #[.int .i64 x.a, .int .i64 x.o, .string x.l]
  have hb := below_alloc1 w (Obj.cells #[.int .i64 x.a, .int .i64 x.o, .string x.l] 26)
  have HR := Lib.hid (fun W (hW : Below w.heap.size w W) => hr.next hW)
  clear hr
  unfold IdxQ
  go_enter Tryd.func72, Tryd.ntmps72
  go_upto_region 1 with fail
  generalize w.alloc (Obj.cells #[.int .i64 x.a, .int .i64 x.o, .string x.l] 26) = W0 at *
  obtain ⟨g, hg⟩ : ∃ g, g = w.heap.size := ⟨_, rfl⟩
  rw [← hg] at hx ⊢
  have HG := Lib.hid hg
  have HX := Lib.hid hx
  have HB := Lib.hid hb
  clear hg hx hb
  go_upto_region 2 with fail
  go_loopw [5, 8] (fun _ y wr => ∃ k : Nat, k ≤ chs.length ∧ y = .int .i64 (k : Int) ∧ Hid (∀ i, i < k → chs.getD i chg0 ≠ x) ∧ Hid (Below W0.heap.size W0 wr)) (fun _ y _ => chs.length - (intOf y).toNat)
  case atStart => exact ⟨0, by omega, rfl, (fun i h => by omega), Below.refl _ _⟩
  case round =>
    obtain ⟨k, hk, rfl, hno, hbr⟩ := hrel
    have HNo := Lib.hid hno.out
    have HBr := Lib.hid hbr.out
    clear hno hbr
    by_cases hlt : k < chs.length
    · have t1 : decide ((k : Int) < (chs.length : Int)) = true := decide_eq_true (by omega)
      have bk : (0 : Int) ≤ (k : Int) ∧ (k : Int) < (chs.length : Int) := by omega
      obtain ⟨b, o, rfl, _, hcs⟩ := (HR.out wr (below_then HB.out HBr.out)).open_ (chCells_ne chs (by omega))
      obtain ⟨y0, y1, y2⟩ := ch_cells hcs k hlt
      clear hcs
      obtain ⟨C, hC⟩ : ∃ C, C = chs.getD k chg0 := ⟨_, rfl⟩
      rw [← hC] at y0 y1 y2
      have HC := Lib.hid hC
      clear hC
      have z0 : ∀ W, Below wr.heap.size wr W → W.cell? ⟨b, o + k * 3, none⟩ = some (.int .i64 C.a) := fun W hW => (hW.cell (p := ⟨b, o + k * 3, none⟩) (block_lt_of_cell y0)).trans y0
      have z1 : ∀ W, Below wr.heap.size wr W → W.cell? ⟨b, o + k * 3 + 1, none⟩ = some (.int .i64 C.o) := fun W hW => (hW.cell (p := ⟨b, o + k * 3 + 1, none⟩) (block_lt_of_cell y1)).trans y1
      have z2 : ∀ W, Below wr.heap.size wr W → W.cell? ⟨b, o + k * 3 + 2, none⟩ = some (.string C.l) := fun W hW => (hW.cell (p := ⟨b, o + k * 3 + 2, none⟩) (block_lt_of_cell y2)).trans y2
      have x0 : ∀ W, Below wr.heap.size wr W → W.cell? ⟨g, 0, none⟩ = some (.int .i64 x.a) := fun W hW => ((HX.out.below HBr.out).below hW).cell 0
      have x1 : ∀ W, Below wr.heap.size wr W → W.cell? ⟨g, 1, none⟩ = some (.int .i64 x.o) := fun W hW => ((HX.out.below HBr.out).below hW).cell 1
      have x2 : ∀ W, Below wr.heap.size wr W → W.cell? ⟨g, 2, none⟩ = some (.string x.l) := fun W hW => ((HX.out.below HBr.out).below hW).cell 2
      clear y0 y1 y2
      by_cases he : C = x
      · have HE := Lib.hid he
        subst he
        have HK : Hid (chs.getD k chg0 = C) := HC.out.symm
        go_upto_region 4 with fail
        refine flow_begin (tellOf []) (by kernel_rfl) (by kernel_rfl) ?_
        repeat (first | (refine flow_val (v := ?_) (by rfl) (by rfl) (fun w hb => ?_) ?_; rotate_left; (· ((go_simp) <;> ((repeat' apply And.intro) <;> with_reducible rfl))); try simp only [Act.put, List.setIfInBounds_toArray, List.set_cons_zero, List.set_cons_succ, Nat.reduceAdd]) | (refine flow_skip (by rfl) (by rfl) ?_; try simp only [Act.put, List.setIfInBounds_toArray, List.set_cons_zero, List.set_cons_succ, Nat.reduceAdd]))
        refine flow_nil fun w1 hb1 _ => ?_
        have HB1 := Lib.hid (below_then HB.out (below_then HBr.out hb1))
        clear z0 z1 z2 x0 x1 x2 hb1
        go_wp2_with fail
        go_ret
        exact ⟨HB1.out, .inr ⟨k, hlt, rfl, HK.out⟩⟩
      · have HNo2 : Hid (∀ i, i < k + 1 → chs.getD i chg0 ≠ x) := fun i hi => by
          by_cases e : i = k
          · subst e; rw [← HC.out]; exact he
          · exact HNo.out i (by omega)
        by_cases ha : x.a = C.a
        · have ta : (x.a == C.a) = true := by rw [ha]; simp
          by_cases ho : x.o = C.o
          · have to_ : (x.o == C.o) = true := by rw [ho]; simp
            have tl : (x.l.toList == C.l.toList) = false := by
              rw [bytes_beq']
              refine decide_eq_false fun hl' => ?_
              exact he (by cases C; cases x; simp_all)
            clear ha ho he
            go_upto_region 4 with fail
            refine flow_begin (tellOf []) (by kernel_rfl) (by kernel_rfl) ?_
            repeat (first | (refine flow_val (v := ?_) (by rfl) (by rfl) (fun w hb => ?_) ?_; rotate_left; (· ((go_simp) <;> ((repeat' apply And.intro) <;> with_reducible rfl))); try simp only [Act.put, List.setIfInBounds_toArray, List.set_cons_zero, List.set_cons_succ, Nat.reduceAdd]) | (refine flow_skip (by rfl) (by rfl) ?_; try simp only [Act.put, List.setIfInBounds_toArray, List.set_cons_zero, List.set_cons_succ, Nat.reduceAdd]))
            refine flow_nil fun w1 hb1 _ => ?_
            have HB1 := Lib.hid (below_then HBr.out hb1)
            clear z0 z1 z2 x0 x1 x2 hb1
            go_wp2_with fail
            go_roundw
            case rel => exact ⟨k + 1, by omega, by go_num, HNo2, HB1⟩
            case measure => simp [intOf]; omega
          · have to_ : (x.o == C.o) = false := by rw [beq_eq_false_iff_ne]; exact ho
            clear ha ho he
            go_upto_region 4 with fail
            refine flow_begin (tellOf []) (by kernel_rfl) (by kernel_rfl) ?_
            repeat (first | (refine flow_val (v := ?_) (by rfl) (by rfl) (fun w hb => ?_) ?_; rotate_left; (· ((go_simp) <;> ((repeat' apply And.intro) <;> with_reducible rfl))); try simp only [Act.put, List.setIfInBounds_toArray, List.set_cons_zero, List.set_cons_succ, Nat.reduceAdd]) | (refine flow_skip (by rfl) (by rfl) ?_; try simp only [Act.put, List.setIfInBounds_toArray, List.set_cons_zero, List.set_cons_succ, Nat.reduceAdd]))
            refine flow_nil fun w1 hb1 _ => ?_
            have HB1 := Lib.hid (below_then HBr.out hb1)
            clear z0 z1 z2 x0 x1 x2 hb1
            go_wp2_with fail
            go_roundw
            case rel => exact ⟨k + 1, by omega, by go_num, HNo2, HB1⟩
            case measure => simp [intOf]; omega
        · have ta : (x.a == C.a) = false := by rw [beq_eq_false_iff_ne]; exact ha
          clear ha he
          go_upto_region 4 with fail
          refine flow_begin (tellOf []) (by kernel_rfl) (by kernel_rfl) ?_
          repeat (first | (refine flow_val (v := ?_) (by rfl) (by rfl) (fun w hb => ?_) ?_; rotate_left; (· ((go_simp) <;> ((repeat' apply And.intro) <;> with_reducible rfl))); try simp only [Act.put, List.setIfInBounds_toArray, List.set_cons_zero, List.set_cons_succ, Nat.reduceAdd]) | (refine flow_skip (by rfl) (by rfl) ?_; try simp only [Act.put, List.setIfInBounds_toArray, List.set_cons_zero, List.set_cons_succ, Nat.reduceAdd]))
          refine flow_nil fun w1 hb1 _ => ?_
          have HB1 := Lib.hid (below_then HBr.out hb1)
          clear z0 z1 z2 x0 x1 x2 hb1
          go_wp2_with fail
          go_roundw
          case rel => exact ⟨k + 1, by omega, by go_num, HNo2, HB1⟩
          case measure => simp [intOf]; omega
    · obtain rfl : k = chs.length := by omega
      have t1 : decide ((chs.length : Int) < (chs.length : Int)) = false := decide_eq_false (by omega)
      have HB1 := Lib.hid (below_then HB.out HBr.out)
      go_wp2_with fail
      go_ret
      refine ⟨HB1.out, .inl ⟨rfl, fun hin => ?_⟩⟩
      obtain ⟨i, hi, e⟩ := List.mem_iff_getElem.1 hin
      exact HNo.out i hi (by rw [List.getD_eq_getElem?_getD, List.getElem?_eq_getElem hi]; exact e)
theorem cont_chs (A : Option Addr) (c : Nat) (chs : List Chg) (x : Chg) (w : World) (hr : Row w w.heap.size A (chCells chs)) (hl : chs.length ≤ 1000) :
    Calls Tryd.prog 49 #[.slice A chs.length c, .agg #[.int .i64 x.a, .int .i64 x.o, .string x.l]] w fun e w' => e = .returned (.bool (decide (x ∈ chs))) ∧ Below w.heap.size w w' := by
  have hx := Box.new w 26 #[.int .i64 x.a, .int .i64 x.o, .string x.l]
  have hb := below_alloc1 w (Obj.cells #[.int .i64 x.a, .int .i64 x.o, .string x.l] 26)
  have HI := Lib.hid (idx_chs A c chs x (w.alloc (Obj.cells #[.int .i64 x.a, .int .i64 x.o, .string x.l] 26)) (hr.next hb) hl)
  unfold IdxQ at HI
  clear hr
  go_enter Tryd.func49, Tryd.ntmps49
  go_upto_region 1 with fail
  generalize w.alloc (Obj.cells #[.int .i64 x.a, .int .i64 x.o, .string x.l] 26) = W0 at *
  have x0 : W0.cell? ⟨w.heap.size, 0, none⟩ = some (.int .i64 x.a) := hx.cell 0
  have x1 : W0.cell? ⟨w.heap.size, 1, none⟩ = some (.int .i64 x.o) := hx.cell 1
  have x2 : W0.cell? ⟨w.heap.size, 2, none⟩ = some (.string x.l) := hx.cell 2
  have hl := hx.lt
  have HB := Lib.hid hb
  clear hx hb
  go_wp2_with (go_at_call 72; refine HI.out.mono ?_; rintro e w2 ⟨hb2, ⟨rfl, hn⟩ | ⟨k, hk, rfl, hy⟩⟩)
  · have HF : Hid (decide (x ∈ chs) = false ∧ Below w.heap.size w w2) := ⟨decide_eq_false hn, below_then HB.out hb2⟩
    clear hn hb2
    go_wp2_with fail
    go_ret
    exact ⟨by rw [HF.out.1]; rfl, HF.out.2⟩
  · have HF : Hid (decide (x ∈ chs) = true ∧ Below w.heap.size w w2) := ⟨decide_eq_true (by
      rw [← hy, List.getD_eq_getElem?_getD, List.getElem?_eq_getElem hk]
      exact List.getElem_mem hk), below_then HB.out hb2⟩
    have t1 : decide ((0 : Int) ≤ (k : Int)) = true := decide_eq_true (by omega)
    clear hy hb2
    go_wp2_with fail
    go_ret
    exact ⟨by rw [HF.out.1]; rfl, HF.out.2⟩
end Go.Proofs.YtifhlmakacoicaaDoor

/- slices.Delete of one change. -/
namespace Go.Proofs.YtifhlmakacoicaaDoor
open Go.RowKit
set_option linter.unusedVariables false

theorem chCells_split (l : List Chg) (k : Nat) : chCells l = chCells (l.take k) ++ chCells (l.drop k) := by rw [← chCells_append, List.take_append_drop]
theorem chs_one2 (l : List Chg) : ∀ u ∈ chCells l, u.oneCell' = true := chs_one' l
set_option maxHeartbeats 4000000 in
set_option maxRecDepth 100000 in
theorem del_one (B g c k : Nat) (chs : List Chg) (w : World) (ho : w.ownsRow B 26 3 (.slice (some ⟨g, 0, none⟩) chs.length c) chs.length (chCells chs)) (hk : k < chs.length) (hl : chs.length ≤ 1000) :
    Calls Tryd.prog 74 #[.slice (some ⟨g, 0, none⟩) chs.length c, .int .i64 (k : Int), .int .i64 ((k + 1 : Nat) : Int)] w fun e w' => e = .returned (.slice (some ⟨g, 0, none⟩) (chs.length - 1) c) ∧ w'.ownsRow B 26 3 (.slice (some ⟨g, 0, none⟩) (chs.length - 1) c) (chs.length - 1) (chCells (chs.eraseIdx k)) ∧ w.grownBy w' (some g) := by
  obtain ⟨i0, hi0, hz0, hz1, hz2⟩ := info_parts infoCh
  rcases ho.2 with ⟨h, _⟩ | ⟨g', cap', cur, hv, hbg, hg, hnc, hcm, hcs, htake⟩
  · simp at h
  cases hv
  have hx : Box w g 26 cur := hg
  obtain ⟨n, hn⟩ : ∃ n, n = chs.length := ⟨_, rfl⟩
  rw [← hn] at hk hl hnc htake ⊢
  obtain ⟨D, hD⟩ : ∃ D, D = chCells (chs.drop (k + 1)) := ⟨_, rfl⟩
  obtain ⟨m, hm⟩ : ∃ m, m = n - (k + 1) := ⟨_, rfl⟩
  have hDl : D.length = m * 3 := by rw [hD, chCells_length, List.length_drop, ← hn, hm]
  have hsp : chCells chs = chCells (chs.take (k + 1)) ++ D := by rw [hD]; exact chCells_split chs (k + 1)
  have hPl : (chCells (chs.take (k + 1))).length = (k + 1) * 3 := by rw [chCells_length, List.length_take]; omega
  have hsrc : ∀ W, Below w.heap.size w W → ∀ j v, D[j]? = some v → W.cell? ((⟨g, (k + 1) * 3, none⟩ : Addr).add j) = some v := fun W hbW j v hv => by
    have hj : j < D.length := (List.getElem?_eq_some_iff.1 hv).1
    rw [hDl] at hj
    rw [addr_plain, (hx.below hbW).cell]
    have h2 : (cur.toList.take (n * 3))[(k + 1) * 3 + j]? = some v := by
      rw [htake, hsp, List.getElem?_append_right (by omega), hPl, show (k + 1) * 3 + j - (k + 1) * 3 = j from by omega]
      exact hv
    rw [List.getElem?_take, if_pos (by omega)] at h2
    simpa using h2
  obtain ⟨N1, hN1⟩ : ∃ N1, N1 = n - 1 := ⟨_, rfl⟩
  obtain ⟨L1, hL1⟩ : ∃ L1, L1 = cur.toList.take (k * 3) ++ D ++ cur.toList.drop (k * 3 + D.length) := ⟨_, rfl⟩
  have hap : ∀ W, Below w.heap.size w W → ∀ ty sc ad, (m = 0 ∨ ad = (⟨g, (k + 1) * 3, none⟩ : Addr)) → (Builtin.append_ #[22, 22] ty #[.slice (some ⟨g, 0, none⟩) k c, .slice (some ad) m sc]).run Tryd.prog W = .ok (.slice (some ⟨g, 0, none⟩) N1 c) (W.setRow g L1.toArray) := fun W hbW ty sc ad had => by
    have h := run_append_room (P := Tryd.prog) W 22 ty 26 i0 Tryd.underlying22 hi0 g k c cur (hx.below hbW) ad m sc D (by rw [hz1]; exact hDl) (fun j v hv => by
      rcases had with h0 | h0
      · rw [h0] at hDl
        have hj : j < D.length := (List.getElem?_eq_some_iff.1 hv).1
        omega
      · rw [h0]; exact hsrc W hbW j v hv) (by rw [hD]; exact chs_one2 _) (by omega) (by rw [hz1, hDl, hcs]; omega)
    rw [hz1, ← hL1, show k + m = N1 from by omega] at h
    exact h
  have hL1l : L1.length = cur.size := by
    rw [hL1, List.length_append, List.length_append, List.length_take, List.length_drop, Array.length_toList, hDl, hcs]
    omega
  have hL1t : L1.take (N1 * 3) = chCells (chs.eraseIdx k) := by
    have e1 : cur.toList.take (k * 3) = chCells (chs.take k) := by
      have : (cur.toList.take (n * 3)).take (k * 3) = cur.toList.take (k * 3) := by rw [List.take_take, Nat.min_eq_left (by omega)]
      rw [← this, htake, chCells_split chs k, List.take_append_of_le_length (by rw [chCells_length, List.length_take]; omega), List.take_of_length_le (by rw [chCells_length, List.length_take]; omega)]
    rw [hL1, e1, List.eraseIdx_eq_take_drop_succ, chCells_append, ← hD]
    rw [List.take_append_of_le_length (by rw [List.length_append, chCells_length, List.length_take, hDl]; omega)]
    exact List.take_of_length_le (by rw [List.length_append, chCells_length, List.length_take, hDl]; omega)
  have HAP := Lib.hid hap
  have HL1l := Lib.hid hL1l
  have HL1t := Lib.hid hL1t
  have HX := Lib.hid hx
  have HCS := Lib.hid hcs
  have HCM := Lib.hid hcm
  have hel : (chs.eraseIdx k).length = N1 := by rw [List.length_eraseIdx_of_lt (by omega), ← hn, hN1]
  have HEL := Lib.hid hel
  clear hsrc hap hL1 hL1l hL1t hg htake hsp hPl hDl hD ho hel hcs
  have hc1 : n ≤ c ∧ c ≤ 9223372036854775807 := ⟨hnc, by unfold maxLen at hcm; omega⟩
  rw [← hN1]
  have HN := Lib.hid hn
  have HN1 := Lib.hid hN1
  have HM := Lib.hid hm
  obtain ⟨K, hK⟩ : ∃ K, K = k + 1 := ⟨_, rfl⟩
  rw [← hK]
  have HK := Lib.hid hK
  have q1 : k < K ∧ K ≤ n ∧ K + m = n := by omega
  have t1 : ((k : Int) == (K : Int)) = false := by rw [beq_eq_false_iff_ne]; omega
  have hb4 : ¬ (c = k) := by omega
  have k0 : (0 : Int) ≤ (k : Int) := by omega
  have k1 : (k : Int) ≤ (K : Int) := by omega
  have k2 : (K : Int) ≤ (n : Int) := by omega
  have k3 : (n : Int) ≤ (c : Int) := by omega
  have k4 : (0 : Int) ≤ (K : Int) := by omega
  have k5 : (k : Int) ≤ (c : Int) := by omega
  have k6 : (k : Int) ≤ (n : Int) := by omega
  have k7 : K ≤ n := by omega
  have k8 : k ≤ n := by omega
  have k9 : (n : Int) ≤ (n : Int) := by omega
  have q2 : N1 < n ∧ n - K = m ∧ n - N1 = 1 := by omega
  have k10 : (0 : Int) ≤ (N1 : Int) := by omega
  have k11 : (N1 : Int) ≤ (n : Int) := by omega
  have k12 : N1 ≤ n := by omega
  have hb5 : ¬ (c = N1) := by omega
  clear hn hm hK hN1
  by_cases hck : c = K
  · have hm0 : m = 0 := by omega
    subst hck
    go_enter Tryd.func74, Tryd.ntmps74
    go_upto_region 5 with fail
    refine flow_begin_tail 6 (tellOf []) (by kernel_rfl) (by kernel_rfl) ?_
    simp only [List.take_succ_cons, List.take_zero, List.drop_succ_cons, List.drop_zero]
    repeat (first | (refine flow_val (v := ?_) (by rfl) (by rfl) (fun w hb => ?_) ?_; rotate_left; (· ((go_simp) <;> ((repeat' apply And.intro) <;> with_reducible rfl))); try simp only [Act.put, List.setIfInBounds_toArray, List.set_cons_zero, List.set_cons_succ, Nat.reduceAdd]) | (refine flow_skip (by rfl) (by rfl) ?_; try simp only [Act.put, List.setIfInBounds_toArray, List.set_cons_zero, List.set_cons_succ, Nat.reduceAdd]))
    refine flow_nil fun w1 hb1 _ => ?_
    refine wpList_app_run rfl (.tmp 22) (.tmp 25) 22 _ rfl rfl _ _ rfl rfl (by have h := HAP.out w1 hb1 22 0 (⟨g, 0, none⟩ : Addr) (.inl hm0); rw [hm0] at h; exact h) ?_
    have hx2 := (HX.out.below hb1).row L1.toArray
    have hg2 : w.grownBy (w1.setRow g L1.toArray) (some g) := (grown_bel hb1).trans (grown_setRow w1 g _)
    generalize w1.setRow g L1.toArray = W2 at *
    obtain ⟨cur', h1, h2, h3⟩ := box_setCellsR g (zsC 1) (N1 * 3) W2 L1.toArray hx2
    have hCL : ∀ ty cc, (Builtin.clear_ #[22] ty #[.slice (some ⟨g, N1 * 3, none⟩) 1 cc]).run Tryd.prog W2 = .ok (.tuple #[]) (W2.setCells g (N1 * 3) (zsC 1)) := fun ty cc => by
      exact run_clear_chs W2 ty g (N1 * 3) 1 cc L1.toArray hx2 (by omega) (by rw [List.size_toArray, HL1l.out, HCS.out]; omega)
    have hg3 : w.grownBy (W2.setCells g (N1 * 3) (zsC 1)) (some g) := hg2.trans (grown_setCellsR g (zsC 1) (N1 * 3) W2)
    have HH1 := Lib.hid h1
    have HH2 := Lib.hid h2
    have HH3 := Lib.hid h3
    have HG3 := Lib.hid hg3
    clear h1 h2 h3 hg2 hg3 hx2 hb1
    generalize W2.setCells g (N1 * 3) (zsC 1) = W3 at *
    refine wpList_step fun K hK => ?_
    rw [if_pos (by rfl)]
    go_simp
    refine hK _ _ (wpList_nil ?_)
    clear hK K
    go_wp2_with fail
    go_ret
    refine ⟨rfl, ⟨by rw [chCells_length, HEL.out], .inr ⟨g, c, cur', rfl, hbg, HH3.out, by omega, HCM.out, by rw [HH1.out, List.size_toArray, HL1l.out]; exact HCS.out, ?_⟩⟩, HG3.out⟩
    rw [← HL1t.out]
    apply List.ext_getElem?
    intro i
    rw [List.getElem?_take, List.getElem?_take]
    split
    · rename_i hi
      have := HH2.out i hi
      simpa using this
    · rfl
  · go_enter Tryd.func74, Tryd.ntmps74
    go_upto_region 5 with fail
    refine flow_begin_tail 6 (tellOf []) (by kernel_rfl) (by kernel_rfl) ?_
    simp only [List.take_succ_cons, List.take_zero, List.drop_succ_cons, List.drop_zero]
    repeat (first | (refine flow_val (v := ?_) (by rfl) (by rfl) (fun w hb => ?_) ?_; rotate_left; (· ((go_simp) <;> ((repeat' apply And.intro) <;> with_reducible rfl))); try simp only [Act.put, List.setIfInBounds_toArray, List.set_cons_zero, List.set_cons_succ, Nat.reduceAdd]) | (refine flow_skip (by rfl) (by rfl) ?_; try simp only [Act.put, List.setIfInBounds_toArray, List.set_cons_zero, List.set_cons_succ, Nat.reduceAdd]))
    refine flow_nil fun w1 hb1 _ => ?_
    refine wpList_app_run rfl (.tmp 22) (.tmp 25) 22 _ rfl rfl _ _ rfl rfl (HAP.out w1 hb1 _ _ _ (.inr (by rw [HK.out]))) ?_
    have hx2 := (HX.out.below hb1).row L1.toArray
    have hg2 : w.grownBy (w1.setRow g L1.toArray) (some g) := (grown_bel hb1).trans (grown_setRow w1 g _)
    generalize w1.setRow g L1.toArray = W2 at *
    obtain ⟨cur', h1, h2, h3⟩ := box_setCellsR g (zsC 1) (N1 * 3) W2 L1.toArray hx2
    have hCL : ∀ ty cc, (Builtin.clear_ #[22] ty #[.slice (some ⟨g, N1 * 3, none⟩) 1 cc]).run Tryd.prog W2 = .ok (.tuple #[]) (W2.setCells g (N1 * 3) (zsC 1)) := fun ty cc => by
      exact run_clear_chs W2 ty g (N1 * 3) 1 cc L1.toArray hx2 (by omega) (by rw [List.size_toArray, HL1l.out, HCS.out]; omega)
    have hg3 : w.grownBy (W2.setCells g (N1 * 3) (zsC 1)) (some g) := hg2.trans (grown_setCellsR g (zsC 1) (N1 * 3) W2)
    have HH1 := Lib.hid h1
    have HH2 := Lib.hid h2
    have HH3 := Lib.hid h3
    have HG3 := Lib.hid hg3
    clear h1 h2 h3 hg2 hg3 hx2 hb1
    generalize W2.setCells g (N1 * 3) (zsC 1) = W3 at *
    refine wpList_step fun K hK => ?_
    rw [if_pos (by rfl)]
    go_simp
    refine hK _ _ (wpList_nil ?_)
    clear hK K
    go_wp2_with fail
    go_ret
    refine ⟨rfl, ⟨by rw [chCells_length, HEL.out], .inr ⟨g, c, cur', rfl, hbg, HH3.out, by omega, HCM.out, by rw [HH1.out, List.size_toArray, HL1l.out]; exact HCS.out, ?_⟩⟩, HG3.out⟩
    rw [← HL1t.out]
    apply List.ext_getElem?
    intro i
    rw [List.getElem?_take, List.getElem?_take]
    split
    · rename_i hi
      have := HH2.out i hi
      simpa using this
    · rfl
end Go.Proofs.YtifhlmakacoicaaDoor

/- slices.BinarySearchFunc at changes by instant. -/
namespace Go.Proofs.YtifhlmakacoicaaDoor
open Go.RowKit
set_option linter.unusedVariables false

def cmpI (a t : Int) : Int := if a < t then -1 else if t < a then 1 else 0
set_option maxRecDepth 100000 in
theorem ecmp_any (x : Chg) (t : Int) (w : World) :
    Calls Tryd.prog 76 #[.agg #[.int .i64 x.a, .int .i64 x.o, .string x.l], .int .i64 t] w fun e w' => e = .returned (.int .i64 (cmpI x.a t)) ∧ Below w.heap.size w w' := by
  have hb := below_alloc1 w (Obj.cells #[.int .i64 x.a, .int .i64 x.o, .string x.l] 26)
  have hx := Box.new w 26 #[.int .i64 x.a, .int .i64 x.o, .string x.l]
  have HB := Lib.hid hb
  unfold cmpI
  by_cases h1 : x.a < t
  · have t1 : decide (x.a < t) = true := decide_eq_true h1
    rw [if_pos h1]
    clear h1
    go_enter Tryd.func76, Tryd.ntmps76
    go_upto_region 1 with fail
    generalize w.alloc (Obj.cells #[.int .i64 x.a, .int .i64 x.o, .string x.l] 26) = W0 at *
    have x0 : W0.cell? ⟨w.heap.size, 0, none⟩ = some (.int .i64 x.a) := hx.cell 0
    have hl := hx.lt
    clear hx hb
    go_wp2_with fail
    go_ret
    exact ⟨rfl, HB.out⟩
  · have t1 : decide (x.a < t) = false := decide_eq_false h1
    rw [if_neg h1]
    clear h1
    by_cases h2 : t < x.a
    · have t2 : decide (t < x.a) = true := decide_eq_true h2
      rw [if_pos h2]
      clear h2
      go_enter Tryd.func76, Tryd.ntmps76
      go_upto_region 1 with fail
      generalize w.alloc (Obj.cells #[.int .i64 x.a, .int .i64 x.o, .string x.l] 26) = W0 at *
      have x0 : W0.cell? ⟨w.heap.size, 0, none⟩ = some (.int .i64 x.a) := hx.cell 0
      have hl := hx.lt
      clear hx hb
      go_wp2_with fail
      go_ret
      exact ⟨rfl, HB.out⟩
    · have t2 : decide (t < x.a) = false := decide_eq_false h2
      rw [if_neg h2]
      clear h2
      go_enter Tryd.func76, Tryd.ntmps76
      go_upto_region 1 with fail
      generalize w.alloc (Obj.cells #[.int .i64 x.a, .int .i64 x.o, .string x.l] 26) = W0 at *
      have x0 : W0.cell? ⟨w.heap.size, 0, none⟩ = some (.int .i64 x.a) := hx.cell 0
      have hl := hx.lt
      clear hx hb
      go_wp2_with fail
      go_ret
      exact ⟨rfl, HB.out⟩
def BsQ (chs : List Chg) (t : Int) (w : World) (e : Ending) (w' : World) : Prop :=
  ∃ (k : Nat) (f : Bool), k ≤ chs.length ∧ e = .returned (.tuple #[.int .i64 (k : Int), .bool f]) ∧ (∀ i, i < k → (chs.getD i chg0).a < t) ∧ (∀ i, k ≤ i → i < chs.length → t ≤ (chs.getD i chg0).a) ∧ (f = true ↔ (k < chs.length ∧ (chs.getD k chg0).a = t)) ∧ Below w.heap.size w w'
set_option maxHeartbeats 4000000 in
set_option maxRecDepth 100000 in
theorem bs_chs (A : Option Addr) (c : Nat) (chs : List Chg) (t : Int) (w : World) (hr : Row w w.heap.size A (chCells chs)) (hl : chs.length ≤ 1000) (hs : Sorted chs) :
    Calls Tryd.prog 75 #[.slice A chs.length c, .int .i64 t, .func (.func 76) #[] #[]] w (BsQ chs t w) := by
  have HR := Lib.hid (fun W (hW : Below w.heap.size w W) => hr.next hW)
  have HS := Lib.hid hs
  have HC := Lib.hid (fun W i => ecmp_any (chs.getD i chg0) t W)
  have eg : ∀ args w, (callFunc 76 args).run Tryd.prog w = .ok (.enter 76 args) w := fun args w => by kernel_rfl
  clear hr hs
  unfold BsQ
  go_enter Tryd.func75, Tryd.ntmps75
  go_upto_region 3 with fail
  go_loopw [9, 10, 11] (fun x y _ wr => ∃ (i j : Nat), x = .int .i64 (i : Int) ∧ y = .int .i64 (j : Int) ∧ i ≤ j ∧ j ≤ chs.length ∧ Hid (0 < i → (chs.getD (i - 1) chg0).a < t) ∧ Hid (j < chs.length → t ≤ (chs.getD j chg0).a) ∧ Hid (Below w.heap.size w wr)) (fun x y _ _ => (intOf y).toNat - (intOf x).toNat)
  case atStart => exact ⟨0, chs.length, rfl, rfl, by omega, by omega, (fun h => by omega), (fun h => by omega), Below.refl _ _⟩
  case round =>
    obtain ⟨i, j, rfl, rfl, hij, hj, hlo, hhi, hbr⟩ := hrel
    have HLo := Lib.hid hlo.out
    have HHi := Lib.hid hhi.out
    have HBr := Lib.hid hbr.out
    clear hlo hhi hbr
    by_cases hlt : i < j
    · have t1 : decide ((i : Int) < (j : Int)) = true := decide_eq_true (by omega)
      obtain ⟨H, hH⟩ : ∃ H, H = (i + j) / 2 := ⟨_, rfl⟩
      have hH1 : i ≤ H ∧ H < j ∧ H < chs.length := by omega
      have e1 : ((i : Int) + (j : Int)) / 2 = (H : Int) := by omega
      have bH : (0 : Int) ≤ (H : Int) ∧ (H : Int) < (chs.length : Int) := by omega
      have HCh := Lib.hid (fun W => HC.out W H)
      obtain ⟨b, o, rfl, _, hcs⟩ := (HR.out wr HBr.out).open_ (chCells_ne chs (by omega))
      obtain ⟨y0, y1, y2⟩ := ch_cells hcs H hH1.2.2
      clear hcs hH
      obtain ⟨C, hC⟩ : ∃ C, C = chs.getD H chg0 := ⟨_, rfl⟩
      rw [← hC] at y0 y1 y2 HCh
      have HCe := Lib.hid hC
      clear hC
      by_cases hc : C.a < t
      · have t2 : decide (cmpI C.a t < 0) = true := decide_eq_true (by unfold cmpI; rw [if_pos hc]; omega)
        have HLo2 : Hid (0 < H + 1 → (chs.getD (H + 1 - 1) chg0).a < t) := fun _ => by rw [show H + 1 - 1 = H from rfl, ← HCe.out]; exact hc
        generalize cmpI C.a t = D at *
        clear hc HLo
        go_wp2_with (go_at_fn 76; refine (HCh.out _).mono ?_; rintro e w2 ⟨rfl, hb2⟩)
        have HB2 := Lib.hid (below_then HBr.out hb2)
        go_roundw
        case rel => exact ⟨H + 1, j, by go_num, rfl, by omega, by omega, HLo2, HHi, HB2⟩
        case measure => simp [intOf]; omega
      · have t2 : decide (cmpI C.a t < 0) = false := decide_eq_false (by unfold cmpI; rw [if_neg hc]; split <;> omega)
        have HHi2 : Hid (H < chs.length → t ≤ (chs.getD H chg0).a) := fun _ => by rw [← HCe.out]; omega
        generalize cmpI C.a t = D at *
        clear hc HHi
        go_wp2_with (go_at_fn 76; refine (HCh.out _).mono ?_; rintro e w2 ⟨rfl, hb2⟩)
        have HB2 := Lib.hid (below_then HBr.out hb2)
        go_roundw
        case rel => exact ⟨i, H, rfl, rfl, by omega, by omega, HLo, HHi2, HB2⟩
        case measure => simp [intOf]; omega
    · obtain rfl : j = i := by omega
      have t1 : decide ((j : Int) < (j : Int)) = false := decide_eq_false (by omega)
      have HLoA : Hid (∀ i, i < j → (chs.getD i chg0).a < t) := fun i hi => by
        have := HS.out.le i (j - 1) (by omega) (by omega)
        have := HLo.out (by omega)
        omega
      have HHiA : Hid (∀ i, j ≤ i → i < chs.length → t ≤ (chs.getD i chg0).a) := fun i hi hi2 => by
        have := HS.out.le j i hi hi2
        have := HHi.out (by omega)
        omega
      by_cases hjn : j < chs.length
      · have t2 : decide ((j : Int) < (chs.length : Int)) = true := decide_eq_true (by omega)
        have bJ : (0 : Int) ≤ (j : Int) ∧ (j : Int) < (chs.length : Int) := by omega
        have HCh := Lib.hid (fun W => HC.out W j)
        obtain ⟨b, o, rfl, _, hcs⟩ := (HR.out wr HBr.out).open_ (chCells_ne chs (by omega))
        obtain ⟨y0, y1, y2⟩ := ch_cells hcs j hjn
        clear hcs
        obtain ⟨C, hC⟩ : ∃ C, C = chs.getD j chg0 := ⟨_, rfl⟩
        rw [← hC] at y0 y1 y2 HCh
        have HCe := Lib.hid hC
        clear hC
        have HEq : Hid ((cmpI C.a t == 0) = true ↔ C.a = t) := by
          unfold cmpI
          constructor
          · intro h
            rw [beq_iff_eq] at h
            split at h
            · omega
            · split at h <;> omega
          · intro h
            rw [if_neg (by omega), if_neg (by omega)]
            rfl
        generalize cmpI C.a t = D at *
        go_wp2_with (go_at_fn 76; refine (HCh.out _).mono ?_; rintro e w2 ⟨rfl, hb2⟩)
        have HB2 := Lib.hid (below_then HBr.out hb2)
        go_ret2
        refine ⟨j, D == 0, hj, rfl, HLoA.out, HHiA.out, ?_, HB2.out⟩
        rw [HEq.out, ← HCe.out]
        exact ⟨fun h => ⟨hjn, h⟩, fun h => h.2⟩
      · have t2 : decide ((j : Int) < (chs.length : Int)) = false := decide_eq_false (by omega)
        go_wp2_with fail
        go_ret2
        exact ⟨j, false, hj, rfl, HLoA.out, HHiA.out, ⟨(fun h => by cases h), (fun h => absurd h.1 hjn)⟩, HBr.out⟩
end Go.Proofs.YtifhlmakacoicaaDoor

/- zonetext.edit: a change dropped, a change added. -/
namespace Go.Proofs.YtifhlmakacoicaaDoor
open Go.RowKit
set_option linter.unusedVariables false

def DropQ (B : Nat) (A : Option Addr) (c : Nat) (chs : List Chg) (x : Chg) (w : World) (e : Ending) (w' : World) : Prop :=
  ∃ (k : Nat) (A' : Option Addr) (c' : Nat), k < chs.length ∧ chs.getD k chg0 = x ∧ e = .returned (.tuple #[.slice A' (chs.length - 1) c', .int .i64 0]) ∧ w'.ownsRow B 26 3 (.slice A' (chs.length - 1) c') (chs.length - 1) (chCells (chs.eraseIdx k)) ∧ w.grownBy w' (Value.slice A chs.length c).ownBlock ∧
    ∀ b, (Value.slice A' (chs.length - 1) c').ownBlock = some b → (Value.slice A chs.length c).ownBlock = some b ∨ w.heap.size ≤ b
set_option maxHeartbeats 2000000 in
set_option maxRecDepth 100000 in
theorem edit_drop (B : Nat) (A : Option Addr) (c : Nat) (chs : List Chg) (x : Chg) (w : World) (ho : w.ownsRow B 26 3 (.slice A chs.length c) chs.length (chCells chs)) (hx : x ∈ chs) (hl : chs.length ≤ 1000) :
    Calls Tryd.prog 53 #[.slice A chs.length c, .agg #[.int .i64 1, .int .i64 x.a, .int .i64 x.o, .string x.l]] w (DropQ B A c chs x w) := by
  have hn : 0 < chs.length := by
    obtain ⟨i, hi, _⟩ := List.mem_iff_getElem.1 hx
    omega
  obtain ⟨g, cap, hv, hbg, hlt⟩ := ho.form hn
  obtain ⟨rfl, rfl⟩ : A = some ⟨g, 0, none⟩ ∧ cap = c := by injection hv; exact ⟨by assumption, by symm; assumption⟩
  have hz := Box.new w 58 #[.int .i64 1, .int .i64 x.a, .int .i64 x.o, .string x.l]
  have hb := below_alloc1 w (Obj.cells #[.int .i64 1, .int .i64 x.a, .int .i64 x.o, .string x.l] 58)
  have HI := Lib.hid (fun W (hW : Below w.heap.size w W) => idx_chs (some ⟨g, 0, none⟩) cap chs x W (Row.of_ownS (own_next ho hW)) hl)
  have HD := Lib.hid (fun W (hW : Below w.heap.size w W) k (hk : k < chs.length) => del_one B g cap k chs W (own_next ho hW) hk hl)
  have HXi := Lib.hid hx
  unfold IdxQ at HI
  unfold DropQ
  clear hv ho hx
  go_enter Tryd.func53, Tryd.ntmps53
  go_upto_region 1 with fail
  generalize w.alloc (Obj.cells #[.int .i64 1, .int .i64 x.a, .int .i64 x.o, .string x.l] 58) = W0 at *
  have z0 : W0.cell? ⟨w.heap.size, 0, none⟩ = some (.int .i64 1) := hz.cell 0
  have z1 : W0.cell? ⟨w.heap.size, 1, none⟩ = some (.int .i64 x.a) := hz.cell 1
  have z2 : W0.cell? ⟨w.heap.size, 2, none⟩ = some (.int .i64 x.o) := hz.cell 2
  have z3 : W0.cell? ⟨w.heap.size, 3, none⟩ = some (.string x.l) := hz.cell 3
  have hzl := hz.lt
  have HB := Lib.hid hb
  clear hz hb
  go_upto_region 4 with (go_at_call 72; refine (HI.out _ HB.out).mono ?_; rintro e w2 ⟨hb2, ⟨rfl, hno⟩ | ⟨k, hk, rfl, hy⟩⟩)
  · exact absurd HXi.out hno
  have HB2 := Lib.hid (below_then HB.out hb2)
  have HDk := Lib.hid (HD.out w2 HB2.out k hk)
  obtain ⟨K, hK⟩ : ∃ K, K = k + 1 := ⟨_, rfl⟩
  rw [← hK] at HDk
  have t1 : decide ((k : Int) < 0) = false := decide_eq_false (by omega)
  have e1 : IntKind.i64.wrap ((k : Int) + 1) = (K : Int) := by rw [IntWalk.i64_in _ (by omega)]; omega
  have HY := Lib.hid hy
  clear hb2 hK hy z0 z1 z2 z3
  go_wp2_with (go_at_call 74; refine HDk.out.mono ?_; rintro e w3 ⟨rfl, ho3, hg3⟩)
  have HF := Lib.hid ho3
  have HG := Lib.hid ((grown_bel (row := some g) HB2.out).trans hg3)
  clear ho3 hg3
  go_ret2
  exact ⟨k, some ⟨g, 0, none⟩, cap, hk, HY.out, rfl, HF.out, HG.out, fun b hb => .inl hb⟩

def AddQ (B : Nat) (A : Option Addr) (c : Nat) (chs : List Chg) (x : Chg) (w : World) (e : Ending) (w' : World) : Prop :=
  ∃ (k : Nat) (A' : Option Addr) (c' : Nat), k ≤ chs.length ∧ (∀ i, i < k → (chs.getD i chg0).a < x.a) ∧ (∀ i, k ≤ i → i < chs.length → x.a < (chs.getD i chg0).a) ∧ e = .returned (.tuple #[.slice A' (chs.length + 1) c', .int .i64 0]) ∧ w'.ownsRow B 26 3 (.slice A' (chs.length + 1) c') (chs.length + 1) (chCells (chs.take k ++ [x] ++ chs.drop k)) ∧ w.grownBy w' (Value.slice A chs.length c).ownBlock ∧
    ∀ b, (Value.slice A' (chs.length + 1) c').ownBlock = some b → (Value.slice A chs.length c).ownBlock = some b ∨ w.heap.size ≤ b
set_option maxHeartbeats 2000000 in
set_option maxRecDepth 100000 in
theorem edit_add (B : Nat) (A : Option Addr) (c : Nat) (chs : List Chg) (x : Chg) (w : World) (hB : B ≤ w.heap.size) (ho : w.ownsRow B 26 3 (.slice A chs.length c) chs.length (chCells chs)) (hs : Sorted chs) (hne : ∀ i, i < chs.length → (chs.getD i chg0).a ≠ x.a) (hl : chs.length ≤ 1000) :
    Calls Tryd.prog 53 #[.slice A chs.length c, .agg #[.int .i64 2, .int .i64 x.a, .int .i64 x.o, .string x.l]] w (AddQ B A c chs x w) := by
  have hz := Box.new w 58 #[.int .i64 2, .int .i64 x.a, .int .i64 x.o, .string x.l]
  have hb := below_alloc1 w (Obj.cells #[.int .i64 2, .int .i64 x.a, .int .i64 x.o, .string x.l] 58)
  have HI := Lib.hid (fun W (hW : Below w.heap.size w W) => bs_chs A c chs x.a W (Row.of_ownS (own_next ho hW)) hl hs)
  have HO := Lib.hid (fun W (hW : Below w.heap.size w W) => own_next ho hW)
  have HOw := Lib.hid (fun b hb => (own_lt ho b hb).2)
  have HNe := Lib.hid hne
  unfold BsQ at HI
  unfold AddQ
  clear ho hne hs
  go_enter Tryd.func53, Tryd.ntmps53
  go_upto_region 1 with fail
  generalize w.alloc (Obj.cells #[.int .i64 2, .int .i64 x.a, .int .i64 x.o, .string x.l] 58) = W0 at *
  have z0 : W0.cell? ⟨w.heap.size, 0, none⟩ = some (.int .i64 2) := hz.cell 0
  have z1 : W0.cell? ⟨w.heap.size, 1, none⟩ = some (.int .i64 x.a) := hz.cell 1
  have hzl := hz.lt
  have HB := Lib.hid hb
  have HZ := Lib.hid hz
  clear hz hb
  go_upto_region 9 with (go_at_call 75; refine (HI.out _ HB.out).mono ?_; rintro e w2 ⟨k, f, hk, rfl, hlo, hhi, hf, hb2⟩)
  obtain rfl : f = false := by
    cases f with
    | false => rfl
    | true => exact absurd (hf.1 rfl).2 (HNe.out k (hf.1 rfl).1)
  have HLo := Lib.hid hlo
  have HHi : Hid (∀ i, k ≤ i → i < chs.length → x.a < (chs.getD i chg0).a) := fun i h1 h2 => by
    have := hhi i h1 h2
    have := HNe.out i h2
    omega
  have hz2 := HZ.out.below hb2
  have HB2 := Lib.hid (below_then HB.out hb2)
  clear hlo hhi hf hb2 z0 z1 hzl
  have z1 : w2.cell? ⟨w.heap.size, 1, none⟩ = some (.int .i64 x.a) := hz2.cell 1
  have z2 : w2.cell? ⟨w.heap.size, 2, none⟩ = some (.int .i64 x.o) := hz2.cell 2
  have z3 : w2.cell? ⟨w.heap.size, 3, none⟩ = some (.string x.l) := hz2.cell 3
  have hzl := hz2.lt
  have hx3 := Box.new w2 26 #[.int .i64 x.a, .int .i64 x.o, .string x.l]
  have hb3 := below_then HB2.out (below_alloc1 w2 (Obj.cells #[.int .i64 x.a, .int .i64 x.o, .string x.l] 26))
  have HC := Lib.hid (cins_any B w2.heap.size k (.slice A chs.length c) chs x _ (HO.out _ hb3) hx3 (fun e => by have := HOw.out _ e; have := HB2.out.size; omega) (by have := hb3.size; omega) hk (by omega))
  have HB3 := Lib.hid hb3
  clear hx3 hb3 hz2
  go_wp2_with (go_at_call 77; refine HC.out.mono ?_; rintro e w4 ⟨v', rfl, ho4, hg4, hbk4⟩)
  obtain ⟨A', c', rfl, _⟩ := own_form ho4
  have HO4 := Lib.hid ho4
  have HG4 : Hid (w.grownBy w4 (Value.slice A chs.length c).ownBlock) := (grown_bel HB3.out).trans hg4
  have HK4 : Hid (∀ b, (Value.slice A' (chs.length + 1) c').ownBlock = some b → (Value.slice A chs.length c).ownBlock = some b ∨ w.heap.size ≤ b) := fun b hb => (hbk4 b hb).imp id fun h => by have := HB3.out.size; omega
  clear ho4 hg4 hbk4
  go_wp2_with fail
  go_ret2
  exact ⟨k, A', c', hk, HLo.out, HHi.out, rfl, HO4.out, HG4.out, HK4.out⟩
end Go.Proofs.YtifhlmakacoicaaDoor

/- What Diff gives and what Apply makes of it, plain. -/
namespace Go.Proofs.YtifhlmakacoicaaDoor
set_option linter.unusedVariables false

def chgOf (x : Ed) : Chg := ⟨x.at_, x.e.o, x.e.l⟩
/-- the edits that turn la into lb, by instant, drops ahead of adds -/
structure EdsOk (la lb : List Chg) (n : Nat) (d : Nat → Ed) : Prop where
  each : ∀ i, i < n → ((d i).e.k = 1 ∧ chgOf (d i) ∈ la ∧ chgOf (d i) ∉ lb) ∨ ((d i).e.k = 2 ∧ chgOf (d i) ∈ lb ∧ chgOf (d i) ∉ la)
  drops : ∀ x, x ∈ la → x ∉ lb → ∃ i, i < n ∧ (d i).e.k = 1 ∧ chgOf (d i) = x
  adds : ∀ x, x ∈ lb → x ∉ la → ∃ i, i < n ∧ (d i).e.k = 2 ∧ chgOf (d i) = x
  ord : ∀ i j, i < j → j < n → (d i).at_ < (d j).at_ ∨ ((d i).at_ = (d j).at_ ∧ (d i).e.k = 1 ∧ (d j).e.k = 2)
def PW (l : List Chg) : Prop := l.Pairwise fun x y => x.a < y.a
theorem getD_get (l : List Chg) (i : Nat) (h : i < l.length) : l.getD i chg0 = l[i] := by rw [List.getD_eq_getElem?_getD, List.getElem?_eq_getElem h]; rfl
theorem Sorted.pw {l : List Chg} (h : Sorted l) : PW l := by
  unfold PW
  rw [List.pairwise_iff_getElem]
  intro i j hi hj hij
  have := h.lt (j - i - 1) i (by omega)
  rw [show i + (j - i - 1) + 1 = j from by omega, getD_get l i hi, getD_get l j hj] at this
  exact this
theorem PW.sorted {l : List Chg} (h : PW l) : Sorted l := by
  unfold PW at h
  rw [List.pairwise_iff_getElem] at h
  intro i h0 hi
  rw [getD_get l _ (by omega), getD_get l i hi]
  exact h (i - 1) i (by omega) hi (by omega)
theorem PW.uniq {l : List Chg} (h : PW l) {x y : Chg} (hx : x ∈ l) (hy : y ∈ l) (e : x.a = y.a) : x = y := by
  unfold PW at h
  rw [List.pairwise_iff_getElem] at h
  obtain ⟨i, hi, rfl⟩ := List.mem_iff_getElem.1 hx
  obtain ⟨j, hj, rfl⟩ := List.mem_iff_getElem.1 hy
  rcases Nat.lt_trichotomy i j with c | c | c
  · have := h i j hi hj c; omega
  · subst c; rfl
  · have := h j i hj hi c; omega
theorem PW.same : ∀ {l l' : List Chg}, PW l → PW l' → (∀ x, x ∈ l ↔ x ∈ l') → l = l'
  | [], [], _, _, _ => rfl
  | [], y :: r, _, _, h => absurd ((h y).2 (List.mem_cons_self ..)) (by simp)
  | x :: r, [], _, _, h => absurd ((h x).1 (List.mem_cons_self ..)) (by simp)
  | x :: r, y :: r', h1, h2, h => by
    obtain ⟨a1, b1⟩ := List.pairwise_cons.1 h1
    obtain ⟨a2, b2⟩ := List.pairwise_cons.1 h2
    have e : x = y := by
      rcases List.mem_cons.1 ((h x).1 (List.mem_cons_self ..)) with e | e
      · exact e
      · rcases List.mem_cons.1 ((h y).2 (List.mem_cons_self ..)) with e' | e'
        · exact e'.symm
        · have := a2 x e
          have := a1 y e'
          omega
    subst e
    congr 1
    refine PW.same b1 b2 fun z => ⟨fun hz => ?_, fun hz => ?_⟩
    · rcases List.mem_cons.1 ((h z).1 (List.mem_cons_of_mem _ hz)) with e | e
      · subst e; have := a1 z hz; omega
      · exact e
    · rcases List.mem_cons.1 ((h z).2 (List.mem_cons_of_mem _ hz)) with e | e
      · subst e; have := a2 z hz; omega
      · exact e
/-- the list under way: i edits are done -/
structure Cur (la : List Chg) (d : Nat → Ed) (i : Nat) (l : List Chg) : Prop where
  pw : PW l
  len : l.length ≤ la.length + i
  mem : ∀ x, x ∈ l ↔ (x ∈ la ∧ ¬ ∃ j, j < i ∧ (d j).e.k = 1 ∧ chgOf (d j) = x) ∨ ∃ j, j < i ∧ (d j).e.k = 2 ∧ chgOf (d j) = x
theorem Cur.start {la : List Chg} (d : Nat → Ed) (h : PW la) : Cur la d 0 la := ⟨h, by omega, fun x => ⟨fun hx => .inl ⟨hx, fun ⟨j, hj, _⟩ => by omega⟩, fun hx => by
  rcases hx with ⟨hx, _⟩ | ⟨j, hj, _⟩
  · exact hx
  · omega⟩⟩
theorem EdsOk.one {la lb : List Chg} {n : Nat} {d : Nat → Ed} (h : EdsOk la lb n d) {i j : Nat} (hi : i < n) (hj : j < n) (hk : (d i).e.k = (d j).e.k) (e : chgOf (d i) = chgOf (d j)) : i = j := by
  have ea : (d i).at_ = (d j).at_ := congrArg Chg.a e
  rcases Nat.lt_trichotomy i j with c | c | c
  · have := h.ord i j c hj; omega
  · exact c
  · have := h.ord j i c hi; omega
theorem Cur.has {la lb : List Chg} {n : Nat} {d : Nat → Ed} (h : EdsOk la lb n d) {i : Nat} {l : List Chg} (c : Cur la d i l) (hi : i < n) (hk : (d i).e.k = 1) : chgOf (d i) ∈ l := by
  have hla : chgOf (d i) ∈ la := by
    rcases h.each i hi with h | h
    · exact h.2.1
    · have := h.1; omega
  refine (c.mem _).2 (.inl ⟨hla, fun ⟨j, hj, hk', e⟩ => ?_⟩)
  have := h.one (i := j) (j := i) (by omega) hi (by omega) e
  omega
theorem Cur.drop {la lb : List Chg} {n : Nat} {d : Nat → Ed} (h : EdsOk la lb n d) {i k : Nat} {l : List Chg} (c : Cur la d i l) (hi : i < n) (hk : (d i).e.k = 1) (hkl : k < l.length) (e : l.getD k chg0 = chgOf (d i)) : Cur la d (i + 1) (l.eraseIdx k) := by
  rw [getD_get l k hkl] at e
  have hm : ∀ x, x ∈ l.eraseIdx k ↔ x ∈ l ∧ x ≠ chgOf (d i) := fun x => by
    rw [List.mem_eraseIdx_iff_getElem]
    constructor
    · rintro ⟨j, hj, hne, rfl⟩
      refine ⟨List.getElem_mem hj, fun e' => ?_⟩
      have hp := c.pw
      unfold PW at hp
      rw [List.pairwise_iff_getElem] at hp
      rw [← e] at e'
      have ea := congrArg Chg.a e'
      rcases Nat.lt_trichotomy j k with q | q | q
      · have := hp j k hj hkl q; omega
      · exact hne q
      · have := hp k j hkl hj q; omega
    · rintro ⟨hx, hne⟩
      obtain ⟨j, hj, rfl⟩ := List.mem_iff_getElem.1 hx
      exact ⟨j, hj, fun q => hne (by subst q; exact e), rfl⟩
  refine ⟨c.pw.sublist (List.eraseIdx_sublist ..), ?_, fun x => ?_⟩
  · rw [List.length_eraseIdx_of_lt hkl]; have := c.len; omega
  · rw [hm, c.mem]
    constructor
    · rintro ⟨⟨hx, hno⟩ | ⟨j, hj, hk2, e2⟩, hne⟩
      · refine .inl ⟨hx, fun ⟨j, hj, hk1, e1⟩ => ?_⟩
        by_cases q : j = i
        · subst q; exact hne e1.symm
        · exact hno ⟨j, by omega, hk1, e1⟩
      · exact .inr ⟨j, by omega, hk2, e2⟩
    · rintro (⟨hx, hno⟩ | ⟨j, hj, hk2, e2⟩)
      · exact ⟨.inl ⟨hx, fun ⟨j, hj, hk1, e1⟩ => hno ⟨j, by omega, hk1, e1⟩⟩, fun e1 => hno ⟨i, by omega, hk, e1.symm⟩⟩
      · have hji : j ≠ i := fun q => by subst q; omega
        refine ⟨.inr ⟨j, by omega, hk2, e2⟩, fun e1 => ?_⟩
        rcases h.each i hi with a | a
        · rcases h.each j (by omega) with b | b
          · have := b.1; omega
          · rw [e2, e1] at b; exact a.2.2 b.2.1
        · have := a.1; omega
end Go.Proofs.YtifhlmakacoicaaDoor

/- Adding a change; the end of Apply; the edits out of the sorted row, plain. -/
namespace Go.Proofs.YtifhlmakacoicaaDoor
set_option linter.unusedVariables false

theorem Cur.free {la lb : List Chg} {n : Nat} {d : Nat → Ed} (h : EdsOk la lb n d) (ha : PW la) (hb : PW lb) {i : Nat} {l : List Chg} (c : Cur la d i l) (hi : i < n) (hk : (d i).e.k = 2) : ∀ y, y ∈ l → y.a ≠ (chgOf (d i)).a := fun y hy e => by
  have hx : chgOf (d i) ∈ lb ∧ chgOf (d i) ∉ la := by
    rcases h.each i hi with a | a
    · have := a.1; omega
    · exact a.2
  rcases (c.mem y).1 hy with ⟨hya, hno⟩ | ⟨j, hj, hk2, e2⟩
  · by_cases hyb : y ∈ lb
    · exact hx.2 (by rw [← hb.uniq hyb hx.1 e]; exact hya)
    · obtain ⟨j, hj, hk1, e1⟩ := h.drops y hya hyb
      have ej : (d j).at_ = (d i).at_ := by rw [← e1] at e; exact e
      rcases Nat.lt_trichotomy j i with q | q | q
      · exact hno ⟨j, q, hk1, e1⟩
      · subst q; omega
      · have := h.ord i j q hj; omega
  · have ej : (d j).at_ = (d i).at_ := by rw [← e2] at e; exact e
    have := h.ord j i hj hi
    omega
theorem Cur.add {la lb : List Chg} {n : Nat} {d : Nat → Ed} (h : EdsOk la lb n d) {i k : Nat} {l : List Chg} (c : Cur la d i l) (hi : i < n) (hk : (d i).e.k = 2) (hkl : k ≤ l.length) (hlo : ∀ q, q < k → (l.getD q chg0).a < (chgOf (d i)).a) (hhi : ∀ q, k ≤ q → q < l.length → (chgOf (d i)).a < (l.getD q chg0).a) : Cur la d (i + 1) (l.take k ++ [chgOf (d i)] ++ l.drop k) := by
  have hsp : l.take k ++ l.drop k = l := List.take_append_drop k l
  have hp := c.pw
  unfold PW at hp
  have hlo' : ∀ y, y ∈ l.take k → y.a < (chgOf (d i)).a := fun y hy => by
    obtain ⟨q, hq, rfl⟩ := List.mem_iff_getElem.1 hy
    rw [List.length_take] at hq
    rw [List.getElem_take]
    have := hlo q (by omega)
    rw [getD_get l q (by omega)] at this
    exact this
  have hhi' : ∀ y, y ∈ l.drop k → (chgOf (d i)).a < y.a := fun y hy => by
    obtain ⟨q, hq, rfl⟩ := List.mem_iff_getElem.1 hy
    rw [List.length_drop] at hq
    rw [List.getElem_drop]
    have := hhi (k + q) (by omega) (by omega)
    rw [getD_get l (k + q) (by omega)] at this
    exact this
  rw [← hsp, List.pairwise_append] at hp
  obtain ⟨p1, p2, p3⟩ := hp
  refine ⟨?_, ?_, fun x => ?_⟩
  · unfold PW
    rw [List.pairwise_append, List.pairwise_append]
    refine ⟨⟨p1, List.pairwise_singleton _ _, fun y hy z hz => ?_⟩, p2, fun y hy z hz => ?_⟩
    · rw [List.mem_singleton.1 hz]; exact hlo' y hy
    · rcases List.mem_append.1 hy with hy | hy
      · exact p3 y hy z hz
      · rw [List.mem_singleton.1 hy]; exact hhi' z hz
  · have := c.len
    rw [List.length_append, List.length_append, List.length_take, List.length_drop, List.length_singleton]
    omega
  · have hm : x ∈ l.take k ++ [chgOf (d i)] ++ l.drop k ↔ x ∈ l ∨ x = chgOf (d i) := by
      have : x ∈ l ↔ x ∈ l.take k ∨ x ∈ l.drop k := by
        rw [← List.mem_append, hsp]
      rw [List.mem_append, List.mem_append, List.mem_singleton, this]
      constructor
      · rintro ((a | a) | a)
        · exact .inl (.inl a)
        · exact .inr a
        · exact .inl (.inr a)
      · rintro ((a | a) | a)
        · exact .inl (.inl a)
        · exact .inr a
        · exact .inl (.inr a)
    rw [hm, c.mem]
    constructor
    · rintro ((⟨hx, hno⟩ | ⟨j, hj, hk2, e2⟩) | e)
      · refine .inl ⟨hx, fun ⟨j, hj, hk1, e1⟩ => ?_⟩
        by_cases q : j = i
        · subst q; omega
        · exact hno ⟨j, by omega, hk1, e1⟩
      · exact .inr ⟨j, by omega, hk2, e2⟩
      · exact .inr ⟨i, by omega, hk, e.symm⟩
    · rintro (⟨hx, hno⟩ | ⟨j, hj, hk2, e2⟩)
      · exact .inl (.inl ⟨hx, fun ⟨j, hj, hk1, e1⟩ => hno ⟨j, by omega, hk1, e1⟩⟩)
      · by_cases q : j = i
        · subst q; exact .inr e2.symm
        · exact .inl (.inr ⟨j, by omega, hk2, e2⟩)
theorem Cur.done {la lb : List Chg} {n : Nat} {d : Nat → Ed} (h : EdsOk la lb n d) (hb : PW lb) {l : List Chg} (c : Cur la d n l) : l = lb := by
  refine c.pw.same hb fun x => ?_
  rw [c.mem]
  constructor
  · rintro (⟨hx, hno⟩ | ⟨j, hj, hk2, e2⟩)
    · refine Classical.byContradiction fun hxb => hno ?_
      exact h.drops x hx hxb
    · rcases h.each j hj with a | a
      · have := a.1; omega
      · rw [← e2]; exact a.2.1
  · intro hx
    by_cases hxa : x ∈ la
    · refine .inl ⟨hxa, fun ⟨j, hj, hk1, e1⟩ => ?_⟩
      rcases h.each j hj with a | a
      · exact a.2.2 (by rw [e1]; exact hx)
      · have := a.1; omega
    · exact .inr (h.adds x hx hxa)
/-- what Diff collects, ahead of the sort -/
def offE (la lb : List Chg) : List Chg := la.filter fun x => decide (x ∉ lb)
theorem mem_offE {la lb : List Chg} {x : Chg} : x ∈ offE la lb ↔ x ∈ la ∧ x ∉ lb := by
  unfold offE
  rw [List.mem_filter, decide_eq_true_eq]
theorem offE_pw {la lb : List Chg} (h : PW la) : PW (offE la lb) := h.sublist (List.filter_sublist ..)
/-- the edits as they are collected -/
def rawE (la lb : List Chg) (i : Nat) : Ed := if i < (offE la lb).length then ⟨⟨1, ((offE la lb).getD i chg0).o, ((offE la lb).getD i chg0).l⟩, ((offE la lb).getD i chg0).a, i⟩ else ⟨⟨2, ((offE lb la).getD (i - (offE la lb).length) chg0).o, ((offE lb la).getD (i - (offE la lb).length) chg0).l⟩, ((offE lb la).getD (i - (offE la lb).length) chg0).a, i⟩
def lenE (la lb : List Chg) : Nat := (offE la lb).length + (offE lb la).length
theorem lenE_comm (la lb : List Chg) : lenE la lb = lenE lb la := Nat.add_comm _ _
theorem lenE_self (l : List Chg) : lenE l l = 0 := by
  have : offE l l = [] := List.eq_nil_iff_forall_not_mem.2 fun x hx => (mem_offE.1 hx).2 (mem_offE.1 hx).1
  unfold lenE
  rw [this]
  rfl
theorem rawE_tag (la lb : List Chg) (i : Nat) : (rawE la lb i).tag = i := by unfold rawE; split <;> rfl
theorem rawE_lo (la lb : List Chg) (i : Nat) (h : i < (offE la lb).length) : (rawE la lb i).e.k = 1 ∧ chgOf (rawE la lb i) = (offE la lb)[i] := by
  unfold rawE
  rw [if_pos h, getD_get _ _ h]
  exact ⟨rfl, rfl⟩
theorem rawE_hi (la lb : List Chg) (i : Nat) (h : i < (offE lb la).length) : (rawE la lb ((offE la lb).length + i)).e.k = 2 ∧ chgOf (rawE la lb ((offE la lb).length + i)) = (offE lb la)[i] := by
  unfold rawE
  rw [if_neg (by omega), show (offE la lb).length + i - (offE la lb).length = i from by omega, getD_get _ _ h]
  exact ⟨rfl, rfl⟩
theorem eds_of {la lb : List Chg} (ha : PW la) (hb : PW lb) {d : Nat → Ed} (hs : Shuf 0 (lenE la lb) (rawE la lb) d) (ho : Sor d 0 (lenE la lb)) : EdsOk la lb (lenE la lb) d := by
  have hall : ∀ i, i < lenE la lb → ((rawE la lb i).e.k = 1 ∧ i < (offE la lb).length ∧ chgOf (rawE la lb i) ∈ offE la lb) ∨ ((rawE la lb i).e.k = 2 ∧ (offE la lb).length ≤ i ∧ chgOf (rawE la lb i) ∈ offE lb la) := fun i hi => by
    unfold lenE at hi
    by_cases c : i < (offE la lb).length
    · obtain ⟨h1, h2⟩ := rawE_lo la lb i c
      exact .inl ⟨h1, c, by rw [h2]; exact List.getElem_mem c⟩
    · obtain ⟨q, rfl⟩ : ∃ q, i = (offE la lb).length + q := ⟨i - (offE la lb).length, by omega⟩
      obtain ⟨h1, h2⟩ := rawE_hi la lb q (by omega)
      exact .inr ⟨h1, by omega, by rw [h2]; exact List.getElem_mem _⟩
  refine ⟨fun i hi => ?_, fun x hx hxb => ?_, fun x hx hxa => ?_, fun i j hij hj => ?_⟩
  · obtain ⟨j, _, hj, e⟩ := hs.from_ i (Nat.zero_le _) hi
    rw [e]
    rcases hall j hj with ⟨h1, _, h2⟩ | ⟨h1, _, h2⟩
    · exact .inl ⟨h1, mem_offE.1 h2⟩
    · exact .inr ⟨h1, mem_offE.1 h2⟩
  · obtain ⟨q, hq, e⟩ := List.mem_iff_getElem.1 (mem_offE.2 ⟨hx, hxb⟩)
    obtain ⟨h1, h2⟩ := rawE_lo la lb q hq
    obtain ⟨j, _, hj, e'⟩ := hs.symm.from_ q (Nat.zero_le _) (by unfold lenE; omega)
    exact ⟨j, hj, by rw [← e', h1], by rw [← e', h2, e]⟩
  · obtain ⟨q, hq, e⟩ := List.mem_iff_getElem.1 (mem_offE.2 ⟨hx, hxa⟩)
    obtain ⟨h1, h2⟩ := rawE_hi la lb q hq
    obtain ⟨j, _, hj, e'⟩ := hs.symm.from_ ((offE la lb).length + q) (Nat.zero_le _) (by unfold lenE; omega)
    exact ⟨j, hj, by rw [← e', h1], by rw [← e', h2, e]⟩
  · have hlt := ho i j (Nat.zero_le _) hij hj
    rcases hlt with h | ⟨h, ht⟩
    · exact .inl h
    · obtain ⟨p, _, hp, ep⟩ := hs.from_ i (Nat.zero_le _) (by omega)
      obtain ⟨q, _, hq, eq⟩ := hs.from_ j (Nat.zero_le _) hj
      rw [ep, eq] at h ht ⊢
      rw [rawE_tag, rawE_tag] at ht
      refine .inr ⟨h, ?_⟩
      rcases hall p hp with ⟨p1, p2, p3⟩ | ⟨p1, p2, p3⟩
      · rcases hall q hq with ⟨q1, q2, q3⟩ | ⟨q1, q2, q3⟩
        · have e := (offE_pw ha).uniq p3 q3 h
          obtain ⟨_, x1⟩ := rawE_lo la lb p p2
          obtain ⟨_, x2⟩ := rawE_lo la lb q q2
          have hpw := offE_pw (lb := lb) ha
          unfold PW at hpw
          rw [List.pairwise_iff_getElem] at hpw
          have := hpw p q p2 q2 ht
          rw [← x1, ← x2, e] at this
          omega
        · exact ⟨p1, q1⟩
      · rcases hall q hq with ⟨q1, q2, q3⟩ | ⟨q1, q2, q3⟩
        · omega
        · have e := (offE_pw hb).uniq p3 q3 h
          unfold lenE at hp hq
          obtain ⟨p', rfl⟩ : ∃ p', p = (offE la lb).length + p' := ⟨p - (offE la lb).length, by omega⟩
          obtain ⟨q', rfl⟩ : ∃ q', q = (offE la lb).length + q' := ⟨q - (offE la lb).length, by omega⟩
          obtain ⟨_, x1⟩ := rawE_hi la lb p' (by omega)
          obtain ⟨_, x2⟩ := rawE_hi la lb q' (by omega)
          have hpw := offE_pw (lb := la) hb
          unfold PW at hpw
          rw [List.pairwise_iff_getElem] at hpw
          have := hpw p' q' (by omega) (by omega) (by omega)
          rw [← x1, ← x2, e] at this
          omega
end Go.Proofs.YtifhlmakacoicaaDoor

/- The cells of collected edits; they are rawE; their bounds. -/
namespace Go.Proofs.YtifhlmakacoicaaDoor
open Go.RowKit
set_option linter.unusedVariables false

/-- the cells of edits of one kind -/
def ecs (k : Int) (l : List Chg) : List Value := l.flatMap fun c => [.int .i64 k, .int .i64 c.a, .int .i64 c.o, .string c.l]
theorem ecs_append (k : Int) (a b : List Chg) : ecs k (a ++ b) = ecs k a ++ ecs k b := by simp [ecs]
theorem ecs_length (k : Int) (l : List Chg) : (ecs k l).length = l.length * 4 := by
  induction l with
  | nil => rfl
  | cons x r ih => simp only [ecs, List.flatMap_cons, List.length_append, List.length_cons, List.length_nil] at *; omega
theorem offE_snoc (l lb : List Chg) (x : Chg) : offE (l ++ [x]) lb = if x ∈ lb then offE l lb else offE l lb ++ [x] := by
  unfold offE
  rw [List.filter_append]
  split
  · rename_i h; simp [h]
  · rename_i h; simp [h]
theorem infoEd : (Tryd.prog.info? 58).map (fun i => (i.zero, i.size, i.bytes)) = some (some (.agg #[.int .i64 0, .int .i64 0, .int .i64 0, .string ⟨#[]⟩]), 4, 40) := by kernel_rfl
theorem ecs_get (k : Int) : ∀ (l : List Chg) (i : Nat) (h : i < l.length), (ecs k l)[i * 4]? = some (.int .i64 k) ∧ (ecs k l)[i * 4 + 1]? = some (.int .i64 l[i].a) ∧ (ecs k l)[i * 4 + 2]? = some (.int .i64 l[i].o) ∧ (ecs k l)[i * 4 + 3]? = some (.string l[i].l)
  | x :: r, 0, h => ⟨rfl, rfl, rfl, rfl⟩
  | x :: r, i + 1, h => by
    have hr : ∀ j, (ecs k (x :: r))[i * 4 + 4 + j]? = (ecs k r)[i * 4 + j]? := fun j => by
      show ([.int .i64 k, .int .i64 x.a, .int .i64 x.o, .string x.l] ++ ecs k r)[i * 4 + 4 + j]? = _
      rw [List.getElem?_append_right (by simp; omega)]
      congr 1
      simp
      omega
    have := ecs_get k r i (by simpa using h)
    rw [show (i + 1) * 4 = i * 4 + 4 + 0 from by omega, show i * 4 + 4 + 0 + 1 = i * 4 + 4 + 1 from by omega, show i * 4 + 4 + 0 + 2 = i * 4 + 4 + 2 from by omega, show i * 4 + 4 + 0 + 3 = i * 4 + 4 + 3 from by omega, hr, hr, hr, hr]
    exact this
theorem own_eds (base : Nat) (v : Value) (la lb : List Chg) (w : World) (h : w.ownsRow base 58 4 v (lenE la lb) (ecs 1 (offE la lb) ++ ecs 2 (offE lb la))) (h0 : 0 < lenE la lb) : ∃ g c, v = .slice (some ⟨g, 0, none⟩) (lenE la lb) c ∧ base ≤ g ∧ EdIn w g (lenE la lb) (rawE la lb) := by
  rcases h.2 with ⟨_, hn⟩ | ⟨g, c, cur, rfl, hb, hg, h1, h2, h3, h4⟩
  · omega
  · refine ⟨g, c, rfl, hb, cur, hg, ?_, fun i hi => ?_⟩
    · rw [h3]; exact Nat.mul_le_mul_right 4 h1
    · have hc : ∀ j, j < lenE la lb * 4 → cur[j]? = (ecs 1 (offE la lb) ++ ecs 2 (offE lb la))[j]? := fun j hj => by
        rw [← h4, List.getElem?_take, if_pos hj, Array.getElem?_toList]
      rw [hc _ (by omega), hc _ (by omega), hc _ (by omega), hc _ (by omega)]
      unfold rawE
      by_cases q : i < (offE la lb).length
      · have hl : ∀ j, j < 4 → (ecs 1 (offE la lb) ++ ecs 2 (offE lb la))[i * 4 + j]? = (ecs 1 (offE la lb))[i * 4 + j]? := fun j hj => List.getElem?_append_left (by rw [ecs_length]; omega)
        have hx := ecs_get 1 (offE la lb) i q
        rw [if_pos q, getD_get _ _ q]
        have := hl 0 (by omega)
        rw [Nat.add_zero] at this
        rw [this, hl 1 (by omega), hl 2 (by omega), hl 3 (by omega)]
        exact hx
      · obtain ⟨p, rfl⟩ : ∃ p, i = (offE la lb).length + p := ⟨i - (offE la lb).length, by omega⟩
        have hp : p < (offE lb la).length := by unfold lenE at hi; omega
        have hl : ∀ j, j < 4 → (ecs 1 (offE la lb) ++ ecs 2 (offE lb la))[((offE la lb).length + p) * 4 + j]? = (ecs 2 (offE lb la))[p * 4 + j]? := fun j hj => by
          rw [List.getElem?_append_right (by rw [ecs_length]; omega), ecs_length]
          congr 1
          omega
        have hx := ecs_get 2 (offE lb la) p hp
        rw [if_neg q, show (offE la lb).length + p - (offE la lb).length = p from by omega, getD_get _ _ hp]
        have := hl 0 (by omega)
        rw [Nat.add_zero, Nat.add_zero] at this
        rw [this, hl 1 (by omega), hl 2 (by omega), hl 3 (by omega)]
        exact hx
theorem raw_bd {la lb : List Chg} {nm : ByteArray} {f : Int} (ha : ZoneOk nm f la) (hb : ZoneOk nm f lb) : Bd (rawE la lb) := fun i => by
  have key : ∀ l : List Chg, ZoneOk nm f l → ∀ x ∈ l, -1000000000000000000 ≤ x.a ∧ x.a ≤ 1000000000000000000 := fun l hl x hx => by
    obtain ⟨j, hj, rfl⟩ := List.mem_iff_getElem.1 hx
    have := (hl.2.2.2 j hj).1
    rw [getD_get l j hj] at this
    unfold InstOk at this
    omega
  have z0 : -1000000000000000000 ≤ chg0.a ∧ chg0.a ≤ 1000000000000000000 := by decide
  have kk : ∀ l l' : List Chg, ZoneOk nm f l → ∀ j, -1000000000000000000 ≤ ((offE l l').getD j chg0).a ∧ ((offE l l').getD j chg0).a ≤ 1000000000000000000 := fun l l' hl j => by
    by_cases q : j < (offE l l').length
    · rw [getD_get _ _ q]
      exact key l hl _ (mem_offE.1 (List.getElem_mem q)).1
    · rw [List.getD_eq_getElem?_getD, List.getElem?_eq_none (by omega)]
      exact z0
  unfold rawE
  split
  · exact kk la lb ha i
  · exact kk lb la hb _
end Go.Proofs.YtifhlmakacoicaaDoor

/- zonetext.Apply. -/
namespace Go.Proofs.YtifhlmakacoicaaDoor
open Go.RowKit
set_option linter.unusedVariables false

def ApplyQ (nm : ByteArray) (f : Int) (lb : List Chg) (w : World) (e : Ending) (w' : World) : Prop :=
  ∃ (A' : Option Addr) (c' : Nat), e = .returned (.tuple #[.agg #[.string nm, .int .i64 f, .slice A' lb.length c'], .int .i64 0]) ∧ Row w' w'.heap.size A' (chCells lb) ∧ Below w.heap.size w w'
set_option maxHeartbeats 8000000 in
set_option maxRecDepth 100000 in
theorem apply_any (nm : ByteArray) (f : Int) (A : Option Addr) (c : Nat) (la lb : List Chg) (E : Option Addr) (ce m : Nat) (d : Nat → Ed) (w : World) (hz : ZIn w nm A la) (hA : ZoneOk nm f la) (hB : ZoneOk nm f lb) (hfit : ∀ x ∈ lb, ChgFit x) (hm : m ≤ 400) (he : EdsOk la lb m d) (hE : 0 < m → ∃ ge, E = some ⟨ge, 0, none⟩ ∧ EdIn w ge m d) :
    Calls Tryd.prog 19 #[.agg #[.string nm, .int .i64 f, .slice A la.length c], .slice E m ce] w (ApplyQ nm f lb w) := by
  have h1 := below_alloc2 w (Obj.cells #[.string nm, .int .i64 f, .slice A la.length c] 24) (Obj.cells #[.string ⟨#[]⟩, .int .i64 0, .slice none 0 0] 24)
  have y1 := (Box.new w 24 #[.string nm, .int .i64 f, .slice A la.length c]).alloc (Obj.cells #[.string ⟨#[]⟩, .int .i64 0, .slice none 0 0] 24)
  have y2 := Box.new (w.alloc (Obj.cells #[.string nm, .int .i64 f, .slice A la.length c] 24)) 24 #[.string ⟨#[]⟩, .int .i64 0, .slice none 0 0]
  rw [World.size_alloc] at y2
  have HZ := Lib.hid (fun W (hW : Below w.heap.size w W) => hz.next hW)
  have HA := Lib.hid hA
  have HBk := Lib.hid hB
  have HE := Lib.hid he
  have HEi : Hid (∀ W, Below w.heap.size w W → 0 < m → ∃ ge, E = some ⟨ge, 0, none⟩ ∧ EdIn W ge m d) := fun W hW h => by
    obtain ⟨ge, h1, h2⟩ := hE h
    exact ⟨ge, h1, h2.below hW⟩
  clear hz hA hB he hE
  unfold ApplyQ
  go_enter Tryd.func19, Tryd.ntmps19
  go_upto_region 1 with fail
  generalize (w.alloc (Obj.cells #[.string nm, .int .i64 f, .slice A la.length c] 24)).alloc (Obj.cells #[.string ⟨#[]⟩, .int .i64 0, .slice none 0 0] 24) = W0 at *
  obtain ⟨g, hg⟩ : ∃ g, g = w.heap.size := ⟨_, rfl⟩
  rw [← hg] at y1 y2 ⊢
  have HG := Lib.hid hg
  have HB0 := Lib.hid h1
  have HX0 := Lib.hid y1
  have HY0 := Lib.hid y2
  have x0 : W0.cell? ⟨g, 0, none⟩ = some (.string nm) := y1.cell 0
  have x1 : W0.cell? ⟨g, 1, none⟩ = some (.int .i64 f) := y1.cell 1
  have x2 : W0.cell? ⟨g, 2, none⟩ = some (.slice A la.length c) := y1.cell 2
  have hxl := y1.lt
  have HC1 := Lib.hid ((HZ.out W0 h1).check f c)
  unfold IsChk at HC1
  have t1 : decide ((400 : Int) < (m : Int)) = false := decide_eq_false (by omega)
  clear hg h1 y1 y2
  go_upto_region 2 with (go_at_call 23; refine HC1.out.mono ?_; rintro e w1 ⟨E1, rfl, hE1, hb1⟩)
  obtain rfl : E1 = 0 := hE1.2 HA.out
  have HB1 := Lib.hid (below_then HB0.out hb1)
  have hx1 := HX0.out.below hb1
  have hy1 := HY0.out.below hb1
  have HX1 := Lib.hid hx1
  have HY1 := Lib.hid hy1
  clear x0 x1 x2 hxl hE1 hb1 HC1 HX0 HY0
  have x0 : w1.cell? ⟨g, 0, none⟩ = some (.string nm) := hx1.cell 0
  have x1 : w1.cell? ⟨g, 1, none⟩ = some (.int .i64 f) := hx1.cell 1
  have x2 : w1.cell? ⟨g, 2, none⟩ = some (.slice A la.length c) := hx1.cell 2
  have hxl := hx1.lt
  have hg1 : g < w1.heap.size := hx1.lt
  have hgy : g + 1 < w1.heap.size := hy1.lt
  have hz2 := Box.new w1 24 #[.string nm, .int .i64 f, .slice A la.length c]
  have hb2 := below_alloc1 w1 (Obj.cells #[.string nm, .int .i64 f, .slice A la.length c] 24)
  clear hx1 hy1
  go_upto_region 7 with fail
  have HX2 := Lib.hid (HX1.out.below hb2)
  have HY2 := Lib.hid (HY1.out.below hb2)
  have HB2 := Lib.hid (below_then HB1.out hb2)
  have h12 := hb2.size
  generalize w1.alloc (Obj.cells #[.string nm, .int .i64 f, .slice A la.length c] 24) = W2 at *
  obtain ⟨g7, hg7⟩ : ∃ g7, g7 = w1.heap.size := ⟨_, rfl⟩
  rw [← hg7] at hz2 hg1 hgy h12 ⊢
  have HZ2 := Lib.hid hz2
  clear x0 x1 x2 hxl hz2 hb2 HX1 HY1 hg7
  have x0 : W2.cell? ⟨g, 0, none⟩ = some (.string nm) := HX2.out.cell 0
  have x1 : W2.cell? ⟨g, 1, none⟩ = some (.int .i64 f) := HX2.out.cell 1
  have x2 : W2.cell? ⟨g, 2, none⟩ = some (.slice A la.length c) := HX2.out.cell 2
  have hxl := HX2.out.lt
  have hzl := HZ2.out.lt
  have hg7b : g7 < W2.heap.size := hzl
  have HCl := Lib.hid (clone_chs A c la W2 (HZ.out W2 HB2.out).row (by have := HA.out.2.2.1; omega))
  unfold IsClone at HCl
  go_upto_region 8 with (go_at_call 52; refine HCl.out.mono ?_; rintro e w3 ⟨v3, rfl, ho3, hb3⟩; obtain ⟨A3, c3, rfl, _⟩ := own_form ho3; have hz3 := HZ2.out.below hb3; have z2 : w3.cell? ⟨g7, 2, none⟩ = some (.slice A la.length c) := hz3.cell 2; have zf := fun i => hz3.free i; have zl := hz3.lt)
  have HZ3 := Lib.hid (hz3.set_ 2 (.slice A3 la.length c3))
  have HX3 := Lib.hid ((HX2.out.below hb3).far (p := ⟨g7, 2, none⟩) (by show g ≠ g7; omega) (.slice A3 la.length c3))
  have HY3 := Lib.hid ((HY2.out.below hb3).far (p := ⟨g7, 2, none⟩) (by show g + 1 ≠ g7; omega) (.slice A3 la.length c3))
  have HB3 := Lib.hid ((below_then HB2.out hb3).setCell (p := ⟨g7, 2, none⟩) (by have := HG.out; show w.heap.size ≤ g7; omega) (.slice A3 la.length c3))
  have HO3 : Hid ((w3.setCell ⟨g7, 2, none⟩ (.slice A3 la.length c3)).ownsRow W2.heap.size 26 3 (.slice A3 la.length c3) la.length (chCells la)) := own_heap ho3 fun b hb => Below.heap_setCell w3 ⟨g7, 2, none⟩ _ b (by have := own_base ho3 b hb; show b ≠ g7; omega)
  have H43 : Hid (W2.heap.size ≤ (w3.setCell ⟨g7, 2, none⟩ (.slice A3 la.length c3)).heap.size) := by unfold Hid; rw [World.size_setCell]; exact hb3.size
  generalize w3.setCell ⟨g7, 2, none⟩ (.slice A3 la.length c3) = W3 at *
  clear x0 x1 x2 hxl hzl z2 zf zl hz3 ho3 hb3 HCl HX2 HY2 HZ2
  obtain ⟨b2, hb2e⟩ : ∃ b2, b2 = W2.heap.size := ⟨_, rfl⟩
  rw [← hb2e] at HO3 H43 hg7b
  have HB2e := Lib.hid hb2e
  have h27 : g7 < b2 ∧ w.heap.size ≤ b2 := by have := HB2.out.size; omega
  clear hb2e
  have hla := Lib.hid HA.out.2.2.1
  have HPa := Lib.hid HA.out.sorted.pw
  go_upto_region 9 with fail
  go_loopw [9, 10, 11, 30] (fun _ _ _ x wr => ∃ (i : Nat) (cur : List Chg) (A4 : Option Addr) (c4 : Nat), x = .int .i64 (i : Int) ∧ i ≤ m ∧ Hid (Cur la d i cur) ∧ Hid (Box wr g7 24 #[.string nm, .int .i64 f, .slice A4 cur.length c4]) ∧ Hid (Box wr (g + 1) 24 #[.string ⟨#[]⟩, .int .i64 0, .slice none 0 0]) ∧ Hid (wr.ownsRow b2 26 3 (.slice A4 cur.length c4) cur.length (chCells cur)) ∧ Hid (Below w.heap.size w wr) ∧ Hid (b2 ≤ wr.heap.size)) (fun _ _ _ x _ => m - (intOf x).toNat)
  case atStart => exact ⟨0, la, A3, c3, rfl, by omega, Cur.start d HPa.out, HZ3, HY3, HO3, HB3, H43⟩
  case round =>
    clear HZ3 HY3 HO3 HB3 HX3 H43
    obtain ⟨i, cur, A4, c4, rfl, hi, hcur, hz4, hy4, ho4, hb4, h4⟩ := hrel
    have HCu := Lib.hid hcur.out
    have HZ4 := Lib.hid hz4.out
    have HY4 := Lib.hid hy4.out
    have HO4 := Lib.hid ho4.out
    have HB4 := Lib.hid hb4.out
    have H4 := Lib.hid h4.out
    clear hcur hz4 hy4 ho4 hb4 h4
    by_cases hlt : i < m
    · have t2 : decide ((i : Int) < (m : Int)) = true := decide_eq_true (by omega)
      have bi : (0 : Int) ≤ (i : Int) ∧ (i : Int) < (m : Int) := by omega
      obtain ⟨ge, rfl, hed⟩ := HEi.out wr HB4.out (by omega)
      obtain ⟨p0, p1, p2, p3⟩ := hed.cells i hlt
      have pl := hed.lt
      clear hed
      go_upto_region 11 with fail
      have hx5 := Box.new wr 58 #[.int .i64 (d i).e.k, .int .i64 (d i).at_, .int .i64 (d i).e.o, .string (d i).e.l]
      have hb5 := below_alloc1 wr (Obj.cells #[.int .i64 (d i).e.k, .int .i64 (d i).at_, .int .i64 (d i).e.o, .string (d i).e.l] 58)
      have HZ5 := Lib.hid (HZ4.out.below hb5)
      have HY5 := Lib.hid (HY4.out.below hb5)
      have HO5 := Lib.hid (own_next HO4.out hb5)
      have HB5 := Lib.hid (below_then HB4.out hb5)
      have H5 := Lib.hid (Nat.le_trans H4.out hb5.size)
      generalize wr.alloc (Obj.cells #[.int .i64 (d i).e.k, .int .i64 (d i).at_, .int .i64 (d i).e.o, .string (d i).e.l] 58) = W5 at *
      generalize wr.heap.size = g5 at *
      clear p0 p1 p2 p3 pl hb5 HZ4 HY4 HO4 HB4 H4
      have e0 : W5.cell? ⟨g5, 0, none⟩ = some (.int .i64 (d i).e.k) := hx5.cell 0
      have e1 : W5.cell? ⟨g5, 1, none⟩ = some (.int .i64 (d i).at_) := hx5.cell 1
      have e2 : W5.cell? ⟨g5, 2, none⟩ = some (.int .i64 (d i).e.o) := hx5.cell 2
      have e3 : W5.cell? ⟨g5, 3, none⟩ = some (.string (d i).e.l) := hx5.cell 3
      have el := hx5.lt
      have z2 : W5.cell? ⟨g7, 2, none⟩ = some (.slice A4 cur.length c4) := HZ5.out.cell 2
      have zl := HZ5.out.lt
      have hcl : cur.length ≤ 1000 := by have := HCu.out.len; have := hla.out; omega
      clear hx5
      rcases HE.out.each i hlt with ⟨hk, _⟩ | ⟨hk, _⟩
      · rw [hk] at e0
        have HDr : Hid (Calls Tryd.prog 53 #[.slice A4 cur.length c4, .agg #[.int .i64 1, .int .i64 (d i).at_, .int .i64 (d i).e.o, .string (d i).e.l]] W5 (DropQ b2 A4 c4 cur (chgOf (d i)) W5)) := edit_drop b2 A4 c4 cur (chgOf (d i)) W5 HO5.out (Cur.has HE.out HCu.out hlt hk) hcl
        go_upto_region 12 with (go_at_call 53; refine HDr.out.mono ?_; rintro e w6 ⟨k, A6, c6, hk6, hy6, rfl, ho6, hg6, hbk6⟩)
        have HCu2 := Lib.hid (Cur.drop HE.out HCu.out hlt hk hk6 hy6)
        have hle : (cur.eraseIdx k).length = cur.length - 1 := List.length_eraseIdx_of_lt hk6
        rw [← hle] at ho6 hbk6 ⊢
        have hzb : some g7 ≠ (Value.slice A4 cur.length c4).ownBlock := fun e => by
          have := own_base HO5.out g7 e.symm
          omega
        have hyb : some (g + 1) ≠ (Value.slice A4 cur.length c4).ownBlock := fun e => by
          have := own_base HO5.out (g + 1) e.symm
          omega
        have hz6 := HZ5.out.grown hg6 hzb
        have z6 : w6.cell? ⟨g7, 2, none⟩ = some (.slice A4 cur.length c4) := hz6.cell 2
        have zf := fun i => hz6.free i
        have zl6 := hz6.lt
        have HZ7 := Lib.hid (hz6.set_ 2 (.slice A6 (cur.eraseIdx k).length c6))
        have HY7 := Lib.hid ((HY5.out.grown hg6 hyb).far (p := ⟨g7, 2, none⟩) (by show g + 1 ≠ g7; omega) (.slice A6 (cur.eraseIdx k).length c6))
        have HO7 : Hid ((w6.setCell ⟨g7, 2, none⟩ (.slice A6 (cur.eraseIdx k).length c6)).ownsRow b2 26 3 (.slice A6 (cur.eraseIdx k).length c6) (cur.eraseIdx k).length (chCells (cur.eraseIdx k))) := own_heap ho6 fun b hb => Below.heap_setCell w6 ⟨g7, 2, none⟩ _ b (by have := own_base ho6 b hb; show b ≠ g7; omega)
        have HB7 := Lib.hid ((HB5.out.grown hg6 HB5.out.size (fun b hb => by have := own_base HO5.out b hb; omega)).setCell (p := ⟨g7, 2, none⟩) (by have := HG.out; show w.heap.size ≤ g7; omega) (.slice A6 (cur.eraseIdx k).length c6))
        have H7 : Hid (b2 ≤ (w6.setCell ⟨g7, 2, none⟩ (.slice A6 (cur.eraseIdx k).length c6)).heap.size) := by unfold Hid; rw [World.size_setCell]; exact Nat.le_trans H5.out hg6.size
        clear hz6 e0 e1 e2 e3 z2 zl el hle hzb hyb ho6 hg6 hbk6
        go_wp2_with fail
        go_roundw
        case rel => exact ⟨i + 1, _, A6, c6, by go_num, by omega, HCu2, HZ7, HY7, HO7, HB7, H7⟩
        case measure => simp [intOf]; omega
      · rw [hk] at e0
        have HAd : Hid (Calls Tryd.prog 53 #[.slice A4 cur.length c4, .agg #[.int .i64 2, .int .i64 (d i).at_, .int .i64 (d i).e.o, .string (d i).e.l]] W5 (AddQ b2 A4 c4 cur (chgOf (d i)) W5)) := edit_add b2 A4 c4 cur (chgOf (d i)) W5 H5.out HO5.out HCu.out.pw.sorted (fun q hq => by rw [getD_get cur q hq]; exact Cur.free HE.out HPa.out HBk.out.sorted.pw HCu.out hlt hk _ (List.getElem_mem hq)) hcl
        go_upto_region 12 with (go_at_call 53; refine HAd.out.mono ?_; rintro e w6 ⟨k, A6, c6, hk6, hlo6, hhi6, rfl, ho6, hg6, hbk6⟩)
        have HCu2 := Lib.hid (Cur.add HE.out HCu.out hlt hk hk6 hlo6 hhi6)
        have hle : (cur.take k ++ [chgOf (d i)] ++ cur.drop k).length = cur.length + 1 := by rw [List.length_append, List.length_append, List.length_take, List.length_drop, List.length_singleton]; omega
        obtain ⟨nw, hnw⟩ : ∃ nw, nw = cur.take k ++ [chgOf (d i)] ++ cur.drop k := ⟨_, rfl⟩
        rw [← hnw] at hle ho6 HCu2
        clear hnw
        rw [← hle] at ho6 hbk6 ⊢
        have hzb : some g7 ≠ (Value.slice A4 cur.length c4).ownBlock := fun e => by
          have := own_base HO5.out g7 e.symm
          omega
        have hyb : some (g + 1) ≠ (Value.slice A4 cur.length c4).ownBlock := fun e => by
          have := own_base HO5.out (g + 1) e.symm
          omega
        have hz6 := HZ5.out.grown hg6 hzb
        have z6 : w6.cell? ⟨g7, 2, none⟩ = some (.slice A4 cur.length c4) := hz6.cell 2
        have zf := fun i => hz6.free i
        have zl6 := hz6.lt
        have HZ7 := Lib.hid (hz6.set_ 2 (.slice A6 nw.length c6))
        have HY7 := Lib.hid ((HY5.out.grown hg6 hyb).far (p := ⟨g7, 2, none⟩) (by show g + 1 ≠ g7; omega) (.slice A6 nw.length c6))
        have HO7 : Hid ((w6.setCell ⟨g7, 2, none⟩ (.slice A6 nw.length c6)).ownsRow b2 26 3 (.slice A6 nw.length c6) nw.length (chCells nw)) := own_heap ho6 fun b hb => Below.heap_setCell w6 ⟨g7, 2, none⟩ _ b (by have := own_base ho6 b hb; show b ≠ g7; omega)
        have HB7 := Lib.hid ((HB5.out.grown hg6 HB5.out.size (fun b hb => by have := own_base HO5.out b hb; omega)).setCell (p := ⟨g7, 2, none⟩) (by have := HG.out; show w.heap.size ≤ g7; omega) (.slice A6 nw.length c6))
        have H7 : Hid (b2 ≤ (w6.setCell ⟨g7, 2, none⟩ (.slice A6 nw.length c6)).heap.size) := by unfold Hid; rw [World.size_setCell]; exact Nat.le_trans H5.out hg6.size
        clear hz6 e0 e1 e2 e3 z2 zl el hle hzb hyb ho6 hg6 hbk6
        go_wp2_with fail
        go_roundw
        case rel => exact ⟨i + 1, _, A6, c6, by go_num, by omega, HCu2, HZ7, HY7, HO7, HB7, H7⟩
        case measure => simp [intOf]; omega
    · obtain rfl : i = m := by omega
      obtain rfl : cur = lb := Cur.done HE.out HBk.out.sorted.pw HCu.out
      have t2 : decide ((i : Int) < (i : Int)) = false := decide_eq_false (by omega)
      have x0 : wr.cell? ⟨g7, 0, none⟩ = some (.string nm) := HZ4.out.cell 0
      have x1 : wr.cell? ⟨g7, 1, none⟩ = some (.int .i64 f) := HZ4.out.cell 1
      have x2 : wr.cell? ⟨g7, 2, none⟩ = some (.slice A4 cur.length c4) := HZ4.out.cell 2
      have xl := HZ4.out.lt
      have hn := (HZ.out wr HB4.out).name
      have HC2 := Lib.hid (zcheck_any nm f A4 c4 cur wr (Row.of_ownS HO4.out) hn (by have := HBk.out.2.2.1; unfold maxLen; omega) hfit)
      unfold IsChk at HC2
      go_upto_region 17 with (go_at_call 23; refine HC2.out.mono ?_; rintro e w8 ⟨E2, rfl, hE2, hb8⟩)
      obtain rfl : E2 = 0 := hE2.2 HBk.out
      have hz8 := HZ4.out.below hb8
      have hy8 := HY4.out.below hb8
      have HR8 := Lib.hid (own_next HO4.out hb8)
      have HB8 := Lib.hid (below_then HB4.out hb8)
      clear x0 x1 x2 xl hE2 hb8
      have x0 : w8.cell? ⟨g7, 0, none⟩ = some (.string nm) := hz8.cell 0
      have x1 : w8.cell? ⟨g7, 1, none⟩ = some (.int .i64 f) := hz8.cell 1
      have x2 : w8.cell? ⟨g7, 2, none⟩ = some (.slice A4 cur.length c4) := hz8.cell 2
      have xl := hz8.lt
      have y0 : w8.cell? ⟨g + 1, 0, none⟩ = some (.string ⟨#[]⟩) := hy8.cell 0
      have y1 : w8.cell? ⟨g + 1, 1, none⟩ = some (.int .i64 0) := hy8.cell 1
      have y2 : w8.cell? ⟨g + 1, 2, none⟩ = some (.slice none 0 0) := hy8.cell 2
      have yf := fun i => hy8.free i
      have yl := hy8.lt
      clear hz8
      have HY9 : Hid (Box (((w8.setCell ⟨g + 1, 0, none⟩ (.string nm)).setCell ⟨g + 1, 1, none⟩ (.int .i64 f)).setCell ⟨g + 1, 2, none⟩ (.slice A4 cur.length c4)) (g + 1) 24 #[.string nm, .int .i64 f, .slice A4 cur.length c4]) := ((hy8.set_ 0 (.string nm)).set_ 1 (.int .i64 f)).set_ 2 (.slice A4 cur.length c4)
      have HR9 : Hid (((((w8.setCell ⟨g + 1, 0, none⟩ (.string nm)).setCell ⟨g + 1, 1, none⟩ (.int .i64 f)).setCell ⟨g + 1, 2, none⟩ (.slice A4 cur.length c4))).ownsRow b2 26 3 (.slice A4 cur.length c4) cur.length (chCells cur)) := own_heap HR8.out fun b hb => by
        have hne : b ≠ g + 1 := by have := own_base HR8.out b hb; omega
        exact (Below.heap_setCell _ ⟨g + 1, 2, none⟩ _ b hne).trans ((Below.heap_setCell _ ⟨g + 1, 1, none⟩ _ b hne).trans (Below.heap_setCell _ ⟨g + 1, 0, none⟩ _ b hne))
      have HB9 : Hid (Below w.heap.size w (((w8.setCell ⟨g + 1, 0, none⟩ (.string nm)).setCell ⟨g + 1, 1, none⟩ (.int .i64 f)).setCell ⟨g + 1, 2, none⟩ (.slice A4 cur.length c4))) := ((HB8.out.setCell (p := ⟨g + 1, 0, none⟩) (by have := HG.out; show w.heap.size ≤ g + 1; omega) _).setCell (p := ⟨g + 1, 1, none⟩) (by have := HG.out; show w.heap.size ≤ g + 1; omega) _).setCell (p := ⟨g + 1, 2, none⟩) (by have := HG.out; show w.heap.size ≤ g + 1; omega) _
      go_wp2_with fail
      generalize (((w8.setCell ⟨g + 1, 0, none⟩ (.string nm)).setCell ⟨g + 1, 1, none⟩ (.int .i64 f)).setCell ⟨g + 1, 2, none⟩ (.slice A4 cur.length c4)) = W9 at *
      have r0 : W9.cell? ⟨g + 1, 0, none⟩ = some (.string nm) := HY9.out.cell 0
      have r1 : W9.cell? ⟨g + 1, 1, none⟩ = some (.int .i64 f) := HY9.out.cell 1
      have r2 : W9.cell? ⟨g + 1, 2, none⟩ = some (.slice A4 cur.length c4) := HY9.out.cell 2
      refine bodyPost_ret (v := .tuple #[.agg #[.string nm, .int .i64 f, .slice A4 cur.length c4], .int .i64 0]) (by simp [results, Tryd.results19, go_sem, r0, r1, r2]) rfl ?_
      exact ⟨A4, c4, rfl, Row.of_ownS HR9.out, HB9.out⟩
end Go.Proofs.YtifhlmakacoicaaDoor

/- SortStableFunc at edits; at no edits. -/
namespace Go.Proofs.YtifhlmakacoicaaDoor
open Go.RowKit
set_option linter.unusedVariables false

set_option maxRecDepth 100000 in
theorem sortst_any (g n c : Nat) (d : Nat → Ed) (w : World) (h : EdIn w g n d) (hB : Bd d) (h3 : n ≤ 1000) (ht : ∀ i, i < n → (d i).tag = i) :
    Calls Tryd.prog 50 #[.slice (some ⟨g, 0, none⟩) n c, .func (.func 51) #[] #[]] w (SortQ g n 0 n d w) := by
  have HC := Lib.hid (stable_any g n c d w h hB h3 ht)
  unfold SortQ at *
  clear h hB ht
  go_enter Tryd.func50, Tryd.ntmps50
  go_wp2_with (go_at_call 73; refine HC.out.mono ?_; rintro e w2 ⟨rfl, d2, hE2, hS2, hO2, hg2⟩)
  have HF : Hid (EdIn w2 g n d2 ∧ Shuf 0 n d d2 ∧ Sor d2 0 n ∧ w.grownBy w2 (some g)) := ⟨hE2, hS2, hO2, hg2⟩
  go_end0
  exact ⟨rfl, d2, HF.out⟩
set_option maxRecDepth 100000 in
theorem insort_nil (F : Value) (w : World) : Calls Tryd.prog 83 #[.slice none 0 0, .int .i64 0, .int .i64 0, F] w fun e w' => e = .returned (.tuple #[]) ∧ w' = w := by
  go_enter Tryd.func83, Tryd.ntmps83
  go_upto_region 1 with fail
  refine wp_loop_rounds 1 ?_
  rw [rounds_succ]
  go_wp2_with fail
  go_end0
  exact ⟨rfl, rfl⟩
set_option maxRecDepth 100000 in
theorem stable_nil (F : Value) (w : World) : Calls Tryd.prog 73 #[.slice none 0 0, .int .i64 0, F] w fun e w' => e = .returned (.tuple #[]) ∧ w' = w := by
  go_enter Tryd.func73, Tryd.ntmps73
  go_upto_region 2 with fail
  refine wp_loop_rounds 1 ?_
  rw [rounds_succ]
  go_upto_region 7 with (go_at_call 83; refine (insort_nil _ _).mono ?_; rintro e w2 ⟨rfl, rfl⟩)
  refine wp_loop_rounds 1 ?_
  rw [rounds_succ]
  go_wp2_with fail
  go_end0
  exact ⟨rfl, rfl⟩
set_option maxRecDepth 100000 in
theorem sortst_nil (F : Value) (w : World) : Calls Tryd.prog 50 #[.slice none 0 0, F] w fun e w' => e = .returned (.tuple #[]) ∧ w' = w := by
  go_enter Tryd.func50, Tryd.ntmps50
  go_wp2_with (go_at_call 73; refine (stable_nil _ _).mono ?_; rintro e w2 ⟨rfl, rfl⟩)
  go_end0
  exact ⟨rfl, rfl⟩
end Go.Proofs.YtifhlmakacoicaaDoor

/- zonetext.Diff at two zones of one name and first offset. -/
namespace Go.Proofs.YtifhlmakacoicaaDoor
open Go.RowKit
set_option linter.unusedVariables false
def DiffQ (nm : ByteArray) (f : Int) (la lb : List Chg) (w : World) (e : Ending) (w' : World) : Prop :=
  Below w.heap.size w w' ∧ ((¬ (ZoneOk nm f la ∧ ZoneOk nm f lb) ∧ ∃ E : Int, E ≠ 0 ∧ e = .returned (.tuple #[.slice none 0 0, .int .i64 E])) ∨
    ((ZoneOk nm f la ∧ ZoneOk nm f lb) ∧ ∃ (A : Option Addr) (c : Nat) (d : Nat → Ed), e = .returned (.tuple #[.slice A (lenE la lb) c, .int .i64 0]) ∧ EdsOk la lb (lenE la lb) d ∧ (0 < lenE la lb → ∃ ge, A = some ⟨ge, 0, none⟩ ∧ EdIn w' ge (lenE la lb) d)))
theorem run_z2 (a b c d e f : Value) (W : World) : (Instr.index 102 (.agg #[a, b, c, d, e, f]) (.int .i64 0)).run Tryd.prog W = .ok (.agg #[a, b, c]) W ∧ (Instr.index 102 (.agg #[a, b, c, d, e, f]) (.int .i64 1)).run Tryd.prog W = .ok (.agg #[d, e, f]) W := by
  constructor <;> simp [Instr.index, run_underlying Tryd.underlying102, asIntOf, go_sem]
set_option maxHeartbeats 8000000 in
set_option maxRecDepth 100000 in
theorem diff_any (nm : ByteArray) (f : Int) (Aa : Option Addr) (ca : Nat) (la : List Chg) (Ab : Option Addr) (cb : Nat) (lb : List Chg) (w : World) (hza : ZIn w nm Aa la) (hzb : ZIn w nm Ab lb) :
    Calls Tryd.prog 18 #[.agg #[.string nm, .int .i64 f, .slice Aa la.length ca], .agg #[.string nm, .int .i64 f, .slice Ab lb.length cb]] w (DiffQ nm f la lb w) := by
  have h1 := below_alloc2 w (Obj.cells #[.string nm, .int .i64 f, .slice Aa la.length ca] 24) (Obj.cells #[.string nm, .int .i64 f, .slice Ab lb.length cb] 24)
  have y1 := (Box.new w 24 #[.string nm, .int .i64 f, .slice Aa la.length ca]).alloc (Obj.cells #[.string nm, .int .i64 f, .slice Ab lb.length cb] 24)
  have y2 := Box.new (w.alloc (Obj.cells #[.string nm, .int .i64 f, .slice Aa la.length ca] 24)) 24 #[.string nm, .int .i64 f, .slice Ab lb.length cb]
  rw [World.size_alloc] at y2
  have HZA := Lib.hid (fun W (hW : Below w.heap.size w W) => hza.next hW)
  have HZB := Lib.hid (fun W (hW : Below w.heap.size w W) => hzb.next hW)
  clear hza hzb
  unfold DiffQ
  go_enter Tryd.func18, Tryd.ntmps18
  go_upto_region 1 with fail
  generalize (w.alloc (Obj.cells #[.string nm, .int .i64 f, .slice Aa la.length ca] 24)).alloc (Obj.cells #[.string nm, .int .i64 f, .slice Ab lb.length cb] 24) = W0 at *
  obtain ⟨g, hg⟩ : ∃ g, g = w.heap.size := ⟨_, rfl⟩
  rw [← hg] at y1 y2 ⊢
  have HG := Lib.hid hg
  have HB0 := Lib.hid h1
  have HX0 := Lib.hid y1
  have HY0 := Lib.hid y2
  have x0 : W0.cell? ⟨g, 0, none⟩ = some (.string nm) := y1.cell 0
  have x1 : W0.cell? ⟨g, 1, none⟩ = some (.int .i64 f) := y1.cell 1
  have x2 : W0.cell? ⟨g, 2, none⟩ = some (.slice Aa la.length ca) := y1.cell 2
  have xl := y1.lt
  have z0 : W0.cell? ⟨g + 1, 0, none⟩ = some (.string nm) := y2.cell 0
  have z1 : W0.cell? ⟨g + 1, 1, none⟩ = some (.int .i64 f) := y2.cell 1
  have z2 : W0.cell? ⟨g + 1, 2, none⟩ = some (.slice Ab lb.length cb) := y2.cell 2
  have zl := y2.lt
  clear hg h1 y1 y2
  go_upto_region 2 with fail
  have ra : ∀ W, (Instr.index 102 (.agg #[.string nm, .int .i64 f, .slice Aa la.length ca, .string nm, .int .i64 f, .slice Ab lb.length cb]) (.int .i64 0)).run Tryd.prog W = .ok (.agg #[.string nm, .int .i64 f, .slice Aa la.length ca]) W := fun W => (run_z2 _ _ _ _ _ _ W).1
  have rb : ∀ W, (Instr.index 102 (.agg #[.string nm, .int .i64 f, .slice Aa la.length ca, .string nm, .int .i64 f, .slice Ab lb.length cb]) (.int .i64 1)).run Tryd.prog W = .ok (.agg #[.string nm, .int .i64 f, .slice Ab lb.length cb]) W := fun W => (run_z2 _ _ _ _ _ _ W).2
  clear x0 x1 x2 xl z0 z1 z2 zl
  refine wp_loop_rounds 3 ?_
  rw [rounds_succ]
  have hb1 := below_alloc1 W0 (Obj.cells #[.string nm, .int .i64 f, .slice Aa la.length ca] 24)
  have p1 := Box.new W0 24 #[.string nm, .int .i64 f, .slice Aa la.length ca]
  have HX1 := Lib.hid (HX0.out.below hb1)
  have HY1 := Lib.hid (HY0.out.below hb1)
  have HB1 := Lib.hid (below_then HB0.out hb1)
  go_upto_region 4 with fail
  generalize W0.alloc (Obj.cells #[.string nm, .int .i64 f, .slice Aa la.length ca] 24) = V1 at *
  generalize W0.heap.size = g1 at *
  clear hb1 HX0 HY0 HB0
  have q0 : V1.cell? ⟨g1, 0, none⟩ = some (.string nm) := p1.cell 0
  have q1 : V1.cell? ⟨g1, 1, none⟩ = some (.int .i64 f) := p1.cell 1
  have q2 : V1.cell? ⟨g1, 2, none⟩ = some (.slice Aa la.length ca) := p1.cell 2
  have ql := p1.lt
  have HC := Lib.hid ((HZA.out V1 HB1.out).check f ca)
  unfold IsChk at HC
  clear p1
  go_upto_region 5 with (go_at_call 23; refine HC.out.mono ?_; rintro e w1 ⟨E, rfl, hE, hb⟩)
  have HXw1 := Lib.hid (HX1.out.below hb)
  have HYw1 := Lib.hid (HY1.out.below hb)
  have HBw1 := Lib.hid (below_then HB1.out hb)
  clear q0 q1 q2 ql HC HX1 HY1 HB1 hb
  by_cases hz : E = 0
  case neg =>
    have t1 : (E == 0) = false := by rw [beq_eq_false_iff_ne]; exact hz
    have HF : Hid (¬ (ZoneOk nm f la ∧ ZoneOk nm f lb) ∧ E ≠ 0) := ⟨fun h => hz (hE.2 h.1), hz⟩
    clear hz hE
    go_wp2_with fail
    go_ret2
    exact ⟨HBw1.out, .inl ⟨HF.out.1, E, HF.out.2, rfl⟩⟩
  have HOk1 := Lib.hid (hE.1 hz)
  subst hz
  clear hE
  go_wp2_with fail
  rw [rounds_succ]
  have hb2 := below_alloc1 w1 (Obj.cells #[.string nm, .int .i64 f, .slice Ab lb.length cb] 24)
  have p2 := Box.new w1 24 #[.string nm, .int .i64 f, .slice Ab lb.length cb]
  have HX2 := Lib.hid (HXw1.out.below hb2)
  have HY2 := Lib.hid (HYw1.out.below hb2)
  have HB2 := Lib.hid (below_then HBw1.out hb2)
  go_upto_region 4 with fail
  generalize w1.alloc (Obj.cells #[.string nm, .int .i64 f, .slice Ab lb.length cb] 24) = V2 at *
  generalize w1.heap.size = g2 at *
  clear hb2 HXw1 HYw1 HBw1
  have q0 : V2.cell? ⟨g2, 0, none⟩ = some (.string nm) := p2.cell 0
  have q1 : V2.cell? ⟨g2, 1, none⟩ = some (.int .i64 f) := p2.cell 1
  have q2 : V2.cell? ⟨g2, 2, none⟩ = some (.slice Ab lb.length cb) := p2.cell 2
  have ql := p2.lt
  have HC := Lib.hid ((HZB.out V2 HB2.out).check f cb)
  unfold IsChk at HC
  clear p2
  go_upto_region 5 with (go_at_call 23; refine HC.out.mono ?_; rintro e w2 ⟨E, rfl, hE, hb⟩)
  have HXw2 := Lib.hid (HX2.out.below hb)
  have HYw2 := Lib.hid (HY2.out.below hb)
  have HBw2 := Lib.hid (below_then HB2.out hb)
  clear q0 q1 q2 ql HC HX2 HY2 HB2 hb
  by_cases hz : E = 0
  case neg =>
    have t1 : (E == 0) = false := by rw [beq_eq_false_iff_ne]; exact hz
    have HF : Hid (¬ (ZoneOk nm f la ∧ ZoneOk nm f lb) ∧ E ≠ 0) := ⟨fun h => hz (hE.2 h.2), hz⟩
    clear hz hE
    go_wp2_with fail
    go_ret2
    exact ⟨HBw2.out, .inl ⟨HF.out.1, E, HF.out.2, rfl⟩⟩
  have HOk2 := Lib.hid (hE.1 hz)
  subst hz
  clear hE
  go_wp2_with fail
  rw [rounds_succ]
  have x0 : w2.cell? ⟨g, 0, none⟩ = some (.string nm) := HXw2.out.cell 0
  have x1 : w2.cell? ⟨g, 1, none⟩ = some (.int .i64 f) := HXw2.out.cell 1
  have x2 : w2.cell? ⟨g, 2, none⟩ = some (.slice Aa la.length ca) := HXw2.out.cell 2
  have xl := HXw2.out.lt
  have z0 : w2.cell? ⟨g + 1, 0, none⟩ = some (.string nm) := HYw2.out.cell 0
  have z1 : w2.cell? ⟨g + 1, 1, none⟩ = some (.int .i64 f) := HYw2.out.cell 1
  have z2 : w2.cell? ⟨g + 1, 2, none⟩ = some (.slice Ab lb.length cb) := HYw2.out.cell 2
  have zl := HYw2.out.lt
  clear ra rb
  go_upto_region 11 with fail
  obtain ⟨i0, hi0, hz0, hz1, hz2⟩ := info_parts infoEd
  have HI0 := Lib.hid hi0
  have HI1 := Lib.hid hz0
  have HI2 := Lib.hid hz1
  have HI3 := Lib.hid hz2
  clear hi0 hz0 hz1 hz2
  have hla : la.length ≤ 200 := HOk1.out.2.2.1
  have hlb : lb.length ≤ 200 := HOk2.out.2.2.1
  have hob : ∀ l l' : List Chg, (offE l l').length ≤ l.length := fun l l' => List.length_filter_le _ _
  have HL := Lib.hid (And.intro hla (And.intro hlb hob))
  clear hla hlb hob
  obtain ⟨B, hBe⟩ : ∃ B, B = w2.heap.size := ⟨_, rfl⟩
  have HBB : Hid (w.heap.size ≤ B ∧ g < B ∧ g + 1 < B) := ⟨by rw [hBe]; exact HBw2.out.size, by rw [hBe]; exact xl, by rw [hBe]; exact zl⟩
  have HBe := Lib.hid hBe
  clear hBe
  go_upto_region 12 with fail
  go_loopw [9, 11, 41] (fun o _ x wr => ∃ (i : Nat), x = .int .i64 (i : Int) ∧ i ≤ la.length ∧ Hid (∃ A c, o = .slice A ((offE (la.take i) lb).length) c ∧ ((offE (la.take i) lb).length = 0 → A = none ∧ c = 0)) ∧ Hid (Box wr g 24 #[.string nm, .int .i64 f, .slice Aa la.length ca]) ∧ Hid (Box wr (g + 1) 24 #[.string nm, .int .i64 f, .slice Ab lb.length cb]) ∧ Hid (wr.ownsRow B 58 4 o ((offE (la.take i) lb).length) (ecs 1 (offE (la.take i) lb))) ∧ Hid (Below w.heap.size w wr) ∧ Hid (B ≤ wr.heap.size)) (fun _ _ x _ => la.length - (intOf x).toNat)
  case atStart => exact ⟨0, rfl, Nat.zero_le _, ⟨none, 0, rfl, fun _ => ⟨rfl, rfl⟩⟩, HXw2, HYw2, World.ownsRow_nil _ _ _ _, HBw2, by unfold Hid; rw [HBe.out]; exact Nat.le_refl _⟩
  case round =>
    obtain ⟨i, rfl, hi, hval, hx, hy, hown, hbr, hsz⟩ := hrel
    obtain ⟨A9, c9, rfl, hA9⟩ := hval.out
    have HV9 := Lib.hid hA9
    have HX3 := Lib.hid hx.out
    have HY3 := Lib.hid hy.out
    have HO3 := Lib.hid hown.out
    have HB3 := Lib.hid hbr.out
    have HS3 := Lib.hid hsz.out
    clear hval hx hy hown hbr hsz hA9
    have hl200 : la.length ≤ 200 := by have := HL.out.1; have := HL.out.2.1; omega
    by_cases hlt : i < la.length
    · have t1 : decide ((i : Int) < (la.length : Int)) = true := decide_eq_true (by omega)
      have bi : (0 : Int) ≤ (i : Int) ∧ (i : Int) < (la.length : Int) := by omega
      have HTk : Hid (la.take (i + 1) = la.take i ++ [la.getD i chg0]) := by
        unfold Hid
        rw [getD_get la i hlt]
        rw [List.take_append_getElem]
      have HR := Lib.hid ((HZA.out wr HB3.out).row)
      obtain ⟨b, o, hbo, _, hcs⟩ := HR.out.open_ (chCells_ne la (by omega))
      obtain ⟨y0, y1, y2⟩ := ch_cells hcs i hlt
      have yl := block_lt_of_cell y0
      clear hcs
      obtain ⟨C, hC⟩ : ∃ C, C = la.getD i chg0 := ⟨_, rfl⟩
      rw [← hC] at y0 y1 y2 HTk
      clear hC
      have hbA := hbo
      subst hbA
      go_upto_region 14 with fail
      have p4 := Box.new wr 26 #[.int .i64 C.a, .int .i64 C.o, .string C.l]
      have hb4 := below_alloc1 wr (Obj.cells #[.int .i64 C.a, .int .i64 C.o, .string C.l] 26)
      have HX4 := Lib.hid (HX3.out.below hb4)
      have HY4 := Lib.hid (HY3.out.below hb4)
      have HO4 := Lib.hid (own_next HO3.out hb4)
      have HB4 := Lib.hid (below_then HB3.out hb4)
      have HS4 := Lib.hid (Nat.le_trans HS3.out hb4.size)
      generalize wr.alloc (Obj.cells #[.int .i64 C.a, .int .i64 C.o, .string C.l] 26) = W4 at *
      generalize wr.heap.size = g4 at *
      have HC4 := Lib.hid (cont_chs Ab cb lb C W4 (HZB.out W4 HB4.out).row (by have := HL.out.1; have := HL.out.2.1; omega))
      clear y0 y1 y2 yl hb4 HX3 HY3 HO3 HB3 HS3 HR
      have c0 : W4.cell? ⟨g4, 0, none⟩ = some (.int .i64 C.a) := p4.cell 0
      have c1 : W4.cell? ⟨g4, 1, none⟩ = some (.int .i64 C.o) := p4.cell 1
      have c2' : W4.cell? ⟨g4, 2, none⟩ = some (.string C.l) := p4.cell 2
      have cl := p4.lt
      have e2 : W4.cell? ⟨g + 1, 2, none⟩ = some (.slice Ab lb.length cb) := HY4.out.cell 2
      have el := HY4.out.lt
      by_cases hin : C ∈ lb
      · have t5 : decide (C ∈ lb) = true := decide_eq_true hin
        have HT : Hid (offE (la.take (i + 1)) lb = offE (la.take i) lb) := by unfold Hid; rw [HTk.out, offE_snoc, if_pos hin]
        have HT2 := Lib.hid t5
        clear hin HTk
        go_wp2_with (go_at_call 49; refine HC4.out.mono ?_; rintro e w5 ⟨rfl, hb5⟩)
        have HX5 := Lib.hid (HX4.out.below hb5)
        have HY5 := Lib.hid (HY4.out.below hb5)
        have HO5 := Lib.hid (own_next HO4.out hb5)
        have HB5 := Lib.hid (below_then HB4.out hb5)
        have HS5 := Lib.hid (Nat.le_trans HS4.out hb5.size)
        have p5 := p4.below hb5
        have hw5 := hb5.size
        clear c0 c1 c2' cl e2 el HC4 HX4 HY4 HO4 HB4 HS4 p4 hb5 hbo
        go_roundw
        case rel => exact ⟨i + 1, by go_num, by omega, ⟨A9, c9, by rw [HT.out], by rw [HT.out]; exact HV9.out⟩, HX5, HY5, by unfold Hid; rw [HT.out]; exact HO5.out, HB5, HS5⟩
        case measure => simp [intOf]; omega
      · have t5 : decide (C ∈ lb) = false := decide_eq_false hin
        have HT : Hid (offE (la.take (i + 1)) lb = offE (la.take i) lb ++ [C]) := by unfold Hid; rw [HTk.out, offE_snoc, if_neg hin]
        clear hin HTk
        go_upto_region 15 with (go_at_call 49; refine HC4.out.mono ?_; rintro e w5 ⟨rfl, hb5⟩)
        have HX5 := Lib.hid (HX4.out.below hb5)
        have HY5 := Lib.hid (HY4.out.below hb5)
        have HO5 := Lib.hid (own_next HO4.out hb5)
        have HB5 := Lib.hid (below_then HB4.out hb5)
        have HS5 := Lib.hid (Nat.le_trans HS4.out hb5.size)
        have p5 := p4.below hb5
        have hw5 := hb5.size
        clear c0 c1 c2' cl e2 el HC4 HX4 HY4 HO4 HB4 HS4 p4 hb5 hbo
        have hn200 : (offE (la.take i) lb).length ≤ 200 := by have h1 := HL.out.2.2 (la.take i) lb; rw [List.length_take] at h1; have := HL.out.1; have := HL.out.2.1; omega
        have hpre : (offE la lb).length ≤ 200 := by have h1 := HL.out.2.2 la lb; have := HL.out.1; omega
        obtain ⟨n9, hn9⟩ : ∃ n9, n9 = (offE (la.take i) lb).length := ⟨_, rfl⟩
        have hn9b : n9 ≤ 400 := by omega
        rw [← hn9] at HO5 ⊢
        have HN9 := Lib.hid hn9
        clear hn9 hn200 hpre
        have c0 : w5.cell? ⟨g4, 0, none⟩ = some (.int .i64 C.a) := p5.cell 0
        have c1 : w5.cell? ⟨g4, 1, none⟩ = some (.int .i64 C.o) := p5.cell 1
        have c2' : w5.cell? ⟨g4, 2, none⟩ = some (.string C.l) := p5.cell 2
        have cl := p5.lt
        clear p5
        have hs5 := HS5.out
        go_wp2_with (at_builtin; refine wpList_append_own _ rfl (.tmp 50) (.tmp 53) 54 rfl B 58 i0 (.agg #[.int .i64 0, .int .i64 0, .int .i64 0, .string ⟨#[]⟩]) 4 40 Tryd.underlying54 HI0.out HI1.out HI2.out HI3.out rfl (by decide) (.slice A9 n9 c9) n9 _ rfl (HO5.out.alloc _) ⟨w5.heap.size, 0, none⟩ 1 1 [.int .i64 1, .int .i64 C.a, .int .i64 C.o, .string C.l] rfl rfl ?c1 ?c2 ?c3 ?c4 ?c5 ?_)
        case c1 => exact fun j u hj => World.news_of_block (cs := #[.int .i64 1, .int .i64 C.a, .int .i64 C.o, .string C.l]) (t := 58) (fr := (0, 0)) (heap_alloc_new w5 _) j u hj
        case c2 => simp [Value.oneCell']
        case c3 => unfold maxLen; omega
        case c4 => omega
        case c5 => simp only [World.size_alloc]; omega
        intro v' w6 hown' hgrow _
        obtain ⟨A6, c6, rfl, _⟩ := own_form hown'
        have hne : ∀ b, (Value.slice A9 n9 c9).ownBlock = some b → B ≤ b ∧ b < w5.heap.size := fun b hb => own_lt HO5.out b hb
        have hba : w5.heap.size ≤ (w5.alloc (Obj.cells #[.int .i64 1, .int .i64 C.a, .int .i64 C.o, .string C.l] 58)).heap.size := by simp only [World.size_alloc]; omega
        have HX6 := Lib.hid ((HX5.out.alloc (Obj.cells #[.int .i64 1, .int .i64 C.a, .int .i64 C.o, .string C.l] 58)).grown hgrow (fun e => by have := hne g e.symm; have := HBB.out; omega))
        have HY6 := Lib.hid ((HY5.out.alloc (Obj.cells #[.int .i64 1, .int .i64 C.a, .int .i64 C.o, .string C.l] 58)).grown hgrow (fun e => by have := hne (g + 1) e.symm; have := HBB.out; omega))
        have HB6 := Lib.hid ((HB5.out.alloc HB5.out.size (Obj.cells #[.int .i64 1, .int .i64 C.a, .int .i64 C.o, .string C.l] 58)).grown hgrow (Nat.le_trans HB5.out.size hba) (fun b hb => by have := hne b hb; have := HBB.out; omega))
        have HS6 : Hid (B ≤ w6.heap.size) := Nat.le_trans hs5 (Nat.le_trans hba hgrow.size)
        have HLn : Hid (n9 + 1 = (offE (la.take (i + 1)) lb).length) := by unfold Hid; rw [HT.out, List.length_append, HN9.out]; rfl
        have HO6 : Hid (w6.ownsRow B 58 4 (.slice A6 (n9 + 1) c6) ((offE (la.take (i + 1)) lb).length) (ecs 1 (offE (la.take (i + 1)) lb))) := by
          unfold Hid
          rw [HT.out, ecs_append]
          rw [show (offE (la.take i) lb ++ [C]).length = n9 + 1 from by rw [HN9.out, List.length_append]; rfl]
          exact hown'
        clear hown' hgrow hne hba c0 c1 c2' cl HO5 HX5 HY5 HB5 HS5 HV9
        go_wp2_with fail
        go_roundw
        case rel => exact ⟨i + 1, by go_num, by omega, ⟨A6, c6, by rw [← HLn.out], fun h => by rw [← HLn.out] at h; omega⟩, HX6, HY6, HO6, HB6, HS6⟩
        case measure => simp [intOf]; omega
    · obtain rfl : i = la.length := by omega
      have t1 : decide ((la.length : Int) < (la.length : Int)) = false := decide_eq_false (by omega)
      rw [List.take_length] at HV9 HO3 ⊢
      rename World => w3
      have z0 : w3.cell? ⟨g + 1, 0, none⟩ = some (.string nm) := HY3.out.cell 0
      have z1 : w3.cell? ⟨g + 1, 1, none⟩ = some (.int .i64 f) := HY3.out.cell 1
      have z2 : w3.cell? ⟨g + 1, 2, none⟩ = some (.slice Ab lb.length cb) := HY3.out.cell 2
      have zl := HY3.out.lt
      clear x0 x1 x2 xl HXw2 HYw2 HBw2
      go_upto_region 18 with fail
      go_loopw [9, 13, 59] (fun o _ x wr => ∃ (i : Nat), x = .int .i64 (i : Int) ∧ i ≤ lb.length ∧ Hid (∃ A c, o = .slice A ((offE la lb).length + (offE (lb.take i) la).length) c ∧ ((offE la lb).length + (offE (lb.take i) la).length = 0 → A = none ∧ c = 0)) ∧ Hid (Box wr g 24 #[.string nm, .int .i64 f, .slice Aa la.length ca]) ∧ Hid (Box wr (g + 1) 24 #[.string nm, .int .i64 f, .slice Ab lb.length cb]) ∧ Hid (wr.ownsRow B 58 4 o ((offE la lb).length + (offE (lb.take i) la).length) (ecs 1 (offE la lb) ++ ecs 2 (offE (lb.take i) la))) ∧ Hid (Below w.heap.size w wr) ∧ Hid (B ≤ wr.heap.size)) (fun _ _ x _ => lb.length - (intOf x).toNat)
      case atStart => exact ⟨0, rfl, Nat.zero_le _, ⟨A9, c9, rfl, fun h => HV9.out h⟩, HX3, HY3, (by unfold Hid; rw [show ecs 2 (offE (lb.take 0) la) = [] from rfl, List.append_nil]; exact HO3.out), HB3, HS3⟩
      case round =>
        obtain ⟨i, rfl, hi, hval, hx, hy, hown, hbr, hsz⟩ := hrel
        obtain ⟨A9, c9, rfl, hA9⟩ := hval.out
        have HV9 := Lib.hid hA9
        have HX3 := Lib.hid hx.out
        have HY3 := Lib.hid hy.out
        have HO3 := Lib.hid hown.out
        have HB3 := Lib.hid hbr.out
        have HS3 := Lib.hid hsz.out
        clear hval hx hy hown hbr hsz hA9
        have hl200 : lb.length ≤ 200 := by have := HL.out.1; have := HL.out.2.1; omega
        by_cases hlt : i < lb.length
        · have t1 : decide ((i : Int) < (lb.length : Int)) = true := decide_eq_true (by omega)
          have bi : (0 : Int) ≤ (i : Int) ∧ (i : Int) < (lb.length : Int) := by omega
          have HTk : Hid (lb.take (i + 1) = lb.take i ++ [lb.getD i chg0]) := by
            unfold Hid
            rw [getD_get lb i hlt]
            rw [List.take_append_getElem]
          have HR := Lib.hid ((HZB.out wr HB3.out).row)
          obtain ⟨b, o, hbo, _, hcs⟩ := HR.out.open_ (chCells_ne lb (by omega))
          obtain ⟨y0, y1, y2⟩ := ch_cells hcs i hlt
          have yl := block_lt_of_cell y0
          clear hcs
          obtain ⟨C, hC⟩ : ∃ C, C = lb.getD i chg0 := ⟨_, rfl⟩
          rw [← hC] at y0 y1 y2 HTk
          clear hC
          have hbA := hbo
          subst hbA
          go_upto_region 20 with fail
          have p4 := Box.new wr 26 #[.int .i64 C.a, .int .i64 C.o, .string C.l]
          have hb4 := below_alloc1 wr (Obj.cells #[.int .i64 C.a, .int .i64 C.o, .string C.l] 26)
          have HX4 := Lib.hid (HX3.out.below hb4)
          have HY4 := Lib.hid (HY3.out.below hb4)
          have HO4 := Lib.hid (own_next HO3.out hb4)
          have HB4 := Lib.hid (below_then HB3.out hb4)
          have HS4 := Lib.hid (Nat.le_trans HS3.out hb4.size)
          generalize wr.alloc (Obj.cells #[.int .i64 C.a, .int .i64 C.o, .string C.l] 26) = W4 at *
          generalize wr.heap.size = g4 at *
          have HC4 := Lib.hid (cont_chs Aa ca la C W4 (HZA.out W4 HB4.out).row (by have := HL.out.1; have := HL.out.2.1; omega))
          clear y0 y1 y2 yl hb4 HX3 HY3 HO3 HB3 HS3 HR
          have c0 : W4.cell? ⟨g4, 0, none⟩ = some (.int .i64 C.a) := p4.cell 0
          have c1 : W4.cell? ⟨g4, 1, none⟩ = some (.int .i64 C.o) := p4.cell 1
          have c2' : W4.cell? ⟨g4, 2, none⟩ = some (.string C.l) := p4.cell 2
          have cl := p4.lt
          have e2 : W4.cell? ⟨g, 2, none⟩ = some (.slice Aa la.length ca) := HX4.out.cell 2
          have el := HX4.out.lt
          by_cases hin : C ∈ la
          · have t5 : decide (C ∈ la) = true := decide_eq_true hin
            have HT : Hid (offE (lb.take (i + 1)) la = offE (lb.take i) la) := by unfold Hid; rw [HTk.out, offE_snoc, if_pos hin]
            have HT2 := Lib.hid t5
            clear hin HTk
            go_wp2_with (go_at_call 49; refine HC4.out.mono ?_; rintro e w5 ⟨rfl, hb5⟩)
            have HX5 := Lib.hid (HX4.out.below hb5)
            have HY5 := Lib.hid (HY4.out.below hb5)
            have HO5 := Lib.hid (own_next HO4.out hb5)
            have HB5 := Lib.hid (below_then HB4.out hb5)
            have HS5 := Lib.hid (Nat.le_trans HS4.out hb5.size)
            have p5 := p4.below hb5
            have hw5 := hb5.size
            clear c0 c1 c2' cl e2 el HC4 HX4 HY4 HO4 HB4 HS4 p4 hb5 hbo
            go_roundw
            case rel => exact ⟨i + 1, by go_num, by omega, ⟨A9, c9, by rw [HT.out], by rw [HT.out]; exact HV9.out⟩, HX5, HY5, by unfold Hid; rw [HT.out]; exact HO5.out, HB5, HS5⟩
            case measure => simp [intOf]; omega
          · have t5 : decide (C ∈ la) = false := decide_eq_false hin
            have HT : Hid (offE (lb.take (i + 1)) la = offE (lb.take i) la ++ [C]) := by unfold Hid; rw [HTk.out, offE_snoc, if_neg hin]
            clear hin HTk
            go_upto_region 21 with (go_at_call 49; refine HC4.out.mono ?_; rintro e w5 ⟨rfl, hb5⟩)
            have HX5 := Lib.hid (HX4.out.below hb5)
            have HY5 := Lib.hid (HY4.out.below hb5)
            have HO5 := Lib.hid (own_next HO4.out hb5)
            have HB5 := Lib.hid (below_then HB4.out hb5)
            have HS5 := Lib.hid (Nat.le_trans HS4.out hb5.size)
            have p5 := p4.below hb5
            have hw5 := hb5.size
            clear c0 c1 c2' cl e2 el HC4 HX4 HY4 HO4 HB4 HS4 p4 hb5 hbo
            have hn200 : (offE (lb.take i) la).length ≤ 200 := by have h1 := HL.out.2.2 (lb.take i) la; rw [List.length_take] at h1; have := HL.out.1; have := HL.out.2.1; omega
            have hpre : (offE la lb).length ≤ 200 := by have h1 := HL.out.2.2 la lb; have := HL.out.1; omega
            obtain ⟨n9, hn9⟩ : ∃ n9, n9 = (offE la lb).length + (offE (lb.take i) la).length := ⟨_, rfl⟩
            have hn9b : n9 ≤ 400 := by omega
            rw [← hn9] at HO5 ⊢
            have HN9 := Lib.hid hn9
            clear hn9 hn200 hpre
            have c0 : w5.cell? ⟨g4, 0, none⟩ = some (.int .i64 C.a) := p5.cell 0
            have c1 : w5.cell? ⟨g4, 1, none⟩ = some (.int .i64 C.o) := p5.cell 1
            have c2' : w5.cell? ⟨g4, 2, none⟩ = some (.string C.l) := p5.cell 2
            have cl := p5.lt
            clear p5
            have hs5 := HS5.out
            go_wp2_with (at_builtin; refine wpList_append_own _ rfl (.tmp 68) (.tmp 71) 54 rfl B 58 i0 (.agg #[.int .i64 0, .int .i64 0, .int .i64 0, .string ⟨#[]⟩]) 4 40 Tryd.underlying54 HI0.out HI1.out HI2.out HI3.out rfl (by decide) (.slice A9 n9 c9) n9 _ rfl (HO5.out.alloc _) ⟨w5.heap.size, 0, none⟩ 1 1 [.int .i64 2, .int .i64 C.a, .int .i64 C.o, .string C.l] rfl rfl ?c1 ?c2 ?c3 ?c4 ?c5 ?_)
            case c1 => exact fun j u hj => World.news_of_block (cs := #[.int .i64 2, .int .i64 C.a, .int .i64 C.o, .string C.l]) (t := 58) (fr := (0, 0)) (heap_alloc_new w5 _) j u hj
            case c2 => simp [Value.oneCell']
            case c3 => unfold maxLen; omega
            case c4 => omega
            case c5 => simp only [World.size_alloc]; omega
            intro v' w6 hown' hgrow _
            obtain ⟨A6, c6, rfl, _⟩ := own_form hown'
            have hne : ∀ b, (Value.slice A9 n9 c9).ownBlock = some b → B ≤ b ∧ b < w5.heap.size := fun b hb => own_lt HO5.out b hb
            have hba : w5.heap.size ≤ (w5.alloc (Obj.cells #[.int .i64 2, .int .i64 C.a, .int .i64 C.o, .string C.l] 58)).heap.size := by simp only [World.size_alloc]; omega
            have HX6 := Lib.hid ((HX5.out.alloc (Obj.cells #[.int .i64 2, .int .i64 C.a, .int .i64 C.o, .string C.l] 58)).grown hgrow (fun e => by have := hne g e.symm; have := HBB.out; omega))
            have HY6 := Lib.hid ((HY5.out.alloc (Obj.cells #[.int .i64 2, .int .i64 C.a, .int .i64 C.o, .string C.l] 58)).grown hgrow (fun e => by have := hne (g + 1) e.symm; have := HBB.out; omega))
            have HB6 := Lib.hid ((HB5.out.alloc HB5.out.size (Obj.cells #[.int .i64 2, .int .i64 C.a, .int .i64 C.o, .string C.l] 58)).grown hgrow (Nat.le_trans HB5.out.size hba) (fun b hb => by have := hne b hb; have := HBB.out; omega))
            have HS6 : Hid (B ≤ w6.heap.size) := Nat.le_trans hs5 (Nat.le_trans hba hgrow.size)
            have HLn : Hid (n9 + 1 = (offE la lb).length + (offE (lb.take (i + 1)) la).length) := by unfold Hid; rw [HT.out, List.length_append, HN9.out]; rfl
            have HO6 : Hid (w6.ownsRow B 58 4 (.slice A6 (n9 + 1) c6) ((offE la lb).length + (offE (lb.take (i + 1)) la).length) (ecs 1 (offE la lb) ++ ecs 2 (offE (lb.take (i + 1)) la))) := by
              unfold Hid
              rw [HT.out, ecs_append]
              rw [show (offE la lb).length + (offE (lb.take i) la ++ [C]).length = n9 + 1 from by rw [HN9.out, List.length_append]; rfl]
              exact hown'
            clear hown' hgrow hne hba c0 c1 c2' cl HO5 HX5 HY5 HB5 HS5 HV9
            go_wp2_with fail
            go_roundw
            case rel => exact ⟨i + 1, by go_num, by omega, ⟨A6, c6, by rw [← HLn.out], fun h => by rw [← HLn.out] at h; omega⟩, HX6, HY6, HO6, HB6, HS6⟩
            case measure => simp [intOf]; omega
        · obtain rfl : i = lb.length := by omega
          have t1 : decide ((lb.length : Int) < (lb.length : Int)) = false := decide_eq_false (by omega)
          rw [List.take_length] at HV9 HO3 ⊢
          rename World => w7
          clear z0 z1 z2 zl
          obtain ⟨m, hm⟩ : ∃ m, m = lenE la lb := ⟨_, rfl⟩
          have hm2 : (offE la lb).length + (offE lb la).length = m := hm.symm
          have hm400 : m ≤ 400 := by
            have h1 := HL.out.2.2 la lb
            have h2 := HL.out.2.2 lb la
            have := HL.out.1
            have := HL.out.2.1
            omega
          rw [hm2] at HV9 HO3 ⊢
          have HM := Lib.hid hm
          clear hm hm2
          by_cases h0 : m = 0
          · obtain ⟨rfl, rfl⟩ := HV9.out h0
            subst h0
            go_wp2_with (go_at_call 50; refine (sortst_nil _ _).mono ?_; rintro e w8 ⟨rfl, rfl⟩)
            go_ret2
            exact ⟨HB3.out, .inr ⟨⟨HOk1.out, HOk2.out⟩, none, 0, rawE la lb, by rw [← HM.out]; rfl, eds_of HOk1.out.sorted.pw HOk2.out.sorted.pw (Shuf.refl _ _ _) (fun i j _ _ h => by rw [← HM.out] at h; omega), fun h => by rw [← HM.out] at h; omega⟩⟩
          · obtain ⟨g9, c, e9, hgb, hEd⟩ := own_eds B _ la lb w7 (by rw [← HM.out]; exact HO3.out) (by rw [← HM.out]; omega)
            rw [← HM.out] at e9 hEd
            injection e9 with e1 e2 e3
            subst e1
            subst e3
            have HSt := Lib.hid (sortst_any g9 m c9 (rawE la lb) w7 hEd (raw_bd HOk1.out HOk2.out) (by omega) (fun i _ => rawE_tag la lb i))
            unfold SortQ at HSt
            have HGb := Lib.hid hgb
            clear hEd hgb e2 HO3 HV9
            go_wp2_with (go_at_call 50; refine HSt.out.mono ?_; rintro e w8 ⟨rfl, d2, hE2, hS2, hO2, hg2⟩)
            have HF : Hid (EdIn w8 g9 m d2 ∧ EdsOk la lb (lenE la lb) d2 ∧ Below w.heap.size w w8) := ⟨hE2, eds_of HOk1.out.sorted.pw HOk2.out.sorted.pw (by rw [← HM.out]; exact hS2) (by rw [← HM.out]; exact hO2), HB3.out.grown hg2 HB3.out.size (fun b hb => by injection hb with hb; have := HGb.out; have := HBB.out; omega)⟩
            clear hE2 hS2 hO2 hg2
            go_ret2
            exact ⟨HF.out.2.2, .inr ⟨⟨HOk1.out, HOk2.out⟩, some ⟨g9, 0, none⟩, c9, d2, by rw [← HM.out]; rfl, HF.out.2.1, fun _ => ⟨g9, rfl, by rw [← HM.out]; exact HF.out.1⟩⟩⟩
end Go.Proofs.YtifhlmakacoicaaDoor
