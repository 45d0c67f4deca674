/- Contract of forecast.Extend. -/
import Derived.Test.YtlihhlijombepaaDoorExt1
import Derived.Test.YtlihhlijombepaaDoorZone2
import Derived.Deep.DeepCutAuto
namespace Go.Proofs.YtlihhlijombepaaDoor
open Go.RowKit
set_option linter.unusedVariables false

def lastO (rs : List ZR) : Int := (rs.getD (rs.length - 1) zr0).o
def befY (before : Int) (rs : List ZR) (j : Nat) : Int := if j = 0 then before else lastO rs
/-- the changes of n years -/
def extL (rs : List ZR) (before y : Int) (n : Nat) : List Chg := (List.range n).flatMap fun j => foreChs (befY before rs j) (y + (j : Int)) rs rs.length
theorem extL_succ (rs : List ZR) (before y : Int) (n : Nat) : extL rs before y (n + 1) = extL rs before y n ++ foreChs (befY before rs n) (y + (n : Int)) rs rs.length := by
  unfold extL
  rw [List.range_succ, List.flatMap_append]
  simp
theorem extL_len (rs : List ZR) (before y : Int) (n : Nat) : (extL rs before y n).length = n * rs.length := by
  induction n with
  | zero => simp [extL]
  | succ n ih => rw [extL_succ, List.length_append, ih, foreChs_len, Nat.succ_mul]
/-- the offset before the first new change -/
def befZ (first : Int) (chs : List Chg) : Int := if chs.length = 0 then first else (chs.getD (chs.length - 1) chg0).o
theorem befZ_ok {nm : ByteArray} {first : Int} {chs : List Chg} (h : ZoneOk nm first chs) : OffOk (befZ first chs) := by
  unfold befZ
  split
  · exact h.2.1
  · exact (h.2.2.2 (chs.length - 1) (by omega)).2.1
theorem befY_ok {before : Int} {rs : List ZR} (hb : OffOk before) (h : ForeOk rs) (j : Nat) : OffOk (befY before rs j) := by
  unfold befY
  split
  · exact hb
  · exact (h.2 (rs.length - 1) (by have := h.1.1; omega)).2.1
theorem chg_fit (before y : Int) (rs : List ZR) (i : Nat) (hi : i < rs.length) (hok : ForeOk rs) (hbf : OffOk before) (h1 : -10000 ≤ y) (h2 : y ≤ 10000) (hl : ∀ i, i < rs.length → (rs.getD i zr0).l.size ≤ maxLen) : ChgFit (chgI before y rs i) := by
  obtain ⟨⟨n1, n2, n3, n4, n5, n6, n7, n8⟩, ⟨_, o2, o3⟩, _, _⟩ := hok.2 i hi
  have HF := foreDay_is y ((rs.getD i zr0).m - 1).toNat (rs.getD i zr0).wk (rs.getD i zr0).wd (by omega) n3 n4 n5 n6
  have hlo := HF.low
  have hhi := HF.high
  have n0 := ny_lo y (by omega) (by omega)
  have n0' := ny_lo (y + 1) (by omega) (by omega)
  have hb1 : OffOk (befI before rs i) := by
    unfold befI
    split
    · exact hbf
    · exact (hok.2 (i - 1) (by omega)).2.1
  obtain ⟨_, b2, b3⟩ := hb1
  unfold ChgFit chgI
  simp only
  generalize foreDay y ((rs.getD i zr0).m - 1).toNat (rs.getD i zr0).wk (rs.getD i zr0).wd = FD at *
  refine ⟨by omega, by omega, by omega, by omega, hl i hi⟩
theorem ext_fit (rs : List ZR) (before y : Int) (n : Nat) (hok : ForeOk rs) (hbf : OffOk before) (h1 : -10000 ≤ y) (h2 : y + (n : Int) ≤ 10001) (hl : ∀ i, i < rs.length → (rs.getD i zr0).l.size ≤ maxLen) : ∀ x ∈ extL rs before y n, ChgFit x := by
  intro x hx
  obtain ⟨j, hj, hx⟩ := List.mem_flatMap.1 hx
  rw [List.mem_range] at hj
  obtain ⟨i, hi, rfl⟩ := List.mem_map.1 hx
  rw [List.mem_range] at hi
  exact chg_fit _ _ rs i hi hok (befY_ok hbf hok j) (by omega) (by omega) hl
/-- what Extend says -/
def ExtQ (nm : ByteArray) (first : Int) (L : List Chg) (w : World) (e : Ending) (w' : World) : Prop :=
  Below w.heap.size w w' ∧ ((ZoneOk nm first L ∧ ∃ A c, e = .returned (.tuple #[.agg #[.string nm, .int .i64 first, .slice A L.length c], .int .i64 0]) ∧ ZIn w' nm A L ∧ (∀ a, A = some a → w.heap.size ≤ a.block)) ∨
    (¬ ZoneOk nm first L ∧ ∃ E : Int, E ≠ 0 ∧ e = .returned (.tuple #[.agg #[.string ⟨#[]⟩, .int .i64 0, .slice none 0 0], .int .i64 E])))

set_option maxHeartbeats 4000000 in
set_option maxRecDepth 100000 in
theorem extend_yes (nm : ByteArray) (first : Int) (A : Option Addr) (c : Nat) (chs : List Chg) (B : Option Addr) (d : Nat) (rs : List ZR) (y y2 : Int) (w : World) (hz : ZIn w nm A chs) (hr : RIn w B rs) (hok : ZoneOk nm first chs) (hf : ForeOk rs)
    (h1 : -10000 ≤ y) (h2 : y ≤ y2) (h3 : y2 ≤ 10000) (h4 : y2 - y ≤ 50) :
    Calls Tryd.prog 23 #[.agg #[.string nm, .int .i64 first, .slice A chs.length c], .slice B rs.length d, .int .i64 y, .int .i64 y2] w (ExtQ nm first (chs ++ extL rs (befZ first chs) y (y2 - y + 1).toNat) w) := by
  have HZ0 := Lib.hid hz
  have HR0 := Lib.hid hr
  have HOK := Lib.hid hok
  have HF := Lib.hid hf
  have hlc : chs.length ≤ 200 := hok.2.2.1
  have hlr1 : 1 ≤ rs.length := hf.1.1
  have hlr2 : rs.length ≤ 4 := hf.1.2
  have hBF := Lib.hid (befZ_ok hok)
  obtain ⟨bf, hbf⟩ : ∃ bf, bf = befZ first chs := ⟨_, rfl⟩
  rw [← hbf] at hBF ⊢
  have HBFE := Lib.hid hbf
  clear hbf
  have HN : Hid ((((y2 - y + 1).toNat : Nat) : Int) = y2 - y + 1) := by unfold Hid; omega
  obtain ⟨n, hn⟩ : ∃ n, n = (y2 - y + 1).toNat := ⟨_, rfl⟩
  rw [← hn] at HN ⊢
  have hn51 : n ≤ 51 := by omega
  have h50 : y2 = y + n - 1 := by omega
  have HY2 := Lib.hid h50
  clear h50 hn
  obtain ⟨LL, hLL⟩ : ∃ LL, LL = chs ++ extL rs bf y n := ⟨_, rfl⟩
  rw [← hLL]
  have HLL := Lib.hid hLL
  clear hLL
  have HB0 := Lib.hid (below_alloc2 w (Obj.cells #[.string nm, .int .i64 first, .slice A chs.length c] 24) (Obj.cells #[.string ⟨#[]⟩, .int .i64 0, .slice none 0 0] 24))
  have HX0 := Lib.hid ((Box.new w 24 #[.string nm, .int .i64 first, .slice A chs.length c]).alloc (Obj.cells #[.string ⟨#[]⟩, .int .i64 0, .slice none 0 0] 24))
  have HY0 := Lib.hid (Box.new (w.alloc (Obj.cells #[.string nm, .int .i64 first, .slice A chs.length c] 24)) 24 #[.string ⟨#[]⟩, .int .i64 0, .slice none 0 0])
  rw [show (w.alloc (Obj.cells #[.string nm, .int .i64 first, .slice A chs.length c] 24)).heap.size = w.heap.size + 1 from by simp] at HY0
  clear hz hr hok hf
  go_enter Tryd.func23, Tryd.ntmps23
  go_wp2_with fail
  generalize (w.alloc (Obj.cells #[.string nm, .int .i64 first, .slice A chs.length c] 24)).alloc (Obj.cells #[.string ⟨#[]⟩, .int .i64 0, .slice none 0 0] 24) = W0 at *
  generalize hg : w.heap.size = g at *
  have HG := Lib.hid hg
  clear hg
  refine (fcheck_any B d rs _ (HR0.out.next (w' := W0) (by rw [HG.out]; exact HB0.out))).mono ?_
  rintro e w1 ⟨E, rfl, hE, hb1⟩
  obtain rfl : E = 0 := hE.2 HF.out
  have HX1 := Lib.hid (HX0.out.below hb1)
  have HY1 := Lib.hid (HY0.out.below hb1)
  have HB1 := Lib.hid (show Below g w w1 from HB0.out.trans (hb1.mono (by have := HX0.out.lt; omega)))
  clear hE hb1 HB0 HX0 HY0
  have x0 := HX1.out.cell 0
  have x1 := HX1.out.cell 1
  have x2 := HX1.out.cell 2
  simp only [List.getElem?_toArray, List.getElem?_cons_succ, List.getElem?_cons_zero] at x0 x1 x2
  go_wp2_with fail
  refine ((HZ0.out.next (w' := w1) (by rw [HG.out]; exact HB1.out)).check first c).mono ?_
  rintro e w2 ⟨E, rfl, hE, hb2⟩
  obtain rfl : E = 0 := hE.2 HOK.out
  have HX2 := Lib.hid (HX1.out.below hb2)
  have HY2 := Lib.hid (HY1.out.below hb2)
  have HB2 := Lib.hid (show Below g w w2 from HB1.out.trans (hb2.mono (by have := HX1.out.lt; omega)))
  clear hE hb2 HB1 HX1 HY1 x0 x1 x2
  have x0 := HX2.out.cell 0
  have x1 := HX2.out.cell 1
  have x2 := HX2.out.cell 2
  simp only [List.getElem?_toArray, List.getElem?_cons_succ, List.getElem?_cons_zero] at x0 x1 x2
  have hgl : g < w2.heap.size := HX2.out.lt
  have hgt2 : g + 1 < w2.heap.size := HY2.out.lt
  have t1 : decide (y2 < y) = false := decide_eq_false (by omega)
  have t2 : decide (10000 < y2) = false := decide_eq_false (by omega)
  have t3 : decide (50 < y2 - y) = false := decide_eq_false (by omega)
  go_wp2_with (go_at_call 66; refine (isYear_yes y _ h1 (by omega)).mono ?_; rintro e w' ⟨rfl, rfl⟩)
  have HX3 := Lib.hid (HX2.out.alloc (Obj.cells #[.string nm, .int .i64 first, .slice A chs.length c] 24))
  have HY3 := Lib.hid (HY2.out.alloc (Obj.cells #[.string nm, .int .i64 first, .slice A chs.length c] 24))
  have HT3 := Lib.hid (Box.new w2 24 #[.string nm, .int .i64 first, .slice A chs.length c])
  have HB3 := Lib.hid (HB2.out.alloc (by omega) (Obj.cells #[.string nm, .int .i64 first, .slice A chs.length c] 24))
  generalize w2.alloc (Obj.cells #[.string nm, .int .i64 first, .slice A chs.length c] 24) = W3 at *
  generalize w2.heap.size = gt at *
  clear HX2 HY2 HB2 x0 x1 x2 hgl t1 t2 t3
  have HZ3 := Lib.hid (HZ0.out.next (w' := W3) (by rw [HG.out]; exact HB3.out))
  refine (clone_chs A c chs _ HZ3.out.row (by omega)).mono ?_
  rintro e w4 ⟨v, rfl, hown, hb4⟩
  obtain ⟨A4, c4, rfl, _, _⟩ := own_form hown
  have HX4 := Lib.hid (HX3.out.below hb4)
  have HY4 := Lib.hid (HY3.out.below hb4)
  have HT4 := Lib.hid (HT3.out.below hb4)
  have hbase : gt + 1 ≤ W3.heap.size := HT3.out.lt
  have HB4 := Lib.hid (HB3.out.trans (hb4.mono (by omega)))
  have HO4 := Lib.hid (own_lower hown hbase)
  clear hown hb4 hbase HX3 HY3 HT3 HB3 HZ3
  have hg4 : gt < w4.heap.size := HT4.out.lt
  have hf4 : w4.frozen? ⟨gt, 2, none⟩ = false := HT4.out.free 2
  have t2 : w4.cell? ⟨gt, 2, none⟩ = some (.slice A chs.length c) := HT4.out.cell 2
  go_upto_region 13 with fail
  have HX5 := Lib.hid (HX4.out.far (p := ⟨gt, 2, none⟩) (by show g ≠ gt; omega) (.slice A4 chs.length c4))
  have HY5 := Lib.hid (HY4.out.far (p := ⟨gt, 2, none⟩) (by show g + 1 ≠ gt; omega) (.slice A4 chs.length c4))
  have HT5 : Hid (Box (w4.setCell ⟨gt, 2, none⟩ (.slice A4 chs.length c4)) gt 24 #[.string nm, .int .i64 first, .slice A4 chs.length c4]) := HT4.out.set_ 2 _
  have HB5 := Lib.hid (HB4.out.setCell (p := ⟨gt, 2, none⟩) (by show g ≤ gt; omega) (.slice A4 chs.length c4))
  have HO5 : Hid ((w4.setCell ⟨gt, 2, none⟩ (.slice A4 chs.length c4)).ownsRow (gt + 1) 26 3 (.slice A4 chs.length c4) chs.length (chCells chs)) := own_heap HO4.out fun b hb => by
    have h := ownApart HO4.out HT4.out (by decide) b hb
    rw [Below.heap_setCell _ _ _ b h]
  have hs5 : (w4.setCell ⟨gt, 2, none⟩ (.slice A4 chs.length c4)).heap.size = w4.heap.size := by simp
  rw [← hs5] at hg4
  clear HX4 HY4 HT4 HB4 HO4 hf4 t2 hs5
  generalize w4.setCell ⟨gt, 2, none⟩ (.slice A4 chs.length c4) = W5 at *
  have x1 := HX5.out.cell 1
  have x2 := HX5.out.cell 2
  simp only [List.getElem?_toArray, List.getElem?_cons_succ, List.getElem?_cons_zero] at x1 x2
  have HZ5 := Lib.hid (HZ0.out.next (w' := W5) (by rw [HG.out]; exact HB5.out))
  go_upto_if 58 with fail
  go_cut [13] (fun s13 wx => s13 = .int .i64 bf ∧ wx = W5)
  case first =>
    by_cases h0 : chs.length = 0
    · have hb : bf = first := by rw [HBFE.out]; unfold befZ; rw [if_pos h0]
      subst hb
      rw [h0] at x2
      rw [h0] at *
      go_wp2_with fail
      go_meet
      exact ⟨rfl, rfl⟩
    · obtain ⟨ba, o, rfl, hb, hc⟩ := HZ5.out.row.open_ (chCells_ne chs (by omega))
      obtain ⟨y0, y1, y2⟩ := ch_cells hc (chs.length - 1) (by omega)
      have hb : (chs.getD (chs.length - 1) chg0).o = bf := by rw [HBFE.out]; unfold befZ; rw [if_neg h0]
      rw [hb] at y1
      clear hb hc y0
      go_wp2_with fail
      go_meet
      exact ⟨rfl, rfl⟩
  case rest =>
    obtain ⟨rfl, hw⟩ := hcut
    subst hw
    clear x1 x2
    clear HZ5 hg4
    have HLen : Hid (∀ j, j ≤ n → (chs ++ extL rs bf y j).length ≤ 404) := fun j hj => by
      rw [List.length_append, extL_len]
      have : j * rs.length ≤ 51 * 4 := Nat.mul_le_mul (by omega) hlr2
      omega
    obtain ⟨i0, hi0, hz0, hz1, hz2⟩ := info_parts chg_info
    go_wp2_with fail
    go_loopw [13, 15] (fun bv yv wr => ∃ (j : Nat) (A' : Option Addr) (c' : Nat), j ≤ n ∧ yv = .int .i64 (y + (j : Int)) ∧ bv = .int .i64 (befY bf rs j) ∧ Hid (Box wr gt 24 #[.string nm, .int .i64 first, .slice A' (chs ++ extL rs bf y j).length c']) ∧ Hid (wr.ownsRow (gt + 1) 26 3 (.slice A' (chs ++ extL rs bf y j).length c') (chs ++ extL rs bf y j).length (chCells (chs ++ extL rs bf y j))) ∧ Hid (Box wr (g + 1) 24 #[.string ⟨#[]⟩, .int .i64 0, .slice none 0 0]) ∧ Hid (Below g w wr)) (fun _ yv _ => (y + (n : Int) - intOf yv).toNat)
    case atStart => exact ⟨0, A4, c4, by omega, by simp, rfl, by simpa [extL] using HT5, by simpa [extL] using HO5, HY5, HB5⟩
    case round =>
      clear HX5 HY5 HT5 HB5 HO5
      obtain ⟨j, A', c', hj, rfl, rfl, hbt, hown, hby, hbr⟩ := hrel
      by_cases hlt : j < n
      · have hR := Lib.hid (HR0.out.next (w' := wr) (by rw [HG.out]; exact hbr.out))
        have hbo := befY_ok hBF.out HF.out j
        have HC := Lib.hid (fun W (hW : Below wr.heap.size wr W) => changes_any B d rs (befY bf rs j) (y + (j : Int)) W (hR.out.next hW) HF.out hbo (by omega) (by have := HY2.out; omega))
        unfold IsChs at HC
        have hll := HLen.out j hj
        have HS : Hid (chs ++ extL rs bf y (j + 1) = (chs ++ extL rs bf y j) ++ foreChs (befY bf rs j) (y + (j : Int)) rs rs.length) := by
          unfold Hid; rw [extL_succ, List.append_assoc]
        have HFL : Hid ((foreChs (befY bf rs j) (y + (j : Int)) rs rs.length).length = rs.length) := foreChs_len _ _ _ _
        have hyy : y + (j : Int) ≤ y2 := by have := HY2.out; omega
        have hyt : decide (y + (j : Int) ≤ y2) = true := decide_eq_true hyy
        have c0 : ∀ W, Below wr.heap.size wr W → W.cell? ⟨gt, 2, none⟩ = some (.slice A' (chs ++ extL rs bf y j).length c') := fun W hW => (hbt.out.below hW).cell 2
        clear hbo hyy
        generalize chs ++ extL rs bf y j = L at *
        generalize hL2e : chs ++ extL rs bf y (j + 1) = L2 at *
        have HL2E := Lib.hid hL2e
        clear hL2e
        generalize foreChs (befY bf rs j) (y + (j : Int)) rs rs.length = N at *
        generalize befY bf rs j = bj at *
        go_upto_region 20 with fail
        refine flow_begin_tail 6 (tellOf [(5, toldRows 26 3 wr.heap.size rs.length (chCells N))]) (by kernel_rfl) (by kernel_rfl) ?_
        simp only [List.take_succ_cons, List.take_zero, List.drop_succ_cons, List.drop_zero]
        repeat (first | (refine flow_val (v := ?_) (by rfl) (by rfl) (fun w hb => ?_) ?_; rotate_left; (· ((go_simp) <;> ((repeat' apply And.intro) <;> with_reducible rfl))); try simp only [Act.put, List.setIfInBounds_toArray, List.set_cons_zero, List.set_cons_succ, Nat.reduceAdd]) | (refine flow_skip (by rfl) (by rfl) ?_; try simp only [Act.put, List.setIfInBounds_toArray, List.set_cons_zero, List.set_cons_succ, Nat.reduceAdd]))
        refine flow_rows (f := ?_) (args := ?_) [] (by kernel_rfl) (by rfl) (by rfl) (fun w hb => ?_) (fun w hb hu => ?_) (fun A5 c5 => ?_); rotate_left 2; (· ((go_simp) <;> ((repeat' apply And.intro) <;> with_reducible rfl)))
        · exact (HC.out w hb).mono fun e w' ⟨A, c, he, ho, hb'⟩ => ⟨_, he, own_lower ho hb.size, hb'⟩
        try simp only [Act.put, List.setIfInBounds_toArray, List.set_cons_zero, List.set_cons_succ, Nat.reduceAdd]
        repeat (first | (refine flow_val (v := ?_) (by rfl) (by rfl) (fun w hb => ?_) ?_; rotate_left; (· ((go_simp) <;> ((repeat' apply And.intro) <;> with_reducible rfl))); try simp only [Act.put, List.setIfInBounds_toArray, List.set_cons_zero, List.set_cons_succ, Nat.reduceAdd]) | (refine flow_skip (by rfl) (by rfl) ?_; try simp only [Act.put, List.setIfInBounds_toArray, List.set_cons_zero, List.set_cons_succ, Nat.reduceAdd]))
        refine flow_nil fun w6 hb6 hf => ?_
        have h5 := hf.1
        clear hf
        obtain ⟨g5, cp5, hv5, _, _⟩ := h5.form (by omega)
        have hA5 : A5 = some ⟨g5, 0, none⟩ := by injection hv5
        subst hA5
        have hNw := newsRow (Row.of_ownS h5)
        have hbt6 := hbt.out.below hb6
        have ho6 := own_next hown.out hb6
        have HB6 := Lib.hid (hbr.out.trans (hb6.mono (by have h := hbt.out.lt; omega)))
        have hby6 := Lib.hid (hby.out.below hb6)
        have hg6 : gt < w6.heap.size := hbt6.lt
        clear hv5 h5 hb6 hbr hby hbt hown c0 HC hR
        refine wpList_append_lies _ rfl (.tmp 73) (.tmp 77) 22 rfl (gt + 1) 26 i0 (.agg #[.int .i64 0, .int .i64 0, .string ⟨#[]⟩]) 3 32 Tryd.underlying22 hi0 hz0 hz1 hz2 rfl (by decide) (.slice A' L.length c') _ _ rfl ho6 ⟨g5, 0, none⟩ rs.length c5 (chCells N) rfl ?c0 hNw ?c2 (by omega) ?c3 ?c4 ?c5 w6.heap.size rfl ?_
        case c0 => rw [chCells_length, HFL.out]
        case c2 => exact chs_one N
        case c3 => simp only [maxLen]; omega
        case c4 => omega
        case c5 => omega
        intro gg cap w7 hown7 hgrow hat hlt7
        have hne : some gt ≠ (Value.slice A' L.length c').ownBlock := fun e => by have := own_lt ho6 gt e.symm; omega
        have hbt7 := hbt6.grown hgrow hne
        have hby7 := hby6.out.grown hgrow (fun e => by have := own_lt ho6 (g + 1) e.symm; omega)
        have hb7 : Below g w w7 := HB6.out.grown hgrow (by have := HB6.out.size; have := HG.out; omega) (fun k hk => by have := own_lt ho6 k hk; omega)
        have hL2 : L2.length = L.length + rs.length := by rw [HS.out, List.length_append, HFL.out]
        have hg7 : gt < w7.heap.size := hbt7.lt
        have hf7 : w7.frozen? ⟨gt, 2, none⟩ = false := hbt7.free 2
        have hc7 : w7.cell? ⟨gt, 2, none⟩ = some (.slice A' L.length c') := hbt7.cell 2
        rw [← chCells_append, ← HS.out, ← hL2] at hown7
        rw [← hL2]
        clear hL2
        have HBT8 : Hid (Box (w7.setCell ⟨gt, 2, none⟩ (.slice (some ⟨gg, 0, none⟩) L2.length cap)) gt 24 #[.string nm, .int .i64 first, .slice (some ⟨gg, 0, none⟩) L2.length cap]) := hbt7.set_ 2 _
        have HBY8 := Lib.hid (hby7.far (p := ⟨gt, 2, none⟩) (by show g + 1 ≠ gt; omega) (.slice (some ⟨gg, 0, none⟩) L2.length cap))
        have HB8 := Lib.hid (hb7.setCell (p := ⟨gt, 2, none⟩) (by show g ≤ gt; omega) (.slice (some ⟨gg, 0, none⟩) L2.length cap))
        have HO8 : Hid ((w7.setCell ⟨gt, 2, none⟩ (.slice (some ⟨gg, 0, none⟩) L2.length cap)).ownsRow (gt + 1) 26 3 (.slice (some ⟨gg, 0, none⟩) L2.length cap) L2.length (chCells L2)) := own_heap hown7 fun b hb => by
          have h := ownApart hown7 hbt7 (by decide) b hb
          rw [Below.heap_setCell _ _ _ b h]
        clear hown7 hgrow hat hlt7 hne hbt7 hby7 hb7 hby6 HB6 ho6 hbt6 hNw hg6
        simp only [Act.put, List.setIfInBounds_toArray, List.set_cons_zero, List.set_cons_succ]
        refine wpList_step fun K hK => ?_
        rw [if_pos (by rfl)]
        go_simp
        refine hK _ _ ?_
        clear hK K
        refine wpList_step fun K hK => ?_
        rw [if_pos (by rfl)]
        go_simp
        refine hK _ _ (wpList_nil ?_)
        clear hK K hg7 hf7 hc7
        generalize w7.setCell ⟨gt, 2, none⟩ (.slice (some ⟨gg, 0, none⟩) L2.length cap) = W8 at *
        have hR8 := HR0.out.next (w' := W8) (by rw [HG.out]; exact HB8.out)
        obtain ⟨rb, ro, rfl, hrb, hrc⟩ := hR8.row.open_ (flat_ne zrF_len (by omega) rs (by omega))
        obtain ⟨y0, y1, y2', y3, y4, y5⟩ := zr_cells hrc (rs.length - 1) (by omega)
        have HLO : Hid ((rs.getD (rs.length - 1) zr0).o = befY bf rs (j + 1)) := rfl
        rw [HLO.out] at y4
        clear y0 y1 y2' y3 y5 hrc hR8
        go_wp2_with fail
        go_roundw
        case rel => exact ⟨j + 1, some ⟨gg, 0, none⟩, cap, by omega, by go_num, rfl, by rw [HL2E.out]; exact HBT8, by rw [HL2E.out]; exact HO8, HBY8, HB8⟩
        case measure => simp [intOf]; omega
      · obtain rfl : j = n := by omega
        have hyt : decide (y + (j : Int) ≤ y2) = false := decide_eq_false (by have := HY2.out; omega)
        rw [← HLL.out] at hbt hown
        have hzl : LL.length ≤ 404 := by rw [HLL.out]; exact HLen.out j (by omega)
        have hfit : ∀ x ∈ LL, ChgFit x := by
          rw [HLL.out]
          intro x hx
          rcases List.mem_append.1 hx with h | h
          · exact HZ0.out.fit x h
          · exact ext_fit rs bf y j HF.out hBF.out h1 (by have := HY2.out; omega) (fun i hi => (HR0.out.fit _ (getD_mem zr0 rs i hi)).l) x h
        have hZ9 := Lib.hid (show ZIn wr nm A' LL from ⟨Row.of_ownS hown.out, HZ0.out.name, by unfold maxLen; omega, hfit⟩)
        have hx0 := hbt.out.cell 0
        have hx1 := hbt.out.cell 1
        have hx2 := hbt.out.cell 2
        simp only [List.getElem?_toArray, List.getElem?_cons_succ, List.getElem?_cons_zero] at hx0 hx1 hx2
        clear hfit
        go_wp2_with fail
        refine (hZ9.out.check first c').mono ?_
        rintro e w9 ⟨E, rfl, hE, hb9⟩
        have HE := Lib.hid hE
        have hbt9 := hbt.out.below hb9
        have hby9 := hby.out.below hb9
        have HO9 := Lib.hid (own_next hown.out hb9)
        have HB9 := Lib.hid (hbr.out.trans (hb9.mono (by have := hbt.out.lt; omega)))
        have HZ9 := Lib.hid (hZ9.out.next hb9)
        clear hE hx0 hx1 hx2 hb9 hZ9 hown hbt hby hbr
        have x0 : w9.cell? ⟨gt, 0, none⟩ = some (.string nm) := hbt9.cell 0
        have x1 : w9.cell? ⟨gt, 1, none⟩ = some (.int .i64 first) := hbt9.cell 1
        have x2 : w9.cell? ⟨gt, 2, none⟩ = some (.slice A' LL.length c') := hbt9.cell 2
        have r0 : w9.cell? ⟨g + 1, 0, none⟩ = some (.string ⟨#[]⟩) := hby9.cell 0
        have r1 : w9.cell? ⟨g + 1, 1, none⟩ = some (.int .i64 0) := hby9.cell 1
        have r2 : w9.cell? ⟨g + 1, 2, none⟩ = some (.slice none 0 0) := hby9.cell 2
        have rf : ∀ i, w9.frozen? ⟨g + 1, i, none⟩ = false := fun i => hby9.free i
        have hgw : w.heap.size ≤ g + 1 := by have := HG.out; omega
        have hgg : g + 1 < w9.heap.size := hby9.lt
        have HBT9 := Lib.hid hbt9
        have HBY9 := Lib.hid hby9
        clear hbt9 hby9
        by_cases hE0 : E = 0
        · subst hE0
          have OK9 := Lib.hid (HE.out.1 rfl)
          go_wp2_with fail
          refine bodyPost_ret (v := .tuple #[.agg #[.string nm, .int .i64 first, .slice A' LL.length c'], .int .i64 0]) (by simp [results, Tryd.results23, go_sem, r0, r1, r2]) rfl ?_
          have hB10 : Below w.heap.size w (((w9.setCell ⟨g + 1, 0, none⟩ (.string nm)).setCell ⟨g + 1, 1, none⟩ (.int .i64 first)).setCell ⟨g + 1, 2, none⟩ (.slice A' LL.length c')) := by
            rw [HG.out]
            exact ((HB9.out.setCell (p := ⟨g + 1, 0, none⟩) (by show g ≤ g + 1; omega) _).setCell (p := ⟨g + 1, 1, none⟩) (by show g ≤ g + 1; omega) _).setCell (p := ⟨g + 1, 2, none⟩) (by show g ≤ g + 1; omega) _
          have hO10 : (((w9.setCell ⟨g + 1, 0, none⟩ (.string nm)).setCell ⟨g + 1, 1, none⟩ (.int .i64 first)).setCell ⟨g + 1, 2, none⟩ (.slice A' LL.length c')).ownsRow (gt + 1) 26 3 (.slice A' LL.length c') LL.length (chCells LL) := own_heap HO9.out fun b hb => by
            have h := ownApart HO9.out HBY9.out (by decide) b hb
            rw [Below.heap_setCell _ _ _ b h, Below.heap_setCell _ _ _ b h, Below.heap_setCell _ _ _ b h]
          exact ⟨hB10, .inl ⟨OK9.out, A', c', rfl, ⟨Row.of_ownS hO10, HZ9.out.name, HZ9.out.len, HZ9.out.fit⟩, fun a ha => by have := (own_lt HO9.out a.block (by rw [ha]; rfl)).1; have := HG.out; omega⟩⟩
        · have t5 : (E != 0) = true := by rw [bne_iff_ne]; exact hE0
          go_wp2_with fail
          refine bodyPost_ret (v := .tuple #[.agg #[.string ⟨#[]⟩, .int .i64 0, .slice none 0 0], .int .i64 E]) (by simp [results, Tryd.results23, go_sem, r0, r1, r2]) rfl ?_
          refine ⟨?_, .inr ⟨fun h => hE0 (HE.out.2 h), E, hE0, rfl⟩⟩
          rw [HG.out]
          exact ((HB9.out.setCell (p := ⟨g + 1, 0, none⟩) (by show g ≤ g + 1; omega) _).setCell (p := ⟨g + 1, 1, none⟩) (by show g ≤ g + 1; omega) _).setCell (p := ⟨g + 1, 2, none⟩) (by show g ≤ g + 1; omega) _
end Go.Proofs.YtlihhlijombepaaDoor
