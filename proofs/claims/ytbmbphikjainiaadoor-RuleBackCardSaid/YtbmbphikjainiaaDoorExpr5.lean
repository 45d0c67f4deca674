/- Contracts of package rule: expr at a level of operators with two operands. -/
import Derived.Test.YtbmbphikjainiaaDoorExpr4
namespace Go.Proofs.YtbmbphikjainiaaDoor
open Go.RowKit
set_option linter.unusedVariables false

/-- what the loop keeps: rem is still to be read -/
structure BinSt (g g4 g10 : Nat) (S : ByteArray) (op : Int) (L : Nat) (t : RE) (ts : List Tok) (w wr : World) (rem : List (Int × RE)) (xt : RE) : Prop where
  b4 : Box wr g4 24 zeroRE
  b10 : Box wr g10 24 (reC xt)
  at_ : ReAt wr (fun b => g4 < b ∧ b ≠ g10) wr.heap.size xt
  rd : Reads wr g S op (flatP L rem ++ ts)
  gr : w.grownBy wr (some g)
  sh : chainS (strip xt) rem = strip t
  one : L = 3 → rem.length ≤ 1
/-- how many words are left, out of the world -/
def leftW (g : Nat) (S : ByteArray) (w : World) : Nat := (toks (S.data.toList.drop (match w.cell? ⟨g, 2, none⟩ with | some (.int _ n) => n.toNat | _ => 0))).length
theorem leftW_eq {w : World} {g : Nat} {S : ByteArray} {op : Int} {ts : List Tok} (h : Reads w g S op ts) : leftW g S w = ts.tail.length := by
  obtain ⟨a, n, hx, hl⟩ := h
  have e : w.cell? ⟨g, 2, none⟩ = some (.int .i64 (n : Int)) := Box.cell hx 2
  unfold leftW
  rw [e]
  simp only [Int.toNat_natCast]
  rw [hl.rest]
theorem good_rem (L : Nat) (rem : List (Int × RE)) (ts : List Tok) (hok : ∀ p ∈ rem, isBin p.1 ∧ lev p.1 = L) (h : Good L ts) : Good (L + 1) (flatP L rem ++ ts) := by
  cases rem with
  | nil => exact h.more (by omega)
  | cons p r =>
    obtain ⟨h1, h2⟩ := hok p (List.mem_cons_self ..)
    exact good_sgn p.1 h1 L h2 _
theorem flat_cons (L : Nat) (p : Int × RE) (r : List (Int × RE)) (ts : List Tok) : flatP L (p :: r) ++ ts = sgn p.1 :: (prT (L + 1) p.2 ++ (flatP L r ++ ts)) := by
  simp [flatP]
theorem bin_no (ts : List Tok) (L : Nat) (hL : L < 8) (w : World) (hs : Sgs w) (hv : Lvs w) (h : Good L ts) : Calls Tryd.prog 51 #[.string (tokS ts), .int .i64 (L : Int)] w fun e w' => e = .returned (.tuple #[.int .i64 0, .bool false]) ∧ w = w' := by
  refine (binary_any (ts.headD []) L hL w hs hv).mono ?_
  rintro e w' h'
  unfold BinQ at h'
  rw [binK_no ts L h] at h'
  exact h'
theorem bin_op (k : Int) (hk : isBin k) (L : Nat) (hl : lev k = L) (hL : L < 8) (w : World) (hs : Sgs w) (hv : Lvs w) : Calls Tryd.prog 51 #[.string (str (sgn k)), .int .i64 (L : Int)] w fun e w' => e = .returned (.tuple #[.int .i64 k, .bool true]) ∧ w = w' := by
  refine (binary_any (sgn k) L hL w hs hv).mono ?_
  rintro e w' h'
  unfold BinQ at h'
  rw [binK_op k hk L hl] at h'
  have hkn : ((k.toNat : Nat) : Int) = k := by unfold isBin at hk; omega
  simp only [hkn] at h'
  exact h'
/-- one operator has been read -/
theorem bin_step {g g4 g10 : Nat} {S : ByteArray} {op : Int} {L : Nat} {t : RE} {ts : List Tok} {w W8 : World} {rem : List (Int × RE)} {xt y : RE} {kp k n : Int} {s : Value} (h4 : Box W8 g4 24 zeroRE) (h10 : Box W8 g10 24 #[.int .i64 k, .int .i64 n, s])
    (hx : ReAt W8 (fun b => g4 < b ∧ b ≠ g10) W8.heap.size xt) (hy : ReAt W8 (fun b => g4 < b ∧ b ≠ g10) W8.heap.size y) (hr : Reads W8 g S op (flatP L rem ++ ts)) (hg : w.grownBy W8 (some g)) (e1 : g < g4) (e2 : g4 < g10) (e3 : w.heap.size ≤ g4) (hk : I64 kp)
    (sh : chainS (.node kp 0 none 0 [strip xt, strip y]) rem = strip t) (one : L = 3 → rem.length ≤ 1) :
    BinSt g g4 g10 S op L t ts w ((set3 W8 g10 kp 0 (.slice (some ⟨W8.heap.size, 0, none⟩) 2 2)).alloc (.cells (reF xt ++ reF y).toArray 24)) rem (.node kp 0 (some ⟨W8.heap.size, 0, none⟩) 2 [xt, y]) := by
  have hl10 := h10.lt
  have hsz : (set3 W8 g10 kp 0 (.slice (some ⟨W8.heap.size, 0, none⟩) 2 2)).heap.size = W8.heap.size := by simp [set3]
  have hb := below_alloc1 (set3 W8 g10 kp 0 (.slice (some ⟨W8.heap.size, 0, none⟩) 2 2)) (Obj.cells (reF xt ++ reF y).toArray 24)
  have hbx := Box.new (set3 W8 g10 kp 0 (.slice (some ⟨W8.heap.size, 0, none⟩) 2 2)) 24 (reF xt ++ reF y).toArray
  rw [hsz] at hbx
  have hset : ∀ {z : RE}, ReAt W8 (fun b => g4 < b ∧ b ≠ g10) W8.heap.size z → ReAt (set3 W8 g10 kp 0 (.slice (some ⟨W8.heap.size, 0, none⟩) 2 2)) (fun b => g4 < b ∧ b ≠ g10) (set3 W8 g10 kp 0 (.slice (some ⟨W8.heap.size, 0, none⟩) 2 2)).heap.size z := fun h => ((h.set_ g10 0 _ (by simp)).set_ g10 1 _ (by simp)).set_ g10 2 _ (by simp)
  refine ⟨?_, ?_, ?_, ?_, ?_, ?_, one⟩
  · exact (Box.far (Box.far (Box.far h4 (by show g4 ≠ g10; omega) _) (by show g4 ≠ g10; omega) _) (by show g4 ≠ g10; omega) _).alloc _
  · exact (((h10.set_ 0 (.int .i64 kp)).set_ 1 (.int .i64 0)).set_ 2 (.slice (some ⟨W8.heap.size, 0, none⟩) 2 2)).alloc _
  · exact ((hset hx).next hb).two ((hset hy).next hb) hbx ⟨by omega, by omega⟩ hk (by unfold I64; omega)
  · exact (reads_set (reads_set (reads_set hr g10 0 _ (by omega)) g10 1 _ (by omega)) g10 2 _ (by omega)).next hb
  · exact World.grownBy.trans (grown_setnew (grown_setnew (grown_setnew hg g10 0 _ (by omega)) g10 1 _ (by omega)) g10 2 _ (by omega)) (grown_bel hb)
  · rw [strip_node]; exact sh
set_option maxHeartbeats 8000000 in
set_option maxRecDepth 100000 in
theorem expr_bin (g : Nat) (S : ByteArray) (op : Int) (L : Nat) (hL : L = 0 ∨ L = 1 ∨ L = 3 ∨ L = 4 ∨ L = 5) (t x : RE) (X : List Tok) (ps : List (Int × RE)) (hokp : ∀ p ∈ ps, isBin p.1 ∧ lev p.1 = L ∧ ReOk p.2) (hsh : chainS (strip x) ps = strip t) (hone : L = 3 → ps.length ≤ 1) (ts : List Tok) (w : World) (hS : S.size ≤ 5000) (hw : RdOk w g S op (X ++ (flatP L ps ++ ts))) (hgd : Good L ts)
    (hI0 : ∀ W r, Good (L + 1) r → RdOk W g S op (X ++ r) → Calls Tryd.prog 33 #[.pointer (some ⟨g, 0, none⟩), .int .i64 ((L : Int) + 1)] W (ExprQ g S op x r W))
    (hIy : ∀ p ∈ ps, ∀ W r, Good (L + 1) r → RdOk W g S op (prT (L + 1) p.2 ++ r) → Calls Tryd.prog 33 #[.pointer (some ⟨g, 0, none⟩), .int .i64 ((L : Int) + 1)] W (ExprQ g S op p.2 r W)) :
    Calls Tryd.prog 33 #[.pointer (some ⟨g, 0, none⟩), .int .i64 (L : Int)] w (ExprQ g S op t ts w) := by
  have HB0 := Lib.hid (below_alloc1 w (Obj.cells zeroRE 24))
  have HX0 := Lib.hid (Box.new w 24 zeroRE)
  have HOKP := Lib.hid hokp
  have hg0 := good_rem L ps ts (fun p hp => ⟨(hokp p hp).1, (hokp p hp).2.1⟩) hgd
  have HE := Lib.hid (hI0 _ _ hg0 (hw.next HB0.out))
  have HEY := Lib.hid hIy
  have hgl := hw.rd.lt
  have HOK := Lib.hid hw
  have HGD := Lib.hid hgd
  have HC1 := Lib.hid hsh
  have HC2 := Lib.hid hone
  have hL8 : L ≤ 5 := by omega
  have l2 : ((L : Int) == 2) = false := by rw [beq_eq_false_iff_ne]; omega
  have l6 : ((L : Int) == 6) = false := by rw [beq_eq_false_iff_ne]; omega
  clear hw hI0 hIy hsh hone hokp hg0 hgd
  go_enter Tryd.func33, Tryd.ntmps33
  go_wp2_with fail
  refine HE.out.mono ?_
  rintro e w1 ⟨x', hs, rfl, ha, hr, hg⟩
  cases x' with
  | node k n A c ks =>
  rw [show reV (.node k n A c ks) = .agg #[.int .i64 k, .int .i64 n, .slice A ks.length c] from rfl]
  generalize hg4 : w.heap.size = g4 at *
  have HG4 := Lib.hid hg4
  clear hg4
  have hsz0 : (w.alloc (Obj.cells zeroRE 24)).heap.size = g4 + 1 := by simp; exact HG4.out
  have hx1 := HX0.out.grown hg (by simp; omega)
  have hg1 : w.grownBy w1 (some g) := World.grownBy.trans (grown_bel (by rw [HG4.out]; exact HB0.out)) hg
  have hal := below_alloc1 w1 (Obj.cells #[.int .i64 k, .int .i64 n, .slice A ks.length c] 24)
  have HST : Hid (BinSt g g4 w1.heap.size S op L t ts w (w1.alloc (Obj.cells #[.int .i64 k, .int .i64 n, .slice A ks.length c] 24)) ps (.node k n A c ks)) :=
    ⟨hx1.alloc _, Box.new _ _ _, (ha.more (p' := fun b => g4 < b ∧ b ≠ w1.heap.size) fun b hb hB => ⟨by omega, by omega⟩).next hal, hr.next hal, World.grownBy.trans hg1 (grown_bel hal), by rw [show strip (.node k n A c ks) = strip x from hs]; exact HC1.out, HC2.out⟩
  have hs1 : g4 < w1.heap.size := hx1.lt
  clear hsz0 hx1 hg1 hal hs ha hr hg HX0 HB0 HE HC1 HC2
  go_wp2_with fail
  have HOP := Lib.hid (fun p (hp : p ∈ ps) => (⟨(HOKP.out p hp).1, (HOKP.out p hp).2.1⟩ : isBin p.1 ∧ lev p.1 = L))
  have HMEM : Hid (∀ p ∈ ps, p ∈ ps) := fun p hp => hp
  generalize w1.alloc (Obj.cells #[.int .i64 k, .int .i64 n, .slice A ks.length c] 24) = W2 at *
  generalize w1.heap.size = g10 at *
  go_loopw [11, 12, 13, 14] (fun iv _ _ _ wr => ∃ (rem : List (Int × RE)) (xt : RE), iv = .bool true ∧ Hid (∀ p ∈ rem, p ∈ ps) ∧ Hid (BinSt g g4 g10 S op L t ts w wr rem xt)) (fun _ _ _ _ wr => leftW g S wr)
  case atStart => exact ⟨ps, _, rfl, HMEM, HST⟩
  case round =>
    clear HST HMEM
    obtain ⟨rem, xt, rfl, hmem, hst⟩ := hrel
    cases rem with
    | nil =>
      have HK := Lib.hid (tok_at g S op ts wr (by have := hst.out.rd; simpa [flatP] using this) hS)
      have HBI := Lib.hid (fun W hs hv => bin_no ts L (by omega) W hs hv HGD.out)
      have hro := Lib.hid (HOK.out.go hst.out.gr hst.out.rd)
      have HBI2 := Lib.hid (fun m => HBI.out (wr.drewN m) (hro.out.sg.next (below_drewN wr m)) (hro.out.lv.next (below_drewN wr m)))
      clear HBI hro
      generalize tokS ts = tkS at *
      go_wp2_with fail
      refine HK.out.mono ?_
      rintro e w3 ⟨rfl, m, rfl⟩
      go_wp2_with fail
      refine (HBI2.out m).mono ?_
      rintro e w4 ⟨rfl, rfl⟩
      cases xt with
      | node k n A c ks =>
      have hx4 := hst.out.b4.drewN m
      have hx10 := hst.out.b10.drewN m
      have r0 : (wr.drewN m).cell? ⟨g4, 0, none⟩ = some (.int .i64 0) := hx4.cell 0
      have r1 : (wr.drewN m).cell? ⟨g4, 1, none⟩ = some (.int .i64 0) := hx4.cell 1
      have r2 : (wr.drewN m).cell? ⟨g4, 2, none⟩ = some (.slice none 0 0) := hx4.cell 2
      have rf : ∀ i, (wr.drewN m).frozen? ⟨g4, i, none⟩ = false := fun i => hx4.free i
      have rl : g4 < (wr.drewN m).heap.size := hx4.lt
      have y0 : (wr.drewN m).cell? ⟨g10, 0, none⟩ = some (.int .i64 k) := hx10.cell 0
      have y1 : (wr.drewN m).cell? ⟨g10, 1, none⟩ = some (.int .i64 n) := hx10.cell 1
      have y2 : (wr.drewN m).cell? ⟨g10, 2, none⟩ = some (.slice A ks.length c) := hx10.cell 2
      have yl : g10 < (wr.drewN m).heap.size := hx10.lt
      have HR9 := Lib.hid (show Reads (wr.drewN m) g S op ts by have := hst.out.rd.drewN m; simpa [flatP] using this)
      have HG9 : Hid (w.grownBy (wr.drewN m) (some g)) := World.grownBy.trans hst.out.gr (grown_bel (below_drewN wr m))
      have HA9 : Hid (ReAt (wr.drewN m) (fun b => g4 < b) (wr.drewN m).heap.size (.node k n A c ks)) := (hst.out.at_.next (below_drewN wr m)).more fun b hb _ => hb.1
      have HS9 : Hid (Same (.node k n A c ks) t) := hst.out.sh
      clear hx4 hx10 hst hmem HK HBI2
      generalize wr.drewN m = W9 at *
      go_wp2_with fail
      refine bodyPost_ret (v := .tuple #[.agg #[.int .i64 k, .int .i64 n, .slice A ks.length c], .bool true]) (by simp [results, Tryd.results33, go_sem, r0, r1, r2]) rfl ?_
      exact expr_done HG4.out hgl HR9.out HG9.out HS9.out HA9.out
    | cons p rem =>
      have hp := hmem.out p (List.mem_cons_self ..)
      have HP2 : Hid (∀ q ∈ rem, q ∈ ps) := fun q hq => hmem.out q (List.mem_cons_of_mem _ hq)
      obtain ⟨hb1, hb2⟩ := HOP.out p hp
      have hrd : Reads wr g S op (sgn p.1 :: (prT (L + 1) p.2 ++ (flatP L rem ++ ts))) := by have := hst.out.rd; rw [flat_cons] at this; exact this
      have HM : Hid (leftW g S wr = (prT (L + 1) p.2 ++ (flatP L rem ++ ts)).length) := leftW_eq hrd
      have hgr := good_rem L rem ts (fun q hq => HOP.out q (HP2.out q hq)) HGD.out
      have HK := Lib.hid (tok_at g S op _ wr hrd hS)
      have HBI := Lib.hid (fun W hs hv => bin_op p.1 hb1 L hb2 (by omega) W hs hv)
      have hro := Lib.hid (HOK.out.go hst.out.gr hrd)
      have HBI2 := Lib.hid (fun m => HBI.out (wr.drewN m) (hro.out.sg.next (below_drewN wr m)) (hro.out.lv.next (below_drewN wr m)))
      have HSC := Lib.hid (fun m => scan_at g S op (sgn p.1) _ (wr.drewN m) (hrd.drewN m) hS)
      have HEp := Lib.hid (fun W (hW : RdOk W g S op (prT (L + 1) p.2 ++ (flatP L rem ++ ts))) => HEY.out p hp W (flatP L rem ++ ts) hgr hW)
      have hk0 : 0 ≤ p.1 ∧ p.1 ≤ 13 := by unfold isBin at hb1; omega
      have HPL := Lib.hid (prT_ne (L + 1) p.2 (HOKP.out p hp).2.2)
      rw [show tokS (sgn p.1 :: (prT (L + 1) p.2 ++ (flatP L rem ++ ts))) = str (sgn p.1) from rfl] at HK
      clear HBI hrd hgr hb1 hb2 hp hmem
      generalize str (sgn p.1) = tkS at *
      generalize hKp : p.1 = kp at *
      have HKP := Lib.hid hKp
      clear hKp
      go_wp2_with fail
      refine HK.out.mono ?_
      rintro e w3 ⟨rfl, m, rfl⟩
      go_wp2_with fail
      refine (HBI2.out m).mono ?_
      rintro e w4 ⟨rfl, rfl⟩
      have HS1 := Lib.hid (HSC.out m)
      clear HK HBI2 HSC
      go_wp2_with fail
      refine HS1.out.mono ?_
      rintro e w5 ⟨rfl, hr5, hg5⟩
      have hx4 := (hst.out.b4.drewN m).grown hg5 (by simp; omega)
      have hx10 := (hst.out.b10.drewN m).grown hg5 (by simp; omega)
      have hgr5 : w.grownBy w5 (some g) := World.grownBy.trans hst.out.gr (World.grownBy.trans (grown_bel (below_drewN wr m)) hg5)
      have hat5 : ReAt w5 (fun b => g4 < b ∧ b ≠ g10) w5.heap.size xt := (hst.out.at_.next (below_drewN wr m)).grown hg5 (fun b hb => by simp; omega)
      have hal := below_alloc1 w5 (Obj.cells zeroRE 24)
      have HX6 := Lib.hid (hx4.alloc (Obj.cells zeroRE 24))
      have HY6 := Lib.hid (hx10.alloc (Obj.cells zeroRE 24))
      have HZ6 := Lib.hid (Box.new w5 24 zeroRE)
      have HA6 := Lib.hid ((hat5.more (p' := fun b => (g4 < b ∧ b ≠ g10) ∧ b ≠ w5.heap.size) fun b hb hB => ⟨hb, by omega⟩).next hal)
      have HG6 : Hid (w.grownBy (w5.alloc (Obj.cells zeroRE 24)) (some g)) := World.grownBy.trans hgr5 (grown_bel hal)
      have HE6 := Lib.hid (HEp.out _ (HOK.out.go HG6.out (hr5.next hal)))
      have HSH : Hid (chainS (.node kp 0 none 0 [strip xt, strip p.2]) rem = strip t) := by have := hst.out.sh; rw [chainS, List.foldl_cons, HKP.out] at this; exact this
      have HONE : Hid (L = 3 → rem = []) := fun h => by
        have := hst.out.one h
        simp at this; exact this
      have h105 : g10 < w5.heap.size := hx10.lt
      clear hr5 hg5 hx4 hx10 hgr5 hat5 hal HS1 HEp hst
      go_wp2_with fail
      generalize w5.alloc (Obj.cells zeroRE 24) = W6 at *
      generalize w5.heap.size = g14 at *
      refine HE6.out.mono ?_
      rintro e w7 ⟨y', hs7, rfl, ha7, hr7, hg7⟩
      cases y' with
      | node k2 n2 A2 c2 ks2 =>
      rw [show reV (.node k2 n2 A2 c2 ks2) = .agg #[.int .i64 k2, .int .i64 n2, .slice A2 ks2.length c2] from rfl]
      have hz6 : g14 < W6.heap.size := HZ6.out.lt
      have hx7 := HX6.out.grown hg7 (by simp; omega)
      have hy7 := HY6.out.grown hg7 (by simp; omega)
      have hz7 := HZ6.out.grown hg7 (by simp; omega)
      have HX7 := Lib.hid (Box.far (Box.far (Box.far hx7 (p := ⟨g14, 0, none⟩) (by show g4 ≠ g14; omega) (.int .i64 k2)) (p := ⟨g14, 1, none⟩) (by show g4 ≠ g14; omega) (.int .i64 n2)) (p := ⟨g14, 2, none⟩) (by show g4 ≠ g14; omega) (.slice A2 ks2.length c2))
      have HY7 := Lib.hid (Box.far (Box.far (Box.far hy7 (p := ⟨g14, 0, none⟩) (by show g10 ≠ g14; omega) (.int .i64 k2)) (p := ⟨g14, 1, none⟩) (by show g10 ≠ g14; omega) (.int .i64 n2)) (p := ⟨g14, 2, none⟩) (by show g10 ≠ g14; omega) (.slice A2 ks2.length c2))
      have HZ7 : Hid (Box (((w7.setCell ⟨g14, 0, none⟩ (.int .i64 k2)).setCell ⟨g14, 1, none⟩ (.int .i64 n2)).setCell ⟨g14, 2, none⟩ (.slice A2 ks2.length c2)) g14 24 #[.int .i64 k2, .int .i64 n2, .slice A2 ks2.length c2]) := ((hz7.set_ 0 _).set_ 1 _).set_ 2 _
      have hax7 := HA6.out.grown hg7 (fun b hb => by simp; omega)
      have hay7 := ha7.more (p' := fun b => (g4 < b ∧ b ≠ g10) ∧ b ≠ g14) fun b hb hB => ⟨⟨by omega, by omega⟩, by omega⟩
      have HAX := Lib.hid ((((hax7.set_ g14 0 (.int .i64 k2) (by simp)).set_ g14 1 (.int .i64 n2) (by simp)).set_ g14 2 (.slice A2 ks2.length c2) (by simp)).more (p' := fun b => g4 < b ∧ b ≠ g10) fun b hb _ => hb.1)
      have HAY := Lib.hid ((((hay7.set_ g14 0 (.int .i64 k2) (by simp)).set_ g14 1 (.int .i64 n2) (by simp)).set_ g14 2 (.slice A2 ks2.length c2) (by simp)).more (p' := fun b => g4 < b ∧ b ≠ g10) fun b hb _ => hb.1)
      have HR8 := Lib.hid (reads_set (reads_set (reads_set hr7 g14 0 (.int .i64 k2) (by omega)) g14 1 (.int .i64 n2) (by omega)) g14 2 (.slice A2 ks2.length c2) (by omega))
      have hgr7 : w.grownBy w7 (some g) := World.grownBy.trans HG6.out hg7
      have HG8 := Lib.hid (grown_setnew (grown_setnew (grown_setnew hgr7 g14 0 (.int .i64 k2) (by have := HG4.out; omega)) g14 1 (.int .i64 n2) (by have := HG4.out; omega)) g14 2 (.slice A2 ks2.length c2) (by have := HG4.out; omega))
      have q0 : w7.cell? ⟨g14, 0, none⟩ = some (.int .i64 0) := hz7.cell 0
      have q1 : w7.cell? ⟨g14, 1, none⟩ = some (.int .i64 0) := hz7.cell 1
      have q2 : w7.cell? ⟨g14, 2, none⟩ = some (.slice none 0 0) := hz7.cell 2
      have qf : ∀ i, w7.frozen? ⟨g14, i, none⟩ = false := fun i => hz7.free i
      have ql : g14 < w7.heap.size := hz7.lt
      have HSM := Lib.hid hs7
      clear hs7 ha7 hr7 hg7 hx7 hy7 hz7 hax7 hay7 hgr7 HX6 HY6 HZ6 HA6 HG6 HE6 hz6
      go_upto_region 19 with fail
      clear q0 q1 q2 qf ql
      generalize ((w7.setCell ⟨g14, 0, none⟩ (.int .i64 k2)).setCell ⟨g14, 1, none⟩ (.int .i64 n2)).setCell ⟨g14, 2, none⟩ (.slice A2 ks2.length c2) = W8 at *
      cases xt with
      | node k n A c ks =>
      have y0 : W8.cell? ⟨g10, 0, none⟩ = some (.int .i64 k) := HY7.out.cell 0
      have y1 : W8.cell? ⟨g10, 1, none⟩ = some (.int .i64 n) := HY7.out.cell 1
      have y2 : W8.cell? ⟨g10, 2, none⟩ = some (.slice A ks.length c) := HY7.out.cell 2
      have yf : ∀ i, W8.frozen? ⟨g10, i, none⟩ = false := fun i => HY7.out.free i
      have yl : g10 < W8.heap.size := HY7.out.lt
      have z0 : W8.cell? ⟨g14, 0, none⟩ = some (.int .i64 k2) := HZ7.out.cell 0
      have z1 : W8.cell? ⟨g14, 1, none⟩ = some (.int .i64 n2) := HZ7.out.cell 1
      have z2 : W8.cell? ⟨g14, 2, none⟩ = some (.slice A2 ks2.length c2) := HZ7.out.cell 2
      have zl : g14 < W8.heap.size := HZ7.out.lt
      have HST9 : Hid (BinSt g g4 g10 S op L t ts w ((((W8.setCell ⟨g10, 0, none⟩ (.int .i64 kp)).setCell ⟨g10, 1, none⟩ (.int .i64 0)).setCell ⟨g10, 2, none⟩ (.slice (some ⟨W8.heap.size, 0, none⟩) 2 2)).alloc (Obj.cells #[.int .i64 k, .int .i64 n, .slice A ks.length c, .int .i64 k2, .int .i64 n2, .slice A2 ks2.length c2] 24)) rem (.node kp 0 (some ⟨W8.heap.size, 0, none⟩) 2 [.node k n A c ks, .node k2 n2 A2 c2 ks2])) :=
        bin_step HX7.out HY7.out HAX.out HAY.out HR8.out HG8.out hgl (by omega) (by have := HG4.out; omega) (by unfold I64; omega) (by have h1 := HSH.out; rw [show strip p.2 = strip (.node k2 n2 A2 c2 ks2) from HSM.out.symm] at h1; exact h1) (fun h => by rw [HONE.out h]; simp)
      clear HX7 HY7 HZ7 HAX HAY HR8 HG8 HSH HSM
      go_upto_region 20 with fail
      clear y0 y1 y2 yf yl z0 z1 z2 zl
      generalize hW9 : ((((W8.setCell ⟨g10, 0, none⟩ (.int .i64 kp)).setCell ⟨g10, 1, none⟩ (.int .i64 0)).setCell ⟨g10, 2, none⟩ (.slice (some ⟨W8.heap.size, 0, none⟩) 2 2)).alloc (Obj.cells #[.int .i64 k, .int .i64 n, .slice A ks.length c, .int .i64 k2, .int .i64 n2, .slice A2 ks2.length c2] 24)) = W9 at *
      generalize W8.heap.size = gk at *
      clear hW9
      have HRD := Lib.hid (leftW_eq HST9.out.rd)
      by_cases h3 : L = 3
      · have hrem := HONE.out h3
        subst hrem
        have l3 : ((L : Int) == 3) = true := by rw [beq_iff_eq]; omega
        have hx9 := HST9.out.b4
        have hy9 := HST9.out.b10
        have r0 : W9.cell? ⟨g4, 0, none⟩ = some (.int .i64 0) := hx9.cell 0
        have r1 : W9.cell? ⟨g4, 1, none⟩ = some (.int .i64 0) := hx9.cell 1
        have r2 : W9.cell? ⟨g4, 2, none⟩ = some (.slice none 0 0) := hx9.cell 2
        have rf : ∀ i, W9.frozen? ⟨g4, i, none⟩ = false := fun i => hx9.free i
        have rl : g4 < W9.heap.size := hx9.lt
        have y0 : W9.cell? ⟨g10, 0, none⟩ = some (.int .i64 kp) := hy9.cell 0
        have y1 : W9.cell? ⟨g10, 1, none⟩ = some (.int .i64 0) := hy9.cell 1
        have y2 : W9.cell? ⟨g10, 2, none⟩ = some (.slice (some ⟨gk, 0, none⟩) 2 2) := hy9.cell 2
        have yl : g10 < W9.heap.size := hy9.lt
        have HR9 := Lib.hid (show Reads W9 g S op ts by have := HST9.out.rd; simpa [flatP] using this)
        have HG9 := Lib.hid HST9.out.gr
        have HA9 := Lib.hid (HST9.out.at_.more (p' := fun b => g4 < b) fun b hb _ => hb.1)
        have HS9 : Hid (Same (.node kp 0 (some ⟨gk, 0, none⟩) 2 [.node k n A c ks, .node k2 n2 A2 c2 ks2]) t) := HST9.out.sh
        clear hx9 hy9 HST9 h3 HRD
        go_wp2_with fail
        refine bodyPost_ret (v := .tuple #[.agg #[.int .i64 kp, .int .i64 0, .slice (some ⟨gk, 0, none⟩) 2 2], .bool true]) (by simp [results, Tryd.results33, go_sem, r0, r1, r2]) rfl ?_
        exact expr_done (ks := [.node k n A c ks, .node k2 n2 A2 c2 ks2]) HG4.out hgl HR9.out HG9.out HS9.out HA9.out
      · have l3 : ((L : Int) == 3) = false := by rw [beq_eq_false_iff_ne]; omega
        go_wp2_with fail
        go_roundw
        case rel => exact ⟨rem, _, rfl, HP2, HST9⟩
        case measure =>
          rw [HRD.out, HM.out, List.length_append, List.length_tail]
          have := HPL.out
          omega
end Go.Proofs.YtbmbphikjainiaaDoor
