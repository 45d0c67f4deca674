/- FShift -/
import Derived.Test.YtabidjmmgnkhkaaGreatDoorGFLeaf1
/- Contract of shift of a feast's text. -/
namespace Go.Proofs.YtabidjmmgnkhkaaGreatDoor
open Go.RowKit
set_option linter.unusedVariables false
def leftF (g : Nat) (S : ByteArray) (w : World) : Nat := S.size - (match w.cell? ⟨g, 1, none⟩ with | some (.int _ n) => n.toNat | _ => 0)
theorem leftF_eq {w : World} {g : Nat} {S : ByteArray} {op : Int} {l : List UInt8} (h : Fd w g S l op) : leftF g S w = l.length := by
 obtain ⟨a, h1, h2, hx⟩ := h
 have e : w.cell? ⟨g, 1, none⟩ = some (.int .i64 (a : Int)) := Box.cell hx 1
 have hl : S.data.toList.length = S.size := Array.length_toList
 have := congrArg List.length h2
 rw [List.length_drop] at this
 unfold leftF
 rw [e]
 simp only [Int.toNat_natCast]
 omega
structure ShSt (g g2 g4 : Nat) (S : ByteArray) (op : Int) (w wr : World) (l : List UInt8) (t : FE) : Prop where
 b2 : Box wr g2 57 zeroFE
 b4 : Box wr g4 57 (feC t)
 at_ : FeAt wr (fun b => g2 < b ∧ b ≠ g4) wr.heap.size t
 fd : Fd wr g S l op
 gr : w.grownBy wr (some g)
structure ShFx (g g2 g4 : Nat) (S : ByteArray) (c : Int) (w wr : World) (t : FE) : Prop where
 b2 : Box wr g2 57 zeroFE
 b4 : Box wr g4 57 (feC t)
 fx : Fx wr g S c
 gr : w.grownBy wr (some g)
 ne : c ≠ 0
abbrev sh7 (n : Int) (gk : Nat) (t : FE) : FE := .node 7 n 0 noB (some ⟨gk, 0, none⟩) 1 [t]
abbrev shW (W : World) (g4 : Nat) (n : Int) (t : FE) : World := (set5 W g4 7 n 0 noB (.slice (some ⟨W.heap.size, 0, none⟩) 1 1)).alloc (.cells (feC t) 57)
theorem feC_eq (t : FE) : feC t = (feF t).toArray := by cases t; rfl
theorem sh_step {g g2 g4 : Nat} {S : ByteArray} {op : Int} {w W : World} {l : List UInt8} {t : FE} (n : Int) (hn : I64 n) (h : ShSt g g2 g4 S op w W l t) (e1 : g < g2) (e2 : g2 < g4) (e3 : w.heap.size ≤ g2) : ShSt g g2 g4 S op w (shW W g4 n t) l (sh7 n W.heap.size t) := by
 have hsz : (set5 W g4 7 n 0 noB (.slice (some ⟨W.heap.size, 0, none⟩) 1 1)).heap.size = W.heap.size := by simp [set5]
 have hb := below_alloc1 (set5 W g4 7 n 0 noB (.slice (some ⟨W.heap.size, 0, none⟩) 1 1)) (Obj.cells (feC t) 57)
 have hbx := Box.new (set5 W g4 7 n 0 noB (.slice (some ⟨W.heap.size, 0, none⟩) 1 1)) 57 (feC t)
 rw [hsz, feC_eq] at hbx
 have hl4 := h.b4.lt
 have hb4 := h.b4
 obtain ⟨k, a, b, nm, A, c, ks⟩ := t
 refine ⟨(box_far5 h.b2 g4 7 n 0 noB _ (by omega)).alloc _, (box_set5 hb4 7 n 0 noB _).alloc _, ?_, (h.fd.set5 g4 7 n 0 noB _ (by omega)).next hb, (grown_set5 h.gr g4 7 n 0 noB _ (by omega)).trans (grown_bel hb)⟩
 exact FeAt.one ((h.at_.set5 g4 7 n 0 noB _ (by simp)).next hb) (by rw [← feC_eq]; rw [← feC_eq] at hbx; exact hbx) ⟨by omega, by omega⟩ (by unfold I64; omega) hn (by unfold I64; omega) (by show 0 ≤ maxLen; unfold maxLen; omega)
theorem sh_stepx {g g2 g4 : Nat} {S : ByteArray} {c : Int} {w W : World} {t : FE} (n : Int) (h : ShFx g g2 g4 S c w W t) (e1 : g < g2) (e2 : g2 < g4) (e3 : w.heap.size ≤ g2) : ShFx g g2 g4 S c w (shW W g4 n t) (sh7 n W.heap.size t) := by
 have hb := below_alloc1 (set5 W g4 7 n 0 noB (.slice (some ⟨W.heap.size, 0, none⟩) 1 1)) (Obj.cells (feC t) 57)
 have hb4 := h.b4
 obtain ⟨k, a, b, nm, A, c', ks⟩ := t
 exact ⟨(box_far5 h.b2 g4 7 n 0 noB _ (by omega)).alloc _, (box_set5 hb4 7 n 0 noB _).alloc _, (h.fx.set5 g4 7 n 0 noB _ (by omega)).next hb, (grown_set5 h.gr g4 7 n 0 noB _ (by omega)).trans (grown_bel hb), h.ne⟩
theorem ShSt.go {g g2 g4 : Nat} {S : ByteArray} {op : Int} {w wr W : World} {l l' : List UInt8} {t : FE} (h : ShSt g g2 g4 S op w wr l t) (e1 : g < g2) (e2 : g2 < g4) (hg : wr.grownBy W (some g)) (hf : Fd W g S l' op) : ShSt g g2 g4 S op w W l' t :=
 ⟨h.b2.grown hg (by simp; omega), h.b4.grown hg (by simp; omega), h.at_.grown hg (fun b hb => by simp; omega), hf, h.gr.trans hg⟩
theorem ShSt.next {g g2 g4 : Nat} {S : ByteArray} {op : Int} {w wr W : World} {l : List UInt8} {t : FE} (h : ShSt g g2 g4 S op w wr l t) (hb : Below wr.heap.size wr W) : ShSt g g2 g4 S op w W l t :=
 ⟨h.b2.below hb, h.b4.below hb, h.at_.next hb, h.fd.next hb, h.gr.trans (grown_bel hb)⟩
theorem ShSt.fx {g g2 g4 : Nat} {S : ByteArray} {op c : Int} {w wr W : World} {l : List UInt8} {t : FE} (h : ShSt g g2 g4 S op w wr l t) (e1 : g < g2) (e2 : g2 < g4) (hg : wr.grownBy W (some g)) (hx : Fx W g S c) (hc : c ≠ 0) : ShFx g g2 g4 S c w W t :=
 ⟨h.b2.grown hg (by simp; omega), h.b4.grown hg (by simp; omega), hx, h.gr.trans hg, hc⟩
theorem shp_sh7 (n : Int) (gk : Nat) (t : FE) : shp (sh7 n gk t) = .node 7 n 0 noB none 0 [shp t] := by rw [shp_node]; rfl
set_option maxHeartbeats 4000000 in
set_option maxRecDepth 100000 in
theorem shift_any (g : Nat) (S : ByteArray) (o n : Nat) (l : List UInt8) (r : Fr) (w : World) (hS : S.size ≤ 5000) (h : Fd w g S l (o : Int)) (hr : rd (n + 1) .sh o l = some r)
  (hL : ∀ r1, rd n .lf o l = some r1 → ∀ W, Fd W g S l (o : Int) → Calls Tryz.prog 105 #[.pointer (some ⟨g, 0, none⟩)] W (FExQ g S (o : Int) r1 W)) :
  Calls Tryz.prog 68 #[.pointer (some ⟨g, 0, none⟩)] w (FExQ g S (o : Int) r w) := by
 rw [rd] at hr
 obtain ⟨r1, hr1⟩ : ∃ r1, rd n .lf o l = some r1 := by
  cases hx : rd n .lf o l with
  | none => rw [hx] at hr; cases hr
  | some r1 => exact ⟨r1, rfl⟩
 rw [hr1] at hr
 have HB0 := Lib.hid (below_alloc1 w (Obj.cells zeroFE 57))
 have HX0 := Lib.hid (Box.new w 57 zeroFE)
 have HL := Lib.hid (hL r1 hr1 _ (h.next HB0.out))
 have HRr := Lib.hid hr
 have hgl := h.lt
 obtain ⟨op, hop⟩ : ∃ op : Int, op = (o : Int) := ⟨_, rfl⟩
 rw [← hop] at HL ⊢
 clear h hr hr1 hL hop
 go_enter Tryz.func68, Tryz.ntmps68
 go_wp2_with fail
 refine HL.out.mono ?_
 intro e w1 hq
 generalize hg2 : w.heap.size = g2 at *
 have HG2 := Lib.hid hg2
 have HB1 : Hid (w.grownBy (w.alloc (Obj.cells zeroFE 57)) (some g)) := grown_bel (by rw [hg2]; exact HB0.out)
 have hsz0 : (w.alloc (Obj.cells zeroFE 57)).heap.size = g2 + 1 := by rw [World.size_alloc, hg2]
 clear hg2 HB0 HL
 obtain ⟨iv, E, t, he, hst⟩ : ∃ (iv : Bool) (E : Prop) (t : FE), e = .returned (.tuple #[feV t, .bool iv]) ∧ Hid ((iv = true ∧ (∃ l1, rd n (.sl (shp t)) o l1 = some r ∧ FeAt w1 (fun b => g2 < b) w1.heap.size t ∧ Fd w1 g S l1 op) ∨ (iv = false ∧ ∃ c, r = .no c ∧ c ≠ 0 ∧ Fx w1 g S c)) ∧ Box w1 g2 57 zeroFE ∧ w.grownBy w1 (some g)) := by
  cases r1 with
  | no c =>
   obtain ⟨t, he, hc, hx, hg⟩ := hq
   have e2 : r = .no c := by have := HRr.out; injection this with this; exact this.symm
   exact ⟨false, True, t, he, .inr ⟨rfl, c, e2, hc, hx⟩, HX0.out.grown hg (by simp; omega), HB1.out.trans hg⟩
  | yes x l1 =>
   obtain ⟨t, hs, he, ha, hf, hg⟩ := hq
   exact ⟨true, True, t, he, .inl ⟨rfl, l1, by rw [hs]; exact HRr.out, ha.more fun b hb _ => by omega, hf⟩, HX0.out.grown hg (by simp; omega), HB1.out.trans hg⟩
 subst he
 obtain ⟨k, a, b, nm, A, c', ks⟩ := t
 rw [show feV (.node k a b nm A c' ks) = .agg #[.int .i64 k, .int .i64 a, .int .i64 b, .string nm, .slice A ks.length c'] from rfl]
 have hx1 := hst.out.2.1.lt
 have hal := below_alloc1 w1 (Obj.cells #[.int .i64 k, .int .i64 a, .int .i64 b, .string nm, .slice A ks.length c'] 57)
 have HST : Hid ((∃ m l1 t, iv = true ∧ rd m (.sl (shp t)) o l1 = some r ∧ ShSt g g2 w1.heap.size S op w (w1.alloc (Obj.cells #[.int .i64 k, .int .i64 a, .int .i64 b, .string nm, .slice A ks.length c'] 57)) l1 t) ∨ (∃ c t, iv = false ∧ r = .no c ∧ ShFx g g2 w1.heap.size S c w (w1.alloc (Obj.cells #[.int .i64 k, .int .i64 a, .int .i64 b, .string nm, .slice A ks.length c'] 57)) t)) := by
  obtain ⟨hs, hb2, hg⟩ := hst.out
  rcases hs with ⟨e1, l1, h1, ha, hf⟩ | ⟨e1, c, h1, hc, hx⟩
  ·exact .inl ⟨n, l1, .node k a b nm A c' ks, e1, h1, hb2.alloc _, Box.new _ _ _, (ha.more (p' := fun b => g2 < b ∧ b ≠ w1.heap.size) fun b hb hB => ⟨hb, by omega⟩).next hal, hf.next hal, hg.trans (grown_bel hal)⟩
  ·exact .inr ⟨c, .node k a b nm A c' ks, e1, h1, hb2.alloc _, Box.new _ _ _, hx.next hal, hg.trans (grown_bel hal), hc⟩
 clear hst hal hsz0 hq HX0 HB1 HRr
 go_wp2_with fail
 generalize w1.alloc (Obj.cells #[.int .i64 k, .int .i64 a, .int .i64 b, .string nm, .slice A ks.length c'] 57) = W2 at *
 generalize w1.heap.size = g4 at *
 rename World => w9
 go_loopw [5, 6, 7] (fun iv _ _ wr => (∃ m l1 t, iv = .bool true ∧ Hid (rd m (.sl (shp t)) o l1 = some r) ∧ Hid (ShSt g g2 g4 S op w wr l1 t)) ∨ (∃ c t, iv = .bool false ∧ Hid (r = .no c) ∧ Hid (ShFx g g2 g4 S c w wr t))) (fun iv _ _ wr => match iv with | .bool true => leftF g S wr + 1 | _ => 0)
 case atStart =>
  rcases HST.out with ⟨m, l1, t, rfl, h1, h2⟩ | ⟨c, t, rfl, h1, h2⟩
  ·exact .inl ⟨m, l1, t, rfl, h1, h2⟩
  ·exact .inr ⟨c, t, rfl, h1, h2⟩
 case round =>
  clear HST
  rcases hrel with ⟨m, l1, t, rfl, hrd, hst⟩ | ⟨c, t, rfl, hrc, hst⟩
  ·obtain ⟨m, rfl⟩ : ∃ m', m = m' + 1 := by
    cases m with
    | zero => have := hrd.out; cases this
    | succ m => exact ⟨m, rfl⟩
   have HK := Lib.hid (fun W (hr : Fd W g S l1 op) => ftok_at g S l1 op W hr hS)
   have HLf := Lib.hid (leftF_eq hst.out.fd)
   have hrd2 := hrd.out
   rw [rd] at hrd2
   by_cases h43 : tk l1 = [43]
   ·have hne : l1 ≠ [] := fun e => by rw [e, tk_nil] at h43; cases h43
    have hlt := nx_lt l1 hne
    rw [if_pos h43] at hrd2
    rw [h43, show str [43] = (⟨#[43]⟩ : ByteArray) from rfl] at HK
    have HRd := Lib.hid hrd2
    have HSC := Lib.hid (fun W (hr : Fd W g S l1 op) => fscan_at g S l1 op W hr hS)
    clear hrd2 hne h43 hrd
    go_wp2_with fail
    refine (HK.out wr hst.out.fd).mono ?_
    rintro e w3 ⟨rfl, m1, rfl⟩
    have HS3 := Lib.hid (hst.out.next (below_drewN wr m1))
    clear hst
    generalize wr.drewN m1 = w3 at *
    go_wp2_with fail
    refine (HK.out w3 HS3.out.fd).mono ?_
    rintro e w4 ⟨rfl, m2, rfl⟩
    have HS4 := Lib.hid (HS3.out.next (below_drewN w3 m2))
    clear HS3 HK
    generalize w3.drewN m2 = w4 at *
    go_wp2_with fail
    refine (HSC.out w4 HS4.out.fd).mono ?_
    rintro e w5 ⟨rfl, hf, hg⟩
    have HS5 := Lib.hid (HS4.out.go hgl hx1 hg hf)
    clear hf hg HS4 HSC
    go_wp2_with fail
    have HX7 := Box.new w5 3 #[.int .i64 0]
    have hb6 := below_alloc1 w5 (Obj.cells #[.int .i64 0] 3)
    have HF6 := Lib.hid (HS5.out.fd.next hb6)
    have HG6 : Hid (w5.grownBy (w5.alloc (Obj.cells #[.int .i64 0] 3)) (some g)) := grown_bel hb6
    have h45' := HS5.out.b4.lt
    have HW5 : Hid (w.heap.size ≤ w5.heap.size) := HS5.out.gr.size
    clear hb6
    generalize w5.alloc (Obj.cells #[.int .i64 0] 3) = w6 at *
    generalize hg7 : w5.heap.size = g7 at *
    have HN := Lib.hid (fnatural_any g S (nx l1) op g7 0 0 w6 HF6.out hS (HX7.cell 0) (HX7.free 0) (by omega))
    obtain ⟨k, a, b, nm, A, c', ks⟩ := t
    cases hn : natR false (nx l1) with
    | no c =>
     rw [hn] at HN
     have HRc : Hid (r = .no c) := by have h := HRd.out; rw [hn] at h; injection h with h; exact h.symm
     clear hn HRd
     refine HN.out.mono ?_
     rintro e w7 ⟨rfl, hc0, hx, hg⟩
     have HX7b := HX7.grown hg (by simp; omega)
     have HFx0 := Lib.hid (HS5.out.fx hgl hx1 (HG6.out.trans hg) hx hc0)
     clear hc0 hx hg HN HX7 HG6 HF6 HS5 hlt HLf
     have HX8 := Lib.hid HX7b
     have HFx := Lib.hid HFx0.out
     clear HFx0 HX7b
     go_upto_region 9 with fail
     rename World => w8
     obtain ⟨y0, y1, y2, y3, y4⟩ := fecells HFx.out.b4
     have yf : ∀ i, w8.frozen? ⟨g4, i, none⟩ = false := fun i => HFx.out.b4.free i
     have yl := HFx.out.b4.lt
     have x7 : w8.cell? ⟨g7, 0, none⟩ = some (.int .i64 0) := HX8.out.cell 0
     have x7l := HX8.out.lt
     have HST8 := Lib.hid (sh_stepx 0 HFx.out hgl hx1 (by rw [HG2.out]; omega))
     clear HX8 HFx hg7 HW5
     go_wp2_with fail
     go_roundw
     case rel => exact .inr ⟨c, _, rfl, HRc, HST8⟩
     case measure => exact Nat.succ_pos _
    | yes a1 l2 =>
     have hab := natR_bound hn
     have hll := natR_len hn
     rw [hn] at HN
     have HRe : Hid (rd m (.sl (.node 7 a1 0 noB none 0 [shp (.node k a b nm A c' ks)])) o l2 = some r) := by have h := HRd.out; rw [hn] at h; exact h
     clear hn HRd
     refine HN.out.mono ?_
     rintro e w7 ⟨rfl, hf, hg⟩
     have HX7b : Box w7 g7 3 #[.int .i64 a1] := (HX7.set_ 0 (.int .i64 a1)).grown hg (by simp; omega)
     have HG7 : Hid (w5.grownBy w7 (some g)) := (grown_setnew' HG6.out g7 0 (.int .i64 a1) (by omega)).trans hg
     clear hg HN HX7 HG6 HF6
     have HX8 := Lib.hid HX7b
     have HG8 := Lib.hid HG7.out
     have HF8 := Lib.hid hf
     clear HG7 HX7b hf
     go_upto_region 9 with fail
     rename World => w8
     have HSt := Lib.hid (HS5.out.go hgl hx1 HG8.out HF8.out)
     obtain ⟨y0, y1, y2, y3, y4⟩ := fecells HSt.out.b4
     have yf : ∀ i, w8.frozen? ⟨g4, i, none⟩ = false := fun i => HSt.out.b4.free i
     have yl := HSt.out.b4.lt
     have x7 : w8.cell? ⟨g7, 0, none⟩ = some (.int .i64 a1) := HX8.out.cell 0
     have x7l := HX8.out.lt
     have HST8 := Lib.hid (sh_step a1 (by unfold I64; omega) HSt.out hgl hx1 (by rw [HG2.out]; omega))
     have HLn := Lib.hid (leftF_eq HST8.out.fd)
     clear HX8 HSt HG8 HF8 HS5 hg7 HW5
     go_wp2_with fail
     go_roundw
     case rel => exact .inl ⟨m, l2, _, rfl, (by rw [shp_sh7]; exact HRe), HST8⟩
     case measure =>
      have h1 := HLf.out
      have h2 := HLn.out
      show leftF g S (shW w8 g4 a1 (.node k a b nm A c' ks)) + 1 < leftF g S wr + 1
      omega
   by_cases h45 : tk l1 = [45]
   ·have hne : l1 ≠ [] := fun e => by rw [e, tk_nil] at h45; cases h45
    have hlt := nx_lt l1 hne
    rw [if_neg h43, if_pos h45] at hrd2
    rw [h45, show str [45] = (⟨#[45]⟩ : ByteArray) from rfl] at HK
    have HRd := Lib.hid hrd2
    have HSC := Lib.hid (fun W (hr : Fd W g S l1 op) => fscan_at g S l1 op W hr hS)
    clear hrd2 hne h43 h45 hrd
    go_wp2_with fail
    refine (HK.out wr hst.out.fd).mono ?_
    rintro e w3 ⟨rfl, m1, rfl⟩
    have HS3 := Lib.hid (hst.out.next (below_drewN wr m1))
    clear hst
    generalize wr.drewN m1 = w3 at *
    go_wp2_with fail
    refine (HK.out w3 HS3.out.fd).mono ?_
    rintro e w3b ⟨rfl, m1b, rfl⟩
    have HS3b := Lib.hid (HS3.out.next (below_drewN w3 m1b))
    clear HS3
    generalize w3.drewN m1b = w3c at *
    go_wp2_with fail
    refine (HK.out w3c HS3b.out.fd).mono ?_
    rintro e w4 ⟨rfl, m2, rfl⟩
    have HS4 := Lib.hid (HS3b.out.next (below_drewN w3c m2))
    clear HS3b HK
    generalize w3c.drewN m2 = w4 at *
    go_wp2_with fail
    refine (HSC.out w4 HS4.out.fd).mono ?_
    rintro e w5 ⟨rfl, hf, hg⟩
    have HS5 := Lib.hid (HS4.out.go hgl hx1 hg hf)
    clear hf hg HS4 HSC
    go_wp2_with fail
    have HX7 := Box.new w5 3 #[.int .i64 0]
    have hb6 := below_alloc1 w5 (Obj.cells #[.int .i64 0] 3)
    have HF6 := Lib.hid (HS5.out.fd.next hb6)
    have HG6 : Hid (w5.grownBy (w5.alloc (Obj.cells #[.int .i64 0] 3)) (some g)) := grown_bel hb6
    have h45' := HS5.out.b4.lt
    have HW5 : Hid (w.heap.size ≤ w5.heap.size) := HS5.out.gr.size
    clear hb6
    generalize w5.alloc (Obj.cells #[.int .i64 0] 3) = w6 at *
    generalize hg7 : w5.heap.size = g7 at *
    have HN := Lib.hid (fnatural_any g S (nx l1) op g7 0 0 w6 HF6.out hS (HX7.cell 0) (HX7.free 0) (by omega))
    obtain ⟨k, a, b, nm, A, c', ks⟩ := t
    cases hn : natR false (nx l1) with
    | no c =>
     rw [hn] at HN
     have HRc : Hid (r = .no c) := by have h := HRd.out; rw [hn] at h; injection h with h; exact h.symm
     clear hn HRd
     refine HN.out.mono ?_
     rintro e w7 ⟨rfl, hc0, hx, hg⟩
     have HX7b := HX7.grown hg (by simp; omega)
     have HFx0 := Lib.hid (HS5.out.fx hgl hx1 (HG6.out.trans hg) hx hc0)
     clear hc0 hx hg HN HX7 HG6 HF6 HS5 hlt HLf
     have HX8 := Lib.hid (HX7b.set_ 0 (.int .i64 0))
     have HFx := Lib.hid (ShFx.mk (HFx0.out.b2.far (p := ⟨g7, 0, none⟩) (by show g2 ≠ g7; omega) (.int .i64 0)) (HFx0.out.b4.far (p := ⟨g7, 0, none⟩) (by show g4 ≠ g7; omega) (.int .i64 0)) (HFx0.out.fx.set_ g7 0 (.int .i64 0) (by omega)) (grown_setnew' HFx0.out.gr g7 0 (.int .i64 0) (by have := HW5.out; omega)) HFx0.out.ne)
     have x7 : w7.cell? ⟨g7, 0, none⟩ = some (.int .i64 0) := HX7b.cell 0
     have x7f := HX7b.free 0
     have x7l := HX7b.lt
     have ewr : IntKind.i64.wrap (-0) = 0 := rfl
     clear HFx0 HX7b
     go_upto_region 9 with fail
     clear x7 x7f x7l ewr
     generalize w7.setCell ⟨g7, 0, none⟩ (.int .i64 0) = w8 at *
     obtain ⟨y0, y1, y2, y3, y4⟩ := fecells HFx.out.b4
     have yf : ∀ i, w8.frozen? ⟨g4, i, none⟩ = false := fun i => HFx.out.b4.free i
     have yl := HFx.out.b4.lt
     have x7 : w8.cell? ⟨g7, 0, none⟩ = some (.int .i64 0) := HX8.out.cell 0
     have x7l := HX8.out.lt
     have HST8 := Lib.hid (sh_stepx 0 HFx.out hgl hx1 (by rw [HG2.out]; omega))
     clear HX8 HFx hg7 HW5
     go_wp2_with fail
     go_roundw
     case rel => exact .inr ⟨c, _, rfl, HRc, HST8⟩
     case measure => exact Nat.succ_pos _
    | yes a1 l2 =>
     have hab := natR_bound hn
     have hll := natR_len hn
     rw [hn] at HN
     have HRe : Hid (rd m (.sl (.node 7 (-a1) 0 noB none 0 [shp (.node k a b nm A c' ks)])) o l2 = some r) := by have h := HRd.out; rw [hn] at h; exact h
     clear hn HRd
     refine HN.out.mono ?_
     rintro e w7 ⟨rfl, hf, hg⟩
     have HX7b : Box w7 g7 3 #[.int .i64 a1] := (HX7.set_ 0 (.int .i64 a1)).grown hg (by simp; omega)
     have HG7 : Hid (w5.grownBy w7 (some g)) := (grown_setnew' HG6.out g7 0 (.int .i64 a1) (by omega)).trans hg
     clear hg HN HX7 HG6 HF6
     have HX8 := Lib.hid (HX7b.set_ 0 (.int .i64 (-a1)))
     have HG8 : Hid (w5.grownBy (w7.setCell ⟨g7, 0, none⟩ (.int .i64 (-a1))) (some g)) := grown_setnew' HG7.out g7 0 _ (by omega)
     have HF8 := Lib.hid (hf.set_ g7 0 (.int .i64 (-a1)) (by omega))
     have x7 : w7.cell? ⟨g7, 0, none⟩ = some (.int .i64 a1) := HX7b.cell 0
     have x7f := HX7b.free 0
     have x7l := HX7b.lt
     have ewr : IntKind.i64.wrap (-a1) = -a1 := IntWalk.i64_in _ ⟨by omega, by omega⟩
     clear HG7 HX7b hf
     go_upto_region 9 with fail
     clear x7 x7f x7l ewr
     generalize w7.setCell ⟨g7, 0, none⟩ (.int .i64 (-a1)) = w8 at *
     have HSt := Lib.hid (HS5.out.go hgl hx1 HG8.out HF8.out)
     obtain ⟨y0, y1, y2, y3, y4⟩ := fecells HSt.out.b4
     have yf : ∀ i, w8.frozen? ⟨g4, i, none⟩ = false := fun i => HSt.out.b4.free i
     have yl := HSt.out.b4.lt
     have x7 : w8.cell? ⟨g7, 0, none⟩ = some (.int .i64 (-a1)) := HX8.out.cell 0
     have x7l := HX8.out.lt
     have HST8 := Lib.hid (sh_step (-a1) (by unfold I64; omega) HSt.out hgl hx1 (by rw [HG2.out]; omega))
     have HLn := Lib.hid (leftF_eq HST8.out.fd)
     clear HX8 HSt HG8 HF8 HS5 hg7 HW5
     go_wp2_with fail
     go_roundw
     case rel => exact .inl ⟨m, l2, _, rfl, (by rw [shp_sh7]; exact HRe), HST8⟩
     case measure =>
      have h1 := HLf.out
      have h2 := HLn.out
      show leftF g S (shW w8 g4 (-a1) (.node k a b nm A c' ks)) + 1 < leftF g S wr + 1
      omega
   ·rw [if_neg h43, if_neg h45] at hrd2
    have HRe : Hid (r = .yes (shp t) l1) := by injection hrd2 with h; exact h.symm
    obtain ⟨q1, q2⟩ := lit_ne h43
    obtain ⟨q3, q4⟩ := lit_ne h45
    obtain ⟨k, a, b, nm, A, c', ks⟩ := t
    clear hrd2 h43 h45 hrd
    generalize str (tk l1) = T at *
    go_wp2_with fail
    refine (HK.out wr hst.out.fd).mono ?_
    rintro e w3 ⟨rfl, m1, rfl⟩
    have HS3 := Lib.hid (hst.out.next (below_drewN wr m1))
    generalize wr.drewN m1 = w3 at *
    go_wp2_with fail
    refine (HK.out w3 HS3.out.fd).mono ?_
    rintro e w4 ⟨rfl, m2, rfl⟩
    have HS4 := Lib.hid (HS3.out.next (below_drewN w3 m2))
    generalize w3.drewN m2 = w4 at *
    clear HS3 hst HK HLf
    obtain ⟨y0, y1, y2, y3, y4⟩ := fecells HS4.out.b4
    obtain ⟨r0, r1, r2, r3, r4⟩ := fecells HS4.out.b2
    have rf : ∀ i, w4.frozen? ⟨g2, i, none⟩ = false := fun i => HS4.out.b2.free i
    have rl := HS4.out.b2.lt
    have yl := HS4.out.b4.lt
    go_wp2_with fail
    refine bodyPost_ret (v := .tuple #[.agg #[.int .i64 k, .int .i64 a, .int .i64 b, .string nm, .slice A ks.length c'], .bool true]) (by simp [results, Tryz.results68, go_sem, r0, r1, r2, r3, r4]) rfl ?_
    rw [HRe.out]
    exact fex_yes HG2.out hgl HS4.out.fd HS4.out.gr rfl (HS4.out.at_.more fun b hb _ => hb.1)
  ·obtain ⟨k, a, b, nm, A, c', ks⟩ := t
   obtain ⟨y0, y1, y2, y3, y4⟩ := fecells hst.out.b4
   obtain ⟨r0, r1, r2, r3, r4⟩ := fecells hst.out.b2
   have rf : ∀ i, wr.frozen? ⟨g2, i, none⟩ = false := fun i => hst.out.b2.free i
   have rl := hst.out.b2.lt
   have yl := hst.out.b4.lt
   go_wp2_with fail
   refine bodyPost_ret (v := .tuple #[.agg #[.int .i64 k, .int .i64 a, .int .i64 b, .string nm, .slice A ks.length c'], .bool false]) (by simp [results, Tryz.results68, go_sem, r0, r1, r2, r3, r4]) rfl ?_
   rw [hrc.out]
   exact fex_no hst.out.ne HG2.out hgl hst.out.fx hst.out.gr
end Go.Proofs.YtabidjmmgnkhkaaGreatDoor
