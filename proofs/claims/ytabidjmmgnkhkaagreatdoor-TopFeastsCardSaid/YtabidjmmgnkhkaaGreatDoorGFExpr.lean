/- FExpr -/
import Derived.Test.YtabidjmmgnkhkaaGreatDoorGFOn
/- Contract of expr of a feast's text; everything that is read, by its fuel. -/
namespace Go.Proofs.YtabidjmmgnkhkaaGreatDoor
open Go.RowKit
set_option linter.unusedVariables false
abbrev exN (p : Int) (gk : Nat) (x y : FE) : FE := .node p 0 0 noB (some ⟨gk, 0, none⟩) 2 [x, y]
abbrev exW (W : World) (g4 : Nat) (p : Int) (x y : FE) : World := (set5 W g4 p 0 0 noB (.slice (some ⟨W.heap.size, 0, none⟩) 2 2)).alloc (.cells (feF x ++ feF y).toArray 57)
theorem shp_exN (p : Int) (gk : Nat) (x y : FE) : shp (exN p gk x y) = .node p 0 0 noB none 0 [shp x, shp y] := by rw [shp_node]; rfl
theorem ex_step {g g2 g4 : Nat} {S : ByteArray} {op : Int} {w W : World} {l : List UInt8} {x y : FE} (p : Int) (hp : I64 p) (h : ShSt g g2 g4 S op w W l x) (hy : FeAt W (fun b => g2 < b ∧ b ≠ g4) W.heap.size y) (e1 : g < g2) (e2 : g2 < g4) (e3 : w.heap.size ≤ g2) : ShSt g g2 g4 S op w (exW W g4 p x y) l (exN p W.heap.size x y) := by
 have hsz : (set5 W g4 p 0 0 noB (.slice (some ⟨W.heap.size, 0, none⟩) 2 2)).heap.size = W.heap.size := by simp [set5]
 have hb := below_alloc1 (set5 W g4 p 0 0 noB (.slice (some ⟨W.heap.size, 0, none⟩) 2 2)) (Obj.cells (feF x ++ feF y).toArray 57)
 have hbx := Box.new (set5 W g4 p 0 0 noB (.slice (some ⟨W.heap.size, 0, none⟩) 2 2)) 57 (feF x ++ feF y).toArray
 rw [hsz] at hbx
 have hl4 := h.b4.lt
 have hb4 := h.b4
 have hx1 := (h.at_.set5 g4 p 0 0 noB (.slice (some ⟨W.heap.size, 0, none⟩) 2 2) (by simp)).next hb
 have hy1 := (hy.set5 g4 p 0 0 noB (.slice (some ⟨W.heap.size, 0, none⟩) 2 2) (by simp)).next hb
 have h2 := FeAt.two (k := p) (a := 0) (b := 0) (nm := noB) (c := 2) hx1 hy1 hbx ⟨by omega, by omega⟩ hp (by unfold I64; omega) (by unfold I64; omega) (by show 0 ≤ maxLen; unfold maxLen; omega)
 obtain ⟨k, a, b, nm, A, c, ks⟩ := x
 exact ⟨(box_far5 h.b2 g4 p 0 0 noB _ (by omega)).alloc _, (box_set5 hb4 p 0 0 noB _).alloc _, h2, (h.fd.set5 g4 p 0 0 noB _ (by omega)).next hb, (grown_set5 h.gr g4 p 0 0 noB _ (by omega)).trans (grown_bel hb)⟩
theorem ex_stepx {g g2 g4 : Nat} {S : ByteArray} {c : Int} {w W : World} {x : FE} (p : Int) (y : FE) (h : ShFx g g2 g4 S c w W x) (e1 : g < g2) (e2 : g2 < g4) (e3 : w.heap.size ≤ g2) : ShFx g g2 g4 S c w (exW W g4 p x y) (exN p W.heap.size x y) := by
 have hb := below_alloc1 (set5 W g4 p 0 0 noB (.slice (some ⟨W.heap.size, 0, none⟩) 2 2)) (Obj.cells (feF x ++ feF y).toArray 57)
 have hb4 := h.b4
 obtain ⟨k, a, b, nm, A, c', ks⟩ := x
 exact ⟨(box_far5 h.b2 g4 p 0 0 noB _ (by omega)).alloc _, (box_set5 hb4 p 0 0 noB _).alloc _, (h.fx.set5 g4 p 0 0 noB _ (by omega)).next hb, (grown_set5 h.gr g4 p 0 0 noB _ (by omega)).trans (grown_bel hb), h.ne⟩
set_option maxHeartbeats 4000000 in
set_option maxRecDepth 100000 in
theorem expr_two (g : Nat) (S : ByteArray) (o n : Nat) (l : List UInt8) (r : Fr) (w : World) (hS : S.size ≤ 5000) (h : Fd w g S l (o : Int)) (hr : rd (n + 1) (.ex 2) o l = some r)
  (hO : ∀ r1, rd n .on o l = some r1 → ∀ W, Fd W g S l (o : Int) → Calls Tryz.prog 67 #[.pointer (some ⟨g, 0, none⟩)] W (FExQ g S (o : Int) r1 W)) :
  Calls Tryz.prog 40 #[.pointer (some ⟨g, 0, none⟩), .int .i64 2] w (FExQ g S (o : Int) r w) := by
 rw [rd, if_pos rfl] at hr
 have HB0 := Lib.hid (below_alloc1 w (Obj.cells zeroFE 57))
 have HX0 := Lib.hid (Box.new w 57 zeroFE)
 have HSh := Lib.hid (hO r hr _ (h.next HB0.out))
 have hgl := h.lt
 obtain ⟨op, hop⟩ : ∃ op : Int, op = (o : Int) := ⟨_, rfl⟩
 rw [← hop] at HSh ⊢
 clear h hr hO hop
 go_enter Tryz.func40, Tryz.ntmps40
 go_wp2_with fail
 refine HSh.out.mono ?_
 intro e w2 hq
 generalize hg2 : w.heap.size = g2 at *
 have HG2 := Lib.hid hg2
 have HW1 : Hid (w.grownBy (w.alloc (Obj.cells zeroFE 57)) (some g)) := grown_bel (by rw [hg2]; exact HB0.out)
 have hsz0 : (w.alloc (Obj.cells zeroFE 57)).heap.size = g2 + 1 := by rw [World.size_alloc, hg2]
 clear hg2 HB0 HSh
 obtain ⟨iv, t, he, hg, hfin⟩ : ∃ (iv : Bool) (t : FE), e = .returned (.tuple #[feV t, .bool iv]) ∧ (w.alloc (Obj.cells zeroFE 57)).grownBy w2 (some g) ∧ Hid (FExQ g S op r w (.returned (.tuple #[feV t, .bool iv])) (match t with | .node k a b nm A c ks => set5 w2 g2 k a b nm (.slice A ks.length c))) := by
  cases r with
  | no c =>
   obtain ⟨t, he, hc, hx, hg⟩ := hq
   obtain ⟨k, a, b, nm, A, c', ks⟩ := t
   exact ⟨false, _, he, hg, fex_no hc HG2.out hgl hx (HW1.out.trans hg)⟩
  | yes f l' =>
   obtain ⟨t, hs, he, ha, hf, hg⟩ := hq
   obtain ⟨k, a, b, nm, A, c', ks⟩ := t
   exact ⟨true, _, he, hg, fex_yes HG2.out hgl hf (HW1.out.trans hg) hs (ha.more fun b hb _ => by omega)⟩
 subst he
 have hx2 := HX0.out.grown hg (by simp; omega)
 obtain ⟨k, a, b, nm, A, c', ks⟩ := t
 rw [show feV (.node k a b nm A c' ks) = .agg #[.int .i64 k, .int .i64 a, .int .i64 b, .string nm, .slice A ks.length c'] from rfl] at hfin ⊢
 obtain ⟨r0, r1, r2, r3, r4⟩ := fecells hx2
 have rf : ∀ i, w2.frozen? ⟨g2, i, none⟩ = false := fun i => hx2.free i
 have rl := hx2.lt
 clear hq hx2 hg HX0 HW1 hsz0
 go_wp2_with fail
 refine bodyPost_ret (v := .tuple #[.agg #[.int .i64 k, .int .i64 a, .int .i64 b, .string nm, .slice A ks.length c'], .bool iv]) (by simp [results, Tryz.results40, go_sem, r0, r1, r2, r3, r4]) rfl ?_
 exact hfin.out
set_option maxHeartbeats 4000000 in
set_option maxRecDepth 100000 in
theorem expr_lp (g : Nat) (S : ByteArray) (o n k : Nat) (kk : Int) (l : List UInt8) (r : Fr) (w : World) (hS : S.size ≤ 5000) (hkk : (k = 0 ∧ kk = 0) ∨ (k = 1 ∧ kk = 1)) (h : Fd w g S l (o : Int)) (hr : rd (n + 1) (.ex k) o l = some r)
  (hE : ∀ m, m ≤ n → ∀ l1 r1, rd m (.ex (k + 1)) o l1 = some r1 → ∀ W, Fd W g S l1 (o : Int) → ∀ i : Int, i = kk + 1 → Calls Tryz.prog 40 #[.pointer (some ⟨g, 0, none⟩), .int .i64 i] W (FExQ g S (o : Int) r1 W)) :
  Calls Tryz.prog 40 #[.pointer (some ⟨g, 0, none⟩), .int .i64 kk] w (FExQ g S (o : Int) r w) := by
 rw [rd, if_neg (by omega)] at hr
 obtain ⟨r1, hr1⟩ : ∃ r1, rd n (.ex (k + 1)) o l = some r1 := by
  cases hx : rd n (.ex (k + 1)) o l with
  | none => rw [hx] at hr; cases hr
  | some r1 => exact ⟨r1, rfl⟩
 rw [hr1] at hr
 have HB0 := Lib.hid (below_alloc1 w (Obj.cells zeroFE 57))
 have HX0 := Lib.hid (Box.new w 57 zeroFE)
 have HL := Lib.hid (hE n (Nat.le_refl _) l r1 hr1 _ (h.next HB0.out) (kk + 1) rfl)
 have HE := Lib.hid hE
 have HRr := Lib.hid hr
 have hgl := h.lt
 have HKK := Lib.hid hkk
 obtain ⟨op, hop⟩ : ∃ op : Int, op = (o : Int) := ⟨_, rfl⟩
 rw [← hop] at HL HE ⊢
 have t2 : (kk == 2) = false := by rw [beq_eq_false_iff_ne]; omega
 have t3 : (kk == 3) = false := by rw [beq_eq_false_iff_ne]; omega
 have t4 : 0 ≤ kk := by omega
 have t5 : kk ≤ 1 := by omega
 clear h hr hr1 hE hop hkk
 go_enter Tryz.func40, Tryz.ntmps40
 go_wp2_with fail
 refine HL.out.mono ?_
 intro e w1 hq
 generalize hg2 : w.heap.size = g2 at *
 have HG2 := Lib.hid hg2
 have HB1 : Hid (w.grownBy (w.alloc (Obj.cells zeroFE 57)) (some g)) := grown_bel (by rw [hg2]; exact HB0.out)
 have hsz0 : (w.alloc (Obj.cells zeroFE 57)).heap.size = g2 + 1 := by rw [World.size_alloc, hg2]
 clear hg2 HB0 HL
 obtain ⟨iv, t, he, hst⟩ : ∃ (iv : Bool) (t : FE), e = .returned (.tuple #[feV t, .bool iv]) ∧ Hid ((iv = true ∧ (∃ l1, rd n (.lp k (shp t)) o l1 = some r ∧ FeAt w1 (fun b => g2 < b) w1.heap.size t ∧ Fd w1 g S l1 op) ∨ (iv = false ∧ ∃ c, r = .no c ∧ c ≠ 0 ∧ Fx w1 g S c)) ∧ Box w1 g2 57 zeroFE ∧ w.grownBy w1 (some g)) := by
  cases r1 with
  | no c =>
   obtain ⟨t, he, hc, hx, hg⟩ := hq
   have e2 : r = .no c := by have := HRr.out; injection this with this; exact this.symm
   exact ⟨false, t, he, .inr ⟨rfl, c, e2, hc, hx⟩, HX0.out.grown hg (by simp; omega), HB1.out.trans hg⟩
  | yes x l1 =>
   obtain ⟨t, hs, he, ha, hf, hg⟩ := hq
   exact ⟨true, t, he, .inl ⟨rfl, l1, by rw [hs]; exact HRr.out, ha.more fun b hb _ => by omega, hf⟩, HX0.out.grown hg (by simp; omega), HB1.out.trans hg⟩
 subst he
 obtain ⟨k1, a, b, nm, A, c', ks⟩ := t
 rw [show feV (.node k1 a b nm A c' ks) = .agg #[.int .i64 k1, .int .i64 a, .int .i64 b, .string nm, .slice A ks.length c'] from rfl]
 have hx1 := hst.out.2.1.lt
 have hal := below_alloc1 w1 (Obj.cells #[.int .i64 k1, .int .i64 a, .int .i64 b, .string nm, .slice A ks.length c'] 57)
 have HST : Hid ((∃ m l1 t, iv = true ∧ m ≤ n ∧ rd m (.lp k (shp t)) o l1 = some r ∧ ShSt g g2 w1.heap.size S op w (w1.alloc (Obj.cells #[.int .i64 k1, .int .i64 a, .int .i64 b, .string nm, .slice A ks.length c'] 57)) l1 t) ∨ (∃ c t, iv = false ∧ r = .no c ∧ ShFx g g2 w1.heap.size S c w (w1.alloc (Obj.cells #[.int .i64 k1, .int .i64 a, .int .i64 b, .string nm, .slice A ks.length c'] 57)) t)) := by
  obtain ⟨hs, hb2, hg⟩ := hst.out
  rcases hs with ⟨e1, l1, h1, ha, hf⟩ | ⟨e1, c, h1, hc, hx⟩
  ·exact .inl ⟨n, l1, .node k1 a b nm A c' ks, e1, Nat.le_refl _, h1, hb2.alloc _, Box.new _ _ _, (ha.more (p' := fun b => g2 < b ∧ b ≠ w1.heap.size) fun b hb hB => ⟨hb, by omega⟩).next hal, hf.next hal, hg.trans (grown_bel hal)⟩
  ·exact .inr ⟨c, .node k1 a b nm A c' ks, e1, h1, hb2.alloc _, Box.new _ _ _, hx.next hal, hg.trans (grown_bel hal), hc⟩
 clear hst hal hsz0 hq HX0 HB1 HRr
 go_wp2_with fail
 generalize w1.alloc (Obj.cells #[.int .i64 k1, .int .i64 a, .int .i64 b, .string nm, .slice A ks.length c'] 57) = W2 at *
 generalize w1.heap.size = g4 at *
 rename World => w9
 go_loopw [7, 8, 9, 10] (fun iv _ _ _ wr => (∃ m l1 t, iv = .bool true ∧ Hid (m ≤ n) ∧ Hid (rd m (.lp k (shp t)) o l1 = some r) ∧ Hid (ShSt g g2 g4 S op w wr l1 t)) ∨ (∃ c t, iv = .bool false ∧ Hid (r = .no c) ∧ Hid (ShFx g g2 g4 S c w wr t))) (fun iv _ _ _ wr => match iv with | .bool true => leftF g S wr + 1 | _ => 0)
 case atStart =>
  rcases HST.out with ⟨m, l1, t, rfl, hm, h1, h2⟩ | ⟨c, t, rfl, h1, h2⟩
  ·exact .inl ⟨m, l1, t, rfl, hm, h1, h2⟩
  ·exact .inr ⟨c, t, rfl, h1, h2⟩
 case round =>
  clear HST
  rcases hrel with ⟨m, l1, t, rfl, hm, hrd, hst⟩ | ⟨c, t, rfl, hrc, hst⟩
  ·obtain ⟨m, rfl⟩ : ∃ m', m = m' + 1 := by
    cases m with
    | zero => have := hrd.out; cases this
    | succ m => exact ⟨m, rfl⟩
   have HK := Lib.hid (ftok_at g S l1 op wr hst.out.fd hS)
   have HLf := Lib.hid (leftF_eq hst.out.fd)
   have hrd2 := hrd.out
   rw [rd] at hrd2
   cases hop : opK k (tk l1) with
   | none =>
    rw [hop] at hrd2
    have HRe : Hid (r = .yes (shp t) l1) := by injection hrd2 with h; exact h.symm
    have hcase : (kk = 0 ∧ (tk l1 = [97, 110, 100] ∨ tk l1 = [110, 111, 116] ∨ (tk l1 ≠ [111, 114] ∧ tk l1 ≠ [97, 110, 100] ∧ tk l1 ≠ [110, 111, 116]))) ∨ (kk = 1 ∧ (tk l1 = [111, 114] ∨ (tk l1 ≠ [111, 114] ∧ tk l1 ≠ [97, 110, 100] ∧ tk l1 ≠ [110, 111, 116]))) := by
     unfold opK at hop
     rcases HKK.out with ⟨rfl, rfl⟩ | ⟨rfl, rfl⟩
     ·refine .inl ⟨rfl, ?_⟩
      by_cases h1 : tk l1 = [97, 110, 100]
      ·exact .inl h1
      by_cases h2 : tk l1 = [110, 111, 116]
      ·exact .inr (.inl h2)
      refine .inr (.inr ⟨fun h3 => ?_, h1, h2⟩)
      rw [if_pos ⟨rfl, h3⟩] at hop
      cases hop
     ·refine .inr ⟨rfl, ?_⟩
      by_cases h1 : tk l1 = [111, 114]
      ·exact .inl h1
      refine .inr ⟨h1, fun h2 => ?_, fun h2 => ?_⟩
      ·rw [if_neg (fun h => by cases h.1), if_pos ⟨rfl, h2⟩] at hop; cases hop
      ·rw [if_neg (fun h => by cases h.1), if_neg (fun h => by rw [h2] at h; exact absurd h.2 (by decide)), if_pos ⟨rfl, h2⟩] at hop; cases hop
    have HCs := Lib.hid hcase
    clear hop hrd2 hcase hrd HKK HE
    obtain ⟨k1, a, b, nm, A, c', ks⟩ := t
    have HFIN : Hid (∀ m, FExQ g S op r w (.returned (.tuple #[.agg #[.int .i64 k1, .int .i64 a, .int .i64 b, .string nm, .slice A ks.length c'], .bool true])) (set5 (wr.drewN m) g2 k1 a b nm (.slice A ks.length c'))) := fun m => by
     have hs := hst.out.next (below_drewN wr m)
     rw [HRe.out]
     exact fex_yes HG2.out hgl hs.fd hs.gr rfl (hs.at_.more fun b hb _ => hb.1)
    generalize hT : str (tk l1) = T at *
    have HCT : Hid ((kk = 0 ∧ (T = ⟨#[97, 110, 100]⟩ ∨ T = ⟨#[110, 111, 116]⟩ ∨ ((T.toList == [111, 114]) = false ∧ (T.toList == [97, 110, 100]) = false ∧ (T.toList == [110, 111, 116]) = false ∧ ¬ T.toList = [111, 114] ∧ ¬ T.toList = [97, 110, 100] ∧ ¬ T.toList = [110, 111, 116]))) ∨ (kk = 1 ∧ (T = ⟨#[111, 114]⟩ ∨ ((T.toList == [111, 114]) = false ∧ (T.toList == [97, 110, 100]) = false ∧ (T.toList == [110, 111, 116]) = false ∧ ¬ T.toList = [111, 114] ∧ ¬ T.toList = [97, 110, 100] ∧ ¬ T.toList = [110, 111, 116])))) := by
     have hne : (tk l1 ≠ [111, 114] ∧ tk l1 ≠ [97, 110, 100] ∧ tk l1 ≠ [110, 111, 116]) → ((T.toList == [111, 114]) = false ∧ (T.toList == [97, 110, 100]) = false ∧ (T.toList == [110, 111, 116]) = false ∧ ¬ T.toList = [111, 114] ∧ ¬ T.toList = [97, 110, 100] ∧ ¬ T.toList = [110, 111, 116]) := fun ⟨h1, h2, h3⟩ => by
      rw [← hT]
      exact ⟨(lit_ne h1).1, (lit_ne h2).1, (lit_ne h3).1, (lit_ne h1).2, (lit_ne h2).2, (lit_ne h3).2⟩
     rcases HCs.out with ⟨h, h1 | h1 | h1⟩ | ⟨h, h1 | h1⟩
     ·exact .inl ⟨h, .inl (by rw [← hT, h1]; rfl)⟩
     ·exact .inl ⟨h, .inr (.inl (by rw [← hT, h1]; rfl))⟩
     ·exact .inl ⟨h, .inr (.inr (hne h1))⟩
     ·exact .inr ⟨h, .inl (by rw [← hT, h1]; rfl)⟩
     ·exact .inr ⟨h, .inr (hne h1)⟩
    clear hT HCs HRe t2 t3 t4 t5
    rcases HCT.out with ⟨rfl, rfl | rfl | ⟨q1, q2, q3, q4, q5, q6⟩⟩ | ⟨rfl, rfl | ⟨q1, q2, q3, q4, q5, q6⟩⟩
    all_goals
     clear HCT
     go_wp2_with fail
     refine HK.out.mono ?_
     rintro e w4 ⟨rfl, m2, rfl⟩
     have hs4 := hst.out.next (below_drewN wr m2)
     have HF4 := Lib.hid (HFIN.out m2)
     obtain ⟨y0, y1, y2, y3, y4⟩ := fecells hs4.b4
     obtain ⟨r0, r1, r2, r3, r4⟩ := fecells hs4.b2
     have rf : ∀ i, (wr.drewN m2).frozen? ⟨g2, i, none⟩ = false := fun i => hs4.b2.free i
     have rl := hs4.b2.lt
     have yl := hs4.b4.lt
     clear hs4 hst HFIN HK HLf
     generalize wr.drewN m2 = w4 at *
     go_wp2_with fail
     refine bodyPost_ret (v := .tuple #[.agg #[.int .i64 k1, .int .i64 a, .int .i64 b, .string nm, .slice A ks.length c'], .bool true]) (by simp [results, Tryz.results40, go_sem, r0, r1, r2, r3, r4]) rfl ?_
     exact HF4.out
   | some p =>
    rw [hop] at hrd2
    obtain ⟨r2, hr2⟩ : ∃ r2, rd m (.ex (k + 1)) o (nx l1) = some r2 := by
     cases hx : rd m (.ex (k + 1)) o (nx l1) with
     | none => rw [hx] at hrd2; cases hrd2
     | some r1 => exact ⟨r1, rfl⟩
    have HR2 : Hid (thenF (some r2) (fun y l' => rd m (.lp k (.node p 0 0 noB none 0 [shp t, y])) o l') = some r) := by unfold Hid; rw [← hr2]; exact hrd2
    have HEc := Lib.hid (HE.out m (by have := hm.out; omega) (nx l1) r2 hr2)
    have hne : l1 ≠ [] := fun e => by rw [e, tk_nil] at hop; unfold opK at hop; simp at hop
    have hlt := nx_lt l1 hne
    have hll : ∀ y l2, r2 = .yes y l2 → l2.length ≤ (nx l1).length := fun y l2 e => rd_len _ _ _ _ _ _ (by rw [hr2, e])
    have HLL := Lib.hid hll
    have hcase : (kk = 0 ∧ tk l1 = [111, 114] ∧ p = 9) ∨ (kk = 1 ∧ tk l1 = [97, 110, 100] ∧ p = 10) ∨ (kk = 1 ∧ tk l1 = [110, 111, 116] ∧ p = 11) := by
     unfold opK at hop
     split at hop
     ·rename_i h; injection hop with hop; rcases HKK.out with ⟨_, e⟩ | ⟨e, _⟩
      ·exact .inl ⟨e, h.2, hop.symm⟩
      ·omega
     split at hop
     ·rename_i h; injection hop with hop; rcases HKK.out with ⟨e, _⟩ | ⟨_, e⟩
      ·omega
      ·exact .inr (.inl ⟨e, h.2, hop.symm⟩)
     split at hop
     ·rename_i h; injection hop with hop; rcases HKK.out with ⟨e, _⟩ | ⟨_, e⟩
      ·omega
      ·exact .inr (.inr ⟨e, h.2, hop.symm⟩)
     ·cases hop
    have HCs := Lib.hid hcase
    have HSC := Lib.hid (fun W (hr : Fd W g S l1 op) => fscan_at g S l1 op W hr hS)
    have HM1 : Hid (m ≤ n) := by have := hm.out; unfold Hid; omega
    clear hop hrd2 hcase hrd HKK HE hr2 hne hll hm
    generalize hT : str (tk l1) = T at *
    have HCT : Hid ((kk = 0 ∧ T = ⟨#[111, 114]⟩ ∧ p = 9) ∨ (kk = 1 ∧ T = ⟨#[97, 110, 100]⟩ ∧ p = 10) ∨ (kk = 1 ∧ T = ⟨#[110, 111, 116]⟩ ∧ p = 11)) := by
     rcases HCs.out with ⟨h, h1, h2⟩ | ⟨h, h1, h2⟩ | ⟨h, h1, h2⟩
     ·exact .inl ⟨h, (by rw [← hT, h1]; rfl), h2⟩
     ·exact .inr (.inl ⟨h, (by rw [← hT, h1]; rfl), h2⟩)
     ·exact .inr (.inr ⟨h, (by rw [← hT, h1]; rfl), h2⟩)
    clear hT HCs t2 t3
    rcases HCT.out with ⟨hkv, rfl, rfl⟩ | ⟨hkv, rfl, rfl⟩ | ⟨hkv, rfl, rfl⟩
    ·have e0 : (kk == 0) = true := by rw [hkv]; rfl
     have e1 : (kk == 1) = false := by rw [hkv]; rfl
     clear hkv HCT
     go_wp2_with fail
     refine HK.out.mono ?_
     rintro e w4 ⟨rfl, m2, rfl⟩
     have HS4 := Lib.hid (hst.out.next (below_drewN wr m2))
     clear hst HK
     generalize wr.drewN m2 = w4 at *
     go_wp2_with fail
     refine (HSC.out w4 HS4.out.fd).mono ?_
     rintro e w5 ⟨rfl, hf, hg⟩
     have HS5 := Lib.hid (HS4.out.go hgl hx1 hg hf)
     clear hf hg HS4 HSC
     have HB6 := Lib.hid (below_alloc1 w5 (Obj.cells zeroFE 57))
     have HC6 := Lib.hid (HEc.out _ (HS5.out.fd.next HB6.out) (kk + 1) rfl)
     have HX6 := Lib.hid (Box.new w5 57 zeroFE)
     have h45 := HS5.out.b4.lt
     have HW5 : Hid (w.heap.size ≤ w5.heap.size) := HS5.out.gr.size
     have HG6 : Hid (w5.grownBy (w5.alloc (Obj.cells zeroFE 57)) (some g)) := grown_bel HB6.out
     have hsz6 : (w5.alloc (Obj.cells zeroFE 57)).heap.size = w5.heap.size + 1 := by rw [World.size_alloc]
     clear HEc HB6
     go_wp2_with fail
     refine HC6.out.mono ?_
     intro e w7 hq
     generalize w5.alloc (Obj.cells zeroFE 57) = w6 at *
     generalize hg10 : w5.heap.size = g10 at *
     obtain ⟨iv2, y, he, hx7, hg7, hy7⟩ : ∃ (iv2 : Bool) (y : FE), e = .returned (.tuple #[feV y, .bool iv2]) ∧ Box w7 g10 57 zeroFE ∧ w5.grownBy w7 (some g) ∧ Hid ((iv2 = true ∧ ∃ l2, l2.length ≤ (nx l1).length ∧ rd m (.lp k (.node 9 0 0 noB none 0 [shp t, shp y])) o l2 = some r ∧ FeAt w7 (fun b => g10 < b) w7.heap.size y ∧ Fd w7 g S l2 op) ∨ (iv2 = false ∧ ∃ c, r = .no c ∧ c ≠ 0 ∧ Fx w7 g S c)) := by
      cases r2 with
      | no c =>
       obtain ⟨y, he, hc, hx, hg⟩ := hq
       have e2 : r = .no c := by have := HR2.out; injection this with this; exact this.symm
       exact ⟨false, y, he, HX6.out.grown hg (by simp; omega), HG6.out.trans hg, .inr ⟨rfl, c, e2, hc, hx⟩⟩
      | yes x l2 =>
       obtain ⟨y, hs, he, ha, hf, hg⟩ := hq
       exact ⟨true, y, he, HX6.out.grown hg (by simp; omega), HG6.out.trans hg, .inl ⟨rfl, l2, HLL.out _ _ rfl, by rw [hs]; exact HR2.out, ha.more fun b hb _ => by omega, hf⟩⟩
     subst he
     obtain ⟨k2, a2, b2, nm2, A2, c2, ks2⟩ := y
     rw [show feV (.node k2 a2 b2 nm2 A2 c2 ks2) = .agg #[.int .i64 k2, .int .i64 a2, .int .i64 b2, .string nm2, .slice A2 ks2.length c2] from rfl]
     obtain ⟨z0, z1, z2, z3, z4⟩ := fecells hx7
     have zf : ∀ i, w7.frozen? ⟨g10, i, none⟩ = false := fun i => hx7.free i
     have zl := hx7.lt
     have HX8 := Lib.hid (box_set5 hx7 k2 a2 b2 nm2 (.slice A2 ks2.length c2))
     have HG8 := Lib.hid (grown_set5 hg7 g10 k2 a2 b2 nm2 (.slice A2 ks2.length c2) (by omega))
     have HY8 : Hid ((iv2 = true ∧ ∃ l2, l2.length ≤ (nx l1).length ∧ rd m (.lp k (.node 9 0 0 noB none 0 [shp t, shp (.node k2 a2 b2 nm2 A2 c2 ks2)])) o l2 = some r ∧ FeAt (set5 w7 g10 k2 a2 b2 nm2 (.slice A2 ks2.length c2)) (fun b => g10 < b) (set5 w7 g10 k2 a2 b2 nm2 (.slice A2 ks2.length c2)).heap.size (.node k2 a2 b2 nm2 A2 c2 ks2) ∧ Fd (set5 w7 g10 k2 a2 b2 nm2 (.slice A2 ks2.length c2)) g S l2 op) ∨ (iv2 = false ∧ ∃ c, r = .no c ∧ c ≠ 0 ∧ Fx (set5 w7 g10 k2 a2 b2 nm2 (.slice A2 ks2.length c2)) g S c)) := by
      rcases hy7.out with ⟨e1, l2, h1, h2, h3, h4⟩ | ⟨e1, c, h1, h2, h3⟩
      ·exact .inl ⟨e1, l2, h1, h2, h3.set5 g10 _ _ _ _ _ (by omega), h4.set5 g10 _ _ _ _ _ (by omega)⟩
      ·exact .inr ⟨e1, c, h1, h2, h3.set5 g10 _ _ _ _ _ (by omega)⟩
     clear hq HC6 HR2 HLL HX6 HG6 hsz6 hx7 hg7 hy7
     go_upto_region 20 with fail
     clear z0 z1 z2 z3 z4 zf zl
     dsimp only [set5] at HX8 HG8 HY8
     generalize ((((w7.setCell ⟨g10, 0, none⟩ (.int .i64 k2)).setCell ⟨g10, 1, none⟩ (.int .i64 a2)).setCell ⟨g10, 2, none⟩ (.int .i64 b2)).setCell ⟨g10, 3, none⟩ (.string nm2)).setCell ⟨g10, 4, none⟩ (.slice A2 ks2.length c2) = w8 at *
     obtain ⟨z0, z1, z2, z3, z4⟩ := fecells HX8.out
     have zl := HX8.out.lt
     obtain ⟨k1, a, b, nm, A, c', ks⟩ := t
     have hbx := HS5.out.b4.grown HG8.out (by simp; omega)
     obtain ⟨y0, y1, y2, y3, y4⟩ := fecells hbx
     have yf : ∀ i, w8.frozen? ⟨g4, i, none⟩ = false := fun i => hbx.free i
     have yl := hbx.lt
     have HST9 : Hid ((∃ m l1' t, (Value.bool iv2 = Value.bool true) ∧ Hid (m ≤ n) ∧ Hid (l1'.length ≤ (nx l1).length) ∧ Hid (rd m (.lp k (shp t)) o l1' = some r) ∧ Hid (ShSt g g2 g4 S op w (exW w8 g4 9 (.node k1 a b nm A c' ks) (.node k2 a2 b2 nm2 A2 c2 ks2)) l1' t)) ∨ (∃ c t, (Value.bool iv2 = Value.bool false) ∧ Hid (r = .no c) ∧ Hid (ShFx g g2 g4 S c w (exW w8 g4 9 (.node k1 a b nm A c' ks) (.node k2 a2 b2 nm2 A2 c2 ks2)) t))) := by
      rcases HY8.out with ⟨e1, l2, h1, h2, h3, h4⟩ | ⟨e1, c, h1, h2, h3⟩
      ·exact .inl ⟨m, l2, _, by rw [e1], HM1, h1, by rw [shp_exN]; exact h2, ex_step 9 (by unfold I64; omega) (HS5.out.go hgl hx1 HG8.out h4) (h3.more fun b hb _ => ⟨by omega, by omega⟩) hgl hx1 (by rw [HG2.out]; omega)⟩
      ·exact .inr ⟨c, _, by rw [e1], h1, ex_stepx 9 _ (HS5.out.fx hgl hx1 HG8.out h3 h2) hgl hx1 (by rw [HG2.out]; omega)⟩
     clear hbx HX8 HG8 HY8 HS5 hg10 HW5
     go_wp2_with fail
     go_roundw
     case rel =>
      rcases HST9.out with ⟨m', l2, t', e1, h1, h2, h3, h4⟩ | ⟨c, t', e1, h1, h2⟩
      ·exact .inl ⟨m', l2, t', e1, h1, h3, h4⟩
      ·exact .inr ⟨c, t', e1, h1, h2⟩
     case measure =>
      have h1 := HLf.out
      rcases HST9.out with ⟨m', l2, t', e1, h1', h2, h3, h4⟩ | ⟨c, t', e1, h1', h2⟩
      ·have h5 := leftF_eq h4.out.fd
       have h6 := h2.out
       injection e1 with e1
       subst e1
       show leftF g S (exW w8 g4 9 (.node k1 a b nm A c' ks) (.node k2 a2 b2 nm2 A2 c2 ks2)) + 1 < leftF g S wr + 1
       omega
      ·injection e1 with e1
       subst e1
       exact Nat.succ_pos _
    ·have e0 : (kk == 0) = false := by rw [hkv]; rfl
     have e1 : (kk == 1) = true := by rw [hkv]; rfl
     clear hkv HCT
     go_wp2_with fail
     refine HK.out.mono ?_
     rintro e w4 ⟨rfl, m2, rfl⟩
     have HS4 := Lib.hid (hst.out.next (below_drewN wr m2))
     clear hst HK
     generalize wr.drewN m2 = w4 at *
     go_wp2_with fail
     refine (HSC.out w4 HS4.out.fd).mono ?_
     rintro e w5 ⟨rfl, hf, hg⟩
     have HS5 := Lib.hid (HS4.out.go hgl hx1 hg hf)
     clear hf hg HS4 HSC
     have HB6 := Lib.hid (below_alloc1 w5 (Obj.cells zeroFE 57))
     have HC6 := Lib.hid (HEc.out _ (HS5.out.fd.next HB6.out) (kk + 1) rfl)
     have HX6 := Lib.hid (Box.new w5 57 zeroFE)
     have h45 := HS5.out.b4.lt
     have HW5 : Hid (w.heap.size ≤ w5.heap.size) := HS5.out.gr.size
     have HG6 : Hid (w5.grownBy (w5.alloc (Obj.cells zeroFE 57)) (some g)) := grown_bel HB6.out
     have hsz6 : (w5.alloc (Obj.cells zeroFE 57)).heap.size = w5.heap.size + 1 := by rw [World.size_alloc]
     clear HEc HB6
     go_wp2_with fail
     refine HC6.out.mono ?_
     intro e w7 hq
     generalize w5.alloc (Obj.cells zeroFE 57) = w6 at *
     generalize hg10 : w5.heap.size = g10 at *
     obtain ⟨iv2, y, he, hx7, hg7, hy7⟩ : ∃ (iv2 : Bool) (y : FE), e = .returned (.tuple #[feV y, .bool iv2]) ∧ Box w7 g10 57 zeroFE ∧ w5.grownBy w7 (some g) ∧ Hid ((iv2 = true ∧ ∃ l2, l2.length ≤ (nx l1).length ∧ rd m (.lp k (.node 10 0 0 noB none 0 [shp t, shp y])) o l2 = some r ∧ FeAt w7 (fun b => g10 < b) w7.heap.size y ∧ Fd w7 g S l2 op) ∨ (iv2 = false ∧ ∃ c, r = .no c ∧ c ≠ 0 ∧ Fx w7 g S c)) := by
      cases r2 with
      | no c =>
       obtain ⟨y, he, hc, hx, hg⟩ := hq
       have e2 : r = .no c := by have := HR2.out; injection this with this; exact this.symm
       exact ⟨false, y, he, HX6.out.grown hg (by simp; omega), HG6.out.trans hg, .inr ⟨rfl, c, e2, hc, hx⟩⟩
      | yes x l2 =>
       obtain ⟨y, hs, he, ha, hf, hg⟩ := hq
       exact ⟨true, y, he, HX6.out.grown hg (by simp; omega), HG6.out.trans hg, .inl ⟨rfl, l2, HLL.out _ _ rfl, by rw [hs]; exact HR2.out, ha.more fun b hb _ => by omega, hf⟩⟩
     subst he
     obtain ⟨k2, a2, b2, nm2, A2, c2, ks2⟩ := y
     rw [show feV (.node k2 a2 b2 nm2 A2 c2 ks2) = .agg #[.int .i64 k2, .int .i64 a2, .int .i64 b2, .string nm2, .slice A2 ks2.length c2] from rfl]
     obtain ⟨z0, z1, z2, z3, z4⟩ := fecells hx7
     have zf : ∀ i, w7.frozen? ⟨g10, i, none⟩ = false := fun i => hx7.free i
     have zl := hx7.lt
     have HX8 := Lib.hid (box_set5 hx7 k2 a2 b2 nm2 (.slice A2 ks2.length c2))
     have HG8 := Lib.hid (grown_set5 hg7 g10 k2 a2 b2 nm2 (.slice A2 ks2.length c2) (by omega))
     have HY8 : Hid ((iv2 = true ∧ ∃ l2, l2.length ≤ (nx l1).length ∧ rd m (.lp k (.node 10 0 0 noB none 0 [shp t, shp (.node k2 a2 b2 nm2 A2 c2 ks2)])) o l2 = some r ∧ FeAt (set5 w7 g10 k2 a2 b2 nm2 (.slice A2 ks2.length c2)) (fun b => g10 < b) (set5 w7 g10 k2 a2 b2 nm2 (.slice A2 ks2.length c2)).heap.size (.node k2 a2 b2 nm2 A2 c2 ks2) ∧ Fd (set5 w7 g10 k2 a2 b2 nm2 (.slice A2 ks2.length c2)) g S l2 op) ∨ (iv2 = false ∧ ∃ c, r = .no c ∧ c ≠ 0 ∧ Fx (set5 w7 g10 k2 a2 b2 nm2 (.slice A2 ks2.length c2)) g S c)) := by
      rcases hy7.out with ⟨e1, l2, h1, h2, h3, h4⟩ | ⟨e1, c, h1, h2, h3⟩
      ·exact .inl ⟨e1, l2, h1, h2, h3.set5 g10 _ _ _ _ _ (by omega), h4.set5 g10 _ _ _ _ _ (by omega)⟩
      ·exact .inr ⟨e1, c, h1, h2, h3.set5 g10 _ _ _ _ _ (by omega)⟩
     clear hq HC6 HR2 HLL HX6 HG6 hsz6 hx7 hg7 hy7
     go_upto_region 20 with fail
     clear z0 z1 z2 z3 z4 zf zl
     dsimp only [set5] at HX8 HG8 HY8
     generalize ((((w7.setCell ⟨g10, 0, none⟩ (.int .i64 k2)).setCell ⟨g10, 1, none⟩ (.int .i64 a2)).setCell ⟨g10, 2, none⟩ (.int .i64 b2)).setCell ⟨g10, 3, none⟩ (.string nm2)).setCell ⟨g10, 4, none⟩ (.slice A2 ks2.length c2) = w8 at *
     obtain ⟨z0, z1, z2, z3, z4⟩ := fecells HX8.out
     have zl := HX8.out.lt
     obtain ⟨k1, a, b, nm, A, c', ks⟩ := t
     have hbx := HS5.out.b4.grown HG8.out (by simp; omega)
     obtain ⟨y0, y1, y2, y3, y4⟩ := fecells hbx
     have yf : ∀ i, w8.frozen? ⟨g4, i, none⟩ = false := fun i => hbx.free i
     have yl := hbx.lt
     have HST9 : Hid ((∃ m l1' t, (Value.bool iv2 = Value.bool true) ∧ Hid (m ≤ n) ∧ Hid (l1'.length ≤ (nx l1).length) ∧ Hid (rd m (.lp k (shp t)) o l1' = some r) ∧ Hid (ShSt g g2 g4 S op w (exW w8 g4 10 (.node k1 a b nm A c' ks) (.node k2 a2 b2 nm2 A2 c2 ks2)) l1' t)) ∨ (∃ c t, (Value.bool iv2 = Value.bool false) ∧ Hid (r = .no c) ∧ Hid (ShFx g g2 g4 S c w (exW w8 g4 10 (.node k1 a b nm A c' ks) (.node k2 a2 b2 nm2 A2 c2 ks2)) t))) := by
      rcases HY8.out with ⟨e1, l2, h1, h2, h3, h4⟩ | ⟨e1, c, h1, h2, h3⟩
      ·exact .inl ⟨m, l2, _, by rw [e1], HM1, h1, by rw [shp_exN]; exact h2, ex_step 10 (by unfold I64; omega) (HS5.out.go hgl hx1 HG8.out h4) (h3.more fun b hb _ => ⟨by omega, by omega⟩) hgl hx1 (by rw [HG2.out]; omega)⟩
      ·exact .inr ⟨c, _, by rw [e1], h1, ex_stepx 10 _ (HS5.out.fx hgl hx1 HG8.out h3 h2) hgl hx1 (by rw [HG2.out]; omega)⟩
     clear hbx HX8 HG8 HY8 HS5 hg10 HW5
     go_wp2_with fail
     go_roundw
     case rel =>
      rcases HST9.out with ⟨m', l2, t', e1, h1, h2, h3, h4⟩ | ⟨c, t', e1, h1, h2⟩
      ·exact .inl ⟨m', l2, t', e1, h1, h3, h4⟩
      ·exact .inr ⟨c, t', e1, h1, h2⟩
     case measure =>
      have h1 := HLf.out
      rcases HST9.out with ⟨m', l2, t', e1, h1', h2, h3, h4⟩ | ⟨c, t', e1, h1', h2⟩
      ·have h5 := leftF_eq h4.out.fd
       have h6 := h2.out
       injection e1 with e1
       subst e1
       show leftF g S (exW w8 g4 10 (.node k1 a b nm A c' ks) (.node k2 a2 b2 nm2 A2 c2 ks2)) + 1 < leftF g S wr + 1
       omega
      ·injection e1 with e1
       subst e1
       exact Nat.succ_pos _
    ·have e0 : (kk == 0) = false := by rw [hkv]; rfl
     have e1 : (kk == 1) = true := by rw [hkv]; rfl
     clear hkv HCT
     go_wp2_with fail
     refine HK.out.mono ?_
     rintro e w4 ⟨rfl, m2, rfl⟩
     have HS4 := Lib.hid (hst.out.next (below_drewN wr m2))
     clear hst HK
     generalize wr.drewN m2 = w4 at *
     go_wp2_with fail
     refine (HSC.out w4 HS4.out.fd).mono ?_
     rintro e w5 ⟨rfl, hf, hg⟩
     have HS5 := Lib.hid (HS4.out.go hgl hx1 hg hf)
     clear hf hg HS4 HSC
     have HB6 := Lib.hid (below_alloc1 w5 (Obj.cells zeroFE 57))
     have HC6 := Lib.hid (HEc.out _ (HS5.out.fd.next HB6.out) (kk + 1) rfl)
     have HX6 := Lib.hid (Box.new w5 57 zeroFE)
     have h45 := HS5.out.b4.lt
     have HW5 : Hid (w.heap.size ≤ w5.heap.size) := HS5.out.gr.size
     have HG6 : Hid (w5.grownBy (w5.alloc (Obj.cells zeroFE 57)) (some g)) := grown_bel HB6.out
     have hsz6 : (w5.alloc (Obj.cells zeroFE 57)).heap.size = w5.heap.size + 1 := by rw [World.size_alloc]
     clear HEc HB6
     go_wp2_with fail
     refine HC6.out.mono ?_
     intro e w7 hq
     generalize w5.alloc (Obj.cells zeroFE 57) = w6 at *
     generalize hg10 : w5.heap.size = g10 at *
     obtain ⟨iv2, y, he, hx7, hg7, hy7⟩ : ∃ (iv2 : Bool) (y : FE), e = .returned (.tuple #[feV y, .bool iv2]) ∧ Box w7 g10 57 zeroFE ∧ w5.grownBy w7 (some g) ∧ Hid ((iv2 = true ∧ ∃ l2, l2.length ≤ (nx l1).length ∧ rd m (.lp k (.node 11 0 0 noB none 0 [shp t, shp y])) o l2 = some r ∧ FeAt w7 (fun b => g10 < b) w7.heap.size y ∧ Fd w7 g S l2 op) ∨ (iv2 = false ∧ ∃ c, r = .no c ∧ c ≠ 0 ∧ Fx w7 g S c)) := by
      cases r2 with
      | no c =>
       obtain ⟨y, he, hc, hx, hg⟩ := hq
       have e2 : r = .no c := by have := HR2.out; injection this with this; exact this.symm
       exact ⟨false, y, he, HX6.out.grown hg (by simp; omega), HG6.out.trans hg, .inr ⟨rfl, c, e2, hc, hx⟩⟩
      | yes x l2 =>
       obtain ⟨y, hs, he, ha, hf, hg⟩ := hq
       exact ⟨true, y, he, HX6.out.grown hg (by simp; omega), HG6.out.trans hg, .inl ⟨rfl, l2, HLL.out _ _ rfl, by rw [hs]; exact HR2.out, ha.more fun b hb _ => by omega, hf⟩⟩
     subst he
     obtain ⟨k2, a2, b2, nm2, A2, c2, ks2⟩ := y
     rw [show feV (.node k2 a2 b2 nm2 A2 c2 ks2) = .agg #[.int .i64 k2, .int .i64 a2, .int .i64 b2, .string nm2, .slice A2 ks2.length c2] from rfl]
     obtain ⟨z0, z1, z2, z3, z4⟩ := fecells hx7
     have zf : ∀ i, w7.frozen? ⟨g10, i, none⟩ = false := fun i => hx7.free i
     have zl := hx7.lt
     have HX8 := Lib.hid (box_set5 hx7 k2 a2 b2 nm2 (.slice A2 ks2.length c2))
     have HG8 := Lib.hid (grown_set5 hg7 g10 k2 a2 b2 nm2 (.slice A2 ks2.length c2) (by omega))
     have HY8 : Hid ((iv2 = true ∧ ∃ l2, l2.length ≤ (nx l1).length ∧ rd m (.lp k (.node 11 0 0 noB none 0 [shp t, shp (.node k2 a2 b2 nm2 A2 c2 ks2)])) o l2 = some r ∧ FeAt (set5 w7 g10 k2 a2 b2 nm2 (.slice A2 ks2.length c2)) (fun b => g10 < b) (set5 w7 g10 k2 a2 b2 nm2 (.slice A2 ks2.length c2)).heap.size (.node k2 a2 b2 nm2 A2 c2 ks2) ∧ Fd (set5 w7 g10 k2 a2 b2 nm2 (.slice A2 ks2.length c2)) g S l2 op) ∨ (iv2 = false ∧ ∃ c, r = .no c ∧ c ≠ 0 ∧ Fx (set5 w7 g10 k2 a2 b2 nm2 (.slice A2 ks2.length c2)) g S c)) := by
      rcases hy7.out with ⟨e1, l2, h1, h2, h3, h4⟩ | ⟨e1, c, h1, h2, h3⟩
      ·exact .inl ⟨e1, l2, h1, h2, h3.set5 g10 _ _ _ _ _ (by omega), h4.set5 g10 _ _ _ _ _ (by omega)⟩
      ·exact .inr ⟨e1, c, h1, h2, h3.set5 g10 _ _ _ _ _ (by omega)⟩
     clear hq HC6 HR2 HLL HX6 HG6 hsz6 hx7 hg7 hy7
     go_upto_region 20 with fail
     clear z0 z1 z2 z3 z4 zf zl
     dsimp only [set5] at HX8 HG8 HY8
     generalize ((((w7.setCell ⟨g10, 0, none⟩ (.int .i64 k2)).setCell ⟨g10, 1, none⟩ (.int .i64 a2)).setCell ⟨g10, 2, none⟩ (.int .i64 b2)).setCell ⟨g10, 3, none⟩ (.string nm2)).setCell ⟨g10, 4, none⟩ (.slice A2 ks2.length c2) = w8 at *
     obtain ⟨z0, z1, z2, z3, z4⟩ := fecells HX8.out
     have zl := HX8.out.lt
     obtain ⟨k1, a, b, nm, A, c', ks⟩ := t
     have hbx := HS5.out.b4.grown HG8.out (by simp; omega)
     obtain ⟨y0, y1, y2, y3, y4⟩ := fecells hbx
     have yf : ∀ i, w8.frozen? ⟨g4, i, none⟩ = false := fun i => hbx.free i
     have yl := hbx.lt
     have HST9 : Hid ((∃ m l1' t, (Value.bool iv2 = Value.bool true) ∧ Hid (m ≤ n) ∧ Hid (l1'.length ≤ (nx l1).length) ∧ Hid (rd m (.lp k (shp t)) o l1' = some r) ∧ Hid (ShSt g g2 g4 S op w (exW w8 g4 11 (.node k1 a b nm A c' ks) (.node k2 a2 b2 nm2 A2 c2 ks2)) l1' t)) ∨ (∃ c t, (Value.bool iv2 = Value.bool false) ∧ Hid (r = .no c) ∧ Hid (ShFx g g2 g4 S c w (exW w8 g4 11 (.node k1 a b nm A c' ks) (.node k2 a2 b2 nm2 A2 c2 ks2)) t))) := by
      rcases HY8.out with ⟨e1, l2, h1, h2, h3, h4⟩ | ⟨e1, c, h1, h2, h3⟩
      ·exact .inl ⟨m, l2, _, by rw [e1], HM1, h1, by rw [shp_exN]; exact h2, ex_step 11 (by unfold I64; omega) (HS5.out.go hgl hx1 HG8.out h4) (h3.more fun b hb _ => ⟨by omega, by omega⟩) hgl hx1 (by rw [HG2.out]; omega)⟩
      ·exact .inr ⟨c, _, by rw [e1], h1, ex_stepx 11 _ (HS5.out.fx hgl hx1 HG8.out h3 h2) hgl hx1 (by rw [HG2.out]; omega)⟩
     clear hbx HX8 HG8 HY8 HS5 hg10 HW5
     go_wp2_with fail
     go_roundw
     case rel =>
      rcases HST9.out with ⟨m', l2, t', e1, h1, h2, h3, h4⟩ | ⟨c, t', e1, h1, h2⟩
      ·exact .inl ⟨m', l2, t', e1, h1, h3, h4⟩
      ·exact .inr ⟨c, t', e1, h1, h2⟩
     case measure =>
      have h1 := HLf.out
      rcases HST9.out with ⟨m', l2, t', e1, h1', h2, h3, h4⟩ | ⟨c, t', e1, h1', h2⟩
      ·have h5 := leftF_eq h4.out.fd
       have h6 := h2.out
       injection e1 with e1
       subst e1
       show leftF g S (exW w8 g4 11 (.node k1 a b nm A c' ks) (.node k2 a2 b2 nm2 A2 c2 ks2)) + 1 < leftF g S wr + 1
       omega
      ·injection e1 with e1
       subst e1
       exact Nat.succ_pos _
  ·obtain ⟨k1, a, b, nm, A, c', ks⟩ := t
   obtain ⟨y0, y1, y2, y3, y4⟩ := fecells hst.out.b4
   obtain ⟨r0, r1, r2, r3, r4⟩ := fecells hst.out.b2
   have rf : ∀ i, wr.frozen? ⟨g2, i, none⟩ = false := fun i => hst.out.b2.free i
   have rl := hst.out.b2.lt
   have yl := hst.out.b4.lt
   go_wp2_with fail
   refine bodyPost_ret (v := .tuple #[.agg #[.int .i64 k1, .int .i64 a, .int .i64 b, .string nm, .slice A ks.length c'], .bool false]) (by simp [results, Tryz.results40, go_sem, r0, r1, r2, r3, r4]) rfl ?_
   rw [hrc.out]
   exact fex_no hst.out.ne HG2.out hgl hst.out.fx hst.out.gr
end Go.Proofs.YtabidjmmgnkhkaaGreatDoor
