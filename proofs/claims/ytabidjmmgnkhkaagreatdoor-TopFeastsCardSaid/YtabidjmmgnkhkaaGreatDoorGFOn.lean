/- FOn -/
import Derived.Test.YtabidjmmgnkhkaaGreatDoorGFShift
/- Contract of on of a feast's text. -/
namespace Go.Proofs.YtabidjmmgnkhkaaGreatDoor
open Go.RowKit
set_option linter.unusedVariables false
def onR (n o : Nat) (k a b : Int) (nm : ByteArray) (l : List UInt8) : Option Fr := thenF (rd n .on o l) fun y l2 => some (.yes (.node k a b nm none 0 [y]) l2)
abbrev feA (k a b : Int) (nm : ByteArray) : Array Value := #[.int .i64 k, .int .i64 a, .int .i64 b, .string nm, .slice none 0 0]
set_option maxHeartbeats 4000000 in
set_option maxRecDepth 100000 in
theorem on_any (g : Nat) (S : ByteArray) (o n : Nat) (l : List UInt8) (r : Fr) (w : World) (hS : S.size ≤ 5000) (h : Fd w g S l (o : Int)) (hr : rd (n + 1) .on o l = some r)
  (hO : ∀ l1 r1, rd n .on o l1 = some r1 → ∀ W, Fd W g S l1 (o : Int) → Calls Tryz.prog 67 #[.pointer (some ⟨g, 0, none⟩)] W (FExQ g S (o : Int) r1 W))
  (hH : ∀ r1, rd n .sh o l = some r1 → ∀ W, Fd W g S l (o : Int) → Calls Tryz.prog 68 #[.pointer (some ⟨g, 0, none⟩)] W (FExQ g S (o : Int) r1 W)) :
  Calls Tryz.prog 67 #[.pointer (some ⟨g, 0, none⟩)] w (FExQ g S (o : Int) r w) := by
 rw [rd] at hr
 have HB0 := Lib.hid (below_alloc2 w (Obj.cells zeroFE 57) (Obj.cells zeroFE 57))
 have HX0 := Lib.hid ((Box.new w 57 zeroFE).alloc (Obj.cells zeroFE 57))
 have HY0 : Hid (Box ((w.alloc (Obj.cells zeroFE 57)).alloc (Obj.cells zeroFE 57)) (w.heap.size + 1) 57 zeroFE) := heap_alloc2_new _ _ _
 have HF0 := Lib.hid (h.next HB0.out)
 have HRr := Lib.hid hr
 have HO := Lib.hid hO
 have HH := Lib.hid hH
 have hgl := h.lt
 obtain ⟨op, hop⟩ : ∃ op : Int, op = (o : Int) := ⟨_, rfl⟩
 rw [← hop] at HO HH HF0 ⊢
 clear h hr hO hH hop
 go_enter Tryz.func67, Tryz.ntmps67
 go_upto_block 0 with fail
 generalize hg2 : w.heap.size = g2 at *
 have HG2 := Lib.hid hg2
 generalize (w.alloc (Obj.cells zeroFE 57)).alloc (Obj.cells zeroFE 57) = w0 at *
 have HW0 : Hid (w.grownBy w0 (some g)) := grown_bel (by rw [hg2]; exact HB0.out)
 clear hg2 HB0
 go_cut [5] (fun s5 wx => (∃ (k a b : Int) (nm : ByteArray) (l1 : List UInt8), s5 = .bool true ∧ Hid (onR n o k a b nm l1 = some r) ∧ Hid (I64 k ∧ I64 a ∧ I64 b ∧ nm.size ≤ 5000) ∧ Hid (Box wx g2 57 zeroFE) ∧ Hid (Box wx (g2 + 1) 57 (feA k a b nm)) ∧ Hid (Fd wx g S l1 op) ∧ Hid (w.grownBy wx (some g))) ∨ (∃ (c k a b : Int) (nm : ByteArray), s5 = .bool false ∧ Hid (r = .no c) ∧ Hid (c ≠ 0) ∧ Hid (Box wx g2 57 zeroFE) ∧ Hid (Box wx (g2 + 1) 57 (feA k a b nm)) ∧ Hid (Fx wx g S c) ∧ Hid (w.grownBy wx (some g))))
 case first =>
  have hxl := HX0.out.lt
  by_cases h1 : tk l = [111, 110]
  ·have HT := Lib.hid (ftake_any g S l op [111, 110] w0 HF0.out hS)
   unfold FTakeQ at HT
   rw [decide_eq_true h1, if_pos h1, show str [111, 110] = (⟨#[111, 110]⟩ : ByteArray) from rfl] at HT
   have HR1 := Lib.hid (HRr.out)
   rw [if_pos h1] at HR1
   clear HRr h1 HO HH
   go_wp2_with fail
   refine HT.out.mono ?_
   rintro e w1 ⟨rfl, hf, hg⟩
   have hy1 := HY0.out.grown hg (by simp; omega)
   have HX2 := Lib.hid ((HX0.out.grown hg (by simp; omega)).far (p := ⟨g2 + 1, 0, none⟩) (by show g2 ≠ g2 + 1; omega) (.int .i64 8))
   have HY2 : Hid (Box (w1.setCell ⟨g2 + 1, 0, none⟩ (.int .i64 8)) (g2 + 1) 57 (feA 8 0 0 noB)) := hy1.set_ 0 (.int .i64 8)
   have HF2 := Lib.hid (hf.set_ (g2 + 1) 0 (.int .i64 8) (by omega))
   have HW2 := Lib.hid (grown_setnew' (HW0.out.trans hg) (g2 + 1) 0 (.int .i64 8) (by rw [HG2.out]; omega))
   have y0 : w1.cell? ⟨g2 + 1, 0, none⟩ = some (.int .i64 0) := hy1.cell 0
   have yf := hy1.free 0
   have yl := hy1.lt
   have HN := Lib.hid (fnumber_any g S (nx l) op (g2 + 1) 1 0 _ HF2.out hS (HY2.out.cell 1) (HY2.out.free 1) (by omega))
   clear hy1 hf hg HX0 HY0 HF0 HW0 HT
   go_upto_region 6 with fail
   clear y0 yf yl
   generalize w1.setCell ⟨g2 + 1, 0, none⟩ (.int .i64 8) = w2 at *
   have yl := HY2.out.lt
   cases hn : numR (nx l) with
   | no c =>
    rw [hn] at HN
    have HRc : Hid (r = .no c) := by have h := HR1.out; rw [hn] at h; injection h with h; exact h.symm
    clear hn HR1
    go_wp2_with fail
    refine HN.out.mono ?_
    rintro e w3 ⟨rfl, hc0, hx, hg⟩
    have HX3 := Lib.hid (HX2.out.grown hg (by simp; omega))
    have HY3 := Lib.hid (HY2.out.grown hg (by simp; omega))
    have HW3 := Lib.hid (HW2.out.trans hg)
    have HXx := Lib.hid hx
    have HC0 := Lib.hid hc0
    clear hc0 hx hg HN HX2 HY2 HW2 HF2
    go_wp2_with fail
    go_meet
    exact .inr ⟨c, 8, 0, 0, noB, rfl, HRc, HC0, HX3, HY3, HXx, HW3⟩
   | yes a l1 =>
    have hab := numR_bound hn
    rw [hn] at HN
    have HRc : Hid (onR n o 8 a 0 noB l1 = some r) := by have h := HR1.out; rw [hn] at h; exact h
    clear hn HR1
    go_wp2_with fail
    refine HN.out.mono ?_
    rintro e w3 ⟨rfl, hf, hg⟩
    have HX3 := Lib.hid ((HX2.out.far (p := ⟨g2 + 1, 1, none⟩) (by show g2 ≠ g2 + 1; omega) (.int .i64 a)).grown hg (by simp; omega))
    have HY3 : Hid (Box w3 (g2 + 1) 57 (feA 8 a 0 noB)) := (HY2.out.set_ 1 (.int .i64 a)).grown hg (by simp; omega)
    have HW3 := Lib.hid ((grown_setnew' HW2.out (g2 + 1) 1 (.int .i64 a) (by rw [HG2.out]; omega)).trans hg)
    have HF3 := Lib.hid hf
    clear hf hg HN HX2 HY2 HW2 HF2
    go_wp2_with fail
    go_meet
    exact .inl ⟨8, a, 0, noB, l1, rfl, HRc, ⟨by unfold I64; omega, by unfold I64; omega, by unfold I64; omega, Nat.zero_le _⟩, HX3, HY3, HF3, HW3⟩
  by_cases h2 : tk l = [110, 116, 104]
  ·have HT := Lib.hid (ftake_any g S l op [111, 110] w0 HF0.out hS)
   unfold FTakeQ at HT
   rw [decide_eq_false h1, if_neg h1, show str [111, 110] = (⟨#[111, 110]⟩ : ByteArray) from rfl] at HT
   have HT2 := Lib.hid (fun W (hW : Fd W g S l op) => ftake_any g S l op [110, 116, 104] W hW hS)
   unfold FTakeQ at HT2
   rw [decide_eq_true h2, if_pos h2, show str [110, 116, 104] = (⟨#[110, 116, 104]⟩ : ByteArray) from rfl] at HT2
   have HR1 := Lib.hid (HRr.out)
   rw [if_neg h1, if_pos h2] at HR1
   clear HRr h1 h2 HO HH
   go_wp2_with fail
   refine HT.out.mono ?_
   rintro e w1' ⟨rfl, hf, hg⟩
   have HXa := Lib.hid (HX0.out.grown hg (by simp; omega))
   have HYa := Lib.hid (HY0.out.grown hg (by simp; omega))
   have HWa := Lib.hid (HW0.out.trans hg)
   have HT3 := Lib.hid (HT2.out w1' hf)
   clear hf hg HX0 HY0 HW0 HF0 HT HT2
   go_wp2_with fail
   refine HT3.out.mono ?_
   rintro e w1 ⟨rfl, hf, hg⟩
   have hy1 := HYa.out.grown hg (by simp; omega)
   have HX2 := Lib.hid ((HXa.out.grown hg (by simp; omega)).far (p := ⟨g2 + 1, 0, none⟩) (by show g2 ≠ g2 + 1; omega) (.int .i64 12))
   have HY2 : Hid (Box (w1.setCell ⟨g2 + 1, 0, none⟩ (.int .i64 12)) (g2 + 1) 57 (feA 12 0 0 noB)) := hy1.set_ 0 (.int .i64 12)
   have HF2 := Lib.hid (hf.set_ (g2 + 1) 0 (.int .i64 12) (by omega))
   have HW2 := Lib.hid (grown_setnew' (HWa.out.trans hg) (g2 + 1) 0 (.int .i64 12) (by rw [HG2.out]; omega))
   have y0 : w1.cell? ⟨g2 + 1, 0, none⟩ = some (.int .i64 0) := hy1.cell 0
   have yf := hy1.free 0
   have yl := hy1.lt
   have HN := Lib.hid (fnumber_any g S (nx l) op (g2 + 1) 1 0 _ HF2.out hS (HY2.out.cell 1) (HY2.out.free 1) (by omega))
   clear hy1 hf hg HXa HYa HWa HT3
   go_upto_region 9 with fail
   clear y0 yf yl
   generalize w1.setCell ⟨g2 + 1, 0, none⟩ (.int .i64 12) = w2 at *
   have yl := HY2.out.lt
   cases hn : numR (nx l) with
   | no c =>
    rw [hn] at HN
    have HRc : Hid (r = .no c) := by have h := HR1.out; rw [hn] at h; injection h with h; exact h.symm
    clear hn HR1
    go_wp2_with fail
    refine HN.out.mono ?_
    rintro e w3 ⟨rfl, hc0, hx, hg⟩
    have HX3 := Lib.hid (HX2.out.grown hg (by simp; omega))
    have HY3 := Lib.hid (HY2.out.grown hg (by simp; omega))
    have HW3 := Lib.hid (HW2.out.trans hg)
    have HXx := Lib.hid hx
    have HC0 := Lib.hid hc0
    clear hc0 hx hg HN HX2 HY2 HW2 HF2
    go_wp2_with fail
    go_meet
    exact .inr ⟨c, 12, 0, 0, noB, rfl, HRc, HC0, HX3, HY3, HXx, HW3⟩
   | yes a l1 =>
    have hab := numR_bound hn
    rw [hn] at HN
    have HRc : Hid ((if tk l1 = [105, 110] then thenW (wordR (nx l1)) fun s l2 => thenN (numR l2) fun b l3 => onR n o 12 a b (str s) l3 else some (.no 4)) = some r) := by have h := HR1.out; rw [hn] at h; exact h
    clear hn HR1
    go_wp2_with fail
    refine HN.out.mono ?_
    rintro e w3 ⟨rfl, hf, hg⟩
    have HX3 := Lib.hid ((HX2.out.far (p := ⟨g2 + 1, 1, none⟩) (by show g2 ≠ g2 + 1; omega) (.int .i64 a)).grown hg (by simp; omega))
    have HY3 : Hid (Box w3 (g2 + 1) 57 (feA 12 a 0 noB)) := (HY2.out.set_ 1 (.int .i64 a)).grown hg (by simp; omega)
    have HW3 := Lib.hid ((grown_setnew' HW2.out (g2 + 1) 1 (.int .i64 a) (by rw [HG2.out]; omega)).trans hg)
    have HF3 := Lib.hid hf
    clear hf hg HN HX2 HY2 HW2 HF2
    have HT := Lib.hid (ftake_any g S l1 op [105, 110] w3 HF3.out hS)
    unfold FTakeQ at HT
    by_cases h3 : tk l1 = [105, 110]
    ·rw [decide_eq_true h3, if_pos h3, show str [105, 110] = (⟨#[105, 110]⟩ : ByteArray) from rfl] at HT
     rw [if_pos h3] at HRc
     clear h3
     go_wp2_with fail
     refine HT.out.mono ?_
     rintro e w4 ⟨rfl, hf, hg⟩
     have HX4 := Lib.hid (HX3.out.grown hg (by simp; omega))
     have HY4 := Lib.hid (HY3.out.grown hg (by simp; omega))
     have HW4 := Lib.hid (HW3.out.trans hg)
     have HWd := Lib.hid (fword_any g S (nx l1) op (g2 + 1) 3 noB w4 hf hS (HY4.out.cell 3) (HY4.out.free 3) (by omega))
     have hlen := hf.len
     clear hf hg HX3 HY3 HW3 HF3 HT
     cases hw : wordR (nx l1) with
     | no c =>
      rw [hw] at HWd
      have HRd : Hid (r = .no c) := by have h := HRc.out; rw [hw] at h; injection h with h; exact h.symm
      clear hw HRc
      go_wp2_with fail
      refine HWd.out.mono ?_
      rintro e w5 ⟨rfl, hc0, hx, hg⟩
      have HX5 := Lib.hid (HX4.out.grown hg (by simp; omega))
      have HY5 := Lib.hid (HY4.out.grown hg (by simp; omega))
      have HW5 := Lib.hid (HW4.out.trans hg)
      have HXx := Lib.hid hx
      have HC0 := Lib.hid hc0
      clear hc0 hx hg HWd HX4 HY4 HW4
      go_wp2_with fail
      go_meet
      exact .inr ⟨c, 12, a, 0, noB, rfl, HRd, HC0, HX5, HY5, HXx, HW5⟩
     | yes s l2 =>
      have hsl := wordR_s hw
      rw [hw] at HWd
      have HRd : Hid (thenN (numR l2) (fun b l3 => onR n o 12 a b (str s) l3) = some r) := by have h := HRc.out; rw [hw] at h; exact h
      clear hw HRc
      go_wp2_with fail
      refine HWd.out.mono ?_
      rintro e w5 ⟨rfl, hf, hg⟩
      have HX5 := Lib.hid ((HX4.out.far (p := ⟨g2 + 1, 3, none⟩) (by show g2 ≠ g2 + 1; omega) (.string (str s))).grown hg (by simp; omega))
      have HY5 : Hid (Box w5 (g2 + 1) 57 (feA 12 a 0 (str s))) := (HY4.out.set_ 3 (.string (str s))).grown hg (by simp; omega)
      have HW5 := Lib.hid ((grown_setnew' HW4.out (g2 + 1) 3 (.string (str s)) (by rw [HG2.out]; omega)).trans hg)
      have HNb := Lib.hid (fnumber_any g S l2 op (g2 + 1) 2 0 w5 hf hS (HY5.out.cell 2) (HY5.out.free 2) (by omega))
      clear hf hg HWd HX4 HY4 HW4
      cases hn : numR l2 with
      | no c =>
       rw [hn] at HNb
       have HRe : Hid (r = .no c) := by have h := HRd.out; rw [hn] at h; injection h with h; exact h.symm
       clear hn HRd
       go_wp2_with fail
       refine HNb.out.mono ?_
       rintro e w6 ⟨rfl, hc0, hx, hg⟩
       have HX6 := Lib.hid (HX5.out.grown hg (by simp; omega))
       have HY6 := Lib.hid (HY5.out.grown hg (by simp; omega))
       have HW6 := Lib.hid (HW5.out.trans hg)
       have HXx := Lib.hid hx
       have HC0 := Lib.hid hc0
       clear hc0 hx hg HNb HX5 HY5 HW5
       go_wp2_with fail
       go_meet
       exact .inr ⟨c, 12, a, 0, str s, rfl, HRe, HC0, HX6, HY6, HXx, HW6⟩
      | yes b l3 =>
       have hbb := numR_bound hn
       rw [hn] at HNb
       have HRe : Hid (onR n o 12 a b (str s) l3 = some r) := by have h := HRd.out; rw [hn] at h; exact h
       clear hn HRd
       go_wp2_with fail
       refine HNb.out.mono ?_
       rintro e w6 ⟨rfl, hf, hg⟩
       have HX6 := Lib.hid ((HX5.out.far (p := ⟨g2 + 1, 2, none⟩) (by show g2 ≠ g2 + 1; omega) (.int .i64 b)).grown hg (by simp; omega))
       have HY6 : Hid (Box w6 (g2 + 1) 57 (feA 12 a b (str s))) := (HY5.out.set_ 2 (.int .i64 b)).grown hg (by simp; omega)
       have HW6 := Lib.hid ((grown_setnew' HW5.out (g2 + 1) 2 (.int .i64 b) (by rw [HG2.out]; omega)).trans hg)
       have HF6 := Lib.hid hf
       clear hf hg HNb HX5 HY5 HW5
       go_wp2_with fail
       go_meet
       exact .inl ⟨12, a, b, str s, l3, rfl, HRe, ⟨by unfold I64; omega, by unfold I64; omega, by unfold I64; omega, by rw [str_size]; omega⟩, HX6, HY6, HF6, HW6⟩
    ·rw [decide_eq_false h3, if_neg h3, show str [105, 110] = (⟨#[105, 110]⟩ : ByteArray) from rfl] at HT
     rw [if_neg h3] at HRc
     have HRd : Hid (r = .no 4) := by have h := HRc.out; injection h with h; exact h.symm
     clear h3 HRc
     go_wp2_with fail
     refine HT.out.mono ?_
     rintro e w4 ⟨rfl, hf, hg⟩
     have HX4 := Lib.hid (HX3.out.grown hg (by simp; omega))
     have HY4 := Lib.hid (HY3.out.grown hg (by simp; omega))
     have HW4 := Lib.hid (HW3.out.trans hg)
     have HFl := Lib.hid (ffail_at g S l1 op 4 w4 hf)
     clear hf hg HX3 HY3 HW3 HF3 HT
     go_wp2_with fail
     refine HFl.out.mono ?_
     rintro e w5 ⟨rfl, hx, hg⟩
     have HX5 := Lib.hid (HX4.out.grown hg (by simp; omega))
     have HY5 := Lib.hid (HY4.out.grown hg (by simp; omega))
     have HW5 := Lib.hid (HW4.out.trans hg)
     have HXx := Lib.hid hx
     clear hx hg HFl HX4 HY4 HW4
     go_wp2_with fail
     go_meet
     exact .inr ⟨4, 12, a, 0, noB, rfl, HRd, (show (4 : Int) ≠ 0 by decide), HX5, HY5, HXx, HW5⟩
  ·have HT := Lib.hid (ftake_any g S l op [111, 110] w0 HF0.out hS)
   unfold FTakeQ at HT
   rw [decide_eq_false h1, if_neg h1, show str [111, 110] = (⟨#[111, 110]⟩ : ByteArray) from rfl] at HT
   have HT2 := Lib.hid (fun W (hW : Fd W g S l op) => ftake_any g S l op [110, 116, 104] W hW hS)
   unfold FTakeQ at HT2
   rw [decide_eq_false h2, if_neg h2, show str [110, 116, 104] = (⟨#[110, 116, 104]⟩ : ByteArray) from rfl] at HT2
   have HR1 := Lib.hid (HRr.out)
   rw [if_neg h1, if_neg h2] at HR1
   clear HRr h1 h2 HO
   go_wp2_with fail
   refine HT.out.mono ?_
   rintro e w1' ⟨rfl, hf, hg⟩
   have HXa := Lib.hid (HX0.out.grown hg (by simp; omega))
   have HWa := Lib.hid (HW0.out.trans hg)
   have HT3 := Lib.hid (HT2.out w1' hf)
   clear hf hg HX0 HY0 HW0 HF0 HT HT2
   go_wp2_with fail
   refine HT3.out.mono ?_
   rintro e w1 ⟨rfl, hf, hg⟩
   have HXb := Lib.hid (HXa.out.grown hg (by simp; omega))
   have HWb := Lib.hid (HWa.out.trans hg)
   have HSh := Lib.hid (HH.out r HR1.out w1 hf)
   have hxl1 := HXb.out.lt
   clear hf hg HXa HWa HT3 HH
   go_wp2_with fail
   refine HSh.out.mono ?_
   intro e w2 hq
   obtain ⟨iv, t, he, hg, hfin⟩ : ∃ (iv : Bool) (t : FE), e = .returned (.tuple #[feV t, .bool iv]) ∧ w1.grownBy w2 (some g) ∧ Hid (FExQ g S op r w (.returned (.tuple #[feV t, .bool iv])) (match t with | .node k a b nm A c ks => set5 w2 g2 k a b nm (.slice A ks.length c))) := by
    cases r with
    | no c =>
     obtain ⟨t, he, hc, hx, hg⟩ := hq
     obtain ⟨k, a, b, nm, A, c', ks⟩ := t
     exact ⟨false, _, he, hg, fex_no hc HG2.out hgl hx (HWb.out.trans hg)⟩
    | yes f l' =>
     obtain ⟨t, hs, he, ha, hf, hg⟩ := hq
     obtain ⟨k, a, b, nm, A, c', ks⟩ := t
     exact ⟨true, _, he, hg, fex_yes HG2.out hgl hf (HWb.out.trans hg) hs (ha.more fun b hb _ => by omega)⟩
   subst he
   have hx2 := HXb.out.grown hg (by simp; omega)
   obtain ⟨k, a, b, nm, A, c', ks⟩ := t
   rw [show feV (.node k a b nm A c' ks) = .agg #[.int .i64 k, .int .i64 a, .int .i64 b, .string nm, .slice A ks.length c'] from rfl] at hfin ⊢
   obtain ⟨r0, r1, r2, r3, r4⟩ := fecells hx2
   have rf : ∀ i, w2.frozen? ⟨g2, i, none⟩ = false := fun i => hx2.free i
   have rl := hx2.lt
   clear hq hx2 hg HXb HWb HSh HR1 hxl1 hxl
   go_wp2_with fail
   refine bodyPost_ret (v := .tuple #[.agg #[.int .i64 k, .int .i64 a, .int .i64 b, .string nm, .slice A ks.length c'], .bool iv]) (by simp [results, Tryz.results67, go_sem, r0, r1, r2, r3, r4]) rfl ?_
   exact hfin.out
 case rest =>
 clear HX0 HY0 HF0 HW0 HRr HH
 rcases hcut with ⟨k, a, b, nm, l1, rfl, HR1, HI, HX7, HY7, HF7, HW7⟩ | ⟨c, k, a, b, nm, rfl, HR1, HC0, HX7, HY7, HXx, HW7⟩
 ·obtain ⟨r2, hr2⟩ : ∃ r2, rd n .on o l1 = some r2 := by
   have h := HR1.out
   unfold onR at h
   cases hx : rd n .on o l1 with
   | none => rw [hx] at h; cases h
   | some r1 => exact ⟨r1, rfl⟩
  have HC := Lib.hid (HO.out l1 r2 hr2 wc HF7.out)
  have HR2 : Hid (thenF (some r2) (fun y l2 => some (.yes (.node k a b nm none 0 [y]) l2)) = some r) := by unfold Hid; rw [← hr2]; exact HR1.out
  clear hr2 HR1 HO
  go_wp2_with fail
  refine HC.out.mono ?_
  intro e w1 hq
  obtain ⟨iv, t, he, hst⟩ : ∃ (iv : Bool) (t : FE), e = .returned (.tuple #[feV t, .bool iv]) ∧ Hid (((iv = true ∧ ∃ l2, r = .yes (.node k a b nm none 0 [shp t]) l2 ∧ FeAt w1 (fun b => g2 + 1 < b) w1.heap.size t ∧ Fd w1 g S l2 op) ∨ (iv = false ∧ ∃ c, r = .no c ∧ c ≠ 0 ∧ Fx w1 g S c)) ∧ Box w1 g2 57 zeroFE ∧ Box w1 (g2 + 1) 57 (feA k a b nm) ∧ w.grownBy w1 (some g)) := by
   have hl := HY7.out.lt
   cases r2 with
   | no c =>
    obtain ⟨t, he, hc, hx, hg⟩ := hq
    have e2 : r = .no c := by have := HR2.out; injection this with this; exact this.symm
    exact ⟨false, t, he, .inr ⟨rfl, c, e2, hc, hx⟩, HX7.out.grown hg (by simp; omega), HY7.out.grown hg (by simp; omega), HW7.out.trans hg⟩
   | yes x l2 =>
    obtain ⟨t, hs, he, ha, hf, hg⟩ := hq
    have e2 : r = .yes (.node k a b nm none 0 [shp t]) l2 := by have := HR2.out; injection this with this; rw [hs]; exact this.symm
    exact ⟨true, t, he, .inl ⟨rfl, l2, e2, ha.more fun b hb _ => by omega, hf⟩, HX7.out.grown hg (by simp; omega), HY7.out.grown hg (by simp; omega), HW7.out.trans hg⟩
  subst he
  obtain ⟨k2, a2, b2, nm2, A2, c2, ks2⟩ := t
  rw [show feV (.node k2 a2 b2 nm2 A2 c2 ks2) = .agg #[.int .i64 k2, .int .i64 a2, .int .i64 b2, .string nm2, .slice A2 ks2.length c2] from rfl]
  clear hq HX7 HY7 HF7 HW7 HR2 HC
  go_upto_region 13 with fail
  have hal := below_alloc1 w1 (Obj.cells #[.int .i64 k2, .int .i64 a2, .int .i64 b2, .string nm2, .slice A2 ks2.length c2] 57)
  have HZ2 := Lib.hid (Box.new w1 57 #[.int .i64 k2, .int .i64 a2, .int .i64 b2, .string nm2, .slice A2 ks2.length c2])
  have HX2 := Lib.hid (hst.out.2.1.below hal)
  have HY2 := Lib.hid (hst.out.2.2.1.below hal)
  have HW2 : Hid (w.grownBy (w1.alloc (Obj.cells #[.int .i64 k2, .int .i64 a2, .int .i64 b2, .string nm2, .slice A2 ks2.length c2] 57)) (some g)) := hst.out.2.2.2.trans (grown_bel hal)
  have hy1 := hst.out.2.2.1.lt
  have HS2 : Hid ((iv = true ∧ ∃ l2, r = .yes (.node k a b nm none 0 [shp (.node k2 a2 b2 nm2 A2 c2 ks2)]) l2 ∧ FeAt (w1.alloc (Obj.cells #[.int .i64 k2, .int .i64 a2, .int .i64 b2, .string nm2, .slice A2 ks2.length c2] 57)) (fun b => g2 + 1 < b) (w1.alloc (Obj.cells #[.int .i64 k2, .int .i64 a2, .int .i64 b2, .string nm2, .slice A2 ks2.length c2] 57)).heap.size (.node k2 a2 b2 nm2 A2 c2 ks2) ∧ Fd (w1.alloc (Obj.cells #[.int .i64 k2, .int .i64 a2, .int .i64 b2, .string nm2, .slice A2 ks2.length c2] 57)) g S l2 op) ∨ (iv = false ∧ ∃ c, r = .no c ∧ c ≠ 0 ∧ Fx (w1.alloc (Obj.cells #[.int .i64 k2, .int .i64 a2, .int .i64 b2, .string nm2, .slice A2 ks2.length c2] 57)) g S c)) := by
   rcases hst.out.1 with ⟨e1, l2, e2, ha, hf⟩ | ⟨e1, c, e2, hc, hx⟩
   ·exact .inl ⟨e1, l2, e2, ha.next hal, hf.next hal⟩
   ·exact .inr ⟨e1, c, e2, hc, hx.next hal⟩
  clear hst hal
  generalize w1.alloc (Obj.cells #[.int .i64 k2, .int .i64 a2, .int .i64 b2, .string nm2, .slice A2 ks2.length c2] 57) = W2 at *
  generalize w1.heap.size = g6 at *
  obtain ⟨z0, z1, z2, z3, z4⟩ := fecells HZ2.out
  have y4 : W2.cell? ⟨g2 + 1, 4, none⟩ = some (.slice none 0 0) := HY2.out.cell 4
  have yf := HY2.out.free 4
  have yl := HY2.out.lt
  have zl := HZ2.out.lt
  go_upto_region 14 with fail
  clear z0 z1 z2 z3 z4 y4 yf yl
  have hw0 : w.heap.size = g2 := HG2.out
  have hsz : (W2.setCell ⟨g2 + 1, 4, none⟩ (.slice (some ⟨W2.heap.size, 0, none⟩) 1 1)).heap.size = W2.heap.size := by simp
  have hal := below_alloc1 (W2.setCell ⟨g2 + 1, 4, none⟩ (.slice (some ⟨W2.heap.size, 0, none⟩) 1 1)) (Obj.cells #[.int .i64 k2, .int .i64 a2, .int .i64 b2, .string nm2, .slice A2 ks2.length c2] 57)
  have hbx := Box.new (W2.setCell ⟨g2 + 1, 4, none⟩ (.slice (some ⟨W2.heap.size, 0, none⟩) 1 1)) 57 #[.int .i64 k2, .int .i64 a2, .int .i64 b2, .string nm2, .slice A2 ks2.length c2]
  rw [hsz] at hbx
  have hx3 := (HX2.out.far (p := ⟨g2 + 1, 4, none⟩) (by show g2 ≠ g2 + 1; omega) (.slice (some ⟨W2.heap.size, 0, none⟩) 1 1)).below hal
  have hy3 : Box _ (g2 + 1) 57 #[.int .i64 k, .int .i64 a, .int .i64 b, .string nm, .slice (some ⟨W2.heap.size, 0, none⟩) 1 1] := (HY2.out.set_ 4 (.slice (some ⟨W2.heap.size, 0, none⟩) 1 1)).below hal
  have HW3 := Lib.hid ((grown_setnew' HW2.out (g2 + 1) 4 (.slice (some ⟨W2.heap.size, 0, none⟩) 1 1) (by omega)).trans (grown_bel hal))
  have HS3 : Hid ((iv = true ∧ ∃ l2, r = .yes (shp (.node k a b nm (some ⟨W2.heap.size, 0, none⟩) 1 [.node k2 a2 b2 nm2 A2 c2 ks2])) l2 ∧ FeAt ((W2.setCell ⟨g2 + 1, 4, none⟩ (.slice (some ⟨W2.heap.size, 0, none⟩) 1 1)).alloc (Obj.cells #[.int .i64 k2, .int .i64 a2, .int .i64 b2, .string nm2, .slice A2 ks2.length c2] 57)) (fun b => g2 < b) ((W2.setCell ⟨g2 + 1, 4, none⟩ (.slice (some ⟨W2.heap.size, 0, none⟩) 1 1)).alloc (Obj.cells #[.int .i64 k2, .int .i64 a2, .int .i64 b2, .string nm2, .slice A2 ks2.length c2] 57)).heap.size (.node k a b nm (some ⟨W2.heap.size, 0, none⟩) 1 [.node k2 a2 b2 nm2 A2 c2 ks2]) ∧ Fd ((W2.setCell ⟨g2 + 1, 4, none⟩ (.slice (some ⟨W2.heap.size, 0, none⟩) 1 1)).alloc (Obj.cells #[.int .i64 k2, .int .i64 a2, .int .i64 b2, .string nm2, .slice A2 ks2.length c2] 57)) g S l2 op) ∨ (iv = false ∧ ∃ c, r = .no c ∧ c ≠ 0 ∧ Fx ((W2.setCell ⟨g2 + 1, 4, none⟩ (.slice (some ⟨W2.heap.size, 0, none⟩) 1 1)).alloc (Obj.cells #[.int .i64 k2, .int .i64 a2, .int .i64 b2, .string nm2, .slice A2 ks2.length c2] 57)) g S c)) := by
   obtain ⟨i1, i2, i3, i4⟩ := HI.out
   rcases HS2.out with ⟨e1, l2, e2, ha, hf⟩ | ⟨e1, c, e2, hc, hx⟩
   ·refine .inl ⟨e1, l2, by rw [shp_node]; exact e2, ?_, (hf.set_ (g2 + 1) 4 _ (by omega)).next hal⟩
    have h1 := (ha.set_ (g2 + 1) 4 (.slice (some ⟨W2.heap.size, 0, none⟩) 1 1) (by omega)).next hal
    have h2 := FeAt.one (k := k) (a := a) (b := b) (nm := nm) (c := 1) h1 (by rw [← feC_eq]; exact hbx) (by omega) i1 i2 i3 (by unfold maxLen; omega)
    exact h2.more fun b hb _ => by omega
   ·exact .inr ⟨e1, c, e2, hc, (hx.set_ (g2 + 1) 4 _ (by omega)).next hal⟩
  clear HS2 HX2 HY2 HW2 HZ2 hsz hal hbx HI
  generalize (W2.setCell ⟨g2 + 1, 4, none⟩ (.slice (some ⟨W2.heap.size, 0, none⟩) 1 1)).alloc (Obj.cells #[.int .i64 k2, .int .i64 a2, .int .i64 b2, .string nm2, .slice A2 ks2.length c2] 57) = W3 at *
  generalize W2.heap.size = gk at *
  obtain ⟨y0, y1, y2, y3, y4⟩ := fecells hy3
  obtain ⟨r0, r1, r2', r3, r4⟩ := fecells hx3
  have rf : ∀ i, W3.frozen? ⟨g2, i, none⟩ = false := fun i => hx3.free i
  have rl := hx3.lt
  have yl := hy3.lt
  clear hx3 hy3 hw0
  go_wp2_with fail
  refine bodyPost_ret (v := .tuple #[.agg #[.int .i64 k, .int .i64 a, .int .i64 b, .string nm, .slice (some ⟨gk, 0, none⟩) 1 1], .bool iv]) (by simp [results, Tryz.results67, go_sem, r0, r1, r2', r3, r4]) rfl ?_
  rcases HS3.out with ⟨rfl, l2, e2, ha, hf⟩ | ⟨rfl, c, e2, hc, hx⟩
  ·rw [e2]
   exact fex_yes (ks := [.node k2 a2 b2 nm2 A2 c2 ks2]) HG2.out hgl hf HW3.out rfl ha
  ·rw [e2]
   exact fex_no (ks := [.node k2 a2 b2 nm2 A2 c2 ks2]) hc HG2.out hgl hx HW3.out
 ·obtain ⟨y0, y1, y2, y3, y4⟩ := fecells HY7.out
  obtain ⟨r0, r1, r2, r3, r4⟩ := fecells HX7.out
  have rf : ∀ i, wc.frozen? ⟨g2, i, none⟩ = false := fun i => HX7.out.free i
  have rl := HX7.out.lt
  have yl := HY7.out.lt
  go_wp2_with fail
  refine bodyPost_ret (v := .tuple #[.agg #[.int .i64 k, .int .i64 a, .int .i64 b, .string nm, .slice none 0 0], .bool false]) (by simp [results, Tryz.results67, go_sem, r0, r1, r2, r3, r4]) rfl ?_
  rw [HR1.out]
  exact fex_no (ks := []) HC0.out HG2.out hgl HXx.out HW7.out
end Go.Proofs.YtabidjmmgnkhkaaGreatDoor
