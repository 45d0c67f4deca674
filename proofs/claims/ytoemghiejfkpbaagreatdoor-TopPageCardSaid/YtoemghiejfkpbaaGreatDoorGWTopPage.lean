/- WTopPage -/
import Derived.Test.YtoemghiejfkpbaaGreatDoorGTp1
import Derived.Test.YtoemghiejfkpbaaGreatDoorGTopCut
import Derived.Test.YtoemghiejfkpbaaGreatDoorGPk1
import Derived.Test.YtoemghiejfkpbaaGreatDoorGPlainDate
/- The walk of TopPage: it returns true at every input; it writes nothing that was there. -/
namespace Go.Proofs.YtoemghiejfkpbaaGreatDoor.topPage
open Go Go.Shelf Go.RowKit Go.Lib
set_option linter.unusedVariables false
abbrev patB : ByteArray := ⟨#[123, 100, 125, 46, 32, 123, 110, 97, 109, 101, 125, 32, 123, 121, 125]⟩
theorem pat_text : str (patE (pR 1) (pT 1)) = patB := by decide +kernel
theorem jan_text : str (dtT (partE (pR 1) (pT 1)) (cr1.t.mo.getD 0 mth0).nm 0 1 0 0 ((-1 - 1) % 7)) = ⟨#[49, 46, 32, 106, 97, 110, 32, 49]⟩ := by decide +kernel
theorem jan_all : ∀ p ∈ partE (pR 1) (pT 1), partO (cr1.t.mo.getD 0 mth0).nm 0 1 0 0 ((-1 - 1) % 7) p ≠ none := by decide +kernel
theorem cr1_in : cr1 ∈ catR := by simp [catR]
def E4 (w : World) : Prop := Env w ∧ Pow w ∧ Zer w ∧ U8 w
theorem E4.next {w w' : World} (h : E4 w) (hb : Below w.heap.size w w') : E4 w' := ⟨h.1.next hb, h.2.1.next hb, h.2.2.1.next hb, h.2.2.2.next hb⟩
theorem jul_any (w : World) (h4 : E4 w) : Calls Tryz.prog 4 #[.string patB, .string ⟨#[106, 117, 108, 105, 97, 110]⟩, .int .i64 0, .string ⟨#[49, 46, 32, 106, 97, 110, 32, 49]⟩] w fun e w' => e = .returned (.tuple #[.int .i64 (-1), .int .i64 0]) ∧ Below w.heap.size w w' := by
 have h := PReadW_any (pR 1) (pT 1) (p_ok 1 (by omega)).ok (p_ok 1 (by omega)).l20 (p_ok 1 (by omega)).ascii cr1 cr1_in 0 (by omega) (-1) (by omega) (by omega) 1 0 0 (by omega) (by omega) (fun c hof ok => by
   have h0 := IsOn.first ok (mlen_pos cr1_in hof 1)
   rw [hof.ep] at h0
   exact h0) jan_all w h4.1 h4.2.1 h4.2.2.1 h4.2.2.2
 rw [pat_text, jan_text, show str cr1.nm = ⟨#[106, 117, 108, 105, 97, 110]⟩ from by decide +kernel] at h
 exact h
def TpGood (NK : ByteArray) (sc : Nat) (p : TpE) : Prop := p.x.ok ∧ ∀ W, E4 W → Calls Tryz.prog 4 #[.string patB, .string NK, .int .i64 (sc : Int), .string (str p.x.s)] W fun e w' => e = .returned (.tuple #[.int .i64 p.day, .int .i64 0]) ∧ Below W.heap.size W w'
def WrGood (r : CatRow) (sc : Nat) (dd : Int) (w : World) (e : Ending) (w' : World) : Prop := Below w.heap.size w w' ∧ ((∃ s : List UInt8, e = .returned (.tuple #[.string (str s), .int .i64 0]) ∧ (TxOk (str s) ∧ rcT s ≤ 50) ∧ ∀ W, E4 W → Calls Tryz.prog 4 #[.string patB, .string (str r.nm), .int .i64 (sc : Int), .string (str s)] W fun e w' => e = .returned (.tuple #[.int .i64 dd, .int .i64 0]) ∧ Below W.heap.size W w') ∨ ∃ E : Int, E ≠ 0 ∧ e = .returned (.tuple #[.string ⟨#[]⟩, .int .i64 E]))
theorem write_good (r : CatRow) (hr : r ∈ catR) (sc : Nat) (hsc : sc < 13) (dd : Int) (h1 : -4000000 ≤ dd) (h2 : dd ≤ 4000000) (w : World) (h4 : E4 w) : Calls Tryz.prog 7 #[.string patB, .string (str r.nm), .int .i64 (sc : Int), .int .i64 dd] w (WrGood r sc dd w) := by
 have h := PWriteW_any (pR 1) (pT 1) (p_ok 1 (by omega)).ok r hr sc hsc dd h1 h2 w h4.1 h4.2.1 h4.2.2.1 h4.2.2.2
 rw [pat_text] at h
 refine h.mono ?_
 rintro e w' ⟨c, hof, ok, hb, hA⟩
 refine ⟨hb, ?_⟩
 rcases hA with ⟨y, m, d, hy1, hy2, hon, ⟨hall, rfl⟩ | ⟨_, E, hE, rfl⟩⟩ | ⟨_, rfl⟩
 ·have hon2 : ∀ c', CalOf r c' → CalOk c' → IsOn c' y m d dd := fun c' hof' _ => (hof'.on hof _ _ _ _).2 hon
  have e : c.mo = r.t.mo := hof.mo
  have hm1 : m < r.t.mo.length := by rw [← e]; exact hon.m1
  rw [e] at hall ⊢
  have hd0 := hon.d0
  have hd1 := hon.d1
  have hml := (Cal.mlen_in ok y m hon.m1).2
  have hmi := mon_ink r hr m hm1
  have ht := tp_text hsc (m := m) (wk := (dd - 1) % 7) (show ∀ p ∈ tpP, partO (r.t.mo.getD m mth0).nm sc y m d ((dd - 1) % 7) p ≠ none from hall) ⟨by omega, by omega⟩ ⟨by omega, by omega⟩ hmi.1 hmi.2
  refine .inl ⟨dtT tpP (r.t.mo.getD m mth0).nm sc y m d ((dd - 1) % 7), rfl, ht, fun W hW => ?_⟩
  have hR := PReadW_any (pR 1) (pT 1) (p_ok 1 (by omega)).ok (p_ok 1 (by omega)).l20 (p_ok 1 (by omega)).ascii r hr sc hsc dd h1 h2 y m d hy1 hy2 hon2 hall W hW.1 hW.2.1 hW.2.2.1 hW.2.2.2
  rw [pat_text] at hR
  exact hR
 ·exact .inr ⟨E, hE, rfl⟩
 ·exact .inr ⟨3, by decide, rfl⟩
theorem infoRow : (Tryz.prog.info? 27).map (fun i => (i.zero, i.size, i.bytes)) = some (some (.slice none 0 0), 1, 24) := by kernel_rfl
theorem infoInt : (Tryz.prog.info? 3).map (fun i => (i.zero, i.size, i.bytes)) = some (some (.int .i64 0), 1, 8) := by kernel_rfl
theorem oneI (x : Int) : ∀ u ∈ [Value.int .i64 x], u.oneCell' = true := fun u hu => by simp at hu; subst hu; rfl
abbrev hdrC (NK : ByteArray) : Array Value := #[.string ⟨#[110]⟩, .string NK, .string ⟨#[119]⟩]
set_option maxHeartbeats 8000000 in
set_option maxRecDepth 100000 in
theorem core (k script day width height : Int) (w : World) (hk1 : -9223372036854775808 ≤ k) (hk2 : k ≤ 9223372036854775807) (h4 : E4 w) :
  Calls Tryz.prog 3 #[.int .i64 k, .int .i64 script, .int .i64 day, .int .i64 width, .int .i64 height] w fun e w' => e = .returned (.bool true) ∧ Below w.heap.size w w' := by
 obtain ⟨i0, hi0, hz0, hz1, hz2⟩ := info_parts infoRow
 obtain ⟨i1, hi1, hz3, hz4, hz5⟩ := info_parts infoInt
 have HN := Lib.hid (fun W (h : E4 W) => aname_any k W hk1 hk2 h.1.h)
 have HJ := Lib.hid (jul_any w h4)
 have HV := Lib.hid (fun W (hb : Below w.heap.size w W) => h4.next hb)
 have C1 := Lib.hid (fun W => acut_any script 0 13 W (by omega) (by omega) (by omega) (by omega))
 have C2 := Lib.hid (fun W => acut_any day 1 700000 W (by omega) (by omega) (by omega) (by omega))
 have C3 := Lib.hid (fun W => acut_any width 60 141 W (by omega) (by omega) (by omega) (by omega))
 have C4 := Lib.hid (fun W => acut_any height 4 60 W (by omega) (by omega) (by omega) (by omega))
 obtain ⟨sc, hsc, hsc13⟩ : ∃ sc : Nat, 0 + script % 13 = (sc : Int) ∧ sc < 13 := ⟨(script % 13).toNat, by omega, by omega⟩
 obtain ⟨d0, hd0, hd1, hd2⟩ : ∃ d0 : Int, 1 + day % 700000 = d0 ∧ 1 ≤ d0 ∧ d0 ≤ 700000 := ⟨_, rfl, by omega, by omega⟩
 obtain ⟨wd, hwd, hw60, hw200⟩ : ∃ wd : Nat, 60 + width % 141 = (wd : Int) ∧ 60 ≤ wd ∧ wd ≤ 200 := ⟨(60 + width % 141).toNat, by omega, by omega, by omega⟩
 obtain ⟨ht, hht, hh4, hh100⟩ : ∃ ht : Nat, 4 + height % 60 = (ht : Int) ∧ 4 ≤ ht ∧ ht ≤ 100 := ⟨(4 + height % 60).toNat, by omega, by omega, by omega⟩
 rw [hsc] at C1
 rw [hd0] at C2
 rw [hwd] at C3
 rw [hht] at C4
 have HW := Lib.hid (fun dd h1 h2 W (h : E4 W) => write_good (rowK k) (rowK_in k) sc hsc13 dd h1 h2 W h)
 have HRk := Lib.hid (rowK_in k)
 clear hsc hd0 hwd hht hk1 hk2 h4
 generalize rowK k = r at *
 have hnk := (cat_ink r HRk.out).2.1
 obtain ⟨NK, hNK⟩ : ∃ NK, NK = str r.nm := ⟨_, rfl⟩
 have hks : NK.size ≤ 20 := by rw [hNK, str_size]; exact hnk
 rw [← hNK] at HN HW
 have HNK := Lib.hid hNK
 unfold WrGood at HW
 rw [← hNK] at HW
 clear hNK hnk
 go_enter Tryz.func3, Tryz.ntmps3
 go_wp2_with fail
 refine HJ.out.mono ?_
 rintro e w1 ⟨rfl, hb1⟩
 have HB1 := Lib.hid hb1
 clear hb1 HJ
 go_upto_region 5 with (go_at_call 5; first | (refine (C1.out _).mono ?_; rintro e w' ⟨rfl, rfl⟩; clear C1) | (refine (C2.out _).mono ?_; rintro e w' ⟨rfl, rfl⟩; clear C2) | (refine (C3.out _).mono ?_; rintro e w' ⟨rfl, rfl⟩; clear C3) | (refine (C4.out _).mono ?_; rintro e w' ⟨rfl, rfl⟩; clear C4))
 go_upto_region 6 with (go_at_call 6; refine (HN.out _ (HV.out _ HB1.out)).mono ?_; rintro e w2 ⟨rfl, hb2⟩)
 obtain ⟨gh, hgh⟩ : ∃ gh, gh = w2.heap.size := ⟨_, rfl⟩
 have hb3 := below_alloc2 w2 (Obj.cells (hdrC NK) 9) (Obj.cells #[.slice (some ⟨gh, 0, none⟩) 3 3, .slice none 0 0] 30)
 have y1 := (Box.new w2 9 (hdrC NK)).alloc (Obj.cells #[.slice (some ⟨gh, 0, none⟩) 3 3, .slice none 0 0] 30)
 have y2 := Box.new (w2.alloc (Obj.cells (hdrC NK) 9)) 30 #[.slice (some ⟨gh, 0, none⟩) 3 3, .slice none 0 0]
 have ysz : ((w2.alloc (Obj.cells (hdrC NK) 9)).alloc (Obj.cells #[.slice (some ⟨gh, 0, none⟩) 3 3, .slice none 0 0] 30)).heap.size = gh + 2 := by rw [World.size_alloc, World.size_alloc, hgh]
 rw [World.size_alloc] at y2
 have HB3 := Lib.hid (below_then HB1.out (below_then hb2 hb3))
 have hwg : w.heap.size ≤ gh := by rw [hgh]; exact (below_then HB1.out hb2).size
 rw [← hgh] at y1 y2 ⊢
 generalize (w2.alloc (Obj.cells (hdrC NK) 9)).alloc (Obj.cells #[.slice (some ⟨gh, 0, none⟩) 3 3, .slice none 0 0] 30) = W3 at *
 have HS3 : Hid (TpSt w W3 (gh + 1) gh (gh + 2) (hdrC NK) (.slice none 0 0) (.slice none 0 0) [] []) := ⟨y2, y1, World.ownsRow_nil _ _ _ _, World.ownsRow_nil _ _ _ _, fun p hp => (by cases hp), ⟨by omega, by omega, by omega⟩, HB3.out, by omega⟩
 clear hb2 hb3 y1 y2 ysz hgh HB1 HB3 hwg
 go_upto_region 8 with fail
 go_loopw [14, 15, 16, 17, 18, 19, 49] (fun vD _ _ _ _ _ i wr => ∃ (q : Nat) (es : List TpE) (vR : Value), i = .int .i64 (q : Int) ∧ q ≤ 7 ∧ es.length ≤ q ∧ Hid (TpSt w wr (gh + 1) gh (gh + 2) (hdrC NK) vR vD es (es.map TpE.day)) ∧ Hid (∀ p ∈ es, TpGood NK sc p)) (fun _ _ _ _ _ _ i _ => 7 - (intOf i).toNat)
 case atStart => exact ⟨0, [], _, rfl, by omega, Nat.le_refl _, HS3, fun p hp => by cases hp⟩
 case round =>
  clear HS3
  obtain ⟨q, es, vR, rfl, hq, hes, hst, hgd⟩ := hrel
  have HSt := Lib.hid hst.out
  have HGd := Lib.hid hgd.out
  clear hst hgd
  by_cases hlt : q < 7
  ·have t1 : decide ((q : Int) < 7) = true := decide_eq_true (by omega)
   have bq : (0 : Int) ≤ (q : Int) ∧ (q : Int) < 7 := by omega
   obtain ⟨dd, hdd⟩ : ∃ dd, dd = d0 + (q : Int) := ⟨_, rfl⟩
   have HDD := Lib.hid hdd
   have hdb : 1 ≤ dd ∧ dd ≤ 800000 := by omega
   have HWq := Lib.hid (fun W (h : E4 W) => HW.out dd (by omega) (by omega) W h)
   have HWd := Lib.hid (fun W => Weekday_yes dd W (by omega) (by omega))
   have hew : IntKind.i64.wrap (d0 + (q : Int)) = dd := by rw [hdd]; exact intFits _ (by omega) (by omega)
   clear hdd
   have hk0 := Int.emod_nonneg (dd - 1) (show (7 : Int) ≠ 0 by omega)
   have hk7 := Int.emod_lt_of_pos (dd - 1) (show (0 : Int) < 7 by omega)
   obtain ⟨wk, hwk, hwk7⟩ : ∃ wk : Nat, (dd - 1) % 7 = (wk : Int) ∧ wk < 7 := ⟨((dd - 1) % 7).toNat, by omega, by omega⟩
   rw [hwk] at HWd
   clear hk0 hk7 hwk
   go_upto_region 11 with (first
    | (go_at_call 6; refine (HN.out _ (HV.out _ HSt.out.be)).mono ?_; rintro e w4 ⟨rfl, hb4⟩; have HSt4 := Lib.hid (HSt.out.next hb4); clear hb4)
    | (go_at_call 7; refine (HWq.out _ (HV.out _ HSt4.out.be)).mono ?_; rintro e w5 ⟨hb5, ⟨s, rfl, htx, hrd⟩ | ⟨E, hE, rfl⟩⟩))
   rotate_left
   ·have t2 : (E != 0) = true := by rw [bne_iff_ne]; exact hE
    have HSt5 := Lib.hid (HSt4.out.next hb5)
    clear hE hb5 HSt HSt4
    go_wp2_with fail
    go_roundw
    case rel => exact ⟨q + 1, es, vR, by go_num, by omega, by omega, HSt5, HGd⟩
    case measure => simp [intOf]; omega
   have HSt5 := Lib.hid (HSt4.out.next hb5)
   have HTx := Lib.hid htx
   have HRd := Lib.hid hrd
   clear htx hrd hb5 HSt HSt4 HWq
   go_upto_region 13 with (go_at_call 8; refine (HWd.out _).mono ?_; rintro e w6 ⟨rfl, nw, rfl⟩)
   have hst6 := HSt5.out.next (below_drewN w5 nw)
   generalize w5.drewN nw = W6 at *
   have HSt6 := Lib.hid hst6
   have HBx := Lib.hid hst6.bx
   have hown := hst6.o1
   have hsz6 : gh + 2 ≤ W6.heap.size := hst6.sz
   obtain ⟨row, hrow⟩ : ∃ row, row = vR.ownBlock := ⟨_, rfl⟩
   have hbl : ∀ b, row = some b → b < W6.heap.size := fun b hb => (own_lt hown b (by rw [← hrow]; exact hb)).2
   have hlo : ∀ b, row = some b → gh + 2 ≤ b := fun b hb => (own_lt hown b (by rw [← hrow]; exact hb)).1
   have hneT : some (gh + 1) ≠ row := fun e => by have := hlo _ e.symm; omega
   have HNe := Lib.hid hneT
   have HRow := Lib.hid hrow
   have HLo := Lib.hid hlo
   have f1 : ∀ W, W6.grownBy W row → W.cell? ⟨gh + 1, 1, none⟩ = some vR := fun W hW => (HBx.out.grown hW HNe.out).cell 1
   clear HSt5 hst6 hrow hneT hlo
   generalize hS1 : str (itoa (q : Int)) = S1 at *
   generalize hS2 : str (itoa (wk : Int)) = S2 at *
   have HBg : Hid (∀ W, W6.grownBy W row → Below w.heap.size w W) := fun W hW => HSt6.out.be.grown hW HSt6.out.be.size (fun b hb => by have h1 := HLo.out b hb; have h2 := HSt6.out.lt; omega)
   have HI1 : Hid (∀ W, W6.grownBy W row → Calls Tryz.prog 9 #[.int .i64 (q : Int)] W fun e w' => e = .returned (.string S1) ∧ Below W.heap.size W w') := fun W hW => by
    have := itoa_any (q : Int) W (by omega) (by omega) (HV.out _ (HBg.out W hW)).2.1
    rw [hS1] at this
    exact this
   have HI2 : Hid (∀ W, W6.grownBy W row → Calls Tryz.prog 9 #[.int .i64 (wk : Int)] W fun e w' => e = .returned (.string S2) ∧ Below W.heap.size W w') := fun W hW => by
    have := itoa_any (wk : Int) W (by omega) (by omega) (HV.out _ (HBg.out W hW)).2.1
    rw [hS2] at this
    exact this
   have HS12 := Lib.hid (And.intro hS1 hS2)
   clear hS1 hS2
   obtain ⟨n, hn⟩ : ∃ n, n = es.length := ⟨_, rfl⟩
   have HNl := Lib.hid hn
   have hown' : W6.ownsRow (gh + 2) 27 1 vR n (tpR es) := by rw [hn]; exact hown
   have hn7 : n ≤ 7 := by omega
   clear hn hown
   obtain ⟨TS, hTS⟩ : ∃ TS, TS = str s := ⟨_, rfl⟩
   rw [← hTS]
   have HTS := Lib.hid hTS
   clear hTS
   refine flowG_begin_tail 11 9 row (tellOf [(3, det (.string S1)), (6, det (.string S2))]) (by kernel_rfl) (by kernel_rfl) ?_
   simp only [List.take_succ_cons, List.take_zero, List.drop_succ_cons, List.drop_zero]
   repeat (first | (refine flowG_val (v := ?_) (by rfl) (by rfl) (fun w hb => ?_) ?_; rotate_left; (· ((go_simp) <;> ((repeat' apply And.intro) <;> with_reducible rfl))); try simp only [Act.put, List.setIfInBounds_toArray, List.set_cons_zero, List.set_cons_succ, Nat.reduceAdd]) | (refine flowG_skip (by rfl) (by rfl) ?_; try simp only [Act.put, List.setIfInBounds_toArray, List.set_cons_zero, List.set_cons_succ, Nat.reduceAdd]))
   refine flowG_told (f := ?_) (args := ?_) (t := det (.string S1)) [] (by kernel_rfl) (by rfl) (by rfl) ⟨_, rfl⟩ (fun _ _ _ _ _ => trivial) (fun w hb => ?_) (fun w hb hu => ?_) ?_; rotate_left 2; (· ((go_simp) <;> ((repeat' apply And.intro) <;> with_reducible rfl)))
   ·exact (HI1.out w hb).mono fun e w' ⟨he, hb'⟩ => ⟨_, he, rfl, trivial, hb'⟩
   rintro v rfl
   try simp only [Act.put, List.setIfInBounds_toArray, List.set_cons_zero, List.set_cons_succ, Nat.reduceAdd]
   repeat (first | (refine flowG_val (v := ?_) (by rfl) (by rfl) (fun w hb => ?_) ?_; rotate_left; (· ((go_simp) <;> ((repeat' apply And.intro) <;> with_reducible rfl))); try simp only [Act.put, List.setIfInBounds_toArray, List.set_cons_zero, List.set_cons_succ, Nat.reduceAdd]) | (refine flowG_skip (by rfl) (by rfl) ?_; try simp only [Act.put, List.setIfInBounds_toArray, List.set_cons_zero, List.set_cons_succ, Nat.reduceAdd]))
   refine flowG_told (f := ?_) (args := ?_) (t := det (.string S2)) [] (by kernel_rfl) (by rfl) (by rfl) ⟨_, rfl⟩ (fun _ _ _ _ _ => trivial) (fun w hb => ?_) (fun w hb hu => ?_) ?_; rotate_left 2; (· ((go_simp) <;> ((repeat' apply And.intro) <;> with_reducible rfl)))
   ·exact (HI2.out w hb).mono fun e w' ⟨he, hb'⟩ => ⟨_, he, rfl, trivial, hb'⟩
   rintro v rfl
   try simp only [Act.put, List.setIfInBounds_toArray, List.set_cons_zero, List.set_cons_succ, Nat.reduceAdd]
   refine flowG_lits (n := ?_) (c := ?_) (t := ?_) (cs := ?_) hbl (by rfl) (by rfl) (fun w hb => ?_) (fun g3 hg3 => ?_); rotate_left 4; (· ((go_simp) <;> ((repeat' apply And.intro) <;> with_reducible rfl))); try simp only [Act.put, List.setIfInBounds_toArray, List.set_cons_zero, List.set_cons_succ, Nat.reduceAdd]
   refine flowG_lits (n := ?_) (c := ?_) (t := ?_) (cs := ?_) hbl (by rfl) (by rfl) (fun w hb => ?_) (fun g4 hg4 => ?_); rotate_left 4; (· ((go_simp) <;> ((repeat' apply And.intro) <;> with_reducible rfl))); try simp only [Act.put, List.setIfInBounds_toArray, List.set_cons_zero, List.set_cons_succ, Nat.reduceAdd]
   refine flowG_app [8] (by kernel_rfl) rfl (by rfl) (by rfl) (.tmp 72) (.tmp 79) 28 rfl (gh + 2) 27 i0 (.slice none 0 0) 1 24 Tryz.underlying28 hi0 hz0 hz1 hz2 rfl (by decide) vR n (tpR es) rfl HRow.out hown' hsz6 ⟨g4, 0, none⟩ 1 1 [.slice (some ⟨g3, 0, none⟩) 3 3] rfl rfl (fun w hb hu => World.news_of_block (cs := #[.slice (some ⟨g3, 0, none⟩) 3 3]) (t := 27) (fr := (0, 0)) (usef_head hu)) (by simp [Value.oneCell']) (by simp only [maxLen]; omega) (by omega) fun A8 c8 => ?_
   try simp only [Act.put, List.setIfInBounds_toArray, List.set_cons_zero, List.set_cons_succ, Nat.reduceAdd]
   repeat (first | (refine flowG_val (v := ?_) (by rfl) (by rfl) (fun w hb => ?_) ?_; rotate_left; (· ((go_simp) <;> ((repeat' apply And.intro) <;> with_reducible rfl))); try simp only [Act.put, List.setIfInBounds_toArray, List.set_cons_zero, List.set_cons_succ, Nat.reduceAdd]) | (refine flowG_skip (by rfl) (by rfl) ?_; try simp only [Act.put, List.setIfInBounds_toArray, List.set_cons_zero, List.set_cons_succ, Nat.reduceAdd]))
   refine flowG_nil fun w7 hgrow hf => ?_
   have hown7 : w7.ownsRow (gh + 2) 27 1 (.slice A8 (n + 1) c8) (n + 1) (tpR es ++ [.slice (some ⟨g3, 0, none⟩) 3 3]) := hf.1
   have hb3 : Box w7 g3 9 #[.string S1, .string TS, .string S2] := hf.2.2.1
   obtain ⟨p, hp⟩ : ∃ p : TpE, p = ⟨g3, ⟨q, s, wk⟩, dd⟩ := ⟨_, rfl⟩
   have hpb : p.b = g3 := by rw [hp]
   have hpc : p.c = #[.string S1, .string TS, .string S2] := by rw [hp, ← HS12.out.1, ← HS12.out.2, HTS.out]; rfl
   have hpd : p.day = dd := by rw [hp]
   have HGp : Hid (TpGood NK sc p) := by
    rw [hp]
    refine ⟨⟨by show q < 10; omega, by show wk < 10; omega, ?_, HTx.out.2⟩, HRd.out⟩
    exact HTx.out.1
   have hx7 := HBx.out.grown hgrow HNe.out
   have hf7 : w7.frozen? ⟨gh + 1, 1, none⟩ = false := hx7.free 1
   have hc7 : w7.cell? ⟨gh + 1, 1, none⟩ = some vR := hx7.cell 1
   have hg7 : gh + 1 < w7.heap.size := hx7.lt
   have HS8 := Lib.hid (HSt6.out.row p (.slice A8 (n + 1) c8) (by rw [← HRow.out]; exact hgrow) (by rw [← HNl.out, hpb]; exact hown7) (by rw [hpb, hpc]; exact hb3))
   have HPd := Lib.hid hpd
   clear hown7 hb3 hp hpb hpc hpd hx7 hgrow hf hown' hbl f1 HBx HI1 HI2 HS12 HBg HSt6
   refine wpList_step fun K hK => ?_
   rw [if_pos (by rfl)]
   go_simp
   refine hK _ _ (wpList_nil ?_)
   clear hK K hf7 hc7 hg7
   generalize w7.setCell ⟨gh + 1, 1, none⟩ (.slice A8 (n + 1) c8) = w8 at *
   have ho2 := HS8.out.o2
   have hsz8 := HS8.out.sz
   obtain ⟨m, hm⟩ : ∃ m, m = (es.map TpE.day).length := ⟨_, rfl⟩
   rw [← hm] at ho2
   have hm7 : m ≤ 7 := by rw [hm, List.length_map]; omega
   have HM := Lib.hid hm
   have HO2 := Lib.hid ho2
   clear ho2 hm
   go_wp2_with (at_builtin; refine wpList_append_own _ rfl (.tmp 82) (.tmp 86) 31 rfl (gh + 2) 3 i1 (.int .i64 0) 1 8 Tryz.underlying31 hi1 hz3 hz4 hz5 rfl (by decide) u14 m _ rfl (HO2.out.alloc _) ⟨w8.heap.size, 0, none⟩ 1 1 [.int .i64 dd] rfl rfl (cell_one_new _ _ _) (oneI _) ?c3 ?c4 ?c5 ?_)
   case c3 => simp only [maxLen]; omega
   case c4 => omega
   case c5 => simp only [World.size_alloc]; omega
   intro v' w9 hown9 hgrow9 _
   have HS9 : Hid (TpSt w w9 (gh + 1) gh (gh + 2) (hdrC NK) (.slice A8 (n + 1) c8) v' (es ++ [p]) ((es ++ [p]).map TpE.day)) := by
    unfold Hid
    rw [List.map_append]
    show TpSt _ _ _ _ _ _ _ _ _ (es.map TpE.day ++ [p.day])
    rw [HPd.out]
    exact (HS8.out.next (below_alloc1 w8 (Obj.cells #[.int .i64 dd] 3))).day dd v' hgrow9 (by rw [← HM.out]; exact hown9)
   have HG9 : Hid (∀ x ∈ es ++ [p], TpGood NK sc x) := fun x hx => by
    rcases List.mem_append.1 hx with hx | hx
    ·exact HGd.out x hx
    ·rw [List.mem_singleton.1 hx]; exact HGp.out
   have hl9 : (es ++ [p]).length ≤ q + 1 := by rw [List.length_append, List.length_singleton]; omega
   clear hown9 hgrow9 HS8 HO2
   go_wp2_with fail
   go_roundw
   case rel => exact ⟨q + 1, es ++ [p], _, by go_num, by omega, hl9, HS9, HG9⟩
   case measure => simp [intOf]; omega
  ·obtain rfl : q = 7 := by omega
   rename World => wl
   obtain ⟨A, c, rfl, hAc⟩ := own_form HSt.out.o1
   obtain ⟨AD, cD, rfl, _⟩ := own_form HSt.out.o2
   have hNl : (es.map TpE.day).length = es.length := List.length_map ..
   rw [hNl]
   have HRowD : Hid (Row wl wl.heap.size AD (ints (es.map TpE.day))) := by
    have := HSt.out.o2
    rw [hNl] at this
    exact Row.of_own this
   obtain ⟨t, htt⟩ : ∃ t, t = tpT gh NK A c es := ⟨_, rfl⟩
   have hT : TbIn wl wl.heap.size t := by rw [htt]; exact tpT_in HSt.out hAc (by unfold maxLen; omega) (fun p hp => (HGd.out p hp).1)
   have hok : LayOk t wd := tp_lay t r HRk.out (es.map TpE.x) (by rw [htt, ← HNK.out]; rfl) (by rw [htt]; unfold tpT; rw [List.map_map, List.map_map]; rfl) (fun x hx => by
    obtain ⟨p, hp, rfl⟩ := List.mem_map.1 hx
    exact (HGd.out p hp).1) (by rw [List.length_map]; omega) wd hw60
   have hrl : t.rs.length = es.length := by rw [htt]; unfold tpT; exact List.length_map ..
   have hrx : ∀ j, j < es.length → ∀ p, es[j]? = some p → (t.rs.getD j sr0).l = p.x.l := fun j hj p hp => by
    rw [htt]
    unfold tpT
    rw [List.getD_eq_getElem?_getD, List.getElem?_map, hp]
    rfl
   have HL : Hid (Calls Tryz.prog 10 #[.agg #[.slice (some ⟨gh, 0, none⟩) 3 3, .slice A es.length c], .int .i64 (wd : Int), .int .i64 (ht : Int)] wl (LayQ t wd ht wl)) := by
    have h := play_any t wd ht wl hT (HV.out _ HSt.out.be).2.2.2 (HV.out _ HSt.out.be).2.1 (by omega) (by omega) (by omega) (by omega)
    have e : t.val = .agg #[.slice (some ⟨gh, 0, none⟩) 3 3, .slice A es.length c] := by
     unfold Tb.val Tb.cells
     rw [hrl, htt]
     rfl
    rw [e] at h
    exact h
   have HLk := Lib.hid hok
   have HRl := Lib.hid hrl
   have HRx := Lib.hid hrx
   have HTt := Lib.hid hT
   have x0 : wl.cell? ⟨gh + 1, 0, none⟩ = some (.slice (some ⟨gh, 0, none⟩) 3 3) := HSt.out.bx.cell 0
   have x1 : wl.cell? ⟨gh + 1, 1, none⟩ = some (.slice A es.length c) := HSt.out.bx.cell 1
   have xl := HSt.out.bx.lt
   clear htt hT hok hrl hrx hNl hAc
   unfold LayQ at HL
   go_upto_region 17 with (go_at_call 10; refine HL.out.mono ?_; rintro e w5 ⟨hb5, ⟨hno, E, hE, rfl⟩ | ⟨hok, gs, A5, c5, hgs, rfl, hr5⟩⟩)
   ·exact absurd HLk.out hno
   have HB5 := Lib.hid (below_then HSt.out.be hb5)
   have HV5 := Lib.hid (HV.out _ HB5.out)
   have HD5 := Lib.hid (HRowD.out.next hb5)
   have hfew : (layB t gs (ht - 3)).length < 10000 := by
    rw [layB_len]
    have n1 := hok.n1
    have hl := wsT_len t
    exact pages_few _ wd _ _ _ gs hgs (by omega) (by omega) (by rw [List.length_map]; exact hok.n2)
   have hfound := hok.found hgs (ht - 3) (by omega)
   have hne : 1 ≤ (layB t gs (ht - 3)).length := by
    rw [layB_len]
    refine Classical.byContradiction fun h => ?_
    have h0 : layP t gs (ht - 3) = [] := List.eq_nil_of_length_eq_zero (by omega)
    rw [h0] at hfound
    exact groups_ne _ _ _ hgs (List.map_eq_nil_iff.1 hfound.symm)
   have hglen : (gs.map (grp (wsT t) t.h.tx (t.rs.map SR.tx))).length = gs.length := List.length_map ..
   have hread := pkread_any A5 c5 (layB t gs (ht - 3)) (layP t gs (ht - 3)) wd ht t.rs.length (fun k => (gs.getD k []).map fun i => (wsT t).getD i 0) (fun k => (colsK gs k).map (colT t.h.tx)) (fun k i => (colsK gs k).map (colT (t.rs.getD i sr0).tx)) w5 hr5 hne (layB_len t gs (ht - 3)) (by omega)
    (fun k hk => pgin_of hok (by omega) hh4 hh100 hgs k hk) HV5.out.1.h (by omega) hw200 hh4 hh100 (by rw [hfound]; exact hok.readIn hgs) (by
     rw [hfound, hglen]
     exact layBack_of hok (by omega) hw200 hh4 hh100 hgs HV5.out.2.2.2 HV5.out.2.1)
   rw [hfound, hglen] at hread
   have HRead := Lib.hid hread
   have HSame := Lib.hid (fun t' ho => sameT_of (t' := t') hok hgs ho)
   clear hfound hne hglen hread hr5 hok hgs hb5 x0 x1 xl HL hfew HLk HSt HTt
   generalize layB t gs (ht - 3) = L at *
   go_upto_region 20 with (go_at_call 11; refine HRead.out.mono ?_; rintro e w6 ⟨⟨h', A', c', rs'⟩, rfl, hT6, ho6, hb6⟩; unfold Tb.val Tb.cells; dsimp only)
   have hst := HSame.out ⟨h', A', c', rs'⟩ ho6
   have hlr : rs'.length = es.length := by
    have h : rs'.length = t.rs.length := hst.len
    rw [h, HRl.out]
   have hgx : ∀ j, j < es.length → ∀ p, es[j]? = some p → (rs'.getD j sr0).l = p.x.l := fun j hj p hp => by
    have h : (rs'.getD j sr0).l = (t.rs.getD j sr0).l := hst.get j
    rw [h]
    exact HRx.out j hj p hp
   have hb7 := below_alloc1 w6 (Obj.cells #[.slice h'.A h'.l.length h'.c, .slice A' rs'.length c'] 30)
   have hx7 := Box.new w6 30 #[.slice h'.A h'.l.length h'.c, .slice A' rs'.length c']
   have HT7 := Lib.hid (hT6.next hb7 hb7.size)
   have HB7 := Lib.hid (below_then HB5.out (below_then hb6 hb7))
   have HD7 := Lib.hid (HD5.out.next (below_then hb6 hb7))
   have HGx := Lib.hid hgx
   have HLr := Lib.hid hlr
   generalize w6.alloc (Obj.cells #[.slice h'.A h'.l.length h'.c, .slice A' rs'.length c'] 30) = W7 at *
   generalize w6.heap.size = g7 at *
   have f0 : W7.cell? ⟨g7, 0, none⟩ = some (.slice h'.A h'.l.length h'.c) := hx7.cell 0
   have f1 : W7.cell? ⟨g7, 1, none⟩ = some (.slice A' rs'.length c') := hx7.cell 1
   have fl := hx7.lt
   have hrz : ((rs'.length : Int) != (es.length : Int)) = false := by rw [hlr]; simp
   have hes7 : es.length ≤ 7 := hes
   clear hst hgx hb7 hx7 hT6 ho6 hb6 HRead HSame HB5 HD5 HV5 HRl HRx HRowD hlr
   go_upto_region 23 with fail
   clear f0 f1 fl hrz
   go_loopw [23, 24, 25, 26, 118] (fun _ _ _ _ i wr => ∃ j : Nat, j ≤ es.length ∧ i = .int .i64 (j : Int) ∧ Hid (Below W7.heap.size W7 wr)) (fun _ _ _ _ i _ => es.length - (intOf i).toNat)
   case atStart => exact ⟨0, by omega, rfl, Below.refl _ _⟩
   case round =>
    obtain ⟨j, hj, rfl, hbr⟩ := hrel
    rename World => w8
    have HBr := Lib.hid hbr.out
    have HB8 := Lib.hid (below_then HB7.out hbr.out)
    clear hbr
    by_cases hlj : j < es.length
    ·have t1 : decide ((j : Int) < (rs'.length : Int)) = true := decide_eq_true (by have := HLr.out; omega)
     have bj : (0 : Int) ≤ (j : Int) ∧ (j : Int) < (es.length : Int) := by omega
     have bj2 : (j : Int) < (rs'.length : Int) := by have := HLr.out; omega
     obtain ⟨p, hp⟩ : ∃ p, es[j]? = some p := ⟨_, List.getElem?_eq_getElem hlj⟩
     have hgd := HGd.out p (List.mem_of_getElem? hp)
     have hl := HGx.out j hlj p hp
     obtain ⟨bD, oD, rfl, hbD, hcD⟩ := HD7.out.open_ (ints_ne _ (by rw [List.length_map]; omega))
     have dc := (HBr.out.cell (p := ⟨bD, oD + j, none⟩) hbD).trans (hcD j (.int .i64 p.day) (by unfold ints; rw [List.map_map, List.getElem?_map, hp]; rfl))
     obtain ⟨bb, ob, hA', hbb, hcb⟩ := HT7.out.row.open_ (srV_ne _ (by show 0 < rs'.length; have := HLr.out; omega))
     have hA2 : A' = some ⟨bb, ob, none⟩ := hA'
     subst hA2
     have hjr : j < rs'.length := by have := HLr.out; omega
     have r2 := HT7.out.rs _ (getD_sr (l := rs') hjr)
     obtain ⟨rb, hrb⟩ : ∃ rb, rb = rs'.getD j sr0 := ⟨_, rfl⟩
     rw [← hrb] at hl r2
     have hl3 : rb.l.length = 3 := by rw [hl]; rfl
     have da := (HBr.out.cell (p := ⟨bb, ob + j, none⟩) hbb).trans (hcb j _ (srV_get rs' j hjr))
     rw [← hrb] at da
     obtain ⟨b4, o4, h4, hb4, hc4⟩ := r2.row.open_ (sVs_ne _ (by omega))
     unfold srV at da
     rw [h4, hl3] at da
     have hs1 : (sVs rb.l)[1]? = some (.string (str p.x.s)) := by rw [hl]; rfl
     have eb : ∀ W, Below w8.heap.size w8 W → W.cell? ⟨b4, o4 + 1, none⟩ = some (.string (str p.x.s)) := fun W hW => ((below_then HBr.out hW).cell (p := ⟨b4, o4 + 1, none⟩) hb4).trans (hc4 1 _ hs1)
     have HRd := Lib.hid (fun W (hW : Below w8.heap.size w8 W) => hgd.2 W (HV.out _ (below_then HB8.out hW)))
     have HNm := Lib.hid (fun W (hW : Below w8.heap.size w8 W) => HN.out W (HV.out _ (below_then HB8.out hW)))
     have hdd : (p.day == p.day) = true := by simp
     have dl : bD < w8.heap.size := Nat.lt_of_lt_of_le hbD HBr.out.size
     have dc' : ∀ W, Below w8.heap.size w8 W → W.cell? ⟨bD, oD + j, none⟩ = some (.int .i64 p.day) := fun W hW => (hW.cell (p := ⟨bD, oD + j, none⟩) dl).trans dc
     obtain ⟨dy, hdy⟩ : ∃ dy, dy = p.day := ⟨_, rfl⟩
     rw [← hdy] at HRd dc' hdd
     generalize str p.x.s = TS at *
     generalize rb.c = rbc at *
     clear hgd hl hrb hl3 h4 hc4 hs1 r2 hcb hcD dc hp hdy hA'
     go_upto_region 25 with fail
     refine flow_begin (tellOf [(1, det (.string NK)), (6, det (.tuple #[.int .i64 dy, .int .i64 0]))]) (by kernel_rfl) (by kernel_rfl) ?_
     repeat (first | (refine flow_val (v := ?_) (by rfl) (by rfl) (fun w hb => ?_) ?_; rotate_left; (· ((go_simp) <;> ((repeat' apply And.intro) <;> with_reducible rfl))); try simp only [Act.put, List.setIfInBounds_toArray, List.set_cons_zero, List.set_cons_succ, Nat.reduceAdd]) | (refine flow_skip (by rfl) (by rfl) ?_; try simp only [Act.put, List.setIfInBounds_toArray, List.set_cons_zero, List.set_cons_succ, Nat.reduceAdd]))
     refine flow_call (f := ?_) (args := ?_) [] (by kernel_rfl) (by rfl) (by rfl) (fun w hb => ?_) (fun w hb hu => ?_) ?_; rotate_left 2; (· ((go_simp) <;> ((repeat' apply And.intro) <;> with_reducible rfl)))
     ·exact HNm.out w hb
     try simp only [Act.put, List.setIfInBounds_toArray, List.set_cons_zero, List.set_cons_succ, Nat.reduceAdd]
     repeat (first | (refine flow_val (v := ?_) (by rfl) (by rfl) (fun w hb => ?_) ?_; rotate_left; (· ((go_simp) <;> ((repeat' apply And.intro) <;> with_reducible rfl))); try simp only [Act.put, List.setIfInBounds_toArray, List.set_cons_zero, List.set_cons_succ, Nat.reduceAdd]) | (refine flow_skip (by rfl) (by rfl) ?_; try simp only [Act.put, List.setIfInBounds_toArray, List.set_cons_zero, List.set_cons_succ, Nat.reduceAdd]))
     refine flow_call (f := ?_) (args := ?_) [] (by kernel_rfl) (by rfl) (by rfl) (fun w hb => ?_) (fun w hb hu => ?_) ?_; rotate_left 2; (· ((go_simp) <;> ((repeat' apply And.intro) <;> with_reducible rfl)))
     ·exact HRd.out w hb
     try simp only [Act.put, List.setIfInBounds_toArray, List.set_cons_zero, List.set_cons_succ, Nat.reduceAdd]
     repeat (first | (refine flow_val (v := ?_) (by rfl) (by rfl) (fun w hb => ?_) ?_; rotate_left; (· ((go_simp) <;> ((repeat' apply And.intro) <;> with_reducible rfl))); try simp only [Act.put, List.setIfInBounds_toArray, List.set_cons_zero, List.set_cons_succ, Nat.reduceAdd]) | (refine flow_skip (by rfl) (by rfl) ?_; try simp only [Act.put, List.setIfInBounds_toArray, List.set_cons_zero, List.set_cons_succ, Nat.reduceAdd]))
     refine flow_nil fun w9 hb9 _ => ?_
     have dd9 := dc' w9 hb9
     have HB9 := Lib.hid (below_then HBr.out hb9)
     clear hb9 eb dc' da HRd HNm HB8 HBr
     go_wp2_with fail
     go_roundw
     case rel => exact ⟨j + 1, by omega, by go_num, HB9⟩
     case measure => simp [intOf]; omega
    ·have t1 : decide ((j : Int) < (rs'.length : Int)) = false := decide_eq_false (by have := HLr.out; omega)
     have t1' : decide (j < rs'.length) = false := decide_eq_false (by have := HLr.out; omega)
     go_wp2_with fail
     go_ret
     exact ⟨rfl, HB8.out⟩
theorem walk (a0 : Int) (w0 : (Lit.int .i64 a0).wf = true) (a1 : Int) (w1 : (Lit.int .i64 a1).wf = true) (a2 : Int) (w2 : (Lit.int .i64 a2).wf = true) (a3 : Int) (w3 : (Lit.int .i64 a3).wf = true) (a4 : Int) (w4 : (Lit.int .i64 a4).wf = true) (W : World) (hL : laidMet Tryz.prog Rows.topPageRow.laid W) (hsh : W.ShapedOpen Tryz.prog) :
  Calls Tryz.prog 3 #[.int .i64 a0, .int .i64 a1, .int .i64 a2, .int .i64 a3, .int .i64 a4] W fun e w' => e = .returned (.bool true) ∧ Below W.heap.size W w' := by
 exact core a0 a1 a2 a3 a4 W (bounds_i64 w0).1 (bounds_i64 w0).2 ⟨⟨sgs_of hL.tail.tail.tail.tail.tail.tail.tail.tail, lvs_of hL.tail.tail.tail.tail.tail.tail.tail, Shp.of hsh⟩, pow_of hL.tail.tail, zer_of hL.tail.tail.tail.tail.tail.tail, u8_of hL (by simp [Rows.topPageRow]) (by simp [Rows.topPageRow])⟩
end Go.Proofs.YtoemghiejfkpbaaGreatDoor.topPage
