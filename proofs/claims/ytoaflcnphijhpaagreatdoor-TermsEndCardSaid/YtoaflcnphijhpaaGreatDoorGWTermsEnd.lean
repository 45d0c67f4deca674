/- WTermsEnd -/
import Derived.Test.YtoaflcnphijhpaaGreatDoorGTm1
import Derived.Test.YtoaflcnphijhpaaGreatDoorGBack1
import Derived.Test.YtoaflcnphijhpaaGreatDoorGLine1
/- The walk of TermsEnd: it returns true at every input; it writes nothing that was there. -/
namespace Go.Proofs.YtoaflcnphijhpaaGreatDoor.termsEnd
open Go Go.RowKit
attribute [local go_sem] Oper.semAt_some
set_option linter.unusedVariables false

set_option maxRecDepth 100000 in
set_option maxHeartbeats 4000000 in
theorem core (x : Wk) (day0 n0 : Int) (w : World) (hv : Env w) (hx : WkIn w w.heap.size x) :
    Calls Tryz.prog 4 #[wkV x, .int .i64 day0, .int .i64 n0] w fun e w' => e = .returned (.bool true) ∧ Below w.heap.size w w' := by
  have HEnv := Lib.hid (fun W (h : Below w.heap.size w W) => hv.next h)
  have HCut1 := Lib.hid (fun W => cut_any day0 (-1000000) 2000000 W (by omega) (by omega) (by omega) (by omega))
  have HCut2 := Lib.hid (fun W => cut_any n0 0 400 W (by omega) (by omega) (by omega) (by omega))
  have q1 := Int.emod_nonneg day0 (show (2000000 : Int) ≠ 0 by omega)
  have q2 := Int.emod_lt_of_pos day0 (show (0 : Int) < 2000000 by omega)
  have q3 := Int.emod_nonneg n0 (show (400 : Int) ≠ 0 by omega)
  have q4 := Int.emod_lt_of_pos n0 (show (0 : Int) < 400 by omega)
  obtain ⟨day, hday⟩ : ∃ d, d = -1000000 + day0 % 2000000 := ⟨_, rfl⟩
  obtain ⟨n, hn⟩ : ∃ q, q = 0 + n0 % 400 := ⟨_, rfl⟩
  rw [← hday] at HCut1
  rw [← hn] at HCut2
  have hd1 : -1000000 ≤ day ∧ day ≤ 1000000 := by omega
  have hn1 : 0 ≤ n ∧ n ≤ 400 := by omega
  have HTm := Lib.hid (fun W (h : Below w.heap.size w W) => term_any x day n W (hv.next h) (hx.next h h.size) ⟨by omega, by omega⟩ ⟨by omega, by omega⟩)
  have HIs := Lib.hid (fun d W (h : Below w.heap.size w W) => wkis_any x d W (hv.next h) (hx.next h h.size))
  have HCp := Lib.hid (fun (hg : WkGood x.rs x.t) f t (hd1 : DayIn f) (hd2 : DayIn t) h1 h2 W (h : Below w.heap.size w W) => wkcount_pos x f t W (hv.next h) (hx.next h h.size) hg hd1 hd2 h1 h2)
  unfold TermQ at HTm
  unfold WkIsQ at HIs
  obtain ⟨P, hP⟩ : ∃ P : Int → Prop, P = WorkD x.rs x.t := ⟨_, rfl⟩
  obtain ⟨G, hG⟩ : ∃ G : Prop, G = WkGood x.rs x.t := ⟨_, rfl⟩
  have HPd : Hid (∀ d, P d → DayIn d) := fun d h => by rw [hP] at h; exact h.1
  rw [← hP, ← hG] at HTm HIs HCp
  clear q1 q2 q3 q4 hday hn hv hx hP hG
  obtain ⟨rs, Ar, cr, t⟩ := x
  obtain ⟨k, a, b, nm, A, c, ks⟩ := t
  have hfe : wkV ⟨rs, Ar, cr, .node k a b nm A c ks⟩ = .agg #[.slice Ar rs.length cr, .int .i64 k, .int .i64 a, .int .i64 b, .string nm, .slice A ks.length c] := rfl
  rw [hfe] at HTm HIs HCp ⊢
  have HB := Lib.hid (below_alloc1 w (Obj.cells #[.slice Ar rs.length cr, .int .i64 k, .int .i64 a, .int .i64 b, .string nm, .slice A ks.length c] 27))
  have HX := Lib.hid (Box.new w 27 #[.slice Ar rs.length cr, .int .i64 k, .int .i64 a, .int .i64 b, .string nm, .slice A ks.length c])
  clear hfe
  go_enter Tryz.func4, Tryz.ntmps4
  go_upto_region 1 with fail
  generalize w.alloc (Obj.cells #[.slice Ar rs.length cr, .int .i64 k, .int .i64 a, .int .i64 b, .string nm, .slice A ks.length c] 27) = W1 at *
  generalize w.heap.size = g0 at HX ⊢
  go_upto_region 2 with fail
  have hRR := (Box.new W1 3 #[.int .i64 5, .int .i64 6]).alloc (Obj.cells #[.slice (some ⟨W1.heap.size, 0, none⟩) 2 2, .int .i64 0, .int .i64 0, .int .i64 0, .string ⟨#[]⟩, .slice none 0 0] 27)
  have hXX := Box.new (W1.alloc (Obj.cells #[.int .i64 5, .int .i64 6] 3)) 27 #[.slice (some ⟨W1.heap.size, 0, none⟩) 2 2, .int .i64 0, .int .i64 0, .int .i64 0, .string ⟨#[]⟩, .slice none 0 0]
  rw [World.size_alloc] at hXX
  have HB2 := Lib.hid (below_then HB.out (below_alloc2 W1 (Obj.cells #[.int .i64 5, .int .i64 6] 3) (Obj.cells #[.slice (some ⟨W1.heap.size, 0, none⟩) 2 2, .int .i64 0, .int .i64 0, .int .i64 0, .string ⟨#[]⟩, .slice none 0 0] 27)))
  have HX2 := Lib.hid ((HX.out.alloc (Obj.cells #[.int .i64 5, .int .i64 6] 3)).alloc (Obj.cells #[.slice (some ⟨W1.heap.size, 0, none⟩) 2 2, .int .i64 0, .int .i64 0, .int .i64 0, .string ⟨#[]⟩, .slice none 0 0] 27))
  clear HB HX
  generalize (W1.alloc (Obj.cells #[.int .i64 5, .int .i64 6] 3)).alloc (Obj.cells #[.slice (some ⟨W1.heap.size, 0, none⟩) 2 2, .int .i64 0, .int .i64 0, .int .i64 0, .string ⟨#[]⟩, .slice none 0 0] 27) = W2 at *
  generalize W1.heap.size = gr at *
  have HF5 := Lib.hid (term_any ⟨[5, 6], some ⟨gr, 0, none⟩, 2, fe0⟩ 1 5 W2 (HEnv.out W2 HB2.out) (five_in hRR) ⟨by omega, by omega⟩ ⟨by omega, by omega⟩)
  obtain ⟨y0, y1, y2, y3, y4, y5⟩ := wkcells hXX
  go_wp2_with fail
  refine HF5.out.mono ?_
  rintro e w3 ⟨d5, E5, rfl, hb3, hy, hno⟩
  have HB3 := Lib.hid (below_then HB2.out hb3)
  have HX3 := Lib.hid (HX2.out.below hb3)
  have hE5 : E5 = 0 := by
    by_cases h : E5 = 0
    · exact h
    · have h1 : cntW (WorkD [5, 6] fe0) 6 2001 < 1 := hno h five_good ⟨by omega, by omega⟩
      have := fwd_some five_term
      omega
  have hd5 : d5 = 8 := (show FwdP (WorkD [5, 6] fe0) 6 2001 1 d5 from (hy hE5).2.2).unique five_term
  subst hE5
  subst hd5
  clear hy hno hb3 HF5 y0 y1 y2 y3 y4 y5 HB2 HX2 hRR hXX
  obtain ⟨x0, x1, x2, x3, x4, x5⟩ := wkcells HX3.out
  have ew1 : IntKind.i64.wrap (day + n) = day + n := intFits _ (by omega) (by omega)
  go_wp2_with (go_at_call 14; first | (refine (HCut1.out _).mono ?_; rintro e w' ⟨rfl, rfl⟩; clear HCut1) | (refine (HCut2.out _).mono ?_; rintro e w' ⟨rfl, rfl⟩; clear HCut2))
  refine (HTm.out w3 HB3.out).mono ?_
  rintro e w4 ⟨en, E, rfl, hb4, hy, _⟩
  have HB4 := Lib.hid (below_then HB3.out hb4)
  have HX4 := Lib.hid (HX3.out.below hb4)
  have HY := Lib.hid hy
  clear hb4 HB3 HX3 HTm x0 x1 x2 x3 x4 x5 hy
  by_cases hE0 : E = 0
  case neg =>
    have t1 : (E != 0) = true := by rw [bne_iff_ne]; exact hE0
    clear hE0
    go_wp2_with fail
    go_ret
    exact ⟨rfl, HB4.out⟩
  obtain ⟨hgd, hdf, hf⟩ := HY.out hE0
  subst hE0
  obtain ⟨i, hi, hen, hpe, hcn⟩ := fwd_first hf
  have HGd := Lib.hid hgd
  have HDf := Lib.hid hdf
  have HDe := Lib.hid (HPd.out en hpe)
  have HPe := Lib.hid hpe
  have HC1 := Lib.hid (HCp.out hgd (day + n) en hdf (HPd.out en hpe) (by omega) (by omega))
  have hN : (en - (day + n)).toNat = i := by omega
  rw [hN, hcn] at HC1
  have HIs4 := Lib.hid (HIs.out en w4 HB4.out)
  have t5 : decide (day + n ≤ en) = true := decide_eq_true (by omega)
  clear HY hgd hdf hf hi hen hpe hcn HIs HCp hN
  obtain ⟨x0, x1, x2, x3, x4, x5⟩ := wkcells HX4.out
  go_wp2_with fail
  refine HIs4.out.mono ?_
  rintro e w5 ⟨is, E, rfl, hE, his, hb5⟩
  have HB5 := Lib.hid (below_then HB4.out hb5)
  have HX5 := Lib.hid (HX4.out.below hb5)
  have hE0 : E = 0 := hE.2 ⟨HGd.out, HDe.out⟩
  have hi1 : is = true := (his hE0).2 HPe.out
  subst hE0
  subst hi1
  clear hb5 HB4 HX4 HIs4 hE his x0 x1 x2 x3 x4 x5
  obtain ⟨x0, x1, x2, x3, x4, x5⟩ := wkcells HX5.out
  go_wp2_with fail
  refine (HC1.out w5 HB5.out).mono ?_
  rintro e w6 ⟨rfl, hb6⟩
  have HB6 := Lib.hid (below_then HB5.out hb6)
  clear hb6 HB5 HX5 HC1 x0 x1 x2 x3 x4 x5
  go_wp2_with fail
  go_ret
  exact ⟨rfl, HB6.out⟩

set_option maxRecDepth 100000 in
theorem walk {H : Type} {enc : TypeId × Value → H} {base : Nat} {W : World} (v0 : Value) (d0 : DataW H) (p0 : List MemPlace) (hv0 : Value.okWide Tryz.prog W .any base 27 v0) (h0 : DataW.Trod enc Tryz.prog W 0 (fun _ => true) true 27 v0 d0 p0)
    (a1 : Int) (w1 : (Lit.int .i64 a1).wf = true) (a2 : Int) (w2 : (Lit.int .i64 a2).wf = true)
    (hL : laidMet Tryz.prog Rows.termsEndRow.laid W) (hsh : W.ShapedOpen Tryz.prog) :
    Calls Tryz.prog 4 #[v0, .int .i64 a1, .int .i64 a2] W fun e w' => e = .returned (.bool true) ∧ Below W.heap.size W w' := by
  obtain ⟨x, rfl, hx⟩ := wk_open hv0 h0
  exact core x a1 a2 W ⟨sgs_of hL.tail.tail.tail.tail.tail.tail.tail, lvs_of hL.tail.tail.tail.tail.tail.tail, Shp.of hsh⟩ hx
end Go.Proofs.YtoaflcnphijhpaaGreatDoor.termsEnd
