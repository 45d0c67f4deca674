/- WTermsBack -/
import Derived.Test.YtoaflcnphijhpaaGreatDoorGTm1
import Derived.Test.YtoaflcnphijhpaaGreatDoorGBack1
import Derived.Test.YtoaflcnphijhpaaGreatDoorGLine1
/- The walk of TermsBack: it returns true at every input; it writes nothing that was there. -/
namespace Go.Proofs.YtoaflcnphijhpaaGreatDoor.termsBack
open Go Go.RowKit
attribute [local go_sem] Oper.semAt_some
set_option linter.unusedVariables false

set_option maxRecDepth 100000 in
set_option maxHeartbeats 4000000 in
theorem core (x : Wk) (day0 n0 : Int) (w : World) (hv : Env w) (hx : WkIn w w.heap.size x) :
    Calls Tryz.prog 3 #[wkV x, .int .i64 day0, .int .i64 n0] w fun e w' => e = .returned (.bool true) ∧ Below w.heap.size w w' := by
  have HEnv := Lib.hid (fun W (h : Below w.heap.size w W) => hv.next h)
  have HCut1 := Lib.hid (fun W => cut_any day0 (-1000000) 2000000 W (by omega) (by omega) (by omega) (by omega))
  have HCut2 := Lib.hid (fun W => cut_any n0 1 60 W (by omega) (by omega) (by omega) (by omega))
  have q1 := Int.emod_nonneg day0 (show (2000000 : Int) ≠ 0 by omega)
  have q2 := Int.emod_lt_of_pos day0 (show (0 : Int) < 2000000 by omega)
  have q3 := Int.emod_nonneg n0 (show (60 : Int) ≠ 0 by omega)
  have q4 := Int.emod_lt_of_pos n0 (show (0 : Int) < 60 by omega)
  obtain ⟨day, hday⟩ : ∃ d, d = -1000000 + day0 % 2000000 := ⟨_, rfl⟩
  obtain ⟨n, hn⟩ : ∃ q, q = 1 + n0 % 60 := ⟨_, rfl⟩
  rw [← hday] at HCut1
  rw [← hn] at HCut2
  have hd1 : -1000000 ≤ day ∧ day ≤ 1000000 := by omega
  have hn1 : 1 ≤ n ∧ n ≤ 60 := by omega
  obtain ⟨kk, hkk⟩ : ∃ kk : Nat, (kk : Int) = n := ⟨n.toNat, by omega⟩
  have HKk := Lib.hid hkk
  have HBad := Lib.hid (fun (hg : ¬ WkGood x.rs x.t) d q W (h : Below w.heap.size w W) => wkadd_bad x d q W (hv.next h) (hx.next h h.size) hg)
  have HFwd := Lib.hid (fun (hg : WkGood x.rs x.t) d q f k l (hd : DayIn d) h0 h5 hfk W (h : Below w.heap.size w W) => wkadd_fwd x d q f k l W (hv.next h) (hx.next h h.size) hg hd h0 h5 hfk)
  have HBk := Lib.hid (fun (hg : WkGood x.rs x.t) d q k (hd : DayIn d) h0 h5 hk W (h : Below w.heap.size w W) => wkadd_back x d q k W (hv.next h) (hx.next h h.size) hg hd h0 h5 hk)
  have HCp := Lib.hid (fun (hg : WkGood x.rs x.t) f t (hd1 : DayIn f) (hd2 : DayIn t) h1 h2 W (h : Below w.heap.size w W) => wkcount_pos x f t W (hv.next h) (hx.next h h.size) hg hd1 hd2 h1 h2)
  have HCn := Lib.hid (fun (hg : WkGood x.rs x.t) f t (hd1 : DayIn f) (hd2 : DayIn t) h1 h2 W (h : Below w.heap.size w W) => wkcount_neg x f t W (hv.next h) (hx.next h h.size) hg hd1 hd2 h1 h2)
  obtain ⟨P, hP⟩ : ∃ P : Int → Prop, P = WorkD x.rs x.t := ⟨_, rfl⟩
  obtain ⟨G, hG⟩ : ∃ G : Prop, G = WkGood x.rs x.t := ⟨_, rfl⟩
  have HPd : Hid (∀ d, P d → DayIn d) := fun d h => by rw [hP] at h; exact h.1
  rw [← hP, ← hG] at HFwd HBk HCp HCn
  rw [← hG] at HBad
  unfold AddQ at HFwd
  unfold AddBQ at HBk
  unfold AddNo at HBad
  clear q1 q2 q3 q4 hday hn hv hx hP hG hkk
  obtain ⟨rs, Ar, cr, t⟩ := x
  obtain ⟨k, a, b, nm, A, c, ks⟩ := t
  have hfe : wkV ⟨rs, Ar, cr, .node k a b nm A c ks⟩ = .agg #[.slice Ar rs.length cr, .int .i64 k, .int .i64 a, .int .i64 b, .string nm, .slice A ks.length c] := rfl
  rw [hfe] at HBad HFwd HBk HCp HCn ⊢
  have HB := Lib.hid (below_alloc1 w (Obj.cells #[.slice Ar rs.length cr, .int .i64 k, .int .i64 a, .int .i64 b, .string nm, .slice A ks.length c] 27))
  have HX := Lib.hid (Box.new w 27 #[.slice Ar rs.length cr, .int .i64 k, .int .i64 a, .int .i64 b, .string nm, .slice A ks.length c])
  clear hfe
  go_enter Tryz.func3, Tryz.ntmps3
  go_upto_region 1 with fail
  generalize w.alloc (Obj.cells #[.slice Ar rs.length cr, .int .i64 k, .int .i64 a, .int .i64 b, .string nm, .slice A ks.length c] 27) = W1 at *
  generalize w.heap.size = g0 at HX ⊢
  go_upto_region 2 with fail
  have hRR := (Box.new W1 3 #[.int .i64 5, .int .i64 6]).alloc (Obj.cells #[.slice (some ⟨W1.heap.size, 0, none⟩) 2 2, .int .i64 0, .int .i64 0, .int .i64 0, .string ⟨#[]⟩, .slice none 0 0] 27)
  have hXX := Box.new (W1.alloc (Obj.cells #[.int .i64 5, .int .i64 6] 3)) 27 #[.slice (some ⟨W1.heap.size, 0, none⟩) 2 2, .int .i64 0, .int .i64 0, .int .i64 0, .string ⟨#[]⟩, .slice none 0 0]
  rw [World.size_alloc] at hXX
  have HB2 := Lib.hid (below_then HB.out (below_alloc2 W1 (Obj.cells #[.int .i64 5, .int .i64 6] 3) (Obj.cells #[.slice (some ⟨W1.heap.size, 0, none⟩) 2 2, .int .i64 0, .int .i64 0, .int .i64 0, .string ⟨#[]⟩, .slice none 0 0] 27)))
  have HX2 := Lib.hid ((HX.out.alloc (Obj.cells #[.int .i64 5, .int .i64 6] 3)).alloc (Obj.cells #[.slice (some ⟨W1.heap.size, 0, none⟩) 2 2, .int .i64 0, .int .i64 0, .int .i64 0, .string ⟨#[]⟩, .slice none 0 0] 27))
  clear HB HX
  generalize (W1.alloc (Obj.cells #[.int .i64 5, .int .i64 6] 3)).alloc (Obj.cells #[.slice (some ⟨W1.heap.size, 0, none⟩) 2 2, .int .i64 0, .int .i64 0, .int .i64 0, .string ⟨#[]⟩, .slice none 0 0] 27) = W2 at *
  generalize W1.heap.size = gr at *
  have HF5 := Lib.hid (wkadd_fwd ⟨[5, 6], some ⟨gr, 0, none⟩, 2, fe0⟩ 1 5 2 5 2000 W2 (HEnv.out W2 HB2.out) (five_in hRR) five_good ⟨by omega, by omega⟩ (by omega) (by omega) (.inr ⟨by omega, by omega, by omega, rfl⟩))
  obtain ⟨y0, y1, y2, y3, y4, y5⟩ := wkcells hXX
  go_wp2_with fail
  refine HF5.out.mono ?_
  rintro e w3 ⟨d5, E5, rfl, hb3, hor⟩
  have HB3 := Lib.hid (below_then HB2.out hb3)
  have HX3 := Lib.hid (HX2.out.below hb3)
  obtain ⟨rfl, rfl⟩ : E5 = 0 ∧ d5 = 8 := by
    rcases hor with ⟨h1, h2⟩ | ⟨_, h2⟩
    · exact ⟨h1, h2.unique five_fwd⟩
    · have := fwd_some five_fwd; exact absurd h2 (by omega)
  clear hor hb3 HF5 y0 y1 y2 y3 y4 y5 HB2 HX2 hRR hXX
  obtain ⟨x0, x1, x2, x3, x4, x5⟩ := wkcells HX3.out
  by_cases hgd : G
  case neg =>
    have HBad2 := Lib.hid (HBad.out hgd)
    clear HBad HFwd HBk HCp HCn hgd
    go_wp2_with (go_at_call 14; first | (refine (HCut1.out _).mono ?_; rintro e w' ⟨rfl, rfl⟩; clear HCut1) | (refine (HCut2.out _).mono ?_; rintro e w' ⟨rfl, rfl⟩; clear HCut2))
    refine (HBad2.out _ _ w3 HB3.out).mono ?_
    rintro e w4 ⟨E, rfl, hE, hb4⟩
    have HB4 := Lib.hid (below_then HB3.out hb4)
    have t1 : (E != 0) = true := by rw [bne_iff_ne]; exact hE
    clear hE hb4
    go_wp2_with fail
    go_ret
    exact ⟨rfl, HB4.out⟩
  have HGd := Lib.hid hgd
  replace HFwd := Lib.hid (HFwd.out hgd)
  replace HBk := Lib.hid (HBk.out hgd)
  replace HCp := Lib.hid (HCp.out hgd)
  replace HCn := Lib.hid (HCn.out hgd)
  clear hgd HBad
  have HA1 := Lib.hid (HFwd.out day 0 day 1 2001 ⟨by omega, by omega⟩ (by omega) (by omega) (.inl ⟨rfl, rfl, rfl, rfl⟩) w3 HB3.out)
  go_wp2_with (go_at_call 14; first | (refine (HCut1.out _).mono ?_; rintro e w' ⟨rfl, rfl⟩; clear HCut1) | (refine (HCut2.out _).mono ?_; rintro e w' ⟨rfl, rfl⟩; clear HCut2))
  refine HA1.out.mono ?_
  rintro e w4 ⟨s, E, rfl, hb4, hor⟩
  have HB4 := Lib.hid (below_then HB3.out hb4)
  have HX4 := Lib.hid (HX3.out.below hb4)
  clear hb4 HB3 HX3 HA1 x0 x1 x2 x3 x4 x5
  rcases hor with ⟨rfl, hs⟩ | ⟨rfl, _⟩
  case inr =>
    go_wp2_with fail
    go_ret
    exact ⟨rfl, HB4.out⟩
  obtain ⟨i0, hi0, hse, hps, _⟩ := hs
  have HPs := Lib.hid hps
  have HDs := Lib.hid (HPd.out s hps)
  have hsb : -1000000 ≤ s ∧ s ≤ 1003000 := by omega
  clear hse hps hi0
  obtain ⟨x0, x1, x2, x3, x4, x5⟩ := wkcells HX4.out
  have HA2 := Lib.hid (HFwd.out s n (s + 1) kk 2000 HDs.out (by omega) (by omega) (.inr ⟨by omega, rfl, HKk.out, rfl⟩) w4 HB4.out)
  go_wp2_with fail
  refine HA2.out.mono ?_
  rintro e w5 ⟨en, E, rfl, hb5, hor⟩
  have HB5 := Lib.hid (below_then HB4.out hb5)
  have HX5 := Lib.hid (HX4.out.below hb5)
  clear hb5 HB4 HX4 HA2 x0 x1 x2 x3 x4 x5
  rcases hor with ⟨rfl, hf⟩ | ⟨rfl, _⟩
  case inr =>
    go_wp2_with fail
    go_ret
    exact ⟨rfl, HB5.out⟩
  have hk1 : 1 ≤ kk := by have := HKk.out; omega
  have hhome := back_home HPs.out (Nat.le_refl 2000) hf hk1
  obtain ⟨i, hi, hen, hpe, hcn⟩ := fwd_count HPs.out hf hk1
  have HDe := Lib.hid (HPd.out en hpe)
  have HHome := Lib.hid hhome
  have HSome := Lib.hid (back_some hen hi hcn)
  have hN : (en - s).toNat = i + 1 := by omega
  have hsub : s ≤ en ∧ s < en ∧ en - s ≤ 2000 := by omega
  have HC1 := Lib.hid (HCp.out s en HDs.out HDe.out (by omega) (by omega))
  have HC2 := Lib.hid (HCn.out en s HDe.out HDs.out (by omega) (by omega))
  have HA3 := Lib.hid (HBk.out en (-n) kk HDe.out (by omega) (by omega) (by have := HKk.out; omega))
  rw [hN, hcn, HKk.out] at HC1 HC2
  have ew1 : IntKind.i64.wrap (-n) = -n := intFits _ (by omega) (by omega)
  clear hk1 hhome hen hi hcn hpe hf hN hsub HFwd HBk HCp HCn
  obtain ⟨x0, x1, x2, x3, x4, x5⟩ := wkcells HX5.out
  go_wp2_with fail
  refine (HC1.out w5 HB5.out).mono ?_
  rintro e w6 ⟨rfl, hb6⟩
  have HB6 := Lib.hid (below_then HB5.out hb6)
  have HX6 := Lib.hid (HX5.out.below hb6)
  clear hb6 HB5 HX5 HC1 x0 x1 x2 x3 x4 x5
  obtain ⟨x0, x1, x2, x3, x4, x5⟩ := wkcells HX6.out
  go_wp2_with fail
  refine (HA3.out w6 HB6.out).mono ?_
  rintro e w7 ⟨bk, E, rfl, hb7, hor⟩
  have HB7 := Lib.hid (below_then HB6.out hb7)
  have HX7 := Lib.hid (HX6.out.below hb7)
  obtain ⟨rfl, rfl⟩ : E = 0 ∧ bk = s := by
    rcases hor with ⟨h1, h2⟩ | ⟨_, h2⟩
    · exact ⟨h1, h2.unique HHome.out⟩
    · exact absurd h2 (by have := HSome.out; omega)
  clear hor hb7 HB6 HX6 HA3 x0 x1 x2 x3 x4 x5
  obtain ⟨x0, x1, x2, x3, x4, x5⟩ := wkcells HX7.out
  go_wp2_with fail
  refine (HC2.out w7 HB7.out).mono ?_
  rintro e w8 ⟨rfl, hb8⟩
  have HB8 := Lib.hid (below_then HB7.out hb8)
  clear hb8 HB7 HX7 HC2 x0 x1 x2 x3 x4 x5
  go_wp2_with fail
  go_ret
  exact ⟨rfl, HB8.out⟩

set_option maxRecDepth 100000 in
theorem walk {H : Type} {enc : TypeId × Value → H} {base : Nat} {W : World} (v0 : Value) (d0 : DataW H) (p0 : List MemPlace) (hv0 : Value.okWide Tryz.prog W .any base 27 v0) (h0 : DataW.Trod enc Tryz.prog W 0 (fun _ => true) true 27 v0 d0 p0)
    (a1 : Int) (w1 : (Lit.int .i64 a1).wf = true) (a2 : Int) (w2 : (Lit.int .i64 a2).wf = true)
    (hL : laidMet Tryz.prog Rows.termsBackRow.laid W) (hsh : W.ShapedOpen Tryz.prog) :
    Calls Tryz.prog 3 #[v0, .int .i64 a1, .int .i64 a2] W fun e w' => e = .returned (.bool true) ∧ Below W.heap.size W w' := by
  obtain ⟨x, rfl, hx⟩ := wk_open hv0 h0
  exact core x a1 a2 W ⟨sgs_of hL.tail.tail.tail.tail.tail.tail.tail, lvs_of hL.tail.tail.tail.tail.tail.tail, Shp.of hsh⟩ hx
end Go.Proofs.YtoaflcnphijhpaaGreatDoor.termsBack
