/- WHoursAgree -/
import Derived.Test.YtoaflcnphijhpaaGreatDoorGHr1
import Derived.Test.YtoaflcnphijhpaaGreatDoorGBack1
/- The walk of HoursAgree: it returns true at every input; it writes nothing that was there. -/
namespace Go.Proofs.YtoaflcnphijhpaaGreatDoor.hoursAgree
open Go Go.RowKit
attribute [local go_sem] Oper.semAt_some
set_option linter.unusedVariables false

theorem five_open (A : Option Addr) : OpenAt (oneHr A ⟨5, 10⟩) 0 [] 86400005 := (one_open _ _ _).2 ⟨by unfold DayIn; decide, by decide, by decide, by decide⟩
theorem five_first {A : Option Addr} {n hi : Int} (h : FirstO (oneHr A ⟨5, 10⟩) znA 86400000 hi n) : n = 86400005 := by
  obtain ⟨h1, h2, h3, h4⟩ := h
  have h5 := (one_open A ⟨5, 10⟩ n).1 h3
  obtain ⟨_, _, h6, h7⟩ := h5
  dsimp only at h6 h7
  by_cases h8 : 86400005 < n
  · exact absurd (five_open A) (h4 86400005 (by omega) h8)
  · omega
set_option maxRecDepth 100000 in
set_option maxHeartbeats 4000000 in
theorem core (h : Hr) (z : Zn) (i0 : Int) (w : World) (hv : Env w) (hin : HrIn w w.heap.size h) (zin : ZnIn w w.heap.size z) :
    Calls Tryz.prog 7 #[hrV h, znV z, .int .i64 i0] w fun e w' => e = .returned (.bool true) ∧ Below w.heap.size w w' := by
  have HCut := Lib.hid (fun W => cut_any i0 (-86400000000) 172800000000 W (by omega) (by omega) (by omega) (by omega))
  have q1 := Int.emod_nonneg i0 (show (172800000000 : Int) ≠ 0 by omega)
  have q2 := Int.emod_lt_of_pos i0 (show (0 : Int) < 172800000000 by omega)
  obtain ⟨ins, hins⟩ : ∃ d, d = -86400000000 + i0 % 172800000000 := ⟨_, rfl⟩
  rw [← hins] at HCut
  have hb1 : -86400000000 ≤ ins ∧ ins ≤ 86400000000 := by omega
  have HNx := Lib.hid (fun t W (hb : Below w.heap.size w W) a b => hnext_any h z t W (hv.next hb) (hin.next hb hb.size) (zin.next hb hb.size) a b)
  have HTo := Lib.hid (fun x y W (hb : Below w.heap.size w W) a b c d => htotal_any h z x y W (hv.next hb) (hin.next hb hb.size) (zin.next hb hb.size) a b c d)
  have HIs := Lib.hid (fun t W (hb : Below w.heap.size w W) ok zok a b => hopenat_any h z t W (hv.next hb) (hin.next hb hb.size) (zin.next hb hb.size) ok zok a b)
  have HC1 := Lib.hid (fun g W (hb : Below w.heap.size w W) (hx : Box W g 49 #[.int .i64 5, .int .i64 10]) => hnext_any (oneHr (some ⟨g, 0, none⟩) ⟨5, 10⟩) znA 86400000 W (hv.next hb) (one_in (s := ⟨5, 10⟩) ⟨by decide, by decide, by decide⟩ hx) (znA_in _ _) (by decide) (by decide))
  unfold HNextQ at HNx HC1
  unfold TotQ at HTo
  unfold HIsQ at HIs
  have HC2 : Hid (∀ g W, Below w.heap.size w W → Box W g 49 #[.int .i64 5, .int .i64 10] → Calls Tryz.prog 24 #[.agg #[.slice (some ⟨g, 0, none⟩) 1 1, .slice none 0 0, .slice none 0 0, .slice none 0 0, .slice none 0 0, .slice none 0 0, .slice none 0 0, .slice none 0 0], .agg #[.string ⟨#[97]⟩, .int .i64 0, .slice none 0 0], .int .i64 86400000] W fun e w' => e = .returned (.tuple #[.int .i64 86400005, .int .i64 0]) ∧ Below W.heap.size W w') := fun g W hb hx => (HC1.out g W hb hx).mono fun e w' ⟨n, E, he, h1, h2, h3⟩ => by
    have hE : E = 0 := by
      by_cases q : E = 0
      · exact q
      · exact absurd (five_open (some ⟨g, 0, none⟩)) (h2 q (one_ok _ ⟨by decide, by decide, by decide⟩) znA_ok 86400005 (by decide) (by decide))
    have hn := five_first (h1 hE).2.2
    rw [he, hE, hn]
    exact ⟨rfl, h3⟩
  clear HC1 q1 q2 hins hv hin zin
  have HB := Lib.hid (below_alloc2 w (Obj.cells #[wdV h.w0, wdV h.w1, wdV h.w2, wdV h.w3, wdV h.w4, wdV h.w5, wdV h.w6, .slice h.A h.ex.length h.c] 44) (Obj.cells #[.string z.nm, .int .i64 z.first, .slice z.A z.chs.length z.c] 47))
  have hx2 := (Box.new w 44 #[wdV h.w0, wdV h.w1, wdV h.w2, wdV h.w3, wdV h.w4, wdV h.w5, wdV h.w6, .slice h.A h.ex.length h.c]).alloc (Obj.cells #[.string z.nm, .int .i64 z.first, .slice z.A z.chs.length z.c] 47)
  have hz2 := Box.new (w.alloc (Obj.cells #[wdV h.w0, wdV h.w1, wdV h.w2, wdV h.w3, wdV h.w4, wdV h.w5, wdV h.w6, .slice h.A h.ex.length h.c] 44)) 47 #[.string z.nm, .int .i64 z.first, .slice z.A z.chs.length z.c]
  simp only [World.size_alloc] at hx2 hz2
  have HX := Lib.hid hx2
  have HZ := Lib.hid hz2
  have HZv : Hid (znV z = .agg #[.string z.nm, .int .i64 z.first, .slice z.A z.chs.length z.c]) := rfl
  clear hx2 hz2
  rw [HZv.out] at HNx HTo HIs ⊢
  unfold hrV at *
  go_enter Tryz.func7, Tryz.ntmps7
  go_upto_region 1 with fail
  generalize wdV h.w0 = v0 at *
  generalize wdV h.w1 = v1 at *
  generalize wdV h.w2 = v2 at *
  generalize wdV h.w3 = v3 at *
  generalize wdV h.w4 = v4 at *
  generalize wdV h.w5 = v5 at *
  generalize wdV h.w6 = v6 at *
  have hs2 : ((w.alloc (Obj.cells #[v0, v1, v2, v3, v4, v5, v6, .slice h.A h.ex.length h.c] 44)).alloc (Obj.cells #[.string z.nm, .int .i64 z.first, .slice z.A z.chs.length z.c] 47)).heap.size = w.heap.size + 1 + 1 := by rw [World.size_alloc, World.size_alloc]
  generalize (w.alloc (Obj.cells #[v0, v1, v2, v3, v4, v5, v6, .slice h.A h.ex.length h.c] 44)).alloc (Obj.cells #[.string z.nm, .int .i64 z.first, .slice z.A z.chs.length z.c] 47) = W2 at *
  go_upto_region 3 with fail
  have HB3 : Hid (Below w.heap.size w ((W2.alloc (Obj.cells #[.slice (some ⟨w.heap.size + 1 + 1 + 1, 0, none⟩) 1 1, .slice none 0 0, .slice none 0 0, .slice none 0 0, .slice none 0 0, .slice none 0 0, .slice none 0 0, .slice none 0 0] 44)).alloc (Obj.cells #[.int .i64 5, .int .i64 10] 49))) := below_then HB.out (below_alloc2 W2 _ _)
  have HX3 := Lib.hid ((HX.out.alloc (Obj.cells #[.slice (some ⟨w.heap.size + 1 + 1 + 1, 0, none⟩) 1 1, .slice none 0 0, .slice none 0 0, .slice none 0 0, .slice none 0 0, .slice none 0 0, .slice none 0 0, .slice none 0 0] 44)).alloc (Obj.cells #[.int .i64 5, .int .i64 10] 49))
  have HZ3 := Lib.hid ((HZ.out.alloc (Obj.cells #[.slice (some ⟨w.heap.size + 1 + 1 + 1, 0, none⟩) 1 1, .slice none 0 0, .slice none 0 0, .slice none 0 0, .slice none 0 0, .slice none 0 0, .slice none 0 0, .slice none 0 0] 44)).alloc (Obj.cells #[.int .i64 5, .int .i64 10] 49))
  have ha3 := (Box.new W2 44 #[.slice (some ⟨w.heap.size + 1 + 1 + 1, 0, none⟩) 1 1, .slice none 0 0, .slice none 0 0, .slice none 0 0, .slice none 0 0, .slice none 0 0, .slice none 0 0, .slice none 0 0]).alloc (Obj.cells #[.int .i64 5, .int .i64 10] 49)
  have hf3 := Box.new (W2.alloc (Obj.cells #[.slice (some ⟨w.heap.size + 1 + 1 + 1, 0, none⟩) 1 1, .slice none 0 0, .slice none 0 0, .slice none 0 0, .slice none 0 0, .slice none 0 0, .slice none 0 0, .slice none 0 0] 44)) 49 #[.int .i64 5, .int .i64 10]
  rw [World.size_alloc] at hf3
  rw [hs2] at ha3 hf3
  clear HB HX HZ hs2
  generalize (W2.alloc (Obj.cells #[.slice (some ⟨w.heap.size + 1 + 1 + 1, 0, none⟩) 1 1, .slice none 0 0, .slice none 0 0, .slice none 0 0, .slice none 0 0, .slice none 0 0, .slice none 0 0, .slice none 0 0] 44)).alloc (Obj.cells #[.int .i64 5, .int .i64 10] 49) = w3 at *
  obtain ⟨g0, hg0⟩ : ∃ g0, g0 = w.heap.size := ⟨_, rfl⟩
  have HG0 := Lib.hid hg0
  rw [← hg0] at HX3 HZ3 ha3 hf3 ⊢
  clear hg0
  obtain ⟨x0, x1, x2, x3, x4, x5, x6, x7⟩ := hrcells ha3
  have HC3 := Lib.hid (HC2.out _ w3 HB3.out hf3)
  clear ha3 hf3 HC2
  go_wp2_with fail
  refine HC3.out.mono ?_
  rintro e w4 ⟨rfl, hb4⟩
  have HB4 := Lib.hid (below_then HB3.out hb4)
  have HX4 := Lib.hid (HX3.out.below hb4)
  have HZ4 := Lib.hid (HZ3.out.below hb4)
  clear hb4 HB3 HX3 HZ3 HC3 x0 x1 x2 x3 x4 x5 x6 x7
  obtain ⟨x0, x1, x2, x3, x4, x5, x6, x7⟩ := hrcells HX4.out
  obtain ⟨z0, z1, z2⟩ := zncells HZ4.out
  have HN4 := Lib.hid (HNx.out ins w4 HB4.out (by omega) (by omega))
  go_wp2_with (go_at_call 14; refine (HCut.out _).mono ?_; rintro e w' ⟨rfl, rfl⟩)
  refine HN4.out.mono ?_
  rintro e w5 ⟨n, E, rfl, hy, hn, hb5⟩
  have HB5 := Lib.hid (below_then HB4.out hb5)
  have HX5 := Lib.hid (HX4.out.below hb5)
  have HZ5 := Lib.hid (HZ4.out.below hb5)
  have HY := Lib.hid hy
  have HN := Lib.hid hn
  clear hb5 HB4 HX4 HZ4 HN4 hy hn x0 x1 x2 x3 x4 x5 x6 x7 z0 z1 z2
  obtain ⟨x0, x1, x2, x3, x4, x5, x6, x7⟩ := hrcells HX5.out
  obtain ⟨z0, z1, z2⟩ := zncells HZ5.out
  by_cases hE0 : E = 0
  case neg =>
    have t1 : (E != 0) = true := by rw [bne_iff_ne]; exact hE0
    have HNo := Lib.hid (HN.out hE0)
    have ew1 : IntKind.i64.wrap (ins + 2592000000) = ins + 2592000000 := intFits _ (by omega) (by omega)
    have HT5 := Lib.hid (HTo.out ins (ins + 2592000000) w5 HB5.out (by omega) (by omega) (by omega) (by omega))
    clear hE0 HTo HNx HN HY
    go_wp2_with fail
    refine HT5.out.mono ?_
    rintro e w6 ⟨n2, E2, rfl, hE, h0, _, hb6⟩
    have HB6 := Lib.hid (below_then HB5.out hb6)
    have H0 : Hid (E2 = 0 → n2 = 0) := fun q => by
      obtain ⟨ok, zok⟩ := hE.1 q
      rw [h0 q, cntW_none _ fun t a b => HNo.out ok zok t a (by omega)]
      rfl
    clear hb6 hE h0 HT5 HNo HB5 HX5 HZ5 x0 x1 x2 x3 x4 x5 x6 x7 z0 z1 z2
    by_cases hq : E2 = 0
    · obtain rfl := H0.out hq
      subst hq
      go_wp2_with fail
      go_ret
      exact ⟨rfl, HB6.out⟩
    · have t2 : (E2 != 0) = true := by rw [bne_iff_ne]; exact hq
      clear hq
      go_wp2_with fail
      go_ret
      exact ⟨rfl, HB6.out⟩
  obtain ⟨ok, zok, f1, f2, f3, f4⟩ := HY.out hE0
  subst hE0
  have HOk := Lib.hid (And.intro ok zok)
  have HF3 := Lib.hid f3
  have HF4 := Lib.hid f4
  have ew1 : IntKind.i64.wrap (n - ins) = n - ins := intFits _ (by omega) (by omega)
  have ew2 : IntKind.i64.wrap (n + 1) = n + 1 := intFits _ (by omega) (by omega)
  have HI6 := Lib.hid (fun W hb => HIs.out n W hb ok zok (by omega) (by omega))
  have HT6 := Lib.hid (fun W hb => HTo.out n (n + 1) W hb (by omega) (by omega) (by omega) (by omega))
  have HN6 := Lib.hid (fun W hb => HNx.out n W hb (by omega) (by omega))
  have HT5 := Lib.hid (fun q => HTo.out ins n w5 HB5.out f1 q (by omega) (by omega))
  clear f3 f4 ok zok HY HN HTo HNx HIs
  by_cases hle : n - ins ≤ 3456000000
  · have t2 : decide (n - ins ≤ 3456000000) = true := decide_eq_true hle
    have HT7 := Lib.hid (HT5.out hle)
    clear hle HT5
    go_wp2_with fail
    refine HT7.out.mono ?_
    rintro e w6 ⟨n2, E2, rfl, hE, h0, _, hb6⟩
    have hE2 : E2 = 0 := hE.2 HOk.out
    have hn2 : n2 = 0 := by rw [h0 hE2, cntW_none _ fun t a b => HF4.out t a (by omega)]; rfl
    subst hE2 hn2
    have HB6 := Lib.hid (below_then HB5.out hb6)
    have HX6 := Lib.hid (HX5.out.below hb6)
    have HZ6 := Lib.hid (HZ5.out.below hb6)
    clear hb6 hE h0 HT7 HB5 HX5 HZ5 x0 x1 x2 x3 x4 x5 x6 x7 z0 z1 z2
    go_upto_region 15 with fail
    obtain ⟨x0, x1, x2, x3, x4, x5, x6, x7⟩ := hrcells HX6.out
    obtain ⟨z0, z1, z2⟩ := zncells HZ6.out
    go_wp2_with fail
    refine (HI6.out _ HB6.out).mono ?_
    rintro e w7 ⟨B, rfl, hB, hb7⟩
    obtain rfl : B = true := hB.2 HF3.out
    have HB7 := Lib.hid (below_then HB6.out hb7)
    have HX7 := Lib.hid (HX6.out.below hb7)
    have HZ7 := Lib.hid (HZ6.out.below hb7)
    clear hB hb7 HB6 HX6 HZ6 HI6 x0 x1 x2 x3 x4 x5 x6 x7 z0 z1 z2
    obtain ⟨x0, x1, x2, x3, x4, x5, x6, x7⟩ := hrcells HX7.out
    obtain ⟨z0, z1, z2⟩ := zncells HZ7.out
    go_wp2_with fail
    refine (HT6.out w7 HB7.out).mono ?_
    rintro e w8 ⟨n4, E4, rfl, hE, h0, _, hb8⟩
    have hE4 : E4 = 0 := hE.2 HOk.out
    have hn4 : n4 = 1 := by
      rw [h0 hE4, show (n + 1 - n).toNat = 1 from by omega, cntW_one, if_pos HF3.out]
      rfl
    subst hE4 hn4
    have HB8 := Lib.hid (below_then HB7.out hb8)
    have HX8 := Lib.hid (HX7.out.below hb8)
    have HZ8 := Lib.hid (HZ7.out.below hb8)
    clear hE h0 hb8 HB7 HX7 HZ7 HT6 x0 x1 x2 x3 x4 x5 x6 x7 z0 z1 z2
    obtain ⟨x0, x1, x2, x3, x4, x5, x6, x7⟩ := hrcells HX8.out
    obtain ⟨z0, z1, z2⟩ := zncells HZ8.out
    go_wp2_with fail
    refine (HN6.out w8 HB8.out).mono ?_
    rintro e w9 ⟨n5, E5, rfl, hy, hn, hb9⟩
    have hE5 : E5 = 0 := by
      by_cases q : E5 = 0
      · exact q
      · exact absurd HF3.out (hn q HOk.out.1 HOk.out.2 n (by omega) (by omega))
    have hn5 : n5 = n := by
      obtain ⟨_, _, k1, _, _, k4⟩ := hy hE5
      by_cases q : n < n5
      · exact absurd HF3.out (k4 n (by omega) q)
      · omega
    subst hE5 hn5
    have HB9 := Lib.hid (below_then HB8.out hb9)
    clear hy hn hb9 HB8 HX8 HZ8 HN6 x0 x1 x2 x3 x4 x5 x6 x7 z0 z1 z2
    go_wp2_with fail
    go_ret
    exact ⟨rfl, HB9.out⟩
  · have t2 : decide (n - ins ≤ 3456000000) = false := decide_eq_false hle
    clear hle HT5 x0 x1 x2 x3 x4 x5 x6 x7 z0 z1 z2
    go_upto_region 15 with fail
    obtain ⟨x0, x1, x2, x3, x4, x5, x6, x7⟩ := hrcells HX5.out
    obtain ⟨z0, z1, z2⟩ := zncells HZ5.out
    go_wp2_with fail
    refine (HI6.out _ HB5.out).mono ?_
    rintro e w7 ⟨B, rfl, hB, hb7⟩
    obtain rfl : B = true := hB.2 HF3.out
    have HB7 := Lib.hid (below_then HB5.out hb7)
    have HX7 := Lib.hid (HX5.out.below hb7)
    have HZ7 := Lib.hid (HZ5.out.below hb7)
    clear hB hb7 HB5 HX5 HZ5 HI6 x0 x1 x2 x3 x4 x5 x6 x7 z0 z1 z2
    obtain ⟨x0, x1, x2, x3, x4, x5, x6, x7⟩ := hrcells HX7.out
    obtain ⟨z0, z1, z2⟩ := zncells HZ7.out
    go_wp2_with fail
    refine (HT6.out w7 HB7.out).mono ?_
    rintro e w8 ⟨n4, E4, rfl, hE, h0, _, hb8⟩
    have hE4 : E4 = 0 := hE.2 HOk.out
    have hn4 : n4 = 1 := by
      rw [h0 hE4, show (n + 1 - n).toNat = 1 from by omega, cntW_one, if_pos HF3.out]
      rfl
    subst hE4 hn4
    have HB8 := Lib.hid (below_then HB7.out hb8)
    have HX8 := Lib.hid (HX7.out.below hb8)
    have HZ8 := Lib.hid (HZ7.out.below hb8)
    clear hE h0 hb8 HB7 HX7 HZ7 HT6 x0 x1 x2 x3 x4 x5 x6 x7 z0 z1 z2
    obtain ⟨x0, x1, x2, x3, x4, x5, x6, x7⟩ := hrcells HX8.out
    obtain ⟨z0, z1, z2⟩ := zncells HZ8.out
    go_wp2_with fail
    refine (HN6.out w8 HB8.out).mono ?_
    rintro e w9 ⟨n5, E5, rfl, hy, hn, hb9⟩
    have hE5 : E5 = 0 := by
      by_cases q : E5 = 0
      · exact q
      · exact absurd HF3.out (hn q HOk.out.1 HOk.out.2 n (by omega) (by omega))
    have hn5 : n5 = n := by
      obtain ⟨_, _, k1, _, _, k4⟩ := hy hE5
      by_cases q : n < n5
      · exact absurd HF3.out (k4 n (by omega) q)
      · omega
    subst hE5 hn5
    have HB9 := Lib.hid (below_then HB8.out hb9)
    clear hy hn hb9 HB8 HX8 HZ8 HN6 x0 x1 x2 x3 x4 x5 x6 x7 z0 z1 z2
    go_wp2_with fail
    go_ret
    exact ⟨rfl, HB9.out⟩

set_option maxRecDepth 100000 in
theorem walk {H : Type} {enc : TypeId × Value → H} {base : Nat} {W : World} (v0 : Value) (d0 : DataW H) (p0 : List MemPlace) (hv0 : Value.okWide Tryz.prog W .any base 44 v0) (h0 : DataW.Trod enc Tryz.prog W 0 (fun _ => true) true 44 v0 d0 p0)
    (v1 : Value) (d1 : DataW H) (p1 : List MemPlace) (hv1 : Value.okWide Tryz.prog W .any base 47 v1) (h1 : DataW.Trod enc Tryz.prog W 0 (fun _ => true) true 47 v1 d1 p1)
    (a2 : Int) (w2 : (Lit.int .i64 a2).wf = true)
    (hL : laidMet Tryz.prog Rows.hoursAgreeRow.laid W) (hsh : W.ShapedOpen Tryz.prog) :
    Calls Tryz.prog 7 #[v0, v1, .int .i64 a2] W fun e w' => e = .returned (.bool true) ∧ Below W.heap.size W w' := by
  obtain ⟨h, rfl, hh⟩ := hr_open hv0 h0
  obtain ⟨z, rfl, hz⟩ := zn_open hv1 h1
  exact core h z a2 W ⟨sgs_of hL.tail.tail.tail.tail.tail.tail.tail, lvs_of hL.tail.tail.tail.tail.tail.tail, Shp.of hsh⟩ hh hz
end Go.Proofs.YtoaflcnphijhpaaGreatDoor.hoursAgree
