/- WTopRules -/
import Derived.Test.YtbmbphikjainiaaGreatDoorGBack1
import Derived.Test.YtbmbphikjainiaaGreatDoorGTreeArg
import Derived.Test.YtbmbphikjainiaaGreatDoorGSameCal
import Derived.Test.YtbmbphikjainiaaGreatDoorGAr1
import Derived.Test.YtbmbphikjainiaaGreatDoorGTopCut
import Derived.Test.YtbmbphikjainiaaGreatDoorGParen1
/- The walk of TopRules: it returns true at every input; it writes nothing that was there. -/
namespace Go.Proofs.YtbmbphikjainiaaGreatDoor.topRules
open Go Go.RowKit
set_option linter.unusedVariables false

/-- the first rule -/
def t0 : Tr := ⟨⟨#[97]⟩, 1, 1, 1, 0, none, 0, [], [⟨⟨#[98]⟩, 5, 5⟩], none, 0⟩
theorem nm_ok (b : UInt8) (hb : b = 97 ∨ b = 98) : NameOk ⟨#[b]⟩ := by
  refine ⟨by show 1 ≤ 1; omega, by show 1 ≤ 12; omega, ?_, ?_, ?_, ?_, fun k hk => ?_⟩
  · rw [Lib.toList_data]; rcases hb with rfl | rfl <;> decide
  · rw [Lib.toList_data]; rcases hb with rfl | rfl <;> decide
  · rw [Lib.toList_data]; rcases hb with rfl | rfl <;> decide
  · rw [Lib.toList_data]; rcases hb with rfl | rfl <;> decide
  · have : k = 0 := by
      have : (⟨#[b]⟩ : ByteArray).size = 1 := rfl
      omega
    subst this
    show 97 ≤ b.toNat ∧ b.toNat ≤ 122
    rcases hb with rfl | rfl <;> decide
theorem t0_ok : TrOk t0 where
  hd := ⟨nm_ok 97 (.inl rfl), by decide, by decide, by decide⟩
  ex := ⟨.mk ⟨by decide, by decide, by decide, by decide, by decide⟩ (fun x hx => by cases hx), by decide, by decide⟩
  mo := ⟨by decide, by decide, fun i hi => by
    obtain rfl : i = 0 := by simp [t0] at hi; exact hi
    exact ⟨nm_ok 98 (.inr rfl), by rfl, by decide, by decide⟩, by decide, by decide⟩
theorem t0_text : str (printR t0) = ⟨#[99, 97, 108, 101, 110, 100, 97, 114, 32, 97, 10, 101, 112, 111, 99, 104, 32, 49, 10, 99, 121, 99, 108, 101, 32, 49, 10, 108, 101, 97, 112, 32, 48, 10, 109, 111, 110, 116, 104, 32, 98, 32, 53, 10]⟩ := by decide +kernel
theorem t0_len : (printR t0).length ≤ 4000 := by decide +kernel

/-- two rules that read alike compile with the same error -/
theorem comp_det {t u : Tr} (hcy : u.cy = t.cy) (hev : ∀ y, evalR y u.ex = evalR y t.ex) {E F : Int} (a0 : E = 0 → ∀ i : Nat, (i : Int) < t.cy → (evalR ((i : Int) + 1) t.ex).2 = 0) (a1 : E ≠ 0 → ∃ j : Nat, (j : Int) < t.cy ∧ E = (evalR ((j : Int) + 1) t.ex).2 ∧ ∀ i : Nat, i < j → (evalR ((i : Int) + 1) t.ex).2 = 0)
    (b0 : F = 0 → ∀ i : Nat, (i : Int) < u.cy → (evalR ((i : Int) + 1) u.ex).2 = 0) (b1 : F ≠ 0 → ∃ j : Nat, (j : Int) < u.cy ∧ F = (evalR ((j : Int) + 1) u.ex).2 ∧ ∀ i : Nat, i < j → (evalR ((i : Int) + 1) u.ex).2 = 0) : F = E := by
  by_cases hE : E = 0
  · by_cases hF : F = 0
    · omega
    · obtain ⟨j, hj, he, _⟩ := b1 hF
      rw [hev, a0 hE j (by rw [← hcy]; exact hj)] at he
      exact absurd he hF
  · obtain ⟨i, hi, he, hi2⟩ := a1 hE
    by_cases hF : F = 0
    · have := b0 hF i (by rw [hcy]; exact hi)
      rw [hev] at this
      exact absurd (he.trans this) hE
    · obtain ⟨j, hj, he', hj2⟩ := b1 hF
      have : i = j := by
        by_cases h1 : i < j
        · have := hj2 i h1; rw [hev] at this; exact absurd (he.trans this) hE
        · by_cases h2 : j < i
          · have := hi2 j h2; rw [hev] at he'; exact absurd (he'.trans this) hF
          · omega
      subst this
      rw [he, he', hev]

set_option maxHeartbeats 4000000 in
set_option maxRecDepth 100000 in
theorem core (t : Tr) (day0 year0 : Int) (w : World) (hz : TrIn w t) (hf : TrFit t) (hs : Sgs w) (hv : Lvs w) (hp : Pow w) (hsh : Shp w) :
    Calls Tryz.prog 3 #[t.val, .int .i64 day0, .int .i64 year0] w fun e w' => e = .returned (.bool true) ∧ Below w.heap.size w w' := by
  have HB0 := Lib.hid (below_alloc1 w (Obj.cells t.cells 27))
  have HX0 := Lib.hid (Box.new w 27 t.cells)
  have H0 := Lib.hid (parse_print t0 t0_ok t0_len (w.alloc (Obj.cells t.cells 27)) (hs.next HB0.out) (hv.next HB0.out) (hsh.next HB0.out))
  rw [t0_text] at H0
  have HZ := Lib.hid (fun W (hW : Below w.heap.size w W) => hz.next hW)
  have HP := Lib.hid (fun W (hW : Below w.heap.size w W) => hp.next hW)
  have HS := Lib.hid (fun W (hW : Below w.heap.size w W) => hsh.next hW)
  have HG1 := Lib.hid (fun W (hW : Below w.heap.size w W) => hs.next hW)
  have HG2 := Lib.hid (fun W (hW : Below w.heap.size w W) => hv.next hW)
  have HF := Lib.hid hf
  have HCut1 := Lib.hid (fun W => acut_any day0 (-1000000) 2000000 W (by omega) (by omega) (by omega) (by omega))
  have HCut2 := Lib.hid (fun W => acut_any year0 (-9000) 18000 W (by omega) (by omega) (by omega) (by omega))
  have b1 := Int.emod_nonneg day0 (show (2000000 : Int) ≠ 0 by omega)
  have b2 := Int.emod_lt_of_pos day0 (show (0 : Int) < 2000000 by omega)
  have b3 := Int.emod_nonneg year0 (show (18000 : Int) ≠ 0 by omega)
  have b4 := Int.emod_lt_of_pos year0 (show (0 : Int) < 18000 by omega)
  obtain ⟨day, hday⟩ : ∃ day, day = -1000000 + day0 % 2000000 := ⟨_, rfl⟩
  obtain ⟨yr, hyr⟩ : ∃ yr, yr = -9000 + year0 % 18000 := ⟨_, rfl⟩
  rw [← hday] at HCut1
  rw [← hyr] at HCut2
  have hd1 : -1000000 ≤ day := by omega
  have hd2 : day < 1000000 := by omega
  have hy1 : -9000 ≤ yr := by omega
  have hy2 : yr < 9000 := by omega
  clear hz hp hsh hs hv hf b1 b2 b3 b4 hday hyr
  unfold Tr.val Tr.cells at *
  go_enter Tryz.func3, Tryz.ntmps3
  go_wp2_with fail
  generalize hg : w.heap.size = g at *
  have HG := Lib.hid hg
  clear hg
  refine H0.out.mono ?_
  rintro e w1 ⟨u, rfl, hu, _, _, hb⟩
  have hun : u.ep = 1 := hu.ep
  have HX1 := Lib.hid (HX0.out.below hb)
  have HB1 := Lib.hid (show Below g w w1 from HB0.out.trans (hb.mono (by have := HX0.out.lt; omega)))
  clear hb H0 HX0 HB0 hu
  obtain ⟨un, u1, u2, u3, u4, u5, u6, u7, u8, u9, u10⟩ := u
  simp only at hun
  subst hun
  unfold Tr.val Tr.cells
  simp only
  have HX2 := Lib.hid (HX1.out.alloc (Obj.cells #[.string un, .int .i64 1, .int .i64 u2, .int .i64 u3, .int .i64 u4, .slice u5 u7.length u6, .slice u9 u8.length u10] 27))
  have HY2 := Lib.hid (Box.new w1 27 #[.string un, .int .i64 1, .int .i64 u2, .int .i64 u3, .int .i64 u4, .slice u5 u7.length u6, .slice u9 u8.length u10])
  have HB2 := Lib.hid (HB1.out.alloc (by have := HX1.out.lt; omega) (Obj.cells #[.string un, .int .i64 1, .int .i64 u2, .int .i64 u3, .int .i64 u4, .slice u5 u7.length u6, .slice u9 u8.length u10] 27))
  go_upto_region 2 with fail
  generalize w1.alloc (Obj.cells #[.string un, .int .i64 1, .int .i64 u2, .int .i64 u3, .int .i64 u4, .slice u5 u7.length u6, .slice u9 u8.length u10] 27) = W2 at *
  generalize w1.heap.size = g1 at *
  have y1 : W2.cell? ⟨g1, 1, none⟩ = some (.int .i64 1) := HY2.out.cell 1
  obtain ⟨x0, x1, x2, x3, x4, x5, x6⟩ := trcells HX2.out
  have hgl : g ≤ W2.heap.size := by have := HX2.out.lt; omega
  clear HX1 HB1 HY2
  by_cases hok : TrOk t
  case neg =>
    have HN : Hid (Calls Tryz.prog 14 #[.agg #[.string t.nm, .int .i64 t.ep, .int .i64 t.cy, .int .i64 t.k, .int .i64 t.n, .slice t.A t.ks.length t.c, .slice t.A1 t.mo.length t.c1]] W2 (PriNo W2)) := rprint_no t W2 (HZ.out _ HB2.out) HF.out hok
    clear hok HX2
    go_wp2_with fail
    refine HN.out.mono ?_
    rintro e w3 ⟨E, hE, rfl, hb⟩
    have t1 : (E != 0) = true := by rw [bne_iff_ne]; exact hE
    have HB3 := Lib.hid (HB2.out.trans (hb.mono hgl))
    clear hb HN
    go_wp2_with fail
    go_ret
    exact ⟨rfl, by rw [HG.out]; exact HB3.out⟩
  have HOK := Lib.hid hok
  have HPR : Hid (Calls Tryz.prog 14 #[.agg #[.string t.nm, .int .i64 t.ep, .int .i64 t.cy, .int .i64 t.k, .int .i64 t.n, .slice t.A t.ks.length t.c, .slice t.A1 t.mo.length t.c1]] W2 (fun e w' => e = .returned (.tuple #[.string (str (printR t)), .int .i64 0]) ∧ Below W2.heap.size W2 w')) := rprint_yes t W2 (HZ.out _ HB2.out) HF.out hok (HG1.out _ HB2.out) (HG2.out _ HB2.out) (HP.out _ HB2.out)
  have HPA : Hid ((printR t).length ≤ 4000 → ∀ W, Below g w W → Calls Tryz.prog 13 #[.string (str (printR t))] W (PrsQ (RTof t) t.ex W)) := fun hl W hW => parse_print t hok hl W (HG1.out _ hW) (HG2.out _ hW) (HS.out _ hW)
  have hsz := str_size (printR t)
  clear hok
  generalize hT : (printR t).length = n at *
  generalize str (printR t) = T at *
  clear hT
  go_wp2_with fail
  refine HPR.out.mono ?_
  rintro e w3 ⟨rfl, hb⟩
  have HB3 := Lib.hid (HB2.out.trans (hb.mono hgl))
  have HX3 := Lib.hid (HX2.out.below hb)
  clear hb HPR x0 x1 x2 x3 x4 x5 x6 y1 hgl HX2 HB2
  by_cases hlen : n ≤ 4000
  case neg =>
    have t1 : decide (4000 < (n : Int)) = true := decide_eq_true (by omega)
    have t2 : decide (4000 < n) = true := decide_eq_true (by omega)
    go_wp2_with fail
    go_ret
    exact ⟨rfl, by rw [HG.out]; exact HB3.out⟩
  have t1 : decide (4000 < (n : Int)) = false := decide_eq_false (by omega)
  have t2 : decide (4000 < n) = false := decide_eq_false (by omega)
  have HP3 := Lib.hid (HPA.out hlen w3 HB3.out)
  clear hlen HPA
  go_wp2_with fail
  refine HP3.out.mono ?_
  rintro e w4 ⟨u, rfl, hu, hin, hft, hb⟩
  have hl3 := HX3.out.lt
  have HB4 := Lib.hid (HB3.out.trans (hb.mono (by omega)))
  have HX4 := Lib.hid (HX3.out.below hb)
  have hl4 := HX4.out.lt
  obtain ⟨oku, hpr⟩ := read_ok HOK.out hu
  have HU := Lib.hid (show TrOk u ∧ u.cy = t.cy ∧ u.ep = t.ep ∧ u.mo = t.mo ∧ ∀ y, evalR y u.ex = evalR y t.ex from ⟨oku, hu.cy, hu.ep, hu.mo, fun y => hu.ex.eval y⟩)
  have HFu := Lib.hid hft
  have HIn5 := Lib.hid (hin.next (below_alloc1 w4 (Obj.cells u.cells 27)))
  have HY5 := Lib.hid (Box.new w4 27 u.cells)
  have HX5 := Lib.hid (HX4.out.alloc (Obj.cells u.cells 27))
  have HB5 := Lib.hid (HB4.out.alloc (by omega) (Obj.cells u.cells 27))
  clear hb HP3 hu hin hft oku hpr HX3 HB3 HX4 HB4 t1 t2 hl3 hl4 hsz
  unfold Tr.val Tr.cells at *
  go_upto_region 10 with fail
  generalize w4.alloc (Obj.cells #[.string u.nm, .int .i64 u.ep, .int .i64 u.cy, .int .i64 u.k, .int .i64 u.n, .slice u.A u.ks.length u.c, .slice u.A1 u.mo.length u.c1] 27) = W5 at *
  generalize w4.heap.size = gu at *
  obtain ⟨x0, x1, x2, x3, x4, x5, x6⟩ := trcells HX5.out
  have HCt : Hid (Calls Tryz.prog 15 #[.agg #[.string t.nm, .int .i64 t.ep, .int .i64 t.cy, .int .i64 t.k, .int .i64 t.n, .slice t.A t.ks.length t.c, .slice t.A1 t.mo.length t.c1]] W5 (IsCompE t W5)) := Compile_full t W5 (HZ.out _ HB5.out) HF.out
  go_wp2_with fail
  refine HCt.out.mono ?_
  rintro e1 w6 ⟨c, E1, rfl, hb6, hc0, hc1⟩
  have hl5 := HX5.out.lt
  have HB6 := Lib.hid (HB5.out.trans (hb6.mono (by omega)))
  have HX6 := Lib.hid (HX5.out.below hb6)
  have HY6 := Lib.hid (HY5.out.below hb6)
  have HIn6 := Lib.hid (HIn5.out.next hb6)
  have HC0 := Lib.hid hc0
  have HC1 := Lib.hid hc1
  clear x0 x1 x2 x3 x4 x5 x6 HCt hb6 HX5 HY5 HIn5 HB5 hl5 hc0 hc1
  go_upto_region 11 with fail
  have hl6 := HX6.out.lt
  have HB7 := Lib.hid (HB6.out.alloc (by omega) (Obj.cells c.cells 35))
  have HX7 := Lib.hid (HX6.out.alloc (Obj.cells c.cells 35))
  have HY7 := Lib.hid (HY6.out.alloc (Obj.cells c.cells 35))
  have HC7 := Lib.hid (Box.new w6 35 c.cells)
  have HIn7 := Lib.hid (HIn6.out.next (below_alloc1 w6 (Obj.cells c.cells 35)))
  have HV7 : Hid (E1 = 0 → CalV (w6.alloc (Obj.cells c.cells 35)) c) := fun h => CalV.next ⟨(HC0.out h).1.2.2.2.2.2.2.1, (HC0.out h).1.2.2.2.2.2.2.2.1, (HC0.out h).1.2.2.2.2.2.2.2.2.1⟩ (below_alloc1 w6 (Obj.cells c.cells 35))
  have HCe : Hid (E1 = 0 → c.ep = t.ep ∧ c.cy = t.cy ∧ c.mo = t.mo ∧ c.lp = t.leaps t.cy.toNat ∧ ∀ i : Nat, (i : Int) < t.cy → (evalR ((i : Int) + 1) t.ex).2 = 0) := fun h => ⟨(HC0.out h).1.2.2.1, (HC0.out h).1.2.2.2.1, (HC0.out h).1.2.2.2.2.1, (HC0.out h).1.2.2.2.2.2.1, (HC0.out h).2⟩
  have HCz : Hid (E1 ≠ 0 → ∃ j : Nat, (j : Int) < t.cy ∧ E1 = (evalR ((j : Int) + 1) t.ex).2 ∧ ∀ i : Nat, i < j → (evalR ((i : Int) + 1) t.ex).2 = 0) := fun h => (HC1.out h HOK.out).2
  clear HX6 HY6 HIn6 hl6 HB6 HC0 HC1
  generalize w6.alloc (Obj.cells c.cells 35) = w7 at *
  generalize w6.heap.size = gc at *
  obtain ⟨x0, x1, x2, x3, x4, x5, x6⟩ := trcells HY7.out
  have HCu : Hid (Calls Tryz.prog 15 #[.agg #[.string u.nm, .int .i64 u.ep, .int .i64 u.cy, .int .i64 u.k, .int .i64 u.n, .slice u.A u.ks.length u.c, .slice u.A1 u.mo.length u.c1]] w7 (IsCompE u w7)) := Compile_full u w7 HIn7.out HFu.out
  go_wp2_with fail
  refine HCu.out.mono ?_
  rintro e2 w8 ⟨d, E2, rfl, hb8, hc0, hc1⟩
  have hE21 : E2 = E1 := comp_det HU.out.2.1 HU.out.2.2.2.2 (fun h => (HCe.out h).2.2.2.2) HCz.out (fun h => (hc0 h).2) (fun h => (hc1 h HU.out.1).2)
  subst hE21
  have hl7 := HX7.out.lt
  have HB8 := Lib.hid (HB7.out.trans (hb8.mono (by omega)))
  have HX8 := Lib.hid (HX7.out.below hb8)
  have HY8 := Lib.hid (HY7.out.below hb8)
  have HZ8 := Lib.hid (HC7.out.below hb8)
  have HIn8 := Lib.hid (HIn7.out.next hb8)
  have HV8 : Hid (E2 = 0 → CalV w8 c ∧ CalV w8 d) := fun h => ⟨(HV7.out h).next hb8, (hc0 h).1.2.2.2.2.2.2.1, (hc0 h).1.2.2.2.2.2.2.2.1, (hc0 h).1.2.2.2.2.2.2.2.2.1⟩
  have HDe : Hid (E2 = 0 → d.ep = u.ep ∧ d.cy = u.cy ∧ d.mo = u.mo ∧ d.lp = u.leaps u.cy.toNat) := fun h => ⟨(hc0 h).1.2.2.1, (hc0 h).1.2.2.2.1, (hc0 h).1.2.2.2.2.1, (hc0 h).1.2.2.2.2.2.1⟩
  clear x0 x1 x2 x3 x4 x5 x6 HCu hb8 HX7 HY7 HC7 HIn7 HV7 HB7 hl7 hc0 hc1 HCz
  go_upto_region 14 with fail
  have hl8 := HX8.out.lt
  have HB9 := Lib.hid (HB8.out.alloc (by omega) (Obj.cells d.cells 35))
  have HX9 := Lib.hid (HX8.out.alloc (Obj.cells d.cells 35))
  have HY9 := Lib.hid (HY8.out.alloc (Obj.cells d.cells 35))
  have HZ9 := Lib.hid (HZ8.out.alloc (Obj.cells d.cells 35))
  have HD9 := Lib.hid (Box.new w8 35 d.cells)
  have HIn9 := Lib.hid (HIn8.out.next (below_alloc1 w8 (Obj.cells d.cells 35)))
  have HV9 : Hid (E2 = 0 → CalV (w8.alloc (Obj.cells d.cells 35)) c ∧ CalV (w8.alloc (Obj.cells d.cells 35)) d) := fun h => ⟨(HV8.out h).1.next (below_alloc1 _ _), (HV8.out h).2.next (below_alloc1 _ _)⟩
  clear HX8 HY8 HZ8 HIn8 HV8 HB8 hl8
  generalize w8.alloc (Obj.cells d.cells 35) = w9 at *
  generalize w8.heap.size = gd at *
  by_cases hE : E2 = 0
  case neg =>
    have t1 : (E2 != 0) = true := by rw [bne_iff_ne]; exact hE
    go_wp2_with fail
    go_ret
    exact ⟨rfl, by rw [HG.out]; exact HB9.out⟩
  subst hE
  obtain ⟨hcv, hdv⟩ := HV9.out rfl
  have HCV := Lib.hid hcv
  have HDV := Lib.hid hdv
  obtain ⟨p1, p2, p3, p4, p5⟩ := HCe.out rfl
  obtain ⟨q1, q2, q3, q4⟩ := HDe.out rfl
  have HSm : Hid (SameCal c d) := ⟨by rw [p1, q1, HU.out.2.2.1], by rw [p3, q3, HU.out.2.2.2.1], fun y => by
    unfold Cal.lpy Cal.pl
    rw [p2, p4, q2, q4, HU.out.2.1]
    unfold Tr.leaps
    congr 3
    exact funext fun z => by rw [HU.out.2.2.2.2]⟩
  have HEv := Lib.hid p5
  have HPl : Hid (∀ y, c.pl y = (y - 1) % t.cy + 1) := fun y => by unfold Cal.pl; rw [p2]
  have HLp := Lib.hid p4
  clear p1 p2 p3 p4 p5 q1 q2 q3 q4 hcv hdv HV9 HCe HDe
  obtain ⟨x0, x1, x2, x3, x4⟩ := ccells HD9.out
  have hcy := HDV.out.ok.hd.2.2.1
  obtain ⟨N, hN⟩ : ∃ N : Nat, d.cy = N := ⟨d.cy.toNat, by omega⟩
  have HN := Lib.hid hN
  clear hcy hN
  go_wp2_with fail
  refine (Least_yes d N HN.out w9 HDV.out.r HDV.out.f HDV.out.ok).mono ?_
  rintro e w10 ⟨l, n, rfl, hle, k1, k2, hcy, k4, k5, hlin, hlfit, hb10⟩
  have hl9 := HX9.out.lt
  have HB10 := Lib.hid (HB9.out.trans (hb10.mono (by omega)))
  have HX10 := Lib.hid (HX9.out.below hb10)
  have HY10 := Lib.hid (HY9.out.below hb10)
  have HZ10 := Lib.hid (HZ9.out.below hb10)
  have HIn10 := Lib.hid (HIn9.out.next hb10)
  have HCV10 := Lib.hid (HCV.out.next hb10)
  have HLV10 : Hid (CalV w10 l) := ⟨hlin, hlfit, least_ok HN.out HDV.out.ok hle k1 k2 hcy k4 k5⟩
  have HSl := Lib.hid (least_same HN.out hle k2 hcy k4 k5)
  have OKd := Lib.hid HDV.out.ok
  clear hle k1 k2 hcy k4 k5 hlin hlfit hb10 x0 x1 x2 x3 x4 HX9 HY9 HZ9 HD9 HIn9 HCV HDV HB9 hl9 HN
  obtain ⟨x0, x1, x2, x3, x4⟩ := ccells HZ10.out
  have hz10 := HZ10.out.lt
  go_wp2_with (go_at_call 17; refine (HCut1.out _).mono ?_; rintro e w' ⟨rfl, rfl⟩; clear HCut1)
  have hl10 := HX10.out.lt
  have HB11 := Lib.hid (HB10.out.alloc (by omega) (Obj.cells l.cells 35))
  have HX11 := Lib.hid (HX10.out.alloc (Obj.cells l.cells 35))
  have HY11 := Lib.hid (HY10.out.alloc (Obj.cells l.cells 35))
  have HL11 := Lib.hid (Box.new w10 35 l.cells)
  have HIn11 := Lib.hid (HIn10.out.next (below_alloc1 w10 (Obj.cells l.cells 35)))
  have HCV11 := Lib.hid (HCV10.out.next (below_alloc1 w10 (Obj.cells l.cells 35)))
  have HLV11 := Lib.hid (HLV10.out.next (below_alloc1 w10 (Obj.cells l.cells 35)))
  clear x0 x1 x2 x3 x4 hz10 HX10 HY10 HZ10 HIn10 HCV10 HLV10 HB10 hl10
  generalize w10.alloc (Obj.cells l.cells 35) = w11 at *
  generalize w10.heap.size = gl at *
  refine (FromDay_any c day w11 HCV11.out).mono ?_
  intro e w12 hfd
  have hb12 := hfd.1
  have HFd := Lib.hid hfd
  have hl11 := HX11.out.lt
  have HB12 := Lib.hid (HB11.out.trans (hb12.mono (by omega)))
  have HX12 := Lib.hid (HX11.out.below hb12)
  have HY12 := Lib.hid (HY11.out.below hb12)
  have HL12 := Lib.hid (HL11.out.below hb12)
  have HIn12 := Lib.hid (HIn11.out.next hb12)
  have HLV12 := Lib.hid (HLV11.out.next hb12)
  have OKc := Lib.hid HCV11.out.ok
  obtain ⟨a1, a2, a3, E3, rfl, hE3⟩ : ∃ a1 a2 a3 E3 : Int, e = .returned (.tuple #[.agg (dateC a1 a2 a3), .int .i64 E3]) ∧ True := by
    rcases hfd.2 with ⟨y, m, dd, _, _, _, h⟩ | ⟨_, h⟩
    · exact ⟨_, _, _, _, h, trivial⟩
    · exact ⟨_, _, _, _, h, trivial⟩
  clear hfd hb12 hE3 HX11 HY11 HL11 HIn11 HLV11 HCV11 HB11 hl11
  go_upto_region 19 with fail
  have hl12 := HX12.out.lt
  have HB13 := Lib.hid (HB12.out.alloc (by omega) (Obj.cells (dateC a1 a2 a3) 41))
  have HX13 := Lib.hid (HX12.out.alloc (Obj.cells (dateC a1 a2 a3) 41))
  have HY13 := Lib.hid (HY12.out.alloc (Obj.cells (dateC a1 a2 a3) 41))
  have HL13 := Lib.hid (HL12.out.alloc (Obj.cells (dateC a1 a2 a3) 41))
  have HA13 := Lib.hid (Box.new w12 41 (dateC a1 a2 a3))
  have HIn13 := Lib.hid (HIn12.out.next (below_alloc1 w12 (Obj.cells (dateC a1 a2 a3) 41)))
  have HLV13 := Lib.hid (HLV12.out.next (below_alloc1 w12 (Obj.cells (dateC a1 a2 a3) 41)))
  clear HX12 HY12 HL12 HIn12 HLV12 HB12 hl12
  generalize w12.alloc (Obj.cells (dateC a1 a2 a3) 41) = w13 at *
  generalize w12.heap.size = ga at *
  obtain ⟨x0, x1, x2, x3, x4⟩ := ccells HL13.out
  go_wp2_with fail
  refine (FromDay_any l day w13 HLV13.out).mono ?_
  intro e w14 hfd
  have hsame := fd_same (HSm.out.trans HSl.out) OKc.out HLV13.out.ok (by omega) (by omega) HFd.out hfd
  subst hsame
  have hb14 := hfd.1
  have hl13 := HX13.out.lt
  have HB14 := Lib.hid (HB13.out.trans (hb14.mono (by omega)))
  have HX14 := Lib.hid (HX13.out.below hb14)
  have HY14 := Lib.hid (HY13.out.below hb14)
  have HL14 := Lib.hid (HL13.out.below hb14)
  have HA14 := Lib.hid (HA13.out.below hb14)
  have HIn14 := Lib.hid (HIn13.out.next hb14)
  have HLV14 := Lib.hid (HLV13.out.next hb14)
  clear hfd hb14 HX13 HY13 HL13 HA13 HIn13 HLV13 HB13 HFd hl13 x0 x1 x2 x3 x4
  have z0 : w14.cell? ⟨ga, 0, none⟩ = some (.int .i64 a1) := HA14.out.cell 0
  have z1 : w14.cell? ⟨ga, 1, none⟩ = some (.int .i64 a2) := HA14.out.cell 1
  have z2 : w14.cell? ⟨ga, 2, none⟩ = some (.int .i64 a3) := HA14.out.cell 2
  have zl := HA14.out.lt
  go_upto_region 23 with (go_at_call 17; refine (HCut2.out _).mono ?_; rintro e w' ⟨rfl, rfl⟩; clear HCut2)
  have hl14 := HX14.out.lt
  have HB15 := Lib.hid (HB14.out.alloc (by omega) (Obj.cells (dateC a1 a2 a3) 41))
  have HX15 := Lib.hid (HX14.out.alloc (Obj.cells (dateC a1 a2 a3) 41))
  have HY15 := Lib.hid (HY14.out.alloc (Obj.cells (dateC a1 a2 a3) 41))
  have HL15 := Lib.hid (HL14.out.alloc (Obj.cells (dateC a1 a2 a3) 41))
  have HIn15 := Lib.hid (HIn14.out.next (below_alloc1 w14 (Obj.cells (dateC a1 a2 a3) 41)))
  have HLV15 := Lib.hid (HLV14.out.next (below_alloc1 w14 (Obj.cells (dateC a1 a2 a3) 41)))
  clear HX14 HY14 HL14 HA14 HIn14 HLV14 HB14 hl14 z0 z1 z2 zl
  generalize w14.alloc (Obj.cells (dateC a1 a2 a3) 41) = w15 at *
  have hcy1 := HOK.out.hd.2.2.1
  have hcy2 := HOK.out.hd.2.2.2
  have m1 := Int.emod_nonneg (yr - 1) (show t.cy ≠ 0 by omega)
  have m2 := Int.emod_lt_of_pos (yr - 1) (show 0 < t.cy by omega)
  obtain ⟨q, hq⟩ : ∃ q : Nat, (q : Int) = (yr - 1) % t.cy := ⟨((yr - 1) % t.cy).toNat, by omega⟩
  have HMd := Lib.hid (fun W => amod_any (yr - 1) t.cy W (by omega) (by omega))
  rw [← hq] at HMd
  have hq2 : (q : Int) < t.cy := by omega
  obtain ⟨v, hv⟩ : ∃ v, v = (evalR ((q : Int) + 1) u.ex).1 := ⟨_, rfl⟩
  have hE0 := HEv.out q hq2
  have HEvl : Hid (∀ W, Below w15.heap.size w15 W → Calls Tryz.prog 19 #[.agg #[.int .i64 u.k, .int .i64 u.n, .slice u.A u.ks.length u.c], .int .i64 (1 + (q : Int))] W fun e w' => e = .returned (.tuple #[.int .i64 v, .int .i64 0]) ∧ Below W.heap.size W w') := fun W hW => by
    have h := rEval_any ((q : Int) + 1) u.ex W (HIn15.out.next hW).ex (by omega) (by omega)
    rw [show (1 : Int) + (q : Int) = (q : Int) + 1 from by omega]
    refine h.mono ?_
    rintro e w' ⟨v', E', rfl, hb, hc⟩
    refine ⟨?_, hb⟩
    rcases hc with ⟨_, h1⟩ | ⟨h1, _⟩
    · have h2 : v' = v := by rw [hv]; exact congrArg Prod.fst h1
      have h3 : E' = 0 := by have h4 : E' = (evalR ((q : Int) + 1) u.ex).2 := congrArg Prod.snd h1; rw [h4, HU.out.2.2.2.2]; exact hE0
      rw [h2, h3]
    · exact absurd HU.out.1.ex h1
  have HLp2 : Hid (decide (l.pl yr ∈ l.lp) = (v != 0)) := by
    have s := (HSm.out.trans HSl.out).lp yr
    unfold Cal.lpy at s
    unfold Hid
    rw [← s, HPl.out, ← hq, HLp.out, hv, HU.out.2.2.2.2]
    rw [Bool.eq_iff_iff, decide_eq_true_eq]
    unfold Tr.leaps
    rw [List.mem_filter]
    constructor
    · exact fun h => h.2
    · refine fun h => ⟨?_, h⟩
      unfold yrs
      exact List.mem_map.2 ⟨q, List.mem_range.2 (by omega), rfl⟩
  have HLe := Lib.hid (fun W (h : CalV W l) => Leap_yes l yr W h.r h.f h.ok (by omega) (by omega))
  rw [HLp2.out] at HLe
  have y3 : ∀ W, Below w15.heap.size w15 W → W.cell? ⟨gu, 3, none⟩ = some (.int .i64 u.k) := fun W hb => (HY15.out.below hb).cell 3
  have y4 : ∀ W, Below w15.heap.size w15 W → W.cell? ⟨gu, 4, none⟩ = some (.int .i64 u.n) := fun W hb => (HY15.out.below hb).cell 4
  have y5 : ∀ W, Below w15.heap.size w15 W → W.cell? ⟨gu, 5, none⟩ = some (.slice u.A u.ks.length u.c) := fun W hb => (HY15.out.below hb).cell 5
  have x2 : ∀ W, Below w15.heap.size w15 W → W.cell? ⟨g, 2, none⟩ = some (.int .i64 t.cy) := fun W hb => (HX15.out.below hb).cell 2
  have e1 : IntKind.i64.wrap (yr - 1) = yr - 1 := intFits _ (by omega) (by omega)
  have e2 : IntKind.i64.wrap (1 + (q : Int)) = 1 + (q : Int) := intFits _ (by omega) (by omega)
  clear hv hE0 HPl HLp HEv HSm HSl hq m1 m2 HLp2
  refine flow_begin (tellOf [(6, det (.int .i64 (q : Int))), (8, det (.tuple #[.int .i64 v, .int .i64 0]))]) (by kernel_rfl) (by kernel_rfl) ?_
  repeat (first | (refine flow_val (v := ?_) (by rfl) (by rfl) (fun w hb => ?_) ?_; rotate_left; (· ((go_simp) <;> ((repeat' apply And.intro) <;> with_reducible rfl))); try simp only [Act.put, List.setIfInBounds_toArray, List.set_cons_zero, List.set_cons_succ, Nat.reduceAdd]) | (refine flow_skip (by rfl) (by rfl) ?_; try simp only [Act.put, List.setIfInBounds_toArray, List.set_cons_zero, List.set_cons_succ, Nat.reduceAdd]))
  refine flow_call (f := ?_) (args := ?_) [] (by kernel_rfl) (by rfl) (by rfl) (fun w hb => ?_) (fun w hb hu => ?_) ?_; rotate_left 2; (· ((go_simp) <;> ((repeat' apply And.intro) <;> with_reducible rfl)))
  · exact (HMd.out w).mono fun e w' ⟨he, hw⟩ => ⟨he, by rw [← hw]; exact Below.refl _ _⟩
  try simp only [Act.put, List.setIfInBounds_toArray, List.set_cons_zero, List.set_cons_succ, Nat.reduceAdd]
  repeat (first | (refine flow_val (v := ?_) (by rfl) (by rfl) (fun w hb => ?_) ?_; rotate_left; (· ((go_simp) <;> ((repeat' apply And.intro) <;> with_reducible rfl))); try simp only [Act.put, List.setIfInBounds_toArray, List.set_cons_zero, List.set_cons_succ, Nat.reduceAdd]) | (refine flow_skip (by rfl) (by rfl) ?_; try simp only [Act.put, List.setIfInBounds_toArray, List.set_cons_zero, List.set_cons_succ, Nat.reduceAdd]))
  refine flow_call (f := ?_) (args := ?_) [] (by kernel_rfl) (by rfl) (by rfl) (fun w hb => ?_) (fun w hb hu => ?_) ?_; rotate_left 2; (· ((go_simp) <;> ((repeat' apply And.intro) <;> with_reducible rfl)))
  · exact HEvl.out w hb
  try simp only [Act.put, List.setIfInBounds_toArray, List.set_cons_zero, List.set_cons_succ, Nat.reduceAdd]
  repeat (first | (refine flow_val (v := ?_) (by rfl) (by rfl) (fun w hb => ?_) ?_; rotate_left; (· ((go_simp) <;> ((repeat' apply And.intro) <;> with_reducible rfl))); try simp only [Act.put, List.setIfInBounds_toArray, List.set_cons_zero, List.set_cons_succ, Nat.reduceAdd]) | (refine flow_skip (by rfl) (by rfl) ?_; try simp only [Act.put, List.setIfInBounds_toArray, List.set_cons_zero, List.set_cons_succ, Nat.reduceAdd]))
  refine flow_nil fun w16 hb16 _ => ?_
  have hl15 := HX15.out.lt
  have HB16 := Lib.hid (HB15.out.trans (hb16.mono (by omega)))
  have HL16 := Lib.hid (HL15.out.below hb16)
  have HLV16 := Lib.hid (HLV15.out.next hb16)
  have hl16 : g ≤ w16.heap.size := by have := hb16.size; omega
  clear hb16 y3 y4 y5 x2 e1 e2 HEvl HMd HX15 HY15 HL15 HIn15 HLV15 HB15
  obtain ⟨x0, x1, x2, x3, x4⟩ := ccells HL16.out
  go_wp2_with fail
  refine (HLe.out w16 HLV16.out).mono ?_
  rintro e w17 ⟨rfl, hb17⟩
  have HB17 := Lib.hid (HB16.out.trans (hb17.mono hl16))
  clear hb17 x0 x1 x2 x3 x4 HL16 HLV16 HB16 HLe
  cases hvb : (v != 0)
  · go_wp2_with fail
    go_ret
    exact ⟨rfl, by rw [HG.out]; exact HB17.out⟩
  · go_wp2_with fail
    go_ret
    exact ⟨rfl, by rw [HG.out]; exact HB17.out⟩

set_option maxRecDepth 100000 in
theorem walk {H : Type} {enc : TypeId × Value → H} {base : Nat} {W : World} (v0 : Value) (d0 : DataW H) (p0 : List MemPlace) (hv0 : Value.okWide Tryz.prog W .any base 27 v0) (h0 : DataW.Trod enc Tryz.prog W 0 (fun _ => true) true 27 v0 d0 p0) (a1 : Int) (w1 : (Lit.int .i64 a1).wf = true) (a2 : Int) (w2 : (Lit.int .i64 a2).wf = true)
    (hL : laidMet Tryz.prog Rows.topRulesRow.laid W) (hsh : W.ShapedOpen Tryz.prog) :
    Calls Tryz.prog 3 #[v0, .int .i64 a1, .int .i64 a2] W fun e w' => e = .returned (.bool true) ∧ Below W.heap.size W w' := by
  obtain ⟨t, rfl, hz, hf⟩ := tree_open hv0 h0
  exact core t a1 a2 W hz hf (sgs_of hL.tail.tail.tail.tail.tail.tail) (lvs_of hL.tail.tail.tail.tail.tail) (pow_of hL.tail.tail) (Shp.of hsh)
end Go.Proofs.YtbmbphikjainiaaGreatDoor.topRules
