/- WPlanBest -/
import Derived.Test.YtabidjmmgnkhkaaGreatDoorGPl1
/- The walk of PlanBest: it returns true at every input; it writes nothing that was there. -/
namespace Go.Proofs.YtabidjmmgnkhkaaGreatDoor.planBest
open Go Go.RowKit
attribute [local go_sem] Oper.semAt_some
set_option linter.unusedVariables false
theorem nOk1 : NmsOk [nOne] := by
 refine ⟨by decide, by decide, fun k hk => ?_, fun k j hj hk => ?_⟩
 ·match k, hk with
  | 0, _ => exact one_nok
 ·match k, hk, j, hj with
  | 0, _, j, hj => omega
set_option maxRecDepth 100000 in
set_option maxHeartbeats 8000000 in
theorem core (l : List Pa) (A : Option Addr) (cp : Nat) (f0 n0 s0 : Int) (w : World) (hv : Env w) (hin : PasIn w w.heap.size A l) (hlc : l.length ≤ cp) (hcm : cp ≤ maxLen) :
  Calls Tryz.prog 3 #[.slice A l.length cp, .int .i64 f0, .int .i64 n0, .int .i64 s0] w fun e w' => e = .returned (.bool true) ∧ Below w.heap.size w w' := by
 have HCut1 := Lib.hid (fun W => cut_any f0 0 86400000000 W (by omega) (by omega) (by omega) (by omega))
 have HCut2 := Lib.hid (fun W => cut_any n0 1 21600000 W (by omega) (by omega) (by omega) (by omega))
 have HCut3 := Lib.hid (fun W => cut_any s0 10800000 86400000 W (by omega) (by omega) (by omega) (by omega))
 have q1 := Int.emod_nonneg f0 (show (86400000000 : Int) ≠ 0 by omega)
 have q2 := Int.emod_lt_of_pos f0 (show (0 : Int) < 86400000000 by omega)
 have q3 := Int.emod_nonneg n0 (show (21600000 : Int) ≠ 0 by omega)
 have q4 := Int.emod_lt_of_pos n0 (show (0 : Int) < 21600000 by omega)
 have q5 := Int.emod_nonneg s0 (show (86400000 : Int) ≠ 0 by omega)
 have q6 := Int.emod_lt_of_pos s0 (show (0 : Int) < 86400000 by omega)
 obtain ⟨fr, hfr⟩ : ∃ d, d = 0 + f0 % 86400000000 := ⟨_, rfl⟩
 obtain ⟨len, hln⟩ : ∃ d, d = 1 + n0 % 21600000 := ⟨_, rfl⟩
 obtain ⟨st, hst⟩ : ∃ d, d = 10800000 + s0 % 86400000 := ⟨_, rfl⟩
 rw [← hfr] at HCut1
 rw [← hln] at HCut2
 rw [← hst] at HCut3
 have hb1 : 0 ≤ fr ∧ fr ≤ 86400000000 := by omega
 have hb2 : 1 ≤ len ∧ len ≤ 21600000 := by omega
 have hb3 : 10800000 ≤ st ∧ st ≤ 100000000 := by omega
 clear q1 q2 q3 q4 q5 q6 hfr hln hst
 have HSc := Lib.hid (fun a b W (hb : Below w.heap.size w W) h1 h2 h3 h4 => pscore_any l A cp a b W (hv.next hb) (hin.next hb hb.size) hlc hcm h1 h2 h3 h4)
 have HBad := Lib.hid (fun g gn W (hb : Below w.heap.size w W) (h4 : 86400000 < st) => all_bad l A cp g gn fr (fr + 6 * st) len st W (hv.next hb) (hin.next hb hb.size) hlc hcm (by omega) (by omega) (by omega) ⟨by omega, by omega⟩ h4 (by omega))
 have HAl := Lib.hid (fun (h4 : st ≤ 86400000) B g gB An cn vs bs gn W (hb : Below w.heap.size w W) (hrm : Rm1 W B g gB An cn vs bs) (hbs : bs.length ≤ 1000) (hgn : Box W gn 9 #[.string nOne]) => all_any l A cp B g gB An cn vs bs gn fr (fr + 6 * st) len st W (hv.next hb) (hin.next hb hb.size) hlc hcm hrm hbs hgn (by omega) (by omega) (by omega) ⟨by omega, by omega⟩ ⟨by omega, h4⟩ (by omega))
 have HBe := Lib.hid (fun (h4 : st ≤ 86400000) B g gB An cn vs bs gn W (hb : Below w.heap.size w W) (hrm : Rm1 W B g gB An cn vs bs) (hbs : bs.length ≤ 1000) (hgn : Box W gn 9 #[.string nOne]) => best_any l A cp B g gB An cn vs bs gn fr (fr + 6 * st) len st W (hv.next hb) (hin.next hb hb.size) hlc hcm hrm hbs hgn (by omega) (by omega) (by omega) ⟨by omega, by omega⟩ ⟨by omega, h4⟩ (by omega))
 have HMe := Lib.hid (fun g gp W (hb : Below w.heap.size w W) (hg : Box W g 34 #[.int .i64 0, .int .i64 86400000]) (hp : Box W gp 39 (paC (mePa (some ⟨g, 0, none⟩)))) => pscore_any [mePa (some ⟨g, 0, none⟩)] (some ⟨gp, 0, none⟩) 1 86400000 86400005 W (hv.next hb) (mePas_in hg hp) (by simp) (by decide) (by decide) (by decide) (by decide) (by decide))
 unfold PScoreQ at HSc HMe
 unfold AllQ at HAl
 unfold BestQ at HBe
 have hB1 := below_alloc1 w (Obj.cells #[.string nOne] 9)
 have hX := Box.new w 9 #[.string nOne]
 have HNEW := Lib.hid (roomsNew_any (some ⟨w.heap.size, 0, none⟩) 1 [nOne] (w.alloc (Obj.cells #[.string nOne] 9)) (.inr ⟨w.heap.size, 0, rfl, by simp, fun j v hv => by
  rw [Nat.zero_add, hX.cell j, ← hv]; simp [strs]⟩) nOk1 (by decide) (by decide))
 unfold NewQ at HNEW
 have HB1 := Lib.hid hB1
 clear hX hB1 hv hin
 go_enter Tryz.func3, Tryz.ntmps3
 go_wp2_with fail
 refine HNEW.out.mono ?_
 rintro e w1 ⟨g, gB, An, cn, hg, hgB, rfl, hRm, hb⟩
 have HRm := Lib.hid hRm
 have HB2 := Lib.hid (below_then HB1.out hb)
 clear hRm hb HNEW
 go_upto_region 7 with fail
 have HB3 := Lib.hid (below_then HB2.out (below_alloc3 w1 (Obj.cells #[.slice (some ⟨w1.heap.size + 1, 0, none⟩) 1 1, .slice none 0 0, .slice none 0 0, .slice none 0 0, .slice none 0 0, .slice none 0 0, .slice none 0 0, .slice none 0 0] 32) (Obj.cells #[.int .i64 0, .int .i64 86400000] 34) (Obj.cells #[.string ⟨#[109, 101]⟩, .string ⟨#[97]⟩, .int .i64 0, .slice none 0 0, .slice (some ⟨w1.heap.size + 1, 0, none⟩) 1 1, .slice none 0 0, .slice none 0 0, .slice none 0 0, .slice none 0 0, .slice none 0 0, .slice none 0 0, .slice none 0 0, .int .i64 2] 39)))
 have hg3 := (Box.new (w1.alloc (Obj.cells #[.slice (some ⟨w1.heap.size + 1, 0, none⟩) 1 1, .slice none 0 0, .slice none 0 0, .slice none 0 0, .slice none 0 0, .slice none 0 0, .slice none 0 0, .slice none 0 0] 32)) 34 #[.int .i64 0, .int .i64 86400000]).alloc (Obj.cells #[.string ⟨#[109, 101]⟩, .string ⟨#[97]⟩, .int .i64 0, .slice none 0 0, .slice (some ⟨w1.heap.size + 1, 0, none⟩) 1 1, .slice none 0 0, .slice none 0 0, .slice none 0 0, .slice none 0 0, .slice none 0 0, .slice none 0 0, .slice none 0 0, .int .i64 2] 39)
 have hp3 := Box.new ((w1.alloc (Obj.cells #[.slice (some ⟨w1.heap.size + 1, 0, none⟩) 1 1, .slice none 0 0, .slice none 0 0, .slice none 0 0, .slice none 0 0, .slice none 0 0, .slice none 0 0, .slice none 0 0] 32)).alloc (Obj.cells #[.int .i64 0, .int .i64 86400000] 34)) 39 #[.string ⟨#[109, 101]⟩, .string ⟨#[97]⟩, .int .i64 0, .slice none 0 0, .slice (some ⟨w1.heap.size + 1, 0, none⟩) 1 1, .slice none 0 0, .slice none 0 0, .slice none 0 0, .slice none 0 0, .slice none 0 0, .slice none 0 0, .slice none 0 0, .int .i64 2]
 simp only [World.size_alloc] at hg3 hp3
 have HR3 : Hid (Rm1 (((w1.alloc (Obj.cells #[.slice (some ⟨w1.heap.size + 1, 0, none⟩) 1 1, .slice none 0 0, .slice none 0 0, .slice none 0 0, .slice none 0 0, .slice none 0 0, .slice none 0 0, .slice none 0 0] 32)).alloc (Obj.cells #[.int .i64 0, .int .i64 86400000] 34)).alloc (Obj.cells #[.string ⟨#[109, 101]⟩, .string ⟨#[97]⟩, .int .i64 0, .slice none 0 0, .slice (some ⟨w1.heap.size + 1, 0, none⟩) 1 1, .slice none 0 0, .slice none 0 0, .slice none 0 0, .slice none 0 0, .slice none 0 0, .slice none 0 0, .slice none 0 0, .int .i64 2] 39)) (w.alloc (Obj.cells #[.string nOne] 9)).heap.size g gB An cn [.slice none 0 0] []) := Rms.next HRm.out (below_alloc3 w1 _ _ _)
 generalize ((w1.alloc (Obj.cells #[.slice (some ⟨w1.heap.size + 1, 0, none⟩) 1 1, .slice none 0 0, .slice none 0 0, .slice none 0 0, .slice none 0 0, .slice none 0 0, .slice none 0 0, .slice none 0 0] 32)).alloc (Obj.cells #[.int .i64 0, .int .i64 86400000] 34)).alloc (Obj.cells #[.string ⟨#[109, 101]⟩, .string ⟨#[97]⟩, .int .i64 0, .slice none 0 0, .slice (some ⟨w1.heap.size + 1, 0, none⟩) 1 1, .slice none 0 0, .slice none 0 0, .slice none 0 0, .slice none 0 0, .slice none 0 0, .slice none 0 0, .slice none 0 0, .int .i64 2] 39) = w3 at *
 have HM3 := Lib.hid (HMe.out _ _ w3 HB3.out hg3 hp3)
 have hms := me_score (some ⟨w1.heap.size + 1, 0, none⟩) 1 86400000 86400005 (by unfold DayIn; decide) (by decide) (by decide) (by decide)
 rw [if_pos (by decide)] at hms
 rw [hms] at HM3
 have HPo := Lib.hid (mePas_ok (some ⟨w1.heap.size + 1, 0, none⟩))
 generalize w1.heap.size = g1 at *
 clear hg3 hp3 hms HMe HRm HB2 HB1
 generalize (w.alloc (Obj.cells #[.string nOne] 9)).heap.size = B at *
 go_wp2_with fail
 refine HM3.out.mono ?_
 rintro e w4 ⟨n, E, rfl, hE, hn, hb4⟩
 obtain rfl : E = 0 := hE.2 HPo.out
 obtain rfl : n = 2 := hn rfl
 have HB4 := Lib.hid (below_then HB3.out hb4)
 have HR4 := Lib.hid (Rms.next HR3.out hb4)
 clear hE hn hb4 HM3 HPo HB3 HR3
 have ew1 : IntKind.i64.wrap (6 * st) = 6 * st := intFits _ (by omega) (by omega)
 have ew2 : IntKind.i64.wrap (fr + 6 * st) = fr + 6 * st := intFits _ (by omega) (by omega)
 go_upto_region 11 with (go_at_call 10; first | (with_reducible refine (HCut1.out _).mono ?_; rintro e w' ⟨rfl, rfl⟩; clear HCut1) | (with_reducible refine (HCut2.out _).mono ?_; rintro e w' ⟨rfl, rfl⟩; clear HCut2) | (with_reducible refine (HCut3.out _).mono ?_; rintro e w' ⟨rfl, rfl⟩; clear HCut3))
 have HB5 := Lib.hid (below_then HB4.out (below_alloc1 w4 (Obj.cells #[.string nOne] 9)))
 have HR5 : Hid (Rm1 (w4.alloc (Obj.cells #[.string nOne] 9)) B g gB An cn [.slice none 0 0] []) := Rms.next HR4.out (below_alloc1 w4 _)
 have HN5 := Lib.hid (Box.new w4 9 #[.string nOne])
 by_cases hst : st ≤ 86400000
 case neg =>
  have HA5 := Lib.hid (HBad.out g w4.heap.size _ HB5.out (by omega))
  unfold nOne at *
  clear HBad HAl HBe HR4 HB4 HSc
  go_wp2_with fail
  refine HA5.out.mono ?_
  rintro e w6 ⟨E, rfl, hE, hb6⟩
  have HB6 := Lib.hid (below_then HB5.out hb6)
  have t1 : (E != 0) = true := by rw [bne_iff_ne]; exact hE
  clear hE hb6 HA5 HB5 HR5 HN5 hst
  go_wp2_with fail
  go_ret
  exact ⟨rfl, HB6.out⟩
 have HA5 := Lib.hid (HAl.out hst B g gB An cn _ [] w4.heap.size _ HB5.out HR5.out (by simp) HN5.out)
 have HBe5 := Lib.hid (HBe.out hst B g gB An cn [.slice none 0 0] [])
 have HNo : Hid (nOne = ⟨#[111, 110, 101]⟩) := rfl
 clear HBad HAl HBe HR4 HB4 hst
 rw [HNo.out] at HB5 HR5 HN5 HA5
 go_wp2_with fail
 refine HA5.out.mono ?_
 rintro e w6 ⟨v, E, rfl, hE, _, hy, hb6⟩
 have HB6 := Lib.hid (below_then HB5.out hb6)
 have HR6 := Lib.hid (Rms.next HR5.out hb6)
 have HE := Lib.hid hE
 have HY := Lib.hid hy
 clear hE hy hb6 HA5 HB5 HR5 HN5
 by_cases hE0 : E = 0
 case neg =>
  have t1 : (E != 0) = true := by rw [bne_iff_ne]; exact hE0
  clear hE0
  go_wp2_with fail
  go_ret
  exact ⟨rfl, HB6.out⟩
 have HG := Lib.hid (HE.out.1 hE0)
 obtain ⟨N, A', c', rfl, hN, hN2, hrow⟩ := HY.out hE0
 subst hE0
 have HRow := Lib.hid hrow
 have HN := Lib.hid hN
 clear HE HY hN hrow
 have HB7 := Lib.hid (below_then HB6.out (below_alloc1 w6 (Obj.cells #[.string ⟨#[111, 110, 101]⟩] 9)))
 have HA6 := Lib.hid (below_alloc1 w6 (Obj.cells #[.string ⟨#[111, 110, 101]⟩] 9))
 have HBe7 := Lib.hid (HBe5.out w6.heap.size _ HB7.out (Rms.next HR6.out HA6.out) (by simp) (Box.new w6 9 #[.string ⟨#[111, 110, 101]⟩]))
 clear HBe5 HR6 HB6
 obtain ⟨m, hm⟩ : ∃ m, m = (slotsF l [] fr len st N).length := ⟨_, rfl⟩
 rw [← hm]
 have HMl := Lib.hid hm
 clear hm
 go_wp2_with fail
 refine HBe7.out.mono ?_
 rintro e w8 ⟨s, E, rfl, hy, hn, hb8⟩
 have HB8 := Lib.hid (below_then HB7.out hb8)
 have HR8 := Lib.hid ((HRow.out.next HA6.out).next hb8)
 have HY8 : Hid (E = 0 → BestS (slotsF l [] fr len st N) s) := fun q => by
  obtain ⟨_, N', k1, _, k3⟩ := hy q
  rwa [k1.one HN.out] at k3
 have HE8 : Hid (E ≠ 0 → E = 6 ∧ slotsF l [] fr len st N = []) := fun q => by
  rcases hn q with k | ⟨k1, N', k2, k3⟩
  ·exact absurd HG.out k
  ·exact ⟨k1, by rwa [k2.one HN.out] at k3⟩
 clear hy hn hb8 HBe7 HB7 HRow HA6
 obtain ⟨sf, sr, sc⟩ := s
 have HB9 := Lib.hid (below_then HB8.out (below_alloc1 w8 (Obj.cells #[.int .i64 sf, .string sr, .int .i64 sc] 47)))
 have HS9 := Lib.hid (Box.new w8 47 #[.int .i64 sf, .string sr, .int .i64 sc])
 have HR9 := Lib.hid (HR8.out.next (below_alloc1 w8 (Obj.cells #[.int .i64 sf, .string sr, .int .i64 sc] 47)))
 have HSm : Hid (∀ x, x ∈ slotsF l [] fr len st N → 0 ≤ x.fr ∧ x.fr ≤ 200000000000 ∧ x.sc = scoreF l x.fr (x.fr + len)) := fun x hx => by
  obtain ⟨j, h1, _, h3⟩ := (slotsF_mem l [] fr len st N x).1 hx
  have h4 := HN.out.1 j h1
  have h5 := Int.mul_nonneg (show (0 : Int) ≤ (j : Int) by omega) (show (0 : Int) ≤ st by omega)
  rw [h3]
  exact ⟨by show 0 ≤ fr + (j : Int) * st; omega, by show fr + (j : Int) * st ≤ 200000000000; omega, rfl⟩
 have HMono := Lib.hid (slotsF_mono l [] fr len st (by omega) N)
 have hln := slotsF_len l [] fr len st N
 generalize slotsF l [] fr len st N = sl at *
 clear HB8 HR8
 go_upto_region 15 with fail
 generalize w8.alloc (Obj.cells #[.int .i64 sf, .string sr, .int .i64 sc] 47) = w9 at *
 generalize w8.heap.size = gs at *
 by_cases hm0 : m = 0
 ·have t2 : ((m : Int) == 0) = true := by rw [beq_iff_eq]; omega
  have t2' : (m == 0) = true := by rw [beq_iff_eq]; exact hm0
  have hE6 : E = 6 := by
   by_cases q : E = 0
   ·have := (HY8.out q).1
    rw [List.eq_nil_of_length_eq_zero (HMl.out.symm.trans hm0)] at this
    cases this
   ·exact (HE8.out q).1
  subst hE6
  clear hm0
  go_wp2_with fail
  go_ret
  exact ⟨rfl, HB9.out⟩
 have t2 : ((m : Int) == 0) = false := by rw [beq_eq_false_iff_ne]; omega
 have t2' : (m == 0) = false := by rw [beq_eq_false_iff_ne]; exact hm0
 have hE0 : E = 0 := by
  by_cases q : E = 0
  ·exact q
  ·have := (HE8.out q).2
   have h2 := HMl.out
   rw [this] at h2
   exact absurd h2 hm0
 subst hE0
 have HBs := Lib.hid (HY8.out rfl)
 have hm201 : m ≤ 1000 := by have := HMl.out; have h2 := hN2; omega
 clear HY8 HE8 hm0
 go_wp2_with fail
 clear t2 t2'
 go_loopw [18, 19, 20, 90] (fun _ _ _ i wr => ∃ k : Nat, k ≤ m ∧ i = .int .i64 (k : Int) ∧ Hid (Below w9.heap.size w9 wr)) (fun _ _ _ i _ => m - (intOf i).toNat)
 case atStart => exact ⟨0, by omega, rfl, Below.refl _ _⟩
 case round =>
  obtain ⟨k, hk, rfl, hbr⟩ := hrel
  have HBr := Lib.hid (below_then HB9.out hbr.out)
  by_cases hlt : k < m
  case neg =>
   go_wp2_with fail
   go_ret
   exact ⟨rfl, HBr.out⟩
  have hkl : k < sl.length := by have := HMl.out; omega
  obtain ⟨b, o, rfl, hb, hc⟩ := HR9.out.open_ (flat_ne slF_len (by omega) sl (by omega))
  have hc' : ∀ j v, (sl.flatMap slF)[j]? = some v → wr.cell? ⟨b, o + j, none⟩ = some v := fun j v hv => (hbr.out.cell (p := ⟨b, o + j, none⟩) hb).trans (hc j v hv)
  have y0 : wr.cell? ⟨b, o + k * 3, none⟩ = some (.int .i64 (sl.getD k sl0).fr) := flat_cell slF_len sl0 hc' k 0 hkl (by omega) _ rfl
  have y1 : wr.cell? ⟨b, o + k * 3 + 1, none⟩ = some (.string (sl.getD k sl0).rm) := flat_cell slF_len sl0 hc' k 1 hkl (by omega) _ rfl
  have y2 : wr.cell? ⟨b, o + k * 3 + 2, none⟩ = some (.int .i64 (sl.getD k sl0).sc) := flat_cell slF_len sl0 hc' k 2 hkl (by omega) _ rfl
  obtain ⟨m1, m2, m3⟩ := HSm.out _ (getD_sl hkl)
  obtain ⟨b1, b2⟩ := HBs.out.2 k hkl
  have hfe : (sl.getD k sl0).sc = sc → sf ≤ (sl.getD k sl0).fr := fun q => by
   obtain ⟨q', h1, h2⟩ := b2 q
   have := slots_le HMono.out h1 hkl
   rw [h2] at this
   exact this
  have HFe := Lib.hid hfe
  have HM3 := Lib.hid m3
  dsimp only at b1
  generalize sl.getD k sl0 = x at *
  obtain ⟨xf, xr, xc⟩ := x
  dsimp only at m1 m2 HM3 b1 HFe y0 y1 y2
  have hbl : b < wr.heap.size := by have := hbr.out.size; omega
  have hsr := HS9.out.below hbr.out
  have HB10 := Lib.hid (below_then HBr.out (below_alloc1 wr (Obj.cells #[.int .i64 xf, .string xr, .int .i64 xc] 47)))
  have HB11 := Lib.hid (below_then hbr.out (below_alloc1 wr (Obj.cells #[.int .i64 xf, .string xr, .int .i64 xc] 47)))
  have HX10 := Lib.hid (Box.new wr 47 #[.int .i64 xf, .string xr, .int .i64 xc])
  have HS10 := Lib.hid (hsr.alloc (Obj.cells #[.int .i64 xf, .string xr, .int .i64 xc] 47))
  clear hc hc' hfe b2 m3 hsr hbr HBr
  go_upto_region 20 with fail
  clear y0 y1 y2
  generalize wr.alloc (Obj.cells #[.int .i64 xf, .string xr, .int .i64 xc] 47) = w10 at *
  generalize wr.heap.size = gx at *
  obtain ⟨x0, x1, x2⟩ := slcells HX10.out
  obtain ⟨s1, s2, s3⟩ := slcells HS10.out
  have hgx := HX10.out.lt
  have hgs := HS10.out.lt
  have t3 : decide (sc < xc) = false := decide_eq_false (by omega)
  have ew3 : IntKind.i64.wrap (xf + len) = xf + len := intFits _ (by omega) (by omega)
  have HSc10 := Lib.hid (HSc.out xf (xf + len) w10 HB10.out (by omega) (by omega) (by omega) (by omega))
  suffices HK : ∀ B1 : Bool, (xc == sc) = B1 → (B1 = true → decide (xf < sf) = false) → _ by
   exact HK _ rfl (fun q => decide_eq_false (by have := HFe.out (by simpa using q); omega))
  intro B1 t4 t5
  cases B1 with
  | true =>
   have t5 := t5 rfl
   go_wp2_with fail
   refine HSc10.out.mono ?_
   rintro e w11 ⟨n, E, rfl, hE, hn, hb11⟩
   obtain rfl : E = 0 := hE.2 HG.out
   obtain rfl : n = xc := (hn rfl).trans HM3.out.symm
   have HB12 := Lib.hid (below_then HB11.out hb11)
   have HX12 := Lib.hid (HX10.out.below hb11)
   clear hE hn hb11 HSc10 HX10 HS10 HB10 HB11 x0 x1 x2 s1 s2 s3 t4 t5
   obtain ⟨x0, x1, x2⟩ := slcells HX12.out
   have hgx2 := HX12.out.lt
   go_wp2_with fail
   go_roundw
   case rel => exact ⟨k + 1, by omega, by go_num, HB12⟩
   case measure => simp [intOf]; omega
  | false =>
   clear t5
   go_wp2_with fail
   refine HSc10.out.mono ?_
   rintro e w11 ⟨n, E, rfl, hE, hn, hb11⟩
   obtain rfl : E = 0 := hE.2 HG.out
   obtain rfl : n = xc := (hn rfl).trans HM3.out.symm
   have HB12 := Lib.hid (below_then HB11.out hb11)
   have HX12 := Lib.hid (HX10.out.below hb11)
   clear hE hn hb11 HSc10 HX10 HS10 HB10 HB11 x0 x1 x2 s1 s2 s3 t4
   obtain ⟨x0, x1, x2⟩ := slcells HX12.out
   have hgx2 := HX12.out.lt
   go_wp2_with fail
   go_roundw
   case rel => exact ⟨k + 1, by omega, by go_num, HB12⟩
   case measure => simp [intOf]; omega
set_option maxRecDepth 100000 in
theorem walk {H : Type} {enc : TypeId × Value → H} {base : Nat} {W : World} (v0 : Value) (d0 : DataW H) (p0 : List MemPlace) (hv0 : Value.okWide Tryz.prog W .any base 22 v0) (h0 : DataW.Trod enc Tryz.prog W 0 (fun _ => true) true 22 v0 d0 p0)
  (a1 : Int) (w1 : (Lit.int .i64 a1).wf = true) (a2 : Int) (w2 : (Lit.int .i64 a2).wf = true) (a3 : Int) (w3 : (Lit.int .i64 a3).wf = true)
  (hL : laidMet Tryz.prog Rows.planBestRow.laid W) (hsh : W.ShapedOpen Tryz.prog) :
  Calls Tryz.prog 3 #[v0, .int .i64 a1, .int .i64 a2, .int .i64 a3] W fun e w' => e = .returned (.bool true) ∧ Below W.heap.size W w' := by
 obtain ⟨A, l, c, rfl, hlc, hcm, hin⟩ := pas_open hv0 h0
 exact core l A c a1 a2 a3 W ⟨sgs_of hL.tail.tail.tail.tail.tail.tail.tail, lvs_of hL.tail.tail.tail.tail.tail.tail, Shp.of hsh⟩ hin hlc hcm
end Go.Proofs.YtabidjmmgnkhkaaGreatDoor.planBest
