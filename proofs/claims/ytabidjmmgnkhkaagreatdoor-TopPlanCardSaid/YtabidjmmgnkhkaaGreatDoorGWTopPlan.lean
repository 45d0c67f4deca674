/- WTopPlan -/
import Derived.Test.YtabidjmmgnkhkaaGreatDoorGPl1
import Derived.Test.YtabidjmmgnkhkaaGreatDoorGTopCut
/- The walk of TopPlan: it returns true at every input; it writes nothing that was there. -/
namespace Go.Proofs.YtabidjmmgnkhkaaGreatDoor.topPlan
open Go Go.RowKit
attribute [local go_sem] Oper.semAt_some
set_option linter.unusedVariables false
theorem nOk1 : NmsOk [nOne] := by
 refine ⟨by decide, by decide, fun k hk => ?_, fun k j hj hk => ?_⟩
 ·match k, hk with
  | 0, _ => exact one_nok
 ·match k, hk, j, hj with
  | 0, _, j, hj => omega
theorem four_ok : NOk 0 172800000 5 43200000 4 := ⟨fun j hj => by omega, by omega⟩
theorem four_slots (A : Option Addr) : slotsF [mePa A] [] 0 5 43200000 4 = [⟨0, nOne, 0⟩, ⟨43200000, nOne, 0⟩, ⟨86400000, nOne, 2⟩, ⟨129600000, nOne, 2⟩] := by
 have d0 : DayIn 0 := by unfold DayIn; decide
 have d1 : DayIn 1 := by unfold DayIn; decide
 have e0 := me_score A 0 0 5 d0 (by decide) (by decide) (by decide)
 have e1 := me_score A 0 43200000 43200005 d0 (by decide) (by decide) (by decide)
 have e2 := me_score A 1 86400000 86400005 d1 (by decide) (by decide) (by decide)
 have e3 := me_score A 1 129600000 129600005 d1 (by decide) (by decide) (by decide)
 rw [if_neg (by decide)] at e0 e1
 rw [if_pos (by decide)] at e2 e3
 simp only [slotsF, List.any_nil]
 simp [e0, e1, e2, e3]
theorem me_best {A : Option Addr} {N : Nat} {s : Sl} (hN : NOk 0 172800000 5 43200000 N) (h : BestS (slotsF [mePa A] [] 0 5 43200000 N) s) : s.sc = 2 ∧ s.fr = 86400000 := by
 obtain rfl := hN.one four_ok
 rw [four_slots] at h
 obtain ⟨h1, h2⟩ := h
 have h3 := (h2 2 (by simp)).1
 have h4 := (h2 2 (by simp)).2
 simp at h1 h3 h4
 have hs : s.sc = 2 := by
  rcases h1 with rfl | rfl | rfl | rfl
  ·exact absurd h3 (by decide)
  ·exact absurd h3 (by decide)
  ·rfl
  ·rfl
 obtain ⟨k, hk, e⟩ := h4 hs.symm
 have hk3 : k = 0 ∨ k = 1 ∨ k = 2 := by omega
 refine ⟨hs, ?_⟩
 rcases hk3 with rfl | rfl | rfl
 ·rw [← e] at hs; exact absurd hs (by decide)
 ·rw [← e] at hs; exact absurd hs (by decide)
 ·rw [← e]; rfl
def nUs : ByteArray := ⟨#[117, 115]⟩
theorem us_ok : NameOk nUs := nameB_ok nUs (by decide)
set_option maxRecDepth 100000 in
set_option maxHeartbeats 8000000 in
theorem core (l : List Pa) (A : Option Addr) (cp : Nat) (f0 n0 : Int) (w : World) (hv : Env w) (hin : PasIn w w.heap.size A l) (hlc : l.length ≤ cp) (hcm : cp ≤ maxLen) :
  Calls Tryz.prog 4 #[.slice A l.length cp, .int .i64 f0, .int .i64 n0] w fun e w' => e = .returned (.bool true) ∧ Below w.heap.size w w' := by
 have HCut1 := Lib.hid (fun W => acut_any f0 0 86400000000 W (by omega) (by omega) (by omega) (by omega))
 have HCut2 := Lib.hid (fun W => acut_any n0 1 7200000 W (by omega) (by omega) (by omega) (by omega))
 have q1 := Int.emod_nonneg f0 (show (86400000000 : Int) ≠ 0 by omega)
 have q2 := Int.emod_lt_of_pos f0 (show (0 : Int) < 86400000000 by omega)
 have q3 := Int.emod_nonneg n0 (show (7200000 : Int) ≠ 0 by omega)
 have q4 := Int.emod_lt_of_pos n0 (show (0 : Int) < 7200000 by omega)
 obtain ⟨fr, hfr⟩ : ∃ d, d = 0 + f0 % 86400000000 := ⟨_, rfl⟩
 obtain ⟨len, hln⟩ : ∃ d, d = 1 + n0 % 7200000 := ⟨_, rfl⟩
 rw [← hfr] at HCut1
 rw [← hln] at HCut2
 have hb1 : 0 ≤ fr ∧ fr ≤ 86400000000 := by omega
 have hb2 : 1 ≤ len ∧ len ≤ 7200000 := by omega
 clear q1 q2 q3 q4 hfr hln
 have HSc := Lib.hid (fun a b W (hb : Below w.heap.size w W) h1 h2 h3 h4 => pscore_any l A cp a b W (hv.next hb) (hin.next hb hb.size) hlc hcm h1 h2 h3 h4)
 have HBe := Lib.hid (fun B g gB An cn vs bs gn W (hb : Below w.heap.size w W) (hrm : Rm1 W B g gB An cn vs bs) (hbs : bs.length ≤ 1000) (hgn : Box W gn 9 #[.string nOne]) => best_any l A cp B g gB An cn vs bs gn fr (fr + 108000000) len 10800000 W (hv.next hb) (hin.next hb hb.size) hlc hcm hrm hbs hgn (by omega) (by omega) (by omega) ⟨by omega, by omega⟩ ⟨by decide, by decide⟩ (by omega))
 have HMe := Lib.hid (fun B gr gB An cn vs g gp gn W (hb : Below w.heap.size w W) (hrm : Rm1 W B gr gB An cn vs []) (hgn : Box W gn 9 #[.string nOne]) (hg : Box W g 34 #[.int .i64 0, .int .i64 86400000]) (hp : Box W gp 39 (paC (mePa (some ⟨g, 0, none⟩)))) => best_any [mePa (some ⟨g, 0, none⟩)] (some ⟨gp, 0, none⟩) 1 B gr gB An cn vs [] gn 0 172800000 5 43200000 W (hv.next hb) (mePas_in hg hp) (by simp) (by decide) hrm (by simp) hgn (by decide) (by decide) (by decide) ⟨by decide, by decide⟩ ⟨by decide, by decide⟩ (by decide))
 unfold PScoreQ at HSc
 unfold BestQ at HBe HMe
 have HM2 : Hid (∀ B gr gB An cn vs g gp gn W, Below w.heap.size w W → Rm1 W B gr gB An cn vs [] → Box W gn 9 #[.string nOne] → Box W g 34 #[.int .i64 0, .int .i64 86400000] → Box W gp 39 (paC (mePa (some ⟨g, 0, none⟩))) → Calls Tryz.prog 12 #[.slice (some ⟨gp, 0, none⟩) 1 1, .pointer (some ⟨gr, 0, none⟩), .slice (some ⟨gn, 0, none⟩) 1 1, .int .i64 0, .int .i64 172800000, .int .i64 5, .int .i64 43200000] W fun e w' => ∃ r : ByteArray, e = .returned (.tuple #[.agg #[.int .i64 86400000, .string r, .int .i64 2], .int .i64 0]) ∧ Below W.heap.size W w') := fun B gr gB An cn vs g gp gn W hb hrm hgn hg hp => (HMe.out B gr gB An cn vs g gp gn W hb hrm hgn hg hp).mono fun e w' ⟨s, E, he, hy, hn, hb⟩ => by
  have hE : E = 0 := by
   by_cases q : E = 0
   ·exact q
   ·rcases hn q with k | ⟨_, N, k1, k2⟩
    ·exact absurd (mePas_ok _) k
    ·obtain rfl := k1.one four_ok
     rw [four_slots] at k2
     cases k2
  obtain ⟨_, N, k1, _, k2⟩ := hy hE
  obtain ⟨e1, e2⟩ := me_best k1 k2
  refine ⟨s.rm, ?_, hb⟩
  rw [he, hE, e1, e2]
 have hB1 := below_alloc1 w (Obj.cells #[.string nOne] 9)
 have hX := Box.new w 9 #[.string nOne]
 have HNEW := Lib.hid (roomsNew_any (some ⟨w.heap.size, 0, none⟩) 1 [nOne] (w.alloc (Obj.cells #[.string nOne] 9)) (.inr ⟨w.heap.size, 0, rfl, by simp, fun j v hv => by
  rw [Nat.zero_add, hX.cell j, ← hv]; simp [strs]⟩) nOk1 (by decide) (by decide))
 unfold NewQ at HNEW
 have HB1 := Lib.hid hB1
 clear hX hB1 hv hin HMe
 go_enter Tryz.func4, Tryz.ntmps4
 go_wp2_with fail
 refine HNEW.out.mono ?_
 rintro e w1 ⟨g, gB, An, cn, hg, hgB, rfl, hRm, hb⟩
 have HRm := Lib.hid hRm
 have HB2 := Lib.hid (below_then HB1.out hb)
 have hwB : w.heap.size < (w.alloc (Obj.cells #[.string nOne] 9)).heap.size := by rw [World.size_alloc]; omega
 have hBw1 : (w.alloc (Obj.cells #[.string nOne] 9)).heap.size ≤ w1.heap.size := hb.size
 clear hRm hb HNEW
 go_upto_region 7 with fail
 have HB3 := Lib.hid (below_then HB2.out (below_alloc3 w1 (Obj.cells #[.slice (some ⟨w1.heap.size + 1, 0, none⟩) 1 1, .slice none 0 0, .slice none 0 0, .slice none 0 0, .slice none 0 0, .slice none 0 0, .slice none 0 0, .slice none 0 0] 32) (Obj.cells #[.int .i64 0, .int .i64 86400000] 34) (Obj.cells #[.string ⟨#[109, 101]⟩, .string ⟨#[97]⟩, .int .i64 0, .slice none 0 0, .slice (some ⟨w1.heap.size + 1, 0, none⟩) 1 1, .slice none 0 0, .slice none 0 0, .slice none 0 0, .slice none 0 0, .slice none 0 0, .slice none 0 0, .slice none 0 0, .int .i64 2] 39)))
 have hg3 := (Box.new (w1.alloc (Obj.cells #[.slice (some ⟨w1.heap.size + 1, 0, none⟩) 1 1, .slice none 0 0, .slice none 0 0, .slice none 0 0, .slice none 0 0, .slice none 0 0, .slice none 0 0, .slice none 0 0] 32)) 34 #[.int .i64 0, .int .i64 86400000]).alloc (Obj.cells #[.string ⟨#[109, 101]⟩, .string ⟨#[97]⟩, .int .i64 0, .slice none 0 0, .slice (some ⟨w1.heap.size + 1, 0, none⟩) 1 1, .slice none 0 0, .slice none 0 0, .slice none 0 0, .slice none 0 0, .slice none 0 0, .slice none 0 0, .slice none 0 0, .int .i64 2] 39)
 have hp3 := Box.new ((w1.alloc (Obj.cells #[.slice (some ⟨w1.heap.size + 1, 0, none⟩) 1 1, .slice none 0 0, .slice none 0 0, .slice none 0 0, .slice none 0 0, .slice none 0 0, .slice none 0 0, .slice none 0 0] 32)).alloc (Obj.cells #[.int .i64 0, .int .i64 86400000] 34)) 39 #[.string ⟨#[109, 101]⟩, .string ⟨#[97]⟩, .int .i64 0, .slice none 0 0, .slice (some ⟨w1.heap.size + 1, 0, none⟩) 1 1, .slice none 0 0, .slice none 0 0, .slice none 0 0, .slice none 0 0, .slice none 0 0, .slice none 0 0, .slice none 0 0, .int .i64 2]
 simp only [World.size_alloc] at hg3 hp3
 have HR3 : Hid (Rm1 (((w1.alloc (Obj.cells #[.slice (some ⟨w1.heap.size + 1, 0, none⟩) 1 1, .slice none 0 0, .slice none 0 0, .slice none 0 0, .slice none 0 0, .slice none 0 0, .slice none 0 0, .slice none 0 0] 32)).alloc (Obj.cells #[.int .i64 0, .int .i64 86400000] 34)).alloc (Obj.cells #[.string ⟨#[109, 101]⟩, .string ⟨#[97]⟩, .int .i64 0, .slice none 0 0, .slice (some ⟨w1.heap.size + 1, 0, none⟩) 1 1, .slice none 0 0, .slice none 0 0, .slice none 0 0, .slice none 0 0, .slice none 0 0, .slice none 0 0, .slice none 0 0, .int .i64 2] 39)) (w.alloc (Obj.cells #[.string nOne] 9)).heap.size g gB An cn [.slice none 0 0] []) := Rms.next HRm.out (below_alloc3 w1 _ _ _)
 have hs3 : w1.heap.size ≤ (((w1.alloc (Obj.cells #[.slice (some ⟨w1.heap.size + 1, 0, none⟩) 1 1, .slice none 0 0, .slice none 0 0, .slice none 0 0, .slice none 0 0, .slice none 0 0, .slice none 0 0, .slice none 0 0] 32)).alloc (Obj.cells #[.int .i64 0, .int .i64 86400000] 34)).alloc (Obj.cells #[.string ⟨#[109, 101]⟩, .string ⟨#[97]⟩, .int .i64 0, .slice none 0 0, .slice (some ⟨w1.heap.size + 1, 0, none⟩) 1 1, .slice none 0 0, .slice none 0 0, .slice none 0 0, .slice none 0 0, .slice none 0 0, .slice none 0 0, .slice none 0 0, .int .i64 2] 39)).heap.size := (below_alloc3 w1 _ _ _).size
 generalize ((w1.alloc (Obj.cells #[.slice (some ⟨w1.heap.size + 1, 0, none⟩) 1 1, .slice none 0 0, .slice none 0 0, .slice none 0 0, .slice none 0 0, .slice none 0 0, .slice none 0 0, .slice none 0 0] 32)).alloc (Obj.cells #[.int .i64 0, .int .i64 86400000] 34)).alloc (Obj.cells #[.string ⟨#[109, 101]⟩, .string ⟨#[97]⟩, .int .i64 0, .slice none 0 0, .slice (some ⟨w1.heap.size + 1, 0, none⟩) 1 1, .slice none 0 0, .slice none 0 0, .slice none 0 0, .slice none 0 0, .slice none 0 0, .slice none 0 0, .slice none 0 0, .int .i64 2] 39) = w3 at *
 have HB4 := Lib.hid (below_then HB3.out (below_alloc1 w3 (Obj.cells #[.string nOne] 9)))
 have HR4 : Hid (Rm1 (w3.alloc (Obj.cells #[.string nOne] 9)) (w.alloc (Obj.cells #[.string nOne] 9)).heap.size g gB An cn [.slice none 0 0] []) := Rms.next HR3.out (below_alloc1 w3 _)
 have HM4 := Lib.hid (HM2.out _ g gB An cn [.slice none 0 0] _ _ w3.heap.size _ HB4.out HR4.out (Box.new w3 9 #[.string nOne]) (hg3.alloc _) (hp3.alloc _))
 generalize w1.heap.size = g1 at *
 clear hg3 hp3 HM2 HRm HB2 HB1 HR3 HB3
 generalize (w.alloc (Obj.cells #[.string nOne] 9)).heap.size = B at *
 have HNo : Hid (nOne = ⟨#[111, 110, 101]⟩) := rfl
 have hsz4 : B ≤ (w3.alloc (Obj.cells #[.string nOne] 9)).heap.size := by rw [World.size_alloc]; omega
 rw [HNo.out] at HB4 HR4 HM4 hsz4
 go_wp2_with fail
 refine HM4.out.mono ?_
 rintro e w5 ⟨r5, rfl, hb5⟩
 have HB5 := Lib.hid (below_then (below_then HB4.out hb5) (below_alloc1 w5 (Obj.cells #[.int .i64 86400000, .string r5, .int .i64 2] 47)))
 have HR5 : Hid (Rm1 (w5.alloc (Obj.cells #[.int .i64 86400000, .string r5, .int .i64 2] 47)) B g gB An cn [.slice none 0 0] []) := Rms.next (Rms.next HR4.out hb5) (below_alloc1 w5 _)
 have HS5 := Lib.hid (Box.new w5 47 #[.int .i64 86400000, .string r5, .int .i64 2])
 have hsz5 : B ≤ (w5.alloc (Obj.cells #[.int .i64 86400000, .string r5, .int .i64 2] 47)).heap.size := by rw [World.size_alloc]; have := hb5.size; omega
 clear hb5 HM4 HB4 HR4 hs3
 go_upto_region 8 with fail
 generalize w5.alloc (Obj.cells #[.int .i64 86400000, .string r5, .int .i64 2] 47) = w6 at *
 generalize w5.heap.size = g5 at *
 obtain ⟨s1, s2, s3⟩ := slcells HS5.out
 have hgl5 := HS5.out.lt
 have ew1 : IntKind.i64.wrap (fr + 108000000) = fr + 108000000 := intFits _ (by omega) (by omega)
 go_upto_region 11 with (go_at_call 13; first | (with_reducible refine (HCut1.out _).mono ?_; rintro e w' ⟨rfl, rfl⟩; clear HCut1) | (with_reducible refine (HCut2.out _).mono ?_; rintro e w' ⟨rfl, rfl⟩; clear HCut2))
 clear s1 s2 s3 HS5
 have HB7 := Lib.hid (below_then HB5.out (below_alloc1 w6 (Obj.cells #[.string nOne] 9)))
 have HR7 : Hid (Rm1 (w6.alloc (Obj.cells #[.string nOne] 9)) B g gB An cn [.slice none 0 0] []) := Rms.next HR5.out (below_alloc1 w6 _)
 have HBe7 := Lib.hid (HBe.out B g gB An cn [.slice none 0 0] [] w6.heap.size _ HB7.out HR7.out (by simp) (Box.new w6 9 #[.string nOne]))
 have hsz7 : B ≤ (w6.alloc (Obj.cells #[.string nOne] 9)).heap.size := by rw [World.size_alloc]; omega
 rw [HNo.out] at HB7 HR7 HBe7 hsz7
 clear HB5 HR5
 go_wp2_with fail
 refine HBe7.out.mono ?_
 rintro e w8 ⟨s, E, rfl, hy, _, hb8⟩
 have HY := Lib.hid hy
 obtain ⟨sf, sr, sc⟩ := s
 have HB8 := Lib.hid (below_then (below_then HB7.out hb8) (below_alloc1 w8 (Obj.cells #[.int .i64 sf, .string sr, .int .i64 sc] 47)))
 have HR8 : Hid (Rm1 (w8.alloc (Obj.cells #[.int .i64 sf, .string sr, .int .i64 sc] 47)) B g gB An cn [.slice none 0 0] []) := Rms.next (Rms.next HR7.out hb8) (below_alloc1 w8 _)
 have HS8 := Lib.hid (Box.new w8 47 #[.int .i64 sf, .string sr, .int .i64 sc])
 have hsz8 : B ≤ (w8.alloc (Obj.cells #[.int .i64 sf, .string sr, .int .i64 sc] 47)).heap.size := by rw [World.size_alloc]; have := hb8.size; omega
 have hgB8 : gB < w8.heap.size := by have := (Rms.next HR7.out hb8).bk.lt; exact this
 clear hy hb8 HBe7 HB7 HR7
 go_upto_region 12 with fail
 generalize w8.alloc (Obj.cells #[.int .i64 sf, .string sr, .int .i64 sc] 47) = w9 at *
 generalize w8.heap.size = gs at *
 by_cases hE0 : E = 0
 case neg =>
  have t1 : (E != 0) = true := by rw [bne_iff_ne]; exact hE0
  clear hE0
  go_wp2_with fail
  go_ret
  exact ⟨rfl, HB8.out⟩
 obtain ⟨hG, N, hN, hN2, hBs⟩ := HY.out hE0
 subst hE0
 have HG := Lib.hid hG
 have HN := Lib.hid hN
 have HBs := Lib.hid hBs
 obtain ⟨j0, hj0, _, hj2⟩ := (slotsF_mem l [] fr len 10800000 N _).1 hBs.1
 have hj3 := hN.1 j0 hj0
 have hsf : sf = fr + (j0 : Int) * 10800000 := congrArg Sl.fr hj2
 have hsr : sr = nOne := congrArg Sl.rm hj2
 have hsc : sc = scoreF l sf (sf + len) := by rw [hsf]; exact congrArg Sl.sc hj2
 have hsb : 0 ≤ sf ∧ sf ≤ 100000000000 ∧ sf + len ≤ fr + 108000000 := by omega
 have HSC := Lib.hid hsc
 have HSR := Lib.hid hsr
 have HSF := Lib.hid hsf
 have HMax : Hid (∀ j : Nat, fr + (j : Int) * 10800000 + len ≤ fr + 108000000 → scoreF l (fr + (j : Int) * 10800000) (fr + (j : Int) * 10800000 + len) ≤ sc) := fun j hj => by
  have hjN : j < N := by
   rcases Nat.lt_or_ge j N with q | q
   ·exact q
   ·have := HN.out.2
    omega
  have hmem := (slotsF_mem l [] fr len 10800000 N ⟨fr + (j : Int) * 10800000, nOne, scoreF l (fr + (j : Int) * 10800000) (fr + (j : Int) * 10800000 + len)⟩).2 ⟨j, hjN, rfl, rfl⟩
  obtain ⟨i, hi, e⟩ := List.getElem_of_mem hmem
  have := (HBs.out.2 i hi).1
  rw [List.getD_eq_getElem?_getD, List.getElem?_eq_getElem hi, Option.getD_some, e] at this
  exact this
 clear HY hG hN hBs hj2 hj3 hsf hsr hsc HBs
 obtain ⟨hsb1, hsb2, hsb3⟩ := hsb
 obtain ⟨s1, s2, s3⟩ := slcells HS8.out
 have hgls := HS8.out.lt
 have ew2 : IntKind.i64.wrap (sf + len) = sf + len := intFits _ (by omega) (by omega)
 have HSc9 := Lib.hid (HSc.out sf (sf + len) w9 HB8.out (by omega) (by omega) (by omega) (by omega))
 go_wp2_with fail
 refine HSc9.out.mono ?_
 rintro e w10 ⟨n, E, rfl, hE, hn, hb10⟩
 obtain rfl : E = 0 := hE.2 HG.out
 obtain rfl : n = sc := (hn rfl).trans HSC.out.symm
 have HB10 := Lib.hid (below_then HB8.out hb10)
 have HR10 : Hid (Rm1 w10 B g gB An cn [.slice none 0 0] []) := Rms.next HR8.out hb10
 have HS10 := Lib.hid (HS8.out.below hb10)
 have hsz10 : B ≤ w10.heap.size := by have := hb10.size; omega
 clear hE hn hb10 HSc9 HB8 HR8 HS8 s1 s2 s3 hgls
 obtain ⟨s1, s2, s3⟩ := slcells HS10.out
 have hgls := HS10.out.lt
 have hgs : gs < w10.heap.size := hgls
 go_wp2_with fail
 go_loopw [15, 16, 17] (fun s15 _ _ wr => ∃ j : Nat, j ≤ 11 ∧ s15 = .int .i64 (fr + (j : Int) * 10800000) ∧ Hid (Below w10.heap.size w10 wr)) (fun s15 _ _ _ => (fr + 118800001 - intOf s15).toNat)
 case atStart => exact ⟨0, by omega, by simp, Below.refl _ _⟩
 case round =>
  obtain ⟨j, hj, rfl, hbr⟩ := hrel
  have HBr := Lib.hid (below_then HB10.out hbr.out)
  obtain ⟨t, ht⟩ : ∃ t, t = fr + (j : Int) * 10800000 := ⟨_, rfl⟩
  have htb : fr ≤ t ∧ t ≤ fr + 118800000 := by omega
  have HTj := Lib.hid ht
  rw [← ht]
  clear ht
  have ew3 : IntKind.i64.wrap (t + len) = t + len := intFits _ (by omega) (by omega)
  have ew4 : IntKind.i64.wrap (t + 10800000) = t + 10800000 := intFits _ (by omega) (by omega)
  by_cases hle : t + len ≤ fr + 108000000
  ·have t1 : decide (t + len ≤ fr + 108000000) = true := decide_eq_true hle
   have HS11 := Lib.hid (HSc.out t (t + len) wr HBr.out (by omega) (by omega) (by omega) (by omega))
   have hmx : scoreF l t (t + len) ≤ n := by have := HMax.out j (by rw [← HTj.out]; exact hle); rwa [← HTj.out] at this
   have hj10 : j ≤ 10 := by have := HTj.out; omega
   have HT2 : Hid (t + 10800000 = fr + ((j + 1 : Nat) : Int) * 10800000) := by unfold Hid; rw [HTj.out]; omega
   clear hle
   go_wp2_with fail
   refine HS11.out.mono ?_
   rintro e w11 ⟨m, E, rfl, hE, hm, hb11⟩
   have hm2 : m ≤ n := by rw [hm (hE.2 HG.out)]; exact hmx
   have t2 : decide (n < m) = false := decide_eq_false (by omega)
   have HB12 := Lib.hid (below_then hbr.out hb11)
   clear hE hm hb11 HS11 hbr HBr hmx hm2
   go_wp2_with fail
   go_roundw
   case rel => exact ⟨j + 1, by omega, by rw [HT2.out], HB12⟩
   case measure => simp [intOf]; omega
  have t1 : decide (t + len ≤ fr + 108000000) = false := decide_eq_false hle
  have hS := HS10.out.below hbr.out
  have HSr := Lib.hid hS
  obtain ⟨s1, s2, s3⟩ := slcells hS
  have hgl2 := hS.lt
  have hszr : B ≤ wr.heap.size := by have := hbr.out.size; omega
  have HRr : Hid (Rm1 wr B g gB An cn [.slice none 0 0] []) := Rms.next HR10.out hbr.out
  have hBo : BookOk [] (⟨sr, sf, sf + len, nUs⟩ : Bk) := ⟨us_ok, ⟨⟨by show -345600000000000 ≤ sf; omega, by show sf < 345600086400000; omega⟩, ⟨by show -345600000000000 ≤ sf + len; omega, by show sf + len < 345600086400000; omega⟩, by show sf < sf + len; omega⟩, rfl, by simp⟩
  have HBo := Lib.hid hBo
  have HBk := Lib.hid (book_keep (⟨sr, sf, sf + len, nUs⟩ : Bk) wr HRr.out (by simp) hgB hszr (fun k => by
   match k with
   | 0 => simp
   | k + 1 => simp) (show nUs.size ≤ maxLen by decide) (show -9223372036854775808 ≤ sf by omega) (show sf ≤ 9223372036854775807 by omega) (show -9223372036854775808 ≤ sf + len by omega) (show sf + len ≤ 9223372036854775807 by omega))
  unfold BookK at HBk
  have HBk2 : Hid (Calls Tryz.prog 14 #[.pointer (some ⟨g, 0, none⟩), .agg #[.string sr, .int .i64 sf, .int .i64 (sf + len), .string ⟨#[117, 115]⟩]] wr fun e w' => e = .returned (.int .i64 0) ∧ (∃ vs', Rm1 w' B g gB An cn vs' [⟨sr, sf, sf + len, nUs⟩]) ∧ Below w.heap.size w w' ∧ wr.heap.size ≤ w'.heap.size ∧ Box w' gs 47 #[.int .i64 sf, .string sr, .int .i64 n]) := HBk.out.mono fun e w' ⟨E, vs', ls', he, hb, hr, hbl, hsz, hkp⟩ => by
   rcases hb with ⟨h1, k, hk, _, _, h3⟩ | ⟨h1, _, h3⟩
   ·have hk1 : k < 1 := hk
    obtain rfl : k = 0 := by omega
    rw [h3] at hr
    exact ⟨by rw [he, h1], ⟨vs', hr⟩, HBr.out.trans (hbl.mono (by omega)), hsz, (hkp gs hgl2 (by omega) (fun j hj => by
     have : j < 1 := hj
     obtain rfl : j = 0 := by omega
     simp [Value.ownBlock])).trans HSr.out⟩
   ·exact absurd HBo.out (h3 0 (by simp) (by rw [HSR.out]; exact idxOne))
  clear hS HBk hBo hbr HR10 HS10 HB10
  go_wp2_with fail
  refine HBk2.out.mono ?_
  rintro e w12 ⟨rfl, ⟨vs', hr12⟩, hb12, hsz12, hs12⟩
  have HR12 := Lib.hid hr12
  have HB12 := Lib.hid hb12
  have HS12 := Lib.hid hs12
  clear hr12 hb12 hs12 HBk2 HRr HSr HBr s1 s2 s3
  have HB13 := Lib.hid (below_then HB12.out (below_alloc1 w12 (Obj.cells #[.string nOne] 9)))
  have HR13 : Hid (Rm1 (w12.alloc (Obj.cells #[.string nOne] 9)) B g gB An cn vs' [⟨sr, sf, sf + len, nUs⟩]) := Rms.next HR12.out (below_alloc1 w12 _)
  have HS13 := Lib.hid (HS12.out.alloc (Obj.cells #[.string nOne] 9))
  have HBe13 := Lib.hid (HBe.out B g gB An cn vs' [⟨sr, sf, sf + len, nUs⟩] w12.heap.size _ HB13.out HR13.out (by simp) (Box.new w12 9 #[.string nOne]))
  rw [HNo.out] at HB13 HR13 HS13 HBe13
  clear HR12 HB12 HS12
  go_wp2_with fail
  refine HBe13.out.mono ?_
  rintro e w14 ⟨s2', E, rfl, hy, _, hb14⟩
  have hq : E = 0 → s2'.sc ≤ n ∧ s2'.fr ≠ sf := fun q => by
   obtain ⟨_, N', k1, _, k2⟩ := hy q
   obtain ⟨j, hj, hfree, e⟩ := (slotsF_mem l _ fr len 10800000 N' s2').1 k2.1
   have hjt := k1.1 j hj
   refine ⟨by rw [e]; exact HMax.out j hjt, fun q2 => ?_⟩
   rw [e] at q2
   have q3 : fr + (j : Int) * 10800000 = sf := q2
   rw [q3] at hfree
   have hne : (Bk.over ⟨sr, sf, sf + len, nUs⟩ sf (sf + len)) = false := by simpa using hfree
   unfold Bk.over at hne
   rw [Bool.and_eq_false_iff, decide_eq_false_iff_not] at hne
   rcases hne with h | h
   ·exact h (show sf < sf + len by omega)
   ·exact h (show sf < sf + len by omega)
  have HQ := Lib.hid hq
  obtain ⟨tf, tr, tc⟩ := s2'
  have HB15 := Lib.hid (below_then (below_then HB13.out hb14) (below_alloc1 w14 (Obj.cells #[.int .i64 tf, .string tr, .int .i64 tc] 47)))
  have HS15 := Lib.hid ((HS13.out.below hb14).alloc (Obj.cells #[.int .i64 tf, .string tr, .int .i64 tc] 47))
  have HT15 := Lib.hid (Box.new w14 47 #[.int .i64 tf, .string tr, .int .i64 tc])
  clear hy hb14 hq HBe13 HB13 HR13 HS13
  go_upto_region 26 with fail
  generalize w14.alloc (Obj.cells #[.int .i64 tf, .string tr, .int .i64 tc] 47) = w15 at *
  generalize w14.heap.size = gt at *
  obtain ⟨s1, s2, s3⟩ := slcells HS15.out
  obtain ⟨y1, y2, y3⟩ := slcells HT15.out
  have hl1 := HS15.out.lt
  have hl2 := HT15.out.lt
  by_cases hE0 : E = 0
  ·obtain ⟨k1, k2⟩ := HQ.out hE0
   have t2 : decide (tc ≤ n) = true := decide_eq_true k1
   have t3 : (tf != sf) = true := by rw [bne_iff_ne]; exact k2
   subst hE0
   clear k2
   go_wp2_with fail
   go_ret
   exact ⟨rfl, HB15.out⟩
  ·have t2 : (E != 0) = true := by rw [bne_iff_ne]; exact hE0
   clear hE0
   go_wp2_with fail
   go_ret
   exact ⟨rfl, HB15.out⟩
set_option maxRecDepth 100000 in
theorem walk {H : Type} {enc : TypeId × Value → H} {base : Nat} {W : World} (v0 : Value) (d0 : DataW H) (p0 : List MemPlace) (hv0 : Value.okWide Tryz.prog W .any base 22 v0) (h0 : DataW.Trod enc Tryz.prog W 0 (fun _ => true) true 22 v0 d0 p0)
  (a1 : Int) (w1 : (Lit.int .i64 a1).wf = true) (a2 : Int) (w2 : (Lit.int .i64 a2).wf = true)
  (hL : laidMet Tryz.prog Rows.topPlanRow.laid W) (hsh : W.ShapedOpen Tryz.prog) :
  Calls Tryz.prog 4 #[v0, .int .i64 a1, .int .i64 a2] W fun e w' => e = .returned (.bool true) ∧ Below W.heap.size W w' := by
 obtain ⟨A, l, c, rfl, hlc, hcm, hin⟩ := pas_open hv0 h0
 exact core l A c a1 a2 W ⟨sgs_of hL.tail.tail.tail.tail.tail.tail.tail, lvs_of hL.tail.tail.tail.tail.tail.tail, Shp.of hsh⟩ hin hlc hcm
end Go.Proofs.YtabidjmmgnkhkaaGreatDoor.topPlan
