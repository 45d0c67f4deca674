/- WTopTerms -/
import Derived.Test.YtoaflcnphijhpaaGreatDoorGTm1
import Derived.Test.YtoaflcnphijhpaaGreatDoorGBack1
import Derived.Test.YtoaflcnphijhpaaGreatDoorGLine1
/- The walk of TopTerms: it returns true at every input; it writes nothing that was there. -/
namespace Go.Proofs.YtoaflcnphijhpaaGreatDoor.topTerms
open Go Go.RowKit
attribute [local go_sem] Oper.semAt_some
set_option linter.unusedVariables false

set_option maxRecDepth 100000 in
set_option maxHeartbeats 4000000 in
theorem core (t : FE) (w0 from0 n0 : Int) (w : World) (hv : Env w) (ht : FeIn w w.heap.size t) :
    Calls Tryz.prog 5 #[feV t, .int .i64 w0, .int .i64 from0, .int .i64 n0] w fun e w' => e = .returned (.bool true) ∧ Below w.heap.size w w' := by
  have HEnv := Lib.hid (fun W (h : Below w.heap.size w W) => hv.next h)
  have HTin := Lib.hid (fun W (h : Below w.heap.size w W) => ht.next h h.size)
  have HMod := Lib.hid (fun W => amod_any w0 7 W (by omega) (by omega))
  have HCut1 := Lib.hid (fun W => acut_any from0 1 700000 W (by omega) (by omega) (by omega) (by omega))
  have HCut2 := Lib.hid (fun W => acut_any n0 0 200 W (by omega) (by omega) (by omega) (by omega))
  have q1 := Int.emod_nonneg from0 (show (700000 : Int) ≠ 0 by omega)
  have q2 := Int.emod_lt_of_pos from0 (show (0 : Int) < 700000 by omega)
  have q3 := Int.emod_nonneg n0 (show (200 : Int) ≠ 0 by omega)
  have q4 := Int.emod_lt_of_pos n0 (show (0 : Int) < 200 by omega)
  have q5 := Int.emod_nonneg w0 (show (7 : Int) ≠ 0 by omega)
  have q6 := Int.emod_lt_of_pos w0 (show (0 : Int) < 7 by omega)
  obtain ⟨dw, hdw⟩ : ∃ d, d = w0 % 7 := ⟨_, rfl⟩
  obtain ⟨fr, hfr⟩ : ∃ d, d = 1 + from0 % 700000 := ⟨_, rfl⟩
  obtain ⟨n, hn⟩ : ∃ q, q = 0 + n0 % 200 := ⟨_, rfl⟩
  rw [← hdw] at HMod
  rw [← hfr] at HCut1
  rw [← hn] at HCut2
  have hd1 : 0 ≤ dw ∧ dw ≤ 6 := by omega
  have hf1 : 1 ≤ fr ∧ fr ≤ 700000 := by omega
  have hn1 : 0 ≤ n ∧ n ≤ 200 := by omega
  clear q1 q2 q3 q4 q5 q6 hdw hfr hn hv ht
  obtain ⟨t0, ht0⟩ : ∃ t0, t0 = t := ⟨_, rfl⟩
  obtain ⟨k, a, b, nm, A, c, ks⟩ := t
  rw [← ht0] at HTin ⊢
  have hft : feV t0 = .agg #[.int .i64 k, .int .i64 a, .int .i64 b, .string nm, .slice A ks.length c] := by rw [ht0]; rfl
  have hff : feF t0 = [.int .i64 k, .int .i64 a, .int .i64 b, .string nm, .slice A ks.length c] := by rw [ht0]; rfl
  have hwk : ∀ X : Option Addr, wkV ⟨[dw], X, 1, t0⟩ = .agg #[.slice X 1 1, .int .i64 k, .int .i64 a, .int .i64 b, .string nm, .slice A ks.length c] := fun A => by rw [ht0]; rfl
  have HFF := Lib.hid (And.intro hff hwk)
  rw [hft]
  have HB := Lib.hid (below_alloc1 w (Obj.cells #[.int .i64 k, .int .i64 a, .int .i64 b, .string nm, .slice A ks.length c] 25))
  have HX := Lib.hid (Box.new w 25 #[.int .i64 k, .int .i64 a, .int .i64 b, .string nm, .slice A ks.length c])
  clear ht0 hft hff hwk
  go_enter Tryz.func5, Tryz.ntmps5
  go_upto_region 1 with fail
  generalize w.alloc (Obj.cells #[.int .i64 k, .int .i64 a, .int .i64 b, .string nm, .slice A ks.length c] 25) = W1 at *
  obtain ⟨g0, hg0⟩ : ∃ g0, g0 = w.heap.size := ⟨_, rfl⟩
  rw [← hg0] at HX ⊢
  have HG := Lib.hid hg0
  clear hg0
  have HB2 := Lib.hid (below_then HB.out (below_alloc1 W1 (Obj.cells #[.int .i64 6] 3)))
  have HX2 := Lib.hid (HX.out.alloc (Obj.cells #[.int .i64 6] 3))
  have HF5 := Lib.hid (wkcount_pos ⟨[6], some ⟨W1.heap.size, 0, none⟩, 1, fe0⟩ 1 8 (W1.alloc (Obj.cells #[.int .i64 6] 3)) (HEnv.out _ HB2.out) (one_in (Box.new W1 3 #[.int .i64 6]) (fe0_in _ _)) six_good ⟨by omega, by omega⟩ ⟨by omega, by omega⟩ (by omega) (by omega))
  have h6 : cntW (WorkD [6] fe0) 1 ((8 : Int) - 1).toNat = 6 := six_cnt
  have hk6 : wkV ⟨[6], some ⟨W1.heap.size, 0, none⟩, 1, fe0⟩ = .agg #[.slice (some ⟨W1.heap.size, 0, none⟩) 1 1, .int .i64 0, .int .i64 0, .int .i64 0, .string ⟨#[]⟩, .slice none 0 0] := rfl
  rw [hk6] at HF5
  replace HF5 : Hid (Calls Tryz.prog 15 #[.agg #[.slice (some ⟨W1.heap.size, 0, none⟩) 1 1, .int .i64 0, .int .i64 0, .int .i64 0, .string ⟨#[]⟩, .slice none 0 0], .int .i64 1, .int .i64 8] (W1.alloc (Obj.cells #[.int .i64 6] 3)) fun e w' => e = .returned (.tuple #[.int .i64 6, .int .i64 0]) ∧ Below (W1.alloc (Obj.cells #[.int .i64 6] 3)).heap.size (W1.alloc (Obj.cells #[.int .i64 6] 3)) w') := by
    have h := HF5.out
    simp only [h6] at h
    exact h
  clear HB HX h6 hk6
  go_wp2_with fail
  refine HF5.out.mono ?_
  rintro e w3 ⟨rfl, hb3⟩
  have HB3 := Lib.hid (below_then HB2.out hb3)
  have HX3 := Lib.hid (HX2.out.below hb3)
  clear hb3 HF5 HB2 HX2
  go_upto_region 5 with (first | (go_at_call 18; refine (HMod.out _).mono ?_; rintro e w' ⟨rfl, rfl⟩; clear HMod) | (go_at_call 19; first | (refine (HCut1.out _).mono ?_; rintro e w' ⟨rfl, rfl⟩; clear HCut1) | (refine (HCut2.out _).mono ?_; rintro e w' ⟨rfl, rfl⟩; clear HCut2)))
  obtain ⟨x0, x1, x2, x3, x4⟩ := fecells (HX3.out.alloc (Obj.cells #[.int .i64 dw] 3))
  go_upto_region 6 with fail
  clear x0 x1 x2 x3 x4
  have HB4 := Lib.hid (below_then HB3.out (below_alloc2 w3 (Obj.cells #[.int .i64 dw] 3) (Obj.cells #[.slice (some ⟨w3.heap.size, 0, none⟩) 1 1, .int .i64 k, .int .i64 a, .int .i64 b, .string nm, .slice A ks.length c] 27)))
  have HX4 := Lib.hid ((HX3.out.alloc (Obj.cells #[.int .i64 dw] 3)).alloc (Obj.cells #[.slice (some ⟨w3.heap.size, 0, none⟩) 1 1, .int .i64 k, .int .i64 a, .int .i64 b, .string nm, .slice A ks.length c] 27))
  have HRow4 := Lib.hid ((Box.new w3 3 #[.int .i64 dw]).alloc (Obj.cells #[.slice (some ⟨w3.heap.size, 0, none⟩) 1 1, .int .i64 k, .int .i64 a, .int .i64 b, .string nm, .slice A ks.length c] 27))
  have hy := Box.new (w3.alloc (Obj.cells #[.int .i64 dw] 3)) 27 #[.slice (some ⟨w3.heap.size, 0, none⟩) 1 1, .int .i64 k, .int .i64 a, .int .i64 b, .string nm, .slice A ks.length c]
  rw [World.size_alloc] at hy
  have HY4 := Lib.hid hy
  clear hy HB3 HX3
  generalize (w3.alloc (Obj.cells #[.int .i64 dw] 3)).alloc (Obj.cells #[.slice (some ⟨w3.heap.size, 0, none⟩) 1 1, .int .i64 k, .int .i64 a, .int .i64 b, .string nm, .slice A ks.length c] 27) = w4 at *
  generalize w3.heap.size = gr at *
  obtain ⟨gy, hgy⟩ : ∃ gy, gy = gr + 1 := ⟨_, rfl⟩
  rw [← hgy] at HY4 ⊢
  clear hgy
  obtain ⟨x0, x1, x2, x3, x4⟩ := fecells HX4.out
  go_upto_region 7 with fail
  clear x0 x1 x2 x3 x4
  have HB5 := Lib.hid (below_then HB4.out (below_alloc2 w4 (Obj.cells #[.int .i64 3, .int .i64 dw, .int .i64 0, .string ⟨#[]⟩, .slice none 0 0, .int .i64 k, .int .i64 a, .int .i64 b, .string nm, .slice A ks.length c] 25) (Obj.cells #[.int .i64 9, .int .i64 0, .int .i64 0, .string ⟨#[]⟩, .slice (some ⟨w4.heap.size, 0, none⟩) 2 2] 25)))
  have HY5 := Lib.hid ((HY4.out.alloc (Obj.cells #[.int .i64 3, .int .i64 dw, .int .i64 0, .string ⟨#[]⟩, .slice none 0 0, .int .i64 k, .int .i64 a, .int .i64 b, .string nm, .slice A ks.length c] 25)).alloc (Obj.cells #[.int .i64 9, .int .i64 0, .int .i64 0, .string ⟨#[]⟩, .slice (some ⟨w4.heap.size, 0, none⟩) 2 2] 25))
  have HRow5 := Lib.hid ((HRow4.out.alloc (Obj.cells #[.int .i64 3, .int .i64 dw, .int .i64 0, .string ⟨#[]⟩, .slice none 0 0, .int .i64 k, .int .i64 a, .int .i64 b, .string nm, .slice A ks.length c] 25)).alloc (Obj.cells #[.int .i64 9, .int .i64 0, .int .i64 0, .string ⟨#[]⟩, .slice (some ⟨w4.heap.size, 0, none⟩) 2 2] 25))
  have HK5 := Lib.hid ((Box.new w4 25 #[.int .i64 3, .int .i64 dw, .int .i64 0, .string ⟨#[]⟩, .slice none 0 0, .int .i64 k, .int .i64 a, .int .i64 b, .string nm, .slice A ks.length c]).alloc (Obj.cells #[.int .i64 9, .int .i64 0, .int .i64 0, .string ⟨#[]⟩, .slice (some ⟨w4.heap.size, 0, none⟩) 2 2] 25))
  have hy := Box.new (w4.alloc (Obj.cells #[.int .i64 3, .int .i64 dw, .int .i64 0, .string ⟨#[]⟩, .slice none 0 0, .int .i64 k, .int .i64 a, .int .i64 b, .string nm, .slice A ks.length c] 25)) 25 #[.int .i64 9, .int .i64 0, .int .i64 0, .string ⟨#[]⟩, .slice (some ⟨w4.heap.size, 0, none⟩) 2 2]
  rw [World.size_alloc] at hy
  have HZ5 := Lib.hid hy
  clear hy HB4 HX4 HY4 HRow4
  generalize (w4.alloc (Obj.cells #[.int .i64 3, .int .i64 dw, .int .i64 0, .string ⟨#[]⟩, .slice none 0 0, .int .i64 k, .int .i64 a, .int .i64 b, .string nm, .slice A ks.length c] 25)).alloc (Obj.cells #[.int .i64 9, .int .i64 0, .int .i64 0, .string ⟨#[]⟩, .slice (some ⟨w4.heap.size, 0, none⟩) 2 2] 25) = w5 at *
  generalize w4.heap.size = gk at *
  obtain ⟨gz, hgz⟩ : ∃ gz, gz = gk + 1 := ⟨_, rfl⟩
  rw [← hgz] at HZ5 ⊢
  clear hgz
  have HIn : Hid (FeIn w5 w5.heap.size (restF dw gk t0)) := restF_in hd1 (HTin.out _ HB5.out) (by rw [HFF.out.1]; exact HK5.out)
  have HWi : Hid (WkIn w5 w5.heap.size ⟨[dw], some ⟨gr, 0, none⟩, 1, t0⟩) := one_in HRow5.out (HTin.out _ HB5.out)
  have HCk := Lib.hid (fcheck_any _ w5 (HEnv.out _ HB5.out) HIn.out)
  have HSc := Lib.hid (fun lo hi W (hW : Below w5.heap.size w5 W) => count_any _ lo hi W (HEnv.out _ (below_then HB5.out hW)) (HIn.out.next hW hW.size))
  have HHa := Lib.hid (fun d W (hW : Below w5.heap.size w5 W) => has_any _ d W (HEnv.out _ (below_then HB5.out hW)) (HIn.out.next hW hW.size))
  have HCp := Lib.hid (fun hg f t (hd1 : DayIn f) (hd2 : DayIn t) h1 h2 W (hW : Below w5.heap.size w5 W) => wkcount_pos ⟨[dw], some ⟨gr, 0, none⟩, 1, t0⟩ f t W (HEnv.out _ (below_then HB5.out hW)) (HWi.out.next hW hW.size) hg hd1 hd2 h1 h2)
  have HAd := Lib.hid (fun hg d q f k l (hd : DayIn d) h0 h5 hfk W (hW : Below w5.heap.size w5 W) => wkadd_fwd ⟨[dw], some ⟨gr, 0, none⟩, 1, t0⟩ d q f k l W (HEnv.out _ (below_then HB5.out hW)) (HWi.out.next hW hW.size) hg hd h0 h5 hfk)
  have HG1 : Hid (FeGood (restF dw gk t0) → WkGood [dw] t0) := fun h => ⟨rest1 dw hd1.1 hd1.2, .inr (restF_good h)⟩
  have HG2 : Hid (FeGood (restF dw gk t0) → ∀ d, DayIn d → (WorkD [dw] t0 d ↔ ¬ memF (restF dw gk t0) d)) := fun h d hd => work_rest (restF_good h) d hd
  have hfz : feV (restF dw gk t0) = .agg #[.int .i64 9, .int .i64 0, .int .i64 0, .string ⟨#[]⟩, .slice (some ⟨gk, 0, none⟩) 2 2] := rfl
  rw [hfz] at HCk HSc HHa
  rw [HFF.out.2] at HCp HAd
  generalize restF dw gk t0 = Rf at *
  obtain ⟨P, hP⟩ : ∃ P : Int → Prop, P = WorkD [dw] t0 := ⟨_, rfl⟩
  have HPd : Hid (∀ d, P d → DayIn d) := fun d h => by rw [hP] at h; exact h.1
  simp only [← hP] at HCp HAd
  rw [← hP] at HG2
  unfold FCheckQ at HCk
  unfold CountQ at HSc
  unfold HasQ at HHa
  unfold AddQ at HAd
  clear hP HIn HWi HEnv HTin HFF hfz HK5 HRow5
  obtain ⟨z0, z1, z2, z3, z4⟩ := fecells HZ5.out
  go_wp2_with fail
  refine HCk.out.mono ?_
  rintro e w6 ⟨E, rfl, hE, hb6⟩
  have HB6 := Lib.hid (below_then HB5.out hb6)
  have HC6 := Lib.hid hb6
  have HY6 := Lib.hid (HY5.out.below hb6)
  have HZ6 := Lib.hid (HZ5.out.below hb6)
  have HE := Lib.hid hE
  clear hb6 hE HB5 HY5 HZ5 HCk z0 z1 z2 z3 z4
  by_cases hE0 : E = 0
  case neg =>
    have t3 : (E != 0) = true := by rw [bne_iff_ne]; exact hE0
    clear hE0 HE
    go_wp2_with fail
    go_ret
    exact ⟨rfl, HB6.out⟩
  subst hE0
  have HGd := Lib.hid (HE.out.1 rfl)
  replace HG1 := Lib.hid (HG1.out HGd.out)
  replace HG2 := Lib.hid (HG2.out HGd.out)
  replace HCp := Lib.hid (fun f t h1 h2 h3 h4 => HCp.out HG1.out f t h1 h2 h3 h4)
  replace HAd := Lib.hid (fun d q f k l h1 h2 h3 h4 => HAd.out HG1.out d q f k l h1 h2 h3 h4)
  clear HE HG1
  have ew1 : IntKind.i64.wrap (fr + n) = fr + n := intFits _ (by omega) (by omega)
  have ew2 : IntKind.i64.wrap (fr + n + 1) = fr + n + 1 := intFits _ (by omega) (by omega)
  have ew3 : IntKind.i64.wrap (n + 1) = n + 1 := intFits _ (by omega) (by omega)
  have HC1 := Lib.hid (HSc.out fr (fr + n) w6 HC6.out)
  have HBg1 : Hid (BetGood Rf fr (fr + n)) := ⟨HGd.out, ⟨by omega, by omega⟩, ⟨by omega, by omega⟩, by omega, by omega⟩
  have hsum := days_count (P := P) (t := Rf) (a := fr) (fr + n - fr + 1).toNat (fun d h1 h2 => HG2.out d ⟨by omega, by omega⟩)
  have e1 : (fr + n + 1 - fr).toNat = (fr + n - fr + 1).toNat := by omega
  obtain ⟨F1, hF1⟩ : ∃ F1, F1 = (daysF Rf fr (fr + n - fr + 1).toNat).length := ⟨_, rfl⟩
  obtain ⟨C1, hC1⟩ : ∃ C1, C1 = cntW P fr (fr + n - fr + 1).toNat := ⟨_, rfl⟩
  rw [← hF1, ← hC1] at hsum
  rw [← hF1] at HC1
  have HW1 := Lib.hid (HCp.out fr (fr + n + 1) ⟨by omega, by omega⟩ ⟨by omega, by omega⟩ (by omega) (by omega))
  rw [e1, ← hC1] at HW1
  have hs2 : (C1 : Int) = n + 1 - (F1 : Int) := by omega
  have HS2 := Lib.hid hs2
  have ew4 : IntKind.i64.wrap (n + 1 - (F1 : Int)) = n + 1 - (F1 : Int) := intFits _ (by omega) (by omega)
  have t4 : ((C1 : Int) != n + 1 - (F1 : Int)) = false := by rw [bne_eq_false_iff_eq]; exact hs2
  clear hF1 hC1 hsum e1 hs2
  obtain ⟨z0, z1, z2, z3, z4⟩ := fecells HZ6.out
  go_wp2_with fail
  refine HC1.out.mono ?_
  rintro e w7 ⟨hb7, hor⟩
  have HB7 := Lib.hid (below_then HB6.out hb7)
  have HC7 := Lib.hid (below_then HC6.out hb7)
  have HY7 := Lib.hid (HY6.out.below hb7)
  have HZ7 := Lib.hid (HZ6.out.below hb7)
  clear hb7 HB6 HC6 HY6 HZ6 HC1 z0 z1 z2 z3 z4
  rcases hor with ⟨_, _, _, hno⟩ | ⟨rfl, _⟩
  · exact absurd HBg1.out hno
  have HW7 := Lib.hid (HW1.out w7 HC7.out)
  clear HW1
  obtain ⟨y0, y1, y2, y3, y4, y5⟩ := wkcells HY7.out
  go_wp2_with fail
  refine HW7.out.mono ?_
  rintro e w8 ⟨rfl, hb8⟩
  have HB8 := Lib.hid (below_then HB7.out hb8)
  have HC8 := Lib.hid (below_then HC7.out hb8)
  have HY8 := Lib.hid (HY7.out.below hb8)
  have HZ8 := Lib.hid (HZ7.out.below hb8)
  clear hb8 HB7 HC7 HY7 HZ7 HW7 y0 y1 y2 y3 y4 y5
  have HA8 := Lib.hid (HAd.out fr 1 (fr + 1) 1 2000 ⟨by omega, by omega⟩ (by omega) (by omega) (.inr ⟨by omega, rfl, rfl, rfl⟩) w8 HC8.out)
  clear HAd HCp
  obtain ⟨y0, y1, y2, y3, y4, y5⟩ := wkcells HY8.out
  go_wp2_with fail
  refine HA8.out.mono ?_
  rintro e w9 ⟨nx, E, rfl, hb9, hor⟩
  have HB9 := Lib.hid (below_then HB8.out hb9)
  have HC9 := Lib.hid (below_then HC8.out hb9)
  have HZ9 := Lib.hid (HZ8.out.below hb9)
  clear hb9 HB8 HC8 HY8 HZ8 HA8 y0 y1 y2 y3 y4 y5 t4 ew4 ew3 ew2 ew1
  rcases hor with ⟨rfl, hf⟩ | ⟨rfl, _⟩
  case inr =>
    go_wp2_with fail
    go_ret
    exact ⟨rfl, HB9.out⟩
  obtain ⟨i, hi, hnx, hpn, hcn⟩ := fwd_first hf
  have HDn := Lib.hid (HPd.out nx hpn)
  have HNm := Lib.hid ((HG2.out nx (HPd.out nx hpn)).1 hpn)
  have hsum := days_count (P := P) (t := Rf) (a := fr + 1) (i + 1) (fun d h1 h2 => HG2.out d ⟨by omega, by omega⟩)
  rw [cntW_yes (by rw [← hnx]; exact hpn), hcn] at hsum
  have e1 : (nx - (fr + 1) + 1).toNat = i + 1 := by omega
  have HBg2 : Hid (BetGood Rf (fr + 1) nx) := ⟨HGd.out, ⟨by omega, by omega⟩, ⟨by omega, by omega⟩, by omega, by omega⟩
  have HH9 := Lib.hid (HHa.out nx w9 HC9.out)
  have HC2 := Lib.hid (fun W h => HSc.out (fr + 1) nx W h)
  rw [e1] at HC2
  obtain ⟨F2, hF2⟩ : ∃ F2, F2 = (daysF Rf (fr + 1) (i + 1)).length := ⟨_, rfl⟩
  rw [← hF2] at hsum HC2
  have t4 : ((F2 : Int) == nx - fr - 1) = true := by rw [beq_iff_eq]; omega
  have hnb : fr + 1 ≤ nx ∧ nx ≤ fr + 3000 := by omega
  have ew1 : IntKind.i64.wrap (fr + 1) = fr + 1 := intFits _ (by omega) (by omega)
  have ew2 : IntKind.i64.wrap (nx - fr) = nx - fr := intFits _ (by omega) (by omega)
  have ew3 : IntKind.i64.wrap (nx - fr - 1) = nx - fr - 1 := intFits _ (by omega) (by omega)
  clear hf hi hnx hpn hcn hsum e1 hF2 HSc HHa HPd HG2
  obtain ⟨z0, z1, z2, z3, z4⟩ := fecells HZ9.out
  go_wp2_with fail
  refine HH9.out.mono ?_
  rintro e wa ⟨is, E, rfl, hE, hm, _, hba⟩
  have HBa := Lib.hid (below_then HB9.out hba)
  have HCa := Lib.hid (below_then HC9.out hba)
  have HZa := Lib.hid (HZ9.out.below hba)
  have hE0 : E = 0 := hE.2 ⟨HGd.out, HDn.out⟩
  have hi1 : is = false := by
    rw [Bool.eq_false_iff]
    intro h
    exact HNm.out ((hm hE0).1 h)
  subst hE0
  subst hi1
  have HC2a := Lib.hid (HC2.out wa HCa.out)
  clear hba hE hm HB9 HC9 HZ9 HH9 HC2 z0 z1 z2 z3 z4
  obtain ⟨z0, z1, z2, z3, z4⟩ := fecells HZa.out
  go_wp2_with fail
  refine HC2a.out.mono ?_
  rintro e wb ⟨hbb, hor⟩
  have HBb := Lib.hid (below_then HBa.out hbb)
  clear hbb HBa HCa HZa HC2a z0 z1 z2 z3 z4
  rcases hor with ⟨_, _, _, hno⟩ | ⟨rfl, _⟩
  · exact absurd HBg2.out hno
  go_wp2_with fail
  go_ret
  exact ⟨rfl, HBb.out⟩

set_option maxRecDepth 100000 in
theorem walk {H : Type} {enc : TypeId × Value → H} {base : Nat} {W : World} (v0 : Value) (d0 : DataW H) (p0 : List MemPlace) (hv0 : Value.okWide Tryz.prog W .any base 25 v0) (h0 : DataW.Trod enc Tryz.prog W 0 (fun _ => true) true 25 v0 d0 p0)
    (a1 : Int) (w1 : (Lit.int .i64 a1).wf = true) (a2 : Int) (w2 : (Lit.int .i64 a2).wf = true) (a3 : Int) (w3 : (Lit.int .i64 a3).wf = true)
    (hL : laidMet Tryz.prog Rows.topTermsRow.laid W) (hsh : W.ShapedOpen Tryz.prog) :
    Calls Tryz.prog 5 #[v0, .int .i64 a1, .int .i64 a2, .int .i64 a3] W fun e w' => e = .returned (.bool true) ∧ Below W.heap.size W w' := by
  obtain ⟨x, rfl, hx⟩ := fe_open hv0 h0
  exact core x a1 a2 a3 W ⟨sgs_of hL.tail.tail.tail.tail.tail.tail.tail, lvs_of hL.tail.tail.tail.tail.tail.tail, Shp.of hsh⟩ hx
end Go.Proofs.YtoaflcnphijhpaaGreatDoor.topTerms
