/- Contract of lunisolar.begin. -/
import Derived.Test.YtfindembancjdaaMoon2
namespace Go.Proofs.Ytfindembancjdaa
open Go.RowKit
set_option linter.unusedVariables false

/-- a valid rule -/
structure MOk (m : Mo) : Prop where
  nm : NameOk m.nm
  e1 : -4000000 ≤ m.ep
  e2 : m.ep ≤ 4000000
  f1 : FOk m.sn m.sd
  f2 : FOk m.mn m.md
  f3 : FOk m.ln m.ld
  s1 : 0 ≤ m.sn
  s2 : m.sn < m.sd
  m1 : 29 * m.md ≤ m.mn
  m2 : m.mn ≤ 30 * m.md
  l1 : 0 < m.ln
  l2 : m.ln ≤ m.ld
  pt : m.parts ≠ 0
  c1 : 1 ≤ m.cy
  c2 : m.cy ≤ 100
  lp : Inc m.lp 1 m.cy
  al : m.av.length ≤ 3
  av : Inc m.av 0 6

/-- the start, the length of a month and the late time, in parts -/
def Mo.S (m : Mo) : Int := m.sn * (m.parts / m.sd)
def Mo.M (m : Mo) : Int := m.mn * (m.parts / m.md)
def Mo.L (m : Mo) : Int := m.ln * (m.parts / m.ld)
theorem MOk.parts {m : Mo} (h : MOk m) : 1 ≤ m.parts ∧ m.parts ≤ 1000000 ∧ m.sd ∣ m.parts ∧ m.md ∣ m.parts ∧ m.ld ∣ m.parts := by
  have := partsL_facts [m.sd, m.md, m.ld] 1 (by omega) (by omega) (by simp [h.f1.1, h.f2.1, h.f3.1]) h.pt
  refine ⟨this.1, this.2.1, this.2.2.2 m.sd (by simp), this.2.2.2 m.md (by simp), this.2.2.2 m.ld (by simp)⟩
theorem MOk.SML {m : Mo} (h : MOk m) : 0 ≤ m.S ∧ m.S < m.parts ∧ 29 * m.parts ≤ m.M ∧ m.M ≤ 30 * m.parts ∧ 0 < m.L ∧ m.L ≤ m.parts := by
  obtain ⟨p1, p2, p3, p4, p5⟩ := h.parts
  obtain ⟨_, _, _, _, _, a6, a7⟩ := part_facts m.sn m.sd m.parts h.f1.1 p3 p1
  obtain ⟨_, _, b3, b4, _, _, _⟩ := part_facts m.mn m.md m.parts h.f2.1 p4 p1
  obtain ⟨_, _, _, c4, c5, _, _⟩ := part_facts m.ln m.ld m.parts h.f3.1 p5 p1
  refine ⟨a6 h.s1, a7 h.s2, b3 29 h.m1, b4 30 h.m2, c5 h.l1, ?_⟩
  have := c4 1 (by have := h.l2; omega)
  unfold Mo.L; omega
/-- a month's day, before it is put off -/
def Mo.raw (m : Mo) (k : Int) : Int := rawD m.ep m.parts m.S m.M m.L k
def Mo.beg1 (m : Mo) (y k : Int) : Int := if k = 1 then post m.av (m.raw (m.bf y + k - 1)) else m.raw (m.bf y + k - 1)
/-- the day on which a month begins -/
def Mo.beg (m : Mo) (y k : Int) : Int := if m.mon y < k then m.beg1 (y + 1) 1 else m.beg1 y k
theorem MOk.mon {m : Mo} (h : MOk m) (y : Int) : 12 ≤ m.mon y ∧ m.mon y ≤ 13 := Bf_step h.lp h.c1 y
theorem MOk.bf {m : Mo} (h : MOk m) (y : Int) (h1 : -20000 ≤ y) (h2 : y ≤ 20000) : -3000000 ≤ m.bf y ∧ m.bf y ≤ 3000000 := by
  have := Bf_bound h.lp h.c1 h.c2 y h1 h2
  exact ⟨this.1, this.2.1⟩
theorem MOk.raw {m : Mo} (h : MOk m) (k : Int) : 29 ≤ m.raw (k + 1) - m.raw k ∧ m.raw (k + 1) - m.raw k ≤ 30 := by
  obtain ⟨p1, p2, _⟩ := h.parts
  obtain ⟨s1, s2, s3, s4, s5, s6⟩ := h.SML
  exact rawD_step m.ep m.parts m.S m.M m.L k (by omega) s5 s6 s3 s4
theorem mul_in (K M a b : Int) (hK1 : -a ≤ K) (hK2 : K ≤ a) (hM1 : 0 ≤ M) (hM2 : M ≤ b) (ha : 0 ≤ a) : -(a * b) ≤ K * M ∧ K * M ≤ a * b := by
  have h1 : K * M ≤ a * M := Int.mul_le_mul_of_nonneg_right hK2 hM1
  have h2 : a * M ≤ a * b := Int.mul_le_mul_of_nonneg_left hM2 ha
  have h3 : -a * M ≤ K * M := Int.mul_le_mul_of_nonneg_right hK1 hM1
  rw [Int.neg_mul] at h3
  omega
/-- what the code reckons, and its bounds -/
theorem MOk.at {m : Mo} (h : MOk m) (K : Int) (h1 : -4000000 ≤ K) (h2 : K ≤ 4000000) :
    -8600000000000000 ≤ K * m.mn ∧ K * m.mn ≤ 8600000000000000 ∧ K * m.mn * (m.parts / m.md) = K * m.M ∧ -120000000000000 ≤ K * m.M ∧ K * m.M ≤ 120000000000000 ∧ 1 ≤ m.parts / m.sd ∧ m.parts / m.sd ≤ 1000000 ∧ 1 ≤ m.parts / m.md ∧ m.parts / m.md ≤ 1000000 ∧ 1 ≤ m.parts / m.ld ∧ m.parts / m.ld ≤ 1000000 := by
  obtain ⟨p1, p2, p3, p4, p5⟩ := h.parts
  obtain ⟨s1, s2, s3, s4, s5, s6⟩ := h.SML
  obtain ⟨a1, a2, _⟩ := part_facts m.sn m.sd m.parts h.f1.1 p3 p1
  obtain ⟨b1, b2, _⟩ := part_facts m.mn m.md m.parts h.f2.1 p4 p1
  obtain ⟨c1, c2, _⟩ := part_facts m.ln m.ld m.parts h.f3.1 p5 p1
  have k1 := mul_in K m.mn 4000000 2147483647 h1 h2 (by have := h.m1; have := h.f2.1; omega) h.f2.2.2.2.1 (by omega)
  have k2 := mul_in K m.M 4000000 30000000 h1 h2 (by omega) (by omega) (by omega)
  refine ⟨by omega, by omega, Int.mul_assoc _ _ _, by omega, by omega, a1, by omega, b1, by omega, c1, by omega⟩

set_option maxHeartbeats 4000000 in
set_option maxRecDepth 100000 in
theorem begin_any (m : Mo) (y k : Int) (w : World) (hm : MIn w m) (ok : MOk m) (h1 : -15000 ≤ y) (h2 : y ≤ 15000) (h3 : 1 ≤ k) (h4 : k ≤ 100) :
    Calls Try.prog 43 #[m.val, .int .i64 y, .int .i64 k] w fun e w' => e = .returned (.int .i64 (m.beg y k)) ∧ Below w.heap.size w w' := by
  have hm' := hm.next (below_alloc1 w (Obj.cells m.cells 36))
  have hB := below_alloc1 w (Obj.cells m.cells 36)
  have hx := Box.new w 36 m.cells
  have hmo := ok.mon y
  obtain ⟨R, hR⟩ : ∃ R, R = m.beg y k := ⟨_, rfl⟩
  have H1 : Hid (m.mon y < k → R = m.beg1 (y + 1) 1) := fun h => by rw [hR]; unfold Mo.beg; rw [if_pos h]
  have H2 : Hid (¬ m.mon y < k → R = m.beg1 y k) := fun h => by rw [hR]; unfold Mo.beg; rw [if_neg h]
  rw [← hR]
  clear hR
  have OK := Lib.hid ok
  go_enter Try.func43, Try.ntmps43
  go_wp2_with fail
  generalize w.alloc (Obj.cells m.cells 36) = W0 at *
  obtain ⟨g, hg⟩ : ∃ g, g = w.heap.size := ⟨_, rfl⟩
  rw [← hg] at hx
  rw [← hg]
  have HG := Lib.hid hg
  clear hg
  refine (months_any m y _ hm' ok.c1 ok.c2 ok.lp (by omega) (by omega)).mono ?_
  rintro e w1 ⟨rfl, hb1⟩
  replace hx := hx.below hb1
  replace hm' := hm'.next hb1
  replace hB := below_then hB hb1
  clear hb1 hm ok
  have HX := Lib.hid hx
  have HM := Lib.hid hm'
  have HB := Lib.hid hB
  clear hx hm' hB
  generalize m.mon y = n at *
  go_upto_if 14 with fail
  go_cut [1, 2] (fun s1 s2 wx => ∃ y' k' : Int, -15000 ≤ y' ∧ y' ≤ 15001 ∧ 1 ≤ k' ∧ k' ≤ 13 ∧ Hid (R = m.beg1 y' k') ∧ s1 = .int .i64 y' ∧ s2 = .int .i64 k' ∧ wx = w1)
  case first =>
    by_cases hc : n < k
    · have t1 : decide (n < k) = true := decide_eq_true hc
      go_wp2_with fail
      go_meet
      exact ⟨y + 1, 1, by omega, by omega, by omega, by omega, H1.out hc, rfl, rfl, rfl⟩
    · have t1 : decide (n < k) = false := decide_eq_false hc
      go_wp2_with fail
      go_meet
      exact ⟨y, k, by omega, by omega, by omega, by omega, H2.out hc, rfl, rfl, rfl⟩
  case rest =>
    obtain ⟨y', k', g1, g2, g3, g4, HR, rfl, rfl, hw⟩ := hcut
    subst hw
    clear H1 H2 hmo h1 h2 h3 h4
    obtain ⟨x0, x1, x2, x3, x4, x5, x6, x7, x8, x9, x10⟩ := mcells HX.out
    go_wp2_with fail
    refine (parts_any m _ OK.out.f1.1 OK.out.f1.2.1 OK.out.f2.1 OK.out.f2.2.1 OK.out.f3.1 OK.out.f3.2.1).mono ?_
    rintro e W1 ⟨rfl, hb2⟩
    clear x0 x1 x2 x3 x4 x5 x6 x7 x8 x9 x10
    have hx := HX.out.below hb2
    have HM1 := Lib.hid (HM.out.next hb2)
    have HB1 := Lib.hid (below_then HB.out hb2)
    clear HX HM HB hb2
    have hbf := OK.out.bf y' (by omega) (by omega)
    have hat := OK.out.at (m.bf y' + k' - 1) (by omega) (by omega)
    have hsml := OK.out.SML
    have hpp := OK.out.parts
    have hd1 := OK.out.f1.1
    have hd2 := OK.out.f2.1
    have hd3 := OK.out.f3.1
    have hep := OK.out.e1
    have hep2 := OK.out.e2
    have HD : Hid (m.beg1 y' k' = if k' = 1 then post m.av (rawD m.ep m.parts m.S m.M m.L (m.bf y' + k' - 1)) else rawD m.ep m.parts m.S m.M m.L (m.bf y' + k' - 1)) := rfl
    have DS : Hid (m.S = m.sn * (m.parts / m.sd)) := rfl
    have DL : Hid (m.L = m.ln * (m.parts / m.ld)) := rfl
    have hal := OK.out.al
    obtain ⟨a1, a2, a3, a4, a5, a6, a7, a8, a9, a10, a11⟩ := hat
    obtain ⟨p1, p2, _⟩ := hpp
    obtain ⟨s1, s2, s3, s4, s5, s6⟩ := hsml
    have HC : ∀ W, (Below W1.heap.size W1 W ∧ W.cell? ⟨g, 0, none⟩ = some (.string m.nm) ∧ W.cell? ⟨g, 1, none⟩ = some (.int .i64 m.ep) ∧ W.cell? ⟨g, 2, none⟩ = some (.int .i64 m.sn) ∧ W.cell? ⟨g, 3, none⟩ = some (.int .i64 m.sd) ∧ W.cell? ⟨g, 4, none⟩ = some (.int .i64 m.mn) ∧ W.cell? ⟨g, 5, none⟩ = some (.int .i64 m.md) ∧ W.cell? ⟨g, 6, none⟩ = some (.int .i64 m.ln) ∧ W.cell? ⟨g, 7, none⟩ = some (.int .i64 m.ld) ∧ W.cell? ⟨g, 8, none⟩ = some (.int .i64 m.cy) ∧ W.cell? ⟨g, 9, none⟩ = some (.slice m.A1 m.lp.length m.c1) ∧ W.cell? ⟨g, 10, none⟩ = some (.slice m.A2 m.av.length m.c2)) → Calls Try.prog 80 #[m.val, .int .i64 y'] W fun e w' => e = .returned (.int .i64 (m.bf y')) ∧ (Below W1.heap.size W1 w' ∧ w'.cell? ⟨g, 0, none⟩ = some (.string m.nm) ∧ w'.cell? ⟨g, 1, none⟩ = some (.int .i64 m.ep) ∧ w'.cell? ⟨g, 2, none⟩ = some (.int .i64 m.sn) ∧ w'.cell? ⟨g, 3, none⟩ = some (.int .i64 m.sd) ∧ w'.cell? ⟨g, 4, none⟩ = some (.int .i64 m.mn) ∧ w'.cell? ⟨g, 5, none⟩ = some (.int .i64 m.md) ∧ w'.cell? ⟨g, 6, none⟩ = some (.int .i64 m.ln) ∧ w'.cell? ⟨g, 7, none⟩ = some (.int .i64 m.ld) ∧ w'.cell? ⟨g, 8, none⟩ = some (.int .i64 m.cy) ∧ w'.cell? ⟨g, 9, none⟩ = some (.slice m.A1 m.lp.length m.c1) ∧ w'.cell? ⟨g, 10, none⟩ = some (.slice m.A2 m.av.length m.c2)) :=
      calls_S (W0 := W1) (fun w' hb => ⟨hb, mcells (hx.below hb)⟩) (fun w' h => h.1) (fun W hb => before_any m y' W (HM1.out.next hb) OK.out.c1 OK.out.c2 OK.out.lp (by omega) (by omega))
    have HC' := Lib.hid HC
    have hS0 : Below W1.heap.size W1 W1.drew ∧ W1.drew.cell? ⟨g, 0, none⟩ = some (.string m.nm) ∧ W1.drew.cell? ⟨g, 1, none⟩ = some (.int .i64 m.ep) ∧ W1.drew.cell? ⟨g, 2, none⟩ = some (.int .i64 m.sn) ∧ W1.drew.cell? ⟨g, 3, none⟩ = some (.int .i64 m.sd) ∧ W1.drew.cell? ⟨g, 4, none⟩ = some (.int .i64 m.mn) ∧ W1.drew.cell? ⟨g, 5, none⟩ = some (.int .i64 m.md) ∧ W1.drew.cell? ⟨g, 6, none⟩ = some (.int .i64 m.ln) ∧ W1.drew.cell? ⟨g, 7, none⟩ = some (.int .i64 m.ld) ∧ W1.drew.cell? ⟨g, 8, none⟩ = some (.int .i64 m.cy) ∧ W1.drew.cell? ⟨g, 9, none⟩ = some (.slice m.A1 m.lp.length m.c1) ∧ W1.drew.cell? ⟨g, 10, none⟩ = some (.slice m.A2 m.av.length m.c2) := ⟨below_drew (Below.refl _ _) 1, mcells hx⟩
    have HX1 := Lib.hid hx
    have HAv := Lib.hid (fun d W hb g1 g2 => avoided_any m d W (HM1.out.next hb) hal g1 g2)
    clear HC hx OK HM1
    have A3 := Lib.hid a3
    clear a3
    generalize m.parts = P at *
    generalize m.S = S at *
    generalize m.M = M at *
    generalize m.L = L at *
    generalize hB : m.bf y' = B at *
    have HBy := Lib.hid hB
    clear hB
    have DS1 : IntKind.i64.wrap (m.sn * (P / m.sd)) = S := by rw [← DS.out]; exact intFits _ (by omega) (by omega)
    have DL1 : IntKind.i64.wrap (m.ln * (P / m.ld)) = L := by rw [← DL.out]; exact intFits _ (by omega) (by omega)
    have DM1 : IntKind.i64.wrap ((B + k' - 1) * m.mn * (P / m.md)) = (B + k' - 1) * M := by rw [A3.out]; exact intFits _ (by omega) (by omega)
    have w1 : IntKind.i64.wrap (P / m.sd) = P / m.sd := intFits _ (by omega) (by omega)
    have w2 : IntKind.i64.wrap (P / m.md) = P / m.md := intFits _ (by omega) (by omega)
    have w4 : IntKind.i64.wrap (B + k') = B + k' := intFits _ (by omega) (by omega)
    have w5 : IntKind.i64.wrap (B + k' - 1) = B + k' - 1 := intFits _ (by omega) (by omega)
    have w6 : IntKind.i64.wrap ((B + k' - 1) * m.mn) = (B + k' - 1) * m.mn := intFits _ (by omega) (by omega)
    have w7 : IntKind.i64.wrap (S + (B + k' - 1) * M) = S + (B + k' - 1) * M := intFits _ (by omega) (by omega)
    have n1 : ¬ m.sd = 0 := by omega
    have n2 : ¬ m.md = 0 := by omega
    have n3 : ¬ m.ld = 0 := by omega
    have q1 : P.tdiv m.sd = P / m.sd := Int.tdiv_eq_ediv_of_nonneg (by omega)
    have q2 : P.tdiv m.md = P / m.md := Int.tdiv_eq_ediv_of_nonneg (by omega)
    have q3 : P.tdiv m.ld = P / m.ld := Int.tdiv_eq_ediv_of_nonneg (by omega)
    go_wp2_with fail
    go_region_held3 (fun W => Below W1.heap.size W1 W ∧ W.cell? ⟨g, 0, none⟩ = some (.string m.nm) ∧ W.cell? ⟨g, 1, none⟩ = some (.int .i64 m.ep) ∧ W.cell? ⟨g, 2, none⟩ = some (.int .i64 m.sn) ∧ W.cell? ⟨g, 3, none⟩ = some (.int .i64 m.sd) ∧ W.cell? ⟨g, 4, none⟩ = some (.int .i64 m.mn) ∧ W.cell? ⟨g, 5, none⟩ = some (.int .i64 m.md) ∧ W.cell? ⟨g, 6, none⟩ = some (.int .i64 m.ln) ∧ W.cell? ⟨g, 7, none⟩ = some (.int .i64 m.ld) ∧ W.cell? ⟨g, 8, none⟩ = some (.int .i64 m.cy) ∧ W.cell? ⟨g, 9, none⟩ = some (.slice m.A1 m.lp.length m.c1) ∧ W.cell? ⟨g, 10, none⟩ = some (.slice m.A2 m.av.length m.c2)) (assumption)
      (first | (go_at_call 80; ((with_reducible refine (HC'.out _ (by assumption)).mono ?_)); rintro e w' ⟨rfl, hs'⟩))
    obtain ⟨hbw, x0, x1, x2, x3, x4, x5, x6, x7, x8, x9, x10⟩ := hs'
    have hT1 : -200000000000000 ≤ S + (B + k' - 1) * M := by omega
    have hT2 : S + (B + k' - 1) * M ≤ 200000000000000 := by omega
    clear w1 w2 w4 w5 w6 w7 DM1 DS1 q1 q2 a1 a2 a4 a5 a6 a7 a8 a9 hS0 x0 x2 x3 x4 x5 x8 x9 x10
    have HRD : Hid (rawD m.ep P S M L (B + k' - 1) = m.ep + (S + (B + k' - 1) * M) / P + (if L ≤ (S + (B + k' - 1) * M) % P then 1 else 0)) := rfl
    generalize rawD m.ep P S M L (B + k' - 1) = D at *
    generalize S + (B + k' - 1) * M = T at *
    have hq1 : -200000000000000 ≤ T / P := by
      rw [Int.le_ediv_iff_mul_le (by omega)]
      have := Int.mul_le_mul_of_nonneg_left p1 (show (0 : Int) ≤ 200000000000000 by omega)
      omega
    have hq2 : T / P ≤ 200000000000000 := by
      have : T / P < 200000000000001 := by
        rw [Int.ediv_lt_iff_lt_mul (by omega)]
        have := Int.mul_le_mul_of_nonneg_left p1 (show (0 : Int) ≤ 200000000000001 by omega)
        omega
      omega
    have e5 : IntKind.i64.wrap (m.ep + T / P) = m.ep + T / P := intFits _ (by omega) (by omega)
    have HBw := Lib.hid hbw
    clear hbw
    go_wp2_with fail
    go_quiet ((go_at_call 81; exact Calls.quiet_of (down_pos _ _ _ (by omega) (by omega) (by omega) (by omega))))
    replace x6 : (w'.drewN nq).cell? ⟨g, 6, none⟩ = some (.int .i64 m.ln) := x6
    replace x7 : (w'.drewN nq).cell? ⟨g, 7, none⟩ = some (.int .i64 m.ld) := x7
    have HBw2 : Hid (Below W1.heap.size W1 (w'.drewN nq)) := below_drew HBw.out nq
    clear x1 HBw e5
    generalize w'.drewN nq = W2 at *
    go_wp2_with fail
    go_quiet ((go_at_call 82; exact Calls.quiet_of (mod_pos _ _ _ (by omega) (by omega) (by omega) (by omega))))
    have HBw : Hid (Below W1.heap.size W1 (W2.drewN nq)) := below_drew HBw2.out nq
    clear x6 x7 HBw2 DL1 q3
    generalize W2.drewN nq = W3 at *
    go_upto_if 63 with fail
    go_cut [9] (fun s9 wx => s9 = .int .i64 D ∧ wx = W3)
    case first =>
      by_cases hc : L ≤ T % P
      · have t1 : decide (L ≤ T % P) = true := decide_eq_true hc
        rw [if_pos hc] at HRD
        go_wp2_with fail
        go_meet
        exact ⟨by rw [HRD.out], rfl⟩
      · have t1 : decide (L ≤ T % P) = false := decide_eq_false hc
        rw [if_neg hc] at HRD
        go_wp2_with fail
        go_meet
        exact ⟨by rw [HRD.out, Int.add_zero], rfl⟩
    case rest =>
      obtain ⟨rfl, hw⟩ := hcut
      subst hw
      have hD1 : -300000000000000 ≤ D := by rw [HRD.out]; split <;> omega
      have hD2 : D ≤ 300000000000000 := by rw [HRD.out]; split <;> omega
      have hb := HBw.out
      have HX2 := Lib.hid (HX1.out.below hb)
      have HB2 := Lib.hid (below_then HB1.out hb)
      have HAv2 := Lib.hid (fun d W (hb' : Below wc.heap.size wc W) => HAv.out d W (below_then hb hb'))
      clear hb HX1 HB1 HAv HBw HRD
      by_cases hk : k' = 1
      · subst hk
        have t1 : ((1 : Int) == 1) = true := rfl
        have F4 := Lib.hid (avB_four m.av hal D)
        have PA := Lib.hid (post_at m.av D)
        rw [if_pos rfl] at HD
        go_wp2_with fail
        go_loopw [9] (fun s wr => ∃ j : Nat, j ≤ 3 ∧ s = .int .i64 (D + (j : Int)) ∧ Hid (∀ i : Nat, i < j → avB m.av (D + (i : Int)) = true) ∧ Hid (Below wc.heap.size wc wr)) (fun s _ => (D + 4 - intOf s).toNat)
        case atStart => exact ⟨0, by omega, by simp, fun i hi => by omega, Below.refl _ _⟩
        case round =>
          obtain ⟨j, hj, rfl, hav, hb⟩ := hrel
          obtain ⟨x0, x1, x2, x3, x4, x5, x6, x7, x8, x9, x10⟩ := mcells (HX2.out.below hb.out)
          cases hv : avB m.av (D + (j : Int))
          · have HV := Lib.hid hv
            clear hv
            go_wp2_with (go_at_call 83; refine (HAv2.out (D + (j : Int)) _ hb.out (by omega) (by omega)).mono ?_; rw [HV.out]; rintro e w' ⟨rfl, hb'⟩)
            go_ret
            exact ⟨by rw [HR.out, HD.out, PA.out j hj hav.out HV.out]; rfl, below_then (below_then HB2.out hb.out) hb'⟩
          · have HV := Lib.hid hv
            clear hv
            have hj3 : j < 3 := by
              rcases Nat.lt_or_ge j 3 with h | h
              · exact h
              · exfalso
                have : j = 3 := by omega
                subst this
                have a0 := hav.out 0 (by omega)
                have a1 := hav.out 1 (by omega)
                have a2 := hav.out 2 (by omega)
                have a3 := HV.out
                simp at a0 a1 a2 a3
                exact F4.out ⟨a0, a1, a2, a3⟩
            go_wp2_with (go_at_call 83; refine (HAv2.out (D + (j : Int)) _ hb.out (by omega) (by omega)).mono ?_; rw [HV.out]; rintro e w' ⟨rfl, hb'⟩)
            go_roundw
            case rel => exact ⟨j + 1, by omega, by go_num, fun i hi => (by
              by_cases h : i = j
              · subst h; exact HV.out
              · exact hav.out i (by omega)), below_then hb.out hb'⟩
            case measure => simp [intOf]; omega
      · have t1 : (k' == 1) = false := by simpa using hk
        rw [if_neg hk] at HD
        go_wp2_with fail
        refine wp_loop_rounds 1 ?_
        rw [rounds_succ]
        go_wp2_with fail
        go_ret
        exact ⟨by rw [HR.out, HD.out]; rfl, HB2.out⟩
end Go.Proofs.Ytfindembancjdaa
