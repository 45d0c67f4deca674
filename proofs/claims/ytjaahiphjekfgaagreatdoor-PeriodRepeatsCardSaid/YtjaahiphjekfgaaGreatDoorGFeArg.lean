/- PerPl, Per1, Per2, Per3, FeArg, WPeriodRepeats -/
import Derived.Deep.DeepCutAuto
import Derived.Deep.CutBlock
import Derived.Test.YtjaahiphjekfgaaGreatDoorGSmPl
import Derived.Test.YtjaahiphjekfgaaGreatDoorGSv7
import Derived.Test.YtjaahiphjekfgaaGreatDoorGWhole1
import Derived.Test.YtjaahiphjekfgaaGreatDoorGFe1
import Derived.Test.YtjaahiphjekfgaaGreatDoorGCal1
import Derived.Test.YtjaahiphjekfgaaGreatDoorGSv16
import Derived.Test.YtjaahiphjekfgaaGreatDoorGFePlain
import Derived.Test.YtjaahiphjekfgaaGreatDoorGRuleArg
import Derived.Test.YtjaahiphjekfgaaGreatDoorGBack1
import Derived.Test.YtjaahiphjekfgaaGreatDoorGLine1
/- Sets of days repeat, plain. -/
namespace Go.Proofs.YtjaahiphjekfgaaGreatDoor
open Go Go.RowKit
set_option linter.unusedVariables false

theorem Cal.cy_pos {c : Cal} (ok : CalOk c) : 1 ≤ c.cy := ok.hd.2.2.1
theorem Cal.tot_eq (c : Cal) : c.tot = c.cy * sumS c.mo + c.lp.length * (sumL c.mo - sumS c.mo) := by
  unfold Cal.tot
  rw [Int.sub_mul, Int.mul_sub]
  omega
theorem Cal.ny_rep {c : Cal} (ok : CalOk c) (y q : Int) : c.ny (y + c.cy * q) = c.ny y + c.tot * q := by
  have hc := Cal.cy_pos ok
  rw [Cal.tot_eq]
  unfold Cal.ny
  rw [show y + c.cy * q - 1 = (y - 1) + c.cy * q from by omega, Int.add_mul_ediv_left _ _ (by omega), Int.add_mul_emod_self_left, Int.add_mul]
  generalize c.cy * sumS c.mo + (c.lp.length : Int) * (sumL c.mo - sumS c.mo) = T
  rw [Int.mul_comm q T]
  omega
theorem Cal.lpy_rep {c : Cal} (ok : CalOk c) (y q : Int) : c.lpy (y + c.cy * q) = c.lpy y := by
  unfold Cal.lpy Cal.pl
  rw [show y + c.cy * q - 1 = (y - 1) + c.cy * q from by omega, Int.add_mul_emod_self_left]
theorem Cal.mlen_rep {c : Cal} (ok : CalOk c) (y q : Int) (m : Nat) : c.mlen (y + c.cy * q) m = c.mlen y m := by
  unfold Cal.mlen
  rw [Cal.lpy_rep ok]
theorem IsOn.rep {c : Cal} (ok : CalOk c) {y : Int} {m : Nat} {d x : Int} (h : IsOn c y m d x) (q : Int) : IsOn c (y + c.cy * q) m d (x + c.tot * q) := by
  refine ⟨h.m1, h.d0, by rw [Cal.mlen_rep ok]; exact h.d1, ?_⟩
  have hp : c.pre (y + c.cy * q) m = c.pre y m := by unfold Cal.pre; rw [Cal.lpy_rep ok]
  rw [Cal.ny_rep ok, hp, h.on]
  omega
theorem per_rows : catR.all (fun r => decide (r.t.ep - min (sumS r.t.mo) (sumL r.t.mo) * 10001 ≤ -30000 ∧ 1340000 < r.t.ep + min (sumS r.t.mo) (sumL r.t.mo) * 10000)) = true := by decide +kernel
theorem per_far {r : CatRow} (hr : r ∈ catR) : (rowCal r).ny (-10000) ≤ -30000 ∧ 1340000 < (rowCal r).ny 10001 := by
  have ok := rowCal_ok hr
  have hd := of_decide_eq_true (List.all_eq_true.1 per_rows r hr)
  have e : (rowCal r).ep = r.t.ep := rfl
  have h1 := Cal.ny_minD ok (min (sumS r.t.mo) (sumL r.t.mo)) (Int.min_le_left _ _) (Int.min_le_right _ _) 10001
  have h2 := Cal.ny_min ok (min (sumS r.t.mo) (sumL r.t.mo)) (Int.min_le_left _ _) (Int.min_le_right _ _) 10000
  rw [show (1 : Int) - ((10001 : Nat) : Int) = -10000 from rfl, show ((10001 : Nat) : Int) = 10001 from rfl, e] at h1
  rw [show (1 : Int) + ((10000 : Nat) : Int) = 10001 from rfl, show ((10000 : Nat) : Int) = 10000 from rfl, e] at h2
  omega
/-- a date some cycles later -/
theorem DateIn.rep {nm : ByteArray} {y : Int} {m : Nat} {d x len s : Int} (h : DateIn nm y m d x len) (hs : ∀ r ∈ catR, str r.nm = nm → (rowCal r).tot ∣ s) (h1 : -30000 ≤ x + s) (h2 : x + s ≤ 1340000) : ∃ y', DateIn nm y' m d (x + s) len := by
  obtain ⟨r, hr, hn, hy1, hy2, ho, hl⟩ := h
  have ok := rowCal_ok hr
  obtain ⟨q, hq⟩ := hs r hr hn
  have ho' := ho.rep ok q
  rw [← hq] at ho'
  have hy := ho'.year ok
  have hf := per_far hr
  refine ⟨y + (rowCal r).cy * q, r, hr, hn, ?_, ?_, ho', by rw [Cal.mlen_rep ok]; exact hl⟩
  · by_cases h : -10000 ≤ y + (rowCal r).cy * q
    · exact h
    · have := Cal.ny_le ok (show y + (rowCal r).cy * q + 1 ≤ -10000 by omega); omega
  · by_cases h : y + (rowCal r).cy * q ≤ 10000
    · exact h
    · have := Cal.ny_le ok (show 10001 ≤ y + (rowCal r).cy * q by omega); omega
/-- n is a period of every node, and no node names single days -/
inductive PerOk (n : Int) : FE → Prop
  | mk {k a b : Int} {nm : ByteArray} {A : Option Addr} {c : Nat} {ks : List FE} (h5 : k ≠ 5) (h6 : k ≠ 6) (hc : k = 1 ∨ k = 2 ∨ k = 12 → ∀ r ∈ catR, str r.nm = nm → (rowCal r).tot ∣ n) (h7 : k = 3 ∨ k = 8 → 7 ∣ n) (h4 : k = 4 → a ∣ n) (kids : ∀ x ∈ ks, PerOk n x) : PerOk n (.node k a b nm A c ks)
theorem NthP.congr {P : Int → Prop} {f g : Int} {n : Nat} {a : Int} {d : Nat} (hp : ∀ i : Nat, i < n → (P (f + (i : Int)) ↔ P (g + (i : Int)))) (h : NthP P f n a d) : NthP P g n a d := by
  obtain ⟨l, h1, h2, h3⟩ := h
  exact ⟨l, h1, fun i hi => (h2 i hi).trans (hp i hi), h3⟩
theorem mod_rep {x n a : Int} (h : a ∣ n) : (x + n) % a = x % a := by
  obtain ⟨q, rfl⟩ := h
  exact Int.add_mul_emod_self_left _ _ _
/-- a set repeats -/
theorem memF_rep (n : Int) (hn : 0 ≤ n) {t : FE} (hok : FeOk t) : PerOk n t → ∀ day : Int, -20000 + 1000 * (fht t : Int) ≤ day → day + n ≤ 1330000 - 1000 * (fht t : Int) → (memF t day ↔ memF t (day + n)) := by
  induction hok with
  | @mk k a b nm A c ks node kids ih =>
    intro hp day h1 h2
    obtain ⟨h5, h6, hc, h7, h4, hkids⟩ : k ≠ 5 ∧ k ≠ 6 ∧ (k = 1 ∨ k = 2 ∨ k = 12 → ∀ r ∈ catR, str r.nm = nm → (rowCal r).tot ∣ n) ∧ (k = 3 ∨ k = 8 → 7 ∣ n) ∧ (k = 4 → a ∣ n) ∧ ∀ x ∈ ks, PerOk n x := by
      cases hp with
      | mk h5 h6 hc h7 h4 kids => exact ⟨h5, h6, hc, h7, h4, kids⟩
    have e0 : fht (.node k a b nm A c ks) = fhtL ks + 1 := by rw [fht]
    rw [e0] at h1 h2
    have IH : ∀ i, i < ks.length → ∀ x : Int, -20000 + 1000 * (fhtL ks : Int) ≤ x → x + n ≤ 1330000 - 1000 * (fhtL ks : Int) → (memL ks i x ↔ memL ks i (x + n)) := fun i hi x q1 q2 => by
      have hm : ks.getD i fe0 ∈ ks := fe_getD_mem hi
      have hg := fhtL_get ks i hi
      rw [memL_get ks i x hi, memL_get ks i (x + n) hi]
      exact ih _ hm (hkids _ hm) x (by omega) (by omega)
    have hd : DayIn day ∧ DayIn (day + n) := ⟨⟨by omega, by omega⟩, ⟨by omega, by omega⟩⟩
    have hDt : (k = 1 ∨ k = 2 ∨ k = 12) → ∀ (m : Nat) (d len : Int), (∃ y, DateIn nm y m d day len) ↔ (∃ y, DateIn nm y m d (day + n) len) := fun hk m d len => by
      constructor
      · rintro ⟨y, h⟩
        exact h.rep (hc hk) (by omega) (by omega)
      · rintro ⟨y, h⟩
        have := h.rep (s := -n) (fun r hr hn => Int.dvd_neg.2 (hc hk r hr hn)) (by omega) (by omega)
        rwa [show day + n + -n = day from by omega] at this
    rw [memF, memF, and_iff_right hd.1, and_iff_right hd.2]
    have hkk : k = 1 ∨ k = 2 ∨ k = 3 ∨ k = 4 ∨ k = 7 ∨ k = 8 ∨ k = 9 ∨ k = 10 ∨ k = 11 ∨ k = 12 := by have := node.k0; have := node.k1; omega
    have hlen := node.len
    have hrg := node.rg
    clear node ih hkids kids
    rcases hkk with rfl | rfl | rfl | rfl | rfl | rfl | rfl | rfl | rfl | rfl
    · show (∃ y m d len, DateIn nm y m d day len ∧ (m : Int) + 1 = a ∧ d + 1 = b) ↔ (∃ y m d len, DateIn nm y m d (day + n) len ∧ (m : Int) + 1 = a ∧ d + 1 = b)
      constructor
      · rintro ⟨y, m, d, len, h, q⟩
        obtain ⟨y', h'⟩ := (hDt (.inl rfl) m d len).1 ⟨y, h⟩
        exact ⟨y', m, d, len, h', q⟩
      · rintro ⟨y, m, d, len, h, q⟩
        obtain ⟨y', h'⟩ := (hDt (.inl rfl) m d len).2 ⟨y, h⟩
        exact ⟨y', m, d, len, h', q⟩
    · show (∃ y m d len, DateIn nm y m d day len ∧ (m : Int) + 1 = a) ↔ (∃ y m d len, DateIn nm y m d (day + n) len ∧ (m : Int) + 1 = a)
      constructor
      · rintro ⟨y, m, d, len, h, q⟩
        obtain ⟨y', h'⟩ := (hDt (.inr (.inl rfl)) m d len).1 ⟨y, h⟩
        exact ⟨y', m, d, len, h', q⟩
      · rintro ⟨y, m, d, len, h, q⟩
        obtain ⟨y', h'⟩ := (hDt (.inr (.inl rfl)) m d len).2 ⟨y, h⟩
        exact ⟨y', m, d, len, h', q⟩
    · show (day - 1) % 7 = a ↔ (day + n - 1) % 7 = a
      have := h7 (.inl rfl)
      omega
    · show (day - b) % a = 0 ↔ (day + n - b) % a = 0
      rw [show day + n - b = day - b + n from by omega, mod_rep (h4 rfl)]
    · show memL ks 0 (day - a) ↔ memL ks 0 (day + n - a)
      have hl1 : ks.length = 1 := hlen
      have hr : -400 ≤ a ∧ a ≤ 400 := hrg rfl
      rw [show day + n - a = day - a + n from by omega]
      exact IH 0 (by omega) (day - a) (by omega) (by omega)
    · show (∃ s, memL ks 0 s ∧ day = s + (a - (s - 1)) % 7) ↔ (∃ s, memL ks 0 s ∧ day + n = s + (a - (s - 1)) % 7)
      have hl1 : ks.length = 1 := hlen
      have h7n := h7 (.inr rfl)
      constructor
      · rintro ⟨s, q1, q2⟩
        refine ⟨s + n, (IH 0 (by omega) s (by omega) (by omega)).1 q1, ?_⟩
        omega
      · rintro ⟨s, q1, q2⟩
        refine ⟨s - n, (IH 0 (by omega) (s - n) (by omega) (by omega)).2 (by rw [show s - n + n = s from by omega]; exact q1), ?_⟩
        omega
    · show (memL ks 0 day ∨ memL ks 1 day) ↔ (memL ks 0 (day + n) ∨ memL ks 1 (day + n))
      have hl1 : ks.length = 2 := hlen
      rw [IH 0 (by omega) day (by omega) (by omega), IH 1 (by omega) day (by omega) (by omega)]
    · show (memL ks 0 day ∧ memL ks 1 day) ↔ (memL ks 0 (day + n) ∧ memL ks 1 (day + n))
      have hl1 : ks.length = 2 := hlen
      rw [IH 0 (by omega) day (by omega) (by omega), IH 1 (by omega) day (by omega) (by omega)]
    · show (memL ks 0 day ∧ ¬ memL ks 1 day) ↔ (memL ks 0 (day + n) ∧ ¬ memL ks 1 (day + n))
      have hl1 : ks.length = 2 := hlen
      rw [IH 0 (by omega) day (by omega) (by omega), IH 1 (by omega) day (by omega) (by omega)]
    · show (∃ y m d len, DateIn nm y m d day len ∧ (b = 0 ∨ (m : Int) + 1 = b) ∧ NthP (memL ks 0) (day - d) len.toNat a d.toNat) ↔ (∃ y m d len, DateIn nm y m d (day + n) len ∧ (b = 0 ∨ (m : Int) + 1 = b) ∧ NthP (memL ks 0) (day + n - d) len.toNat a d.toNat)
      have hl1 : ks.length = 1 := hlen
      have hbd : ∀ {y : Int} {m : Nat} {d x len : Int}, DateIn nm y m d x len → 0 ≤ d ∧ d < len ∧ len ≤ 400 := fun {y m d x len} h => by
        obtain ⟨r, hr, _, _, _, ho, hl⟩ := h
        have := Cal.mlen_in (rowCal_ok hr) y m ho.m1
        have := ho.d0
        have := ho.d1
        omega
      constructor
      · rintro ⟨y, m, d, len, h, q, hN⟩
        obtain ⟨y', h'⟩ := (hDt (.inr (.inr rfl)) m d len).1 ⟨y, h⟩
        have hb := hbd h
        refine ⟨y', m, d, len, h', q, hN.congr fun i hi => ?_⟩
        rw [show day + n - d + (i : Int) = day - d + (i : Int) + n from by omega]
        exact IH 0 (by omega) _ (by omega) (by omega)
      · rintro ⟨y, m, d, len, h, q, hN⟩
        obtain ⟨y', h'⟩ := (hDt (.inr (.inr rfl)) m d len).2 ⟨y, h⟩
        have hb := hbd h
        refine ⟨y', m, d, len, h', q, hN.congr fun i hi => ?_⟩
        rw [show day + n - d + (i : Int) = day - d + (i : Int) + n from by omega]
        exact (IH 0 (by omega) _ (by omega) (by omega)).symm
end Go.Proofs.YtjaahiphjekfgaaGreatDoor

/- Contracts of period.lcm and once. -/
namespace Go.Proofs.YtjaahiphjekfgaaGreatDoor
open Go Go.RowKit
attribute [local go_sem] Oper.semAt_some
set_option linter.unusedVariables false

/-- the least common multiple, or 0 -/
def lcmN (a b : Nat) : Nat := if a = 0 ∨ b = 0 then 0 else if 1000000000 < a / Nat.gcd a b * b then 0 else a / Nat.gcd a b * b
theorem lcmN_le (a b : Nat) : lcmN a b ≤ 1000000000 := by
  unfold lcmN
  split
  · omega
  · split <;> omega
theorem lcmN_dvd {a b : Nat} (h : lcmN a b ≠ 0) : a ≠ 0 ∧ b ≠ 0 ∧ a ∣ lcmN a b ∧ b ∣ lcmN a b := by
  unfold lcmN at h ⊢
  split at h
  · exact absurd rfl h
  · rename_i h0
    rw [if_neg h0]
    split at h
    · exact absurd rfl h
    · rename_i h1
      rw [if_neg h1]
      refine ⟨fun e => h0 (.inl e), fun e => h0 (.inr e), ?_, Nat.dvd_mul_left _ _⟩
      obtain ⟨u, hu⟩ := Nat.gcd_dvd_left a b
      obtain ⟨v, hv⟩ := Nat.gcd_dvd_right a b
      have hg : 0 < Nat.gcd a b := Nat.gcd_pos_of_pos_left _ (Nat.pos_of_ne_zero fun e => h0 (.inl e))
      have e1 : a / Nat.gcd a b = u := Nat.div_eq_of_eq_mul_right hg hu
      rw [e1]
      refine ⟨v, ?_⟩
      conv => lhs; rw [hv]
      conv => rhs; rw [hu]
      rw [Nat.mul_comm u, Nat.mul_assoc, Nat.mul_comm v u, ← Nat.mul_assoc]
set_option maxRecDepth 100000 in
theorem lcm_any (a b : Nat) (w : World) (ha : a ≤ 1000000000) (hb : b ≤ 1000000000) : Calls Tryz.prog 73 #[.int .i64 (a : Int), .int .i64 (b : Int)] w fun e w' => e = .returned (.int .i64 (lcmN a b : Int)) ∧ Below w.heap.size w w' := by
  by_cases ha0 : a = 0
  · have hr : lcmN a b = 0 := by unfold lcmN; rw [if_pos (.inl ha0)]
    rw [hr]
    subst ha0
    go_enter Tryz.func73, Tryz.ntmps73
    go_wp2_with fail
    go_ret
    exact ⟨rfl, Below.refl _ _⟩
  have t1 : ((a : Int) == 0) = false := by rw [beq_eq_false_iff_ne]; omega
  by_cases hb0 : b = 0
  · have hr : lcmN a b = 0 := by unfold lcmN; rw [if_pos (.inr hb0)]
    rw [hr]
    subst hb0
    clear ha0
    go_enter Tryz.func73, Tryz.ntmps73
    go_wp2_with fail
    go_ret
    exact ⟨rfl, Below.refl _ _⟩
  have t2 : ((b : Int) == 0) = false := by rw [beq_eq_false_iff_ne]; omega
  have HG := Lib.hid (gcd_any (a : Int) (b : Int) w (by omega) (by omega) (by omega) (by omega))
  obtain ⟨g, hg⟩ : ∃ g : Nat, g = Nat.gcd a b := ⟨_, rfl⟩
  have hg1 : 1 ≤ g := by rw [hg]; exact Nat.gcd_pos_of_pos_left _ (Nat.pos_of_ne_zero ha0)
  have hgi : Int.gcd (a : Int) (b : Int) = g := by rw [hg]; rfl
  rw [hgi] at HG
  have hL : lcmN a b = if 1000000000 < a / g * b then 0 else a / g * b := by unfold lcmN; rw [if_neg (fun h => h.elim ha0 hb0), ← hg]
  have hq : a / g ≤ 1000000000 := Nat.le_trans (Nat.div_le_self _ _) ha
  have hm : a / g * b ≤ 1000000000 * 1000000000 := Nat.mul_le_mul hq hb
  obtain ⟨u, hu⟩ : ∃ u, u = a / g := ⟨_, rfl⟩
  rw [← hu] at hL hq hm
  have e1 : Int.tdiv (a : Int) (g : Int) = (u : Int) := by rw [hu, Int.tdiv_eq_ediv_of_nonneg (by omega)]; rfl
  have e2 : (a : Int) / (g : Int) = (u : Int) := by rw [hu]; rfl
  have t3 : ((g : Int) == 0) = false := by rw [beq_eq_false_iff_ne]; omega
  have t4 : ¬ (g : Int) = 0 := by omega
  have ew1 : IntKind.i64.wrap (u : Int) = (u : Int) := intFits _ (by omega) (by omega)
  obtain ⟨p, hp⟩ : ∃ p : Int, p = (u : Int) * (b : Int) := ⟨_, rfl⟩
  have hpn : p = ((u * b : Nat) : Int) := by rw [hp, Int.natCast_mul]
  have ew2 : IntKind.i64.wrap ((u : Int) * (b : Int)) = p := by rw [← hp, hpn]; exact intFits _ (by omega) (by omega)
  have HL : Hid (lcmN a b = if 1000000000 < u * b then 0 else u * b) := hL
  have HP := Lib.hid hpn
  clear hL hgi ha0 hb0 hg hu hp
  by_cases hbig : 1000000000 < u * b
  · have t5 : decide (1000000000 < p) = true := decide_eq_true (by omega)
    have HR : Hid (lcmN a b = 0) := by unfold Hid; rw [HL.out, if_pos hbig]
    clear hpn hbig hm
    go_enter Tryz.func73, Tryz.ntmps73
    go_wp2_with (go_at_call 93; refine (HG.out).mono ?_; rintro e w' ⟨rfl, n1, rfl⟩)
    go_ret
    exact ⟨by rw [HR.out]; rfl, below_drewN _ _⟩
  · have t5 : decide (1000000000 < p) = false := decide_eq_false (by omega)
    have HR : Hid (lcmN a b = u * b) := by unfold Hid; rw [HL.out, if_neg hbig]
    clear hpn hbig hm
    go_enter Tryz.func73, Tryz.ntmps73
    go_wp2_with (go_at_call 93; refine (HG.out).mono ?_; rintro e w' ⟨rfl, n1, rfl⟩)
    go_ret
    exact ⟨by rw [HR.out, HP.out]; rfl, below_drewN _ _⟩
mutual
/-- whether single days are named -/
def onceF : FE → Bool
  | .node k _ _ _ _ _ ks => decide (k = 5) || decide (k = 6) || onceL ks
def onceL : List FE → Bool
  | [] => false
  | x :: r => onceF x || onceL r
end
theorem onceL_take (ks : List FE) (j : Nat) (h : j < ks.length) : onceL (ks.take (j + 1)) = (onceL (ks.take j) || onceF (ks.getD j fe0)) := by
  induction ks generalizing j with
  | nil => simp at h
  | cons x r ih =>
    cases j with
    | zero => simp [onceL]
    | succ j => simp only [List.take_succ_cons, onceL]; rw [ih j (by simpa using h)]; simp [Bool.or_assoc]
set_option maxHeartbeats 4000000 in
set_option maxRecDepth 100000 in
theorem once_any (w0 : World) (t : FE) (hin : FeIn w0 w0.heap.size t) : ∀ (w : World), Below w0.heap.size w0 w → Calls Tryz.prog 53 #[feV t] w fun e w' => e = .returned (.bool (onceF t)) ∧ Below w.heap.size w w' := by
  induction hin with
  | @mk k a b nm A c ks hk ha hb hs hl row kids ih =>
    intro w hw0
    have IH := Lib.hid ih
    have HRow := Lib.hid row
    have HW0 := Lib.hid hw0
    have hl2 : ks.length ≤ maxLen := hl
    unfold maxLen at hl2
    have hsz0 := hw0.size
    have HO : Hid (onceF (.node k a b nm A c ks) = (decide (k = 5) || decide (k = 6) || onceL (ks.take ks.length))) := by unfold Hid; rw [onceF, List.take_length]
    clear ih row kids hk ha hb hs hl hw0
    show Calls Tryz.prog 53 #[.agg #[.int .i64 k, .int .i64 a, .int .i64 b, .string nm, .slice A ks.length c]] w _
    generalize onceF (.node k a b nm A c ks) = OO at *
    have HB := Lib.hid (below_alloc1 w (Obj.cells #[.int .i64 k, .int .i64 a, .int .i64 b, .string nm, .slice A ks.length c] 24))
    have HX := Lib.hid (Box.new w 24 #[.int .i64 k, .int .i64 a, .int .i64 b, .string nm, .slice A ks.length c])
    obtain ⟨Z, hZ⟩ : ∃ Z : Bool, Z = (decide (k = 5) || decide (k = 6)) := ⟨_, rfl⟩
    rw [← hZ] at HO
    go_enter Tryz.func53, Tryz.ntmps53
    go_upto_region 1 with fail
    generalize w.alloc (Obj.cells #[.int .i64 k, .int .i64 a, .int .i64 b, .string nm, .slice A ks.length c] 24) = W1 at *
    obtain ⟨x0, x1, x2, x3, x4⟩ := fecells HX.out
    go_cut [3] (fun s wx => s = .bool Z ∧ wx = W1)
    case first =>
      by_cases k5 : k = 5
      · subst k5
        have HZ : Hid (Z = true) := by unfold Hid; rw [hZ]; rfl
        clear hZ
        go_wp2_with fail
        go_meet
        exact ⟨by rw [HZ.out], rfl⟩
      have t5 : (k == 5) = false := by rw [beq_eq_false_iff_ne]; exact k5
      by_cases k6 : k = 6
      · subst k6
        have HZ : Hid (Z = true) := by unfold Hid; rw [hZ]; rfl
        clear hZ
        go_wp2_with fail
        go_meet
        exact ⟨by rw [HZ.out], rfl⟩
      have t6 : (k == 6) = false := by rw [beq_eq_false_iff_ne]; exact k6
      have HZ : Hid (Z = false) := by unfold Hid; rw [hZ, decide_eq_false k5, decide_eq_false k6]; rfl
      clear hZ k5 k6
      go_wp2_with fail
      go_meet
      exact ⟨by rw [HZ.out], rfl⟩
    case rest =>
    obtain ⟨rfl, hwc⟩ := hcut
    subst hwc
    clear hZ
    obtain ⟨x0, x1, x2, x3, x4⟩ := fecells HX.out
    go_wp2_with fail
    clear x0 x1 x2 x3 x4 HX
    go_loopw [3, 5, 17] (fun s3 _ i wr => ∃ j : Nat, j ≤ ks.length ∧ i = .int .i64 (j : Int) ∧ s3 = .bool (Z || onceL (ks.take j)) ∧ Hid (Below w.heap.size w wr)) (fun _ _ i _ => ks.length - (intOf i).toNat)
    case atStart => exact ⟨0, by omega, rfl, by simp [onceL], HB⟩
    case round =>
      obtain ⟨j, hj, rfl, rfl, hbr⟩ := hrel
      clear HB
      by_cases hlt : j < ks.length
      · obtain ⟨bb, o, rfl, hb, hc⟩ := HRow.out.open_ (feF_ne ks (by omega))
        have HT := Lib.hid (onceL_take ks j hlt)
        have hc' : ∀ i v, (ks.flatMap feF)[i]? = some v → wr.cell? ⟨bb, o + i, none⟩ = some v := fun i v hv => ((HW0.out.trans (hbr.out.mono hsz0)).cell (p := ⟨bb, o + i, none⟩) hb).trans (hc i v hv)
        have hmem := fe_mem_eq hlt
        have HI0 := IH.out _ hmem
        generalize hx : ks.getD j fe0 = x at *
        have HXe := Lib.hid hx
        have HI : Hid (∀ W, Below w0.heap.size w0 W → _) := HI0
        obtain ⟨k', a', b', nm', A', c', ks'⟩ := x
        have y0 := flat_cell feF_len fe0 hc' j 0 hlt (by omega) (.int .i64 k') (by rw [hx]; rfl)
        have y1 := flat_cell feF_len fe0 hc' j 1 hlt (by omega) (.int .i64 a') (by rw [hx]; rfl)
        have y2 := flat_cell feF_len fe0 hc' j 2 hlt (by omega) (.int .i64 b') (by rw [hx]; rfl)
        have y3 := flat_cell feF_len fe0 hc' j 3 hlt (by omega) (.string nm') (by rw [hx]; rfl)
        have y4 := flat_cell feF_len fe0 hc' j 4 hlt (by omega) (.slice A' ks'.length c') (by rw [hx]; rfl)
        rw [Nat.add_zero] at y0
        have hbl : bb < wr.heap.size := by have := hbr.out.size; omega
        have HBR : Hid (Below w.heap.size w (wr.alloc (.cells #[.int .i64 k', .int .i64 a', .int .i64 b', .string nm', .slice A' ks'.length c'] 24))) := hbr.out.alloc (by have := hbr.out.size; omega) _
        clear hc hc' HI0 hx hmem
        have HI2 : Hid (∀ W, Below w0.heap.size w0 W → Calls Tryz.prog 53 #[.agg #[.int .i64 k', .int .i64 a', .int .i64 b', .string nm', .slice A' ks'.length c']] W fun e w' => e = .returned (.bool (onceF (.node k' a' b' nm' A' c' ks'))) ∧ Below W.heap.size W w') := HI.out
        clear HI
        generalize onceF (.node k' a' b' nm' A' c' ks') = OX at *
        obtain ⟨B, hB⟩ : ∃ B : Bool, B = (Z || onceL (ks.take j)) := ⟨_, rfl⟩
        rw [← hB]
        have HN : Hid ((Z || onceL (ks.take (j + 1))) = (B || OX)) := by unfold Hid; rw [HT.out, hB, Bool.or_assoc]
        clear hB HT
        cases B with
        | true =>
          go_wp2_with fail
          go_roundw
          case rel => exact ⟨j + 1, by omega, by go_num, by rw [HN.out]; rfl, HBR⟩
          case measure => simp [intOf]; omega
        | false =>
          go_wp2_with fail
          refine (HI2.out _ (HW0.out.trans (HBR.out.mono hsz0))).mono ?_
          rintro e w2 ⟨rfl, hb2⟩
          have HB2 : Hid (Below w.heap.size w w2) := HBR.out.trans (hb2.mono HBR.out.size)
          clear hb2 HI2 y0 y1 y2 y3 y4
          go_wp2_with fail
          go_roundw
          case rel => exact ⟨j + 1, by omega, by go_num, by rw [HN.out]; rfl, HB2⟩
          case measure => simp [intOf]; omega
      · obtain rfl : j = ks.length := by omega
        go_wp2_with fail
        go_ret
        exact ⟨by rw [HO.out]; rfl, hbr.out⟩
end Go.Proofs.YtjaahiphjekfgaaGreatDoor

/- Contracts of period.period, of and Period. -/
namespace Go.Proofs.YtjaahiphjekfgaaGreatDoor
open Go Go.RowKit
attribute [local go_sem] Oper.semAt_some
set_option linter.unusedVariables false

open Classical in
/-- a node's own period -/
noncomputable def ownN (k a : Int) (nm : ByteArray) : Nat := if k = 1 ∨ k = 2 ∨ k = 12 then (if h : ∃ r ∈ catR, str r.nm = nm then (rowCal h.choose).tot.toNat else 1) else if k = 3 ∨ k = 8 then 7 else if k = 4 then a.toNat else 1
mutual
/-- the period of an expression, or 0 -/
noncomputable def perF : FE → Nat
  | .node k a _ nm _ _ ks => perL (lcmN (ownN k a nm) 1) ks
noncomputable def perL : Nat → List FE → Nat
  | n, [] => n
  | n, x :: r => perL (lcmN n (perF x)) r
end
theorem perL_take (ks : List FE) (j : Nat) (h : j < ks.length) : ∀ n, perL n (ks.take (j + 1)) = lcmN (perL n (ks.take j)) (perF (ks.getD j fe0)) := by
  induction ks generalizing j with
  | nil => simp at h
  | cons x r ih =>
    intro n
    cases j with
    | zero => simp [perL]
    | succ j => simp only [List.take_succ_cons, perL]; rw [ih j (by simpa using h)]; simp
theorem perL_le (ks : List FE) : ∀ n, n ≤ 1000000000 → perL n ks ≤ 1000000000 := by
  induction ks with
  | nil => intro n h; simpa [perL] using h
  | cons x r ih => intro n _; rw [perL]; exact ih _ (lcmN_le _ _)
theorem perF_le (t : FE) : perF t ≤ 1000000000 := by
  obtain ⟨k, a, b, nm, A, c, ks⟩ := t
  rw [perF]
  exact perL_le _ _ (lcmN_le _ _)
theorem perL_dvd (ks : List FE) : ∀ n, perL n ks ≠ 0 → n ≠ 0 ∧ n ∣ perL n ks ∧ ∀ x ∈ ks, perF x ≠ 0 ∧ perF x ∣ perL n ks := by
  induction ks with
  | nil => intro n h; rw [perL] at h ⊢; exact ⟨h, Nat.dvd_refl _, fun x hx => by cases hx⟩
  | cons y r ih =>
    intro n h
    rw [perL] at h ⊢
    obtain ⟨h1, h2, h3⟩ := ih _ h
    obtain ⟨q1, q2, q3, q4⟩ := lcmN_dvd h1
    refine ⟨q1, Nat.dvd_trans q3 h2, fun x hx => ?_⟩
    rcases List.mem_cons.1 hx with rfl | hx
    · exact ⟨q2, Nat.dvd_trans q4 h2⟩
    · exact h3 x hx
theorem onceL_no {ks : List FE} (h : onceL ks = false) : ∀ x ∈ ks, onceF x = false := by
  induction ks with
  | nil => intro x hx; cases hx
  | cons y r ih =>
    intro x hx
    rw [onceL, Bool.or_eq_false_iff] at h
    rcases List.mem_cons.1 hx with rfl | hx
    · exact h.1
    · exact ih h.2 x hx
theorem tot_pos {r : CatRow} (hr : r ∈ catR) : 1 ≤ (rowCal r).tot ∧ (rowCal r).tot ≤ 1000000000 := by
  have ok := rowCal_ok hr
  have h1 := ok.hd.2.2.1
  have h2 := ok.hd.2.2.2
  have h3 := Cal.ny_rep ok 0 1
  have h4 := Cal.ny_far ok 0 (rowCal r).cy.toNat
  rw [show (((rowCal r).cy.toNat : Nat) : Int) = (rowCal r).cy from by omega] at h4
  rw [Int.mul_one, Int.mul_one] at h3
  omega
theorem own_cal {k a : Int} {r : CatRow} (hr : r ∈ catR) (hk : k = 1 ∨ k = 2 ∨ k = 12) : (ownN k a (str r.nm) : Int) = (rowCal r).tot := by
  have hx : ∃ r' ∈ catR, str r'.nm = str r.nm := ⟨r, hr, rfl⟩
  unfold ownN
  rw [if_pos hk, dif_pos hx]
  have e : hx.choose = r := row_nm hx.choose_spec.1 hr hx.choose_spec.2
  rw [e]
  have := tot_pos hr
  omega
/-- the period serves every node -/
theorem per_ok {t : FE} (hok : FeOk t) : onceF t = false → perF t ≠ 0 → ∀ n : Int, (perF t : Int) ∣ n → PerOk n t := by
  induction hok with
  | @mk k a b nm A c ks node kids ih =>
    intro ho hp n hn
    rw [perF] at hp hn
    rw [onceF, Bool.or_eq_false_iff, Bool.or_eq_false_iff] at ho
    obtain ⟨h1, h2, h3⟩ := perL_dvd ks _ hp
    obtain ⟨q1, _, q3, _⟩ := lcmN_dvd h1
    have hown : (ownN k a nm : Int) ∣ n := Int.dvd_trans (Int.natCast_dvd_natCast.2 (Nat.dvd_trans q3 h2)) hn
    refine .mk (of_decide_eq_false ho.1.1) (of_decide_eq_false ho.1.2) (fun hk r hr hnm => ?_) (fun hk => ?_) (fun hk => ?_) (fun x hx => ih x hx (onceL_no ho.2 x hx) (h3 x hx).1 n (Int.dvd_trans (Int.natCast_dvd_natCast.2 (h3 x hx).2) hn))
    · subst hnm
      rwa [own_cal hr hk] at hown
    · unfold ownN at hown
      rw [if_neg (by omega), if_pos hk] at hown
      exact hown
    · subst hk
      unfold ownN at hown
      rw [if_neg (by omega), if_neg (by omega), if_pos rfl] at hown
      have hr := node.rg rfl
      have hr1 : (1 ≤ a ∧ a ≤ 100000) ∧ (0 ≤ b ∧ b ≤ a - 1) := hr
      rwa [show ((a.toNat : Nat) : Int) = a from by omega] at hown
set_option maxHeartbeats 4000000 in
set_option maxRecDepth 100000 in
theorem period_any (w0 : World) (hv : Env w0) (t : FE) (hin : FeIn w0 w0.heap.size t) : FeOk t → ∀ (w : World), Below w0.heap.size w0 w → Calls Tryz.prog 54 #[feV t] w fun e w' => e = .returned (.int .i64 (perF t : Int)) ∧ Below w.heap.size w w' := by
  have HE0 := Lib.hid (fun W (h : Below w0.heap.size w0 W) => hv.next h)
  clear hv
  induction hin with
  | @mk k a b nm A c ks hk ha hb hs hl row kids ih =>
    intro hok w hw0
    obtain ⟨node, okids⟩ : FeNode k a b nm ks.length ∧ ∀ x ∈ ks, FeOk x := by cases hok with | mk n k => exact ⟨n, k⟩
    have IH := Lib.hid (fun x hx => ih x hx (okids x hx))
    have HRow := Lib.hid row
    have HW0 := Lib.hid hw0
    have HNode := Lib.hid node
    have hl2 : ks.length ≤ maxLen := hl
    unfold maxLen at hl2
    have hsz0 := hw0.size
    have HP : Hid (perF (.node k a b nm A c ks) = perL (lcmN (ownN k a nm) 1) (ks.take ks.length)) := by unfold Hid; rw [perF, List.take_length]
    have HEw := Lib.hid (fun W (h : Below w.heap.size w W) => HE0.out W (hw0.trans (h.mono hw0.size)))
    clear ih row kids hk ha hb hs hl hw0 hok okids node
    show Calls Tryz.prog 54 #[.agg #[.int .i64 k, .int .i64 a, .int .i64 b, .string nm, .slice A ks.length c]] w _
    generalize perF (.node k a b nm A c ks) = PP at *
    have HB := Lib.hid (below_alloc1 w (Obj.cells #[.int .i64 k, .int .i64 a, .int .i64 b, .string nm, .slice A ks.length c] 24))
    have HX := Lib.hid (Box.new w 24 #[.int .i64 k, .int .i64 a, .int .i64 b, .string nm, .slice A ks.length c])
    have HOw : Hid (ownN k a nm ≤ 1000000000) := by
      unfold Hid
      have hnode := HNode.out
      by_cases h1 : k = 1 ∨ k = 2 ∨ k = 12
      · have hu : usN k = true := by rcases h1 with rfl | rfl | rfl <;> rfl
        obtain ⟨r, hr, rfl, _⟩ := hnode.cal hu
        have := own_cal (a := a) hr h1
        have := tot_pos hr
        omega
      · unfold ownN
        rw [if_neg h1]
        split
        · omega
        · split
          · rename_i h4
            subst h4
            have hr : (1 ≤ a ∧ a ≤ 100000) ∧ (0 ≤ b ∧ b ≤ a - 1) := hnode.rg rfl
            omega
          · omega
    obtain ⟨OW, hOW⟩ : ∃ OW, OW = ownN k a nm := ⟨_, rfl⟩
    rw [← hOW] at HP HOw
    have HOe := Lib.hid hOW
    have HCal := Lib.hid (fun r hr W (h : Env W) => Calendar_any r hr W h)
    unfold CalQ at HCal
    have HL := Lib.hid (fun x y W hx hy => lcm_any x y W hx hy)
    clear hOW
    go_enter Tryz.func54, Tryz.ntmps54
    go_upto_region 2 with fail
    generalize w.alloc (Obj.cells #[.int .i64 k, .int .i64 a, .int .i64 b, .string nm, .slice A ks.length c] 24) = W1 at *
    obtain ⟨gx, hgx⟩ : ∃ gx, gx = w.heap.size := ⟨_, rfl⟩
    rw [← hgx] at HX ⊢
    have HGx := Lib.hid hgx
    clear hgx
    obtain ⟨x0, x1, x2, x3, x4⟩ := fecells HX.out
    go_upto_block 0 with fail
    go_cut [3] (fun s wx => s = .int .i64 (OW : Int) ∧ Hid (Box wx gx 24 #[.int .i64 k, .int .i64 a, .int .i64 b, .string nm, .slice A ks.length c]) ∧ Hid (Below w.heap.size w wx))
    case first =>
      by_cases h1 : k = 1 ∨ k = 2 ∨ k = 12
      · have hu : usN k = true := by rcases h1 with rfl | rfl | rfl <;> rfl
        obtain ⟨r, hr, hnm, _⟩ := HNode.out.cal hu
        have HTo : Hid ((OW : Int) = (rowCal r).tot) := by unfold Hid; rw [HOe.out, ← hnm]; exact own_cal hr h1
        have HCn := Lib.hid (HCal.out r hr W1 (HEw.out _ HB.out))
        rw [hnm] at HCn
        clear hu hnm HCal
        rcases h1 with rfl | rfl | rfl
        all_goals
          go_wp2_with fail
          refine HCn.out.mono ?_
          rintro e w4 ⟨cal, rfl, hof, hcv, _, _, hb4⟩
          have hb5 := below_alloc1 w4 (Obj.cells cal.cells 57)
          have HX5 := Lib.hid ((HX.out.below hb4).below hb5)
          have HB5 := Lib.hid (below_then (below_then HB.out hb4) hb5)
          have HY5 := Box.new w4 57 cal.cells
          have HCv := Lib.hid (hcv.next hb5)
          have HTe : Hid (cal.tot = OW) := by
            unfold Hid
            rw [HTo.out]
            unfold Cal.tot
            have e : (rowCal r).cy = r.t.cy ∧ (rowCal r).lp = r.t.leaps r.t.cy.toNat ∧ (rowCal r).mo = r.t.mo := ⟨rfl, rfl, rfl⟩
            rw [hof.cy, hof.lp, hof.mo, e.1, e.2.1, e.2.2]
          clear hb4 hb5 hof hcv HCn x0 x1 x2 x3 x4
          go_upto_region 7 with fail
          generalize w4.alloc (Obj.cells cal.cells 57) = w5 at *
          generalize w4.heap.size = gc at *
          obtain ⟨y0, y1, y2, y3, y4⟩ := ccells HY5
          have HT := Lib.hid (ctotal_yes cal w5 HCv.out.r HCv.out.f HCv.out.ok)
          rw [HTe.out] at HT
          go_wp2_with fail
          refine HT.out.mono ?_
          rintro e w6 ⟨rfl, hb6⟩
          have HX6 := Lib.hid (HX5.out.below hb6)
          have HB6 := Lib.hid (below_then HB5.out hb6)
          clear hb6 HT HX5 HB5 HY5 y0 y1 y2 y3 y4
          go_wp2_with fail
          go_meet
          exact ⟨rfl, HX6, HB6⟩
      · have e1 : (k == 1) = false := by rw [beq_eq_false_iff_ne]; omega
        have e2 : (k == 2) = false := by rw [beq_eq_false_iff_ne]; omega
        have e12 : (k == 12) = false := by rw [beq_eq_false_iff_ne]; omega
        by_cases h7 : k = 3 ∨ k = 8
        · have HR : Hid (OW = 7) := by unfold Hid; rw [HOe.out]; unfold ownN; rw [if_neg h1, if_pos h7]
          clear h1 HCal e1 e2 e12
          rcases h7 with rfl | rfl
          all_goals
            go_wp2_with fail
            go_meet
            exact ⟨by rw [HR.out]; rfl, HX, HB⟩
        have e3 : (k == 3) = false := by rw [beq_eq_false_iff_ne]; omega
        have e8 : (k == 8) = false := by rw [beq_eq_false_iff_ne]; omega
        by_cases h4 : k = 4
        · have hr : (1 ≤ a ∧ a ≤ 100000) ∧ (0 ≤ b ∧ b ≤ a - 1) := by have h := HNode.out.rg (by rw [h4]; rfl); rw [h4] at h; exact h
          have HR : Hid ((OW : Int) = a) := by unfold Hid; rw [HOe.out]; unfold ownN; rw [if_neg h1, if_neg h7, if_pos h4]; omega
          clear h1 h7 HCal hr e1 e2 e12 e3 e8
          subst h4
          go_wp2_with fail
          go_meet
          exact ⟨by rw [HR.out], HX, HB⟩
        · have e4 : (k == 4) = false := by rw [beq_eq_false_iff_ne]; omega
          have HR : Hid (OW = 1) := by unfold Hid; rw [HOe.out]; unfold ownN; rw [if_neg h1, if_neg h7, if_neg h4]
          clear h1 h7 h4 HCal
          go_wp2_with fail
          go_meet
          exact ⟨by rw [HR.out]; rfl, HX, HB⟩
    case rest =>
    obtain ⟨rfl, HX2, HB2⟩ := hcut
    clear HX HB x0 x1 x2 x3 x4 HCal
    have HL1 := Lib.hid (HL.out OW 1 wc HOw.out (by omega))
    rw [show ((1 : Nat) : Int) = 1 from rfl] at HL1
    go_wp2_with fail
    refine HL1.out.mono ?_
    rintro e w3 ⟨rfl, hb3⟩
    have HX3 := Lib.hid (HX2.out.below hb3)
    have HB3 := Lib.hid (below_then HB2.out hb3)
    have hlw := lcmN_le OW 1
    generalize lcmN OW 1 = L0 at *
    clear hb3 HX2 HB2 HL1 HOe
    obtain ⟨x0, x1, x2, x3, x4⟩ := fecells HX3.out
    go_wp2_with fail
    clear x0 x1 x2 x3 x4 HX3
    go_loopw [3, 7, 37] (fun s3 _ i wr => ∃ j : Nat, j ≤ ks.length ∧ i = .int .i64 (j : Int) ∧ s3 = .int .i64 (perL L0 (ks.take j) : Int) ∧ Hid (Below w.heap.size w wr)) (fun _ _ i _ => ks.length - (intOf i).toNat)
    case atStart => exact ⟨0, by omega, rfl, by simp [perL], HB3⟩
    case round =>
      obtain ⟨j, hj, rfl, rfl, hbr⟩ := hrel
      clear HB3
      by_cases hlt : j < ks.length
      · obtain ⟨bb, o, rfl, hb, hc⟩ := HRow.out.open_ (feF_ne ks (by omega))
        have HT := Lib.hid (perL_take ks j hlt L0)
        have hle := perL_le (ks.take j) L0 hlw
        have hc' : ∀ i v, (ks.flatMap feF)[i]? = some v → wr.cell? ⟨bb, o + i, none⟩ = some v := fun i v hv => ((HW0.out.trans (hbr.out.mono hsz0)).cell (p := ⟨bb, o + i, none⟩) hb).trans (hc i v hv)
        have hmem := fe_mem_eq hlt
        have HI0 := IH.out _ hmem
        generalize hx : ks.getD j fe0 = x at *
        have HXe := Lib.hid hx
        have HI : Hid (∀ W, Below w0.heap.size w0 W → _) := HI0
        obtain ⟨k', a', b', nm', A', c', ks'⟩ := x
        have y0 := flat_cell feF_len fe0 hc' j 0 hlt (by omega) (.int .i64 k') (by rw [hx]; rfl)
        have y1 := flat_cell feF_len fe0 hc' j 1 hlt (by omega) (.int .i64 a') (by rw [hx]; rfl)
        have y2 := flat_cell feF_len fe0 hc' j 2 hlt (by omega) (.int .i64 b') (by rw [hx]; rfl)
        have y3 := flat_cell feF_len fe0 hc' j 3 hlt (by omega) (.string nm') (by rw [hx]; rfl)
        have y4 := flat_cell feF_len fe0 hc' j 4 hlt (by omega) (.slice A' ks'.length c') (by rw [hx]; rfl)
        rw [Nat.add_zero] at y0
        have hbl : bb < wr.heap.size := by have := hbr.out.size; omega
        have HBR : Hid (Below w.heap.size w (wr.alloc (.cells #[.int .i64 k', .int .i64 a', .int .i64 b', .string nm', .slice A' ks'.length c'] 24))) := hbr.out.alloc (by have := hbr.out.size; omega) _
        clear hc hc' HI0 hx hmem
        have HI2 : Hid (∀ W, Below w0.heap.size w0 W → Calls Tryz.prog 54 #[.agg #[.int .i64 k', .int .i64 a', .int .i64 b', .string nm', .slice A' ks'.length c']] W fun e w' => e = .returned (.int .i64 (perF (.node k' a' b' nm' A' c' ks') : Int)) ∧ Below W.heap.size W w') := HI.out
        have hpx := perF_le (.node k' a' b' nm' A' c' ks')
        clear HI
        generalize perF (.node k' a' b' nm' A' c' ks') = OX at *
        obtain ⟨N, hN⟩ : ∃ N, N = perL L0 (ks.take j) := ⟨_, rfl⟩
        rw [← hN] at HT hle ⊢
        clear hN
        go_wp2_with fail
        refine (HI2.out _ (HW0.out.trans (HBR.out.mono hsz0))).mono ?_
        rintro e w4 ⟨rfl, hb4⟩
        have HB4 := Lib.hid (below_then HBR.out hb4)
        have HL4 := Lib.hid (HL.out N OX w4 hle hpx)
        clear hb4 HI2 HBR y0 y1 y2 y3 y4
        go_wp2_with fail
        refine HL4.out.mono ?_
        rintro e w5 ⟨rfl, hb5⟩
        have HB5 := Lib.hid (below_then HB4.out hb5)
        clear hb5 HB4 HL4
        go_wp2_with fail
        go_roundw
        case rel => exact ⟨j + 1, by omega, by go_num, by rw [HT.out], HB5⟩
        case measure => simp [intOf]; omega
      · obtain rfl : j = ks.length := by omega
        go_wp2_with fail
        go_ret
        exact ⟨by rw [HP.out]; rfl, hbr.out⟩
end Go.Proofs.YtjaahiphjekfgaaGreatDoor

/- Contracts of period.of and Period. -/
namespace Go.Proofs.YtjaahiphjekfgaaGreatDoor
open Go Go.RowKit
attribute [local go_sem] Oper.semAt_some
set_option linter.unusedVariables false

/-- what Period says -/
def PeriodQ (t : FE) (w : World) (e : Ending) (w' : World) : Prop := ∃ (n : Nat) (E : Int), e = .returned (.tuple #[.int .i64 (n : Int), .int .i64 E]) ∧ Below w.heap.size w w' ∧ (E = 0 ↔ FeGood t ∧ onceF t = false ∧ perF t ≠ 0) ∧ (E = 0 → n = perF t)
set_option maxRecDepth 100000 in
theorem pof_any (t : FE) (w : World) (hv : Env w) (hin : FeIn w w.heap.size t) (hg : FeGood t) : Calls Tryz.prog 33 #[feV t] w (PeriodQ t w) := by
  have HOn := Lib.hid (fun W (h : Below w.heap.size w W) => once_any w t hin W h)
  have HPe := Lib.hid (fun W (h : Below w.heap.size w W) => period_any w hv t hin hg.ok W h)
  have HG := Lib.hid hg
  clear hv hin hg
  obtain ⟨t0, ht0⟩ : ∃ t0, t0 = t := ⟨_, rfl⟩
  obtain ⟨k, a, b, nm, A, c, ks⟩ := t
  rw [← ht0] at HOn HPe HG ⊢
  have hfe : feV t0 = .agg #[.int .i64 k, .int .i64 a, .int .i64 b, .string nm, .slice A ks.length c] := by rw [ht0]; rfl
  rw [hfe] at HOn HPe ⊢
  have HB := Lib.hid (below_alloc1 w (Obj.cells #[.int .i64 k, .int .i64 a, .int .i64 b, .string nm, .slice A ks.length c] 24))
  have HX := Lib.hid (Box.new w 24 #[.int .i64 k, .int .i64 a, .int .i64 b, .string nm, .slice A ks.length c])
  clear ht0 hfe
  go_enter Tryz.func33, Tryz.ntmps33
  go_upto_region 1 with fail
  generalize w.alloc (Obj.cells #[.int .i64 k, .int .i64 a, .int .i64 b, .string nm, .slice A ks.length c] 24) = W1 at *
  obtain ⟨x0, x1, x2, x3, x4⟩ := fecells HX.out
  go_wp2_with fail
  refine (HOn.out W1 HB.out).mono ?_
  rintro e w2 ⟨rfl, hb2⟩
  have HB2 := Lib.hid (below_then HB.out hb2)
  have HX2 := Lib.hid (HX.out.below hb2)
  clear hb2 HB HX HOn x0 x1 x2 x3 x4
  obtain ⟨B, hB⟩ : ∃ B, B = onceF t0 := ⟨_, rfl⟩
  rw [← hB]
  cases B with
  | true =>
    have HR : Hid ((6 : Int) = 0 ↔ FeGood t0 ∧ onceF t0 = false ∧ perF t0 ≠ 0) := ⟨fun h => by omega, fun h => by rw [← hB] at h; exact absurd h.2.1 (by decide)⟩
    clear hB
    go_wp2_with fail
    go_ret2
    exact ⟨0, 6, rfl, HB2.out, HR.out, fun h => by omega⟩
  | false =>
    have HO := Lib.hid hB
    clear hB
    obtain ⟨x0, x1, x2, x3, x4⟩ := fecells HX2.out
    go_wp2_with fail
    refine (HPe.out w2 HB2.out).mono ?_
    rintro e w3 ⟨rfl, hb3⟩
    have HB3 := Lib.hid (below_then HB2.out hb3)
    clear hb3 HB2 HX2 HPe x0 x1 x2 x3 x4
    by_cases hp : perF t0 = 0
    · have HR : Hid ((14 : Int) = 0 ↔ FeGood t0 ∧ onceF t0 = false ∧ perF t0 ≠ 0) := ⟨fun h => by omega, fun h => absurd hp h.2.2⟩
      rw [hp]
      clear hp HO
      go_wp2_with fail
      go_ret2
      exact ⟨0, 14, rfl, HB3.out, HR.out, fun h => by omega⟩
    · have HR : Hid (FeGood t0 ∧ onceF t0 = false ∧ perF t0 ≠ 0) := ⟨HG.out, HO.out.symm, hp⟩
      have HPn : Hid (perF t0 = perF t0) := rfl
      obtain ⟨n, hn⟩ : ∃ n, n = perF t0 := ⟨_, rfl⟩
      have HN := Lib.hid hn
      rw [← hn] at hp ⊢
      have t1 : ((n : Int) == 0) = false := by rw [beq_eq_false_iff_ne]; omega
      clear hp hn
      go_wp2_with fail
      go_ret2
      exact ⟨n, 0, rfl, HB3.out, ⟨fun _ => HR.out, fun _ => rfl⟩, fun _ => HN.out⟩
set_option maxRecDepth 100000 in
theorem pPeriod_any (t : FE) (w : World) (hv : Env w) (hin : FeIn w w.heap.size t) : Calls Tryz.prog 21 #[feV t] w (PeriodQ t w) := by
  have HCk := Lib.hid (fun W (h : Below w.heap.size w W) => fcheck_any t W (hv.next h) (hin.next h h.size))
  have HPo := Lib.hid (fun W (h : Below w.heap.size w W) (hg : FeGood t) => pof_any t W (hv.next h) (hin.next h h.size) hg)
  unfold FCheckQ at HCk
  unfold PeriodQ at HPo
  clear hv hin
  obtain ⟨t0, ht0⟩ : ∃ t0, t0 = t := ⟨_, rfl⟩
  obtain ⟨k, a, b, nm, A, c, ks⟩ := t
  rw [← ht0] at HCk HPo ⊢
  have hfe : feV t0 = .agg #[.int .i64 k, .int .i64 a, .int .i64 b, .string nm, .slice A ks.length c] := by rw [ht0]; rfl
  rw [hfe] at HCk HPo ⊢
  have HB := Lib.hid (below_alloc1 w (Obj.cells #[.int .i64 k, .int .i64 a, .int .i64 b, .string nm, .slice A ks.length c] 24))
  have HX := Lib.hid (Box.new w 24 #[.int .i64 k, .int .i64 a, .int .i64 b, .string nm, .slice A ks.length c])
  clear ht0 hfe
  go_enter Tryz.func21, Tryz.ntmps21
  go_upto_region 1 with fail
  generalize w.alloc (Obj.cells #[.int .i64 k, .int .i64 a, .int .i64 b, .string nm, .slice A ks.length c] 24) = W1 at *
  obtain ⟨x0, x1, x2, x3, x4⟩ := fecells HX.out
  go_wp2_with fail
  refine (HCk.out W1 HB.out).mono ?_
  rintro e w2 ⟨E, rfl, hE, hb2⟩
  have HB2 := Lib.hid (below_then HB.out hb2)
  have HX2 := Lib.hid (HX.out.below hb2)
  have HE := Lib.hid hE
  clear hb2 hE HB HX HCk x0 x1 x2 x3 x4
  by_cases hE0 : E = 0
  case neg =>
    have t1 : (E != 0) = true := by rw [bne_iff_ne]; exact hE0
    have HR : Hid ((E = 0 ↔ FeGood t0 ∧ onceF t0 = false ∧ perF t0 ≠ 0) ∧ E ≠ 0) := ⟨⟨fun h => absurd h hE0, fun h => HE.out.2 h.1⟩, hE0⟩
    clear hE0 HE
    go_wp2_with fail
    go_ret2
    exact ⟨0, E, rfl, HB2.out, HR.out.1, fun h => absurd h HR.out.2⟩
  subst hE0
  have HGd := Lib.hid (HE.out.1 rfl)
  clear HE
  have HP2 := Lib.hid (HPo.out w2 HB2.out HGd.out)
  clear HPo
  obtain ⟨x0, x1, x2, x3, x4⟩ := fecells HX2.out
  go_wp2_with fail
  refine HP2.out.mono ?_
  rintro e w3 ⟨n, E, rfl, hb3, h1, h2⟩
  have HB3 := Lib.hid (below_then HB2.out hb3)
  have HR := Lib.hid (And.intro h1 h2)
  clear hb3 h1 h2 HB2 HX2 HP2 x0 x1 x2 x3 x4
  go_wp2_with fail
  go_ret2
  exact ⟨n, E, rfl, HB3.out, HR.out.1, HR.out.2⟩
end Go.Proofs.YtjaahiphjekfgaaGreatDoor

/- An expression for days that came in as an argument, read as a tree. -/
namespace Go.Proofs.YtjaahiphjekfgaaGreatDoor
open Go.RowKit Go.Joins Go.ChangeShapes Go.WideShapes Go.Deep
set_option linter.unusedVariables false

section
variable {H : Type} {enc : TypeId × Value → H} {W : World}
set_option maxRecDepth 100000 in
/-- an expression -/
theorem fe_of_trod : ∀ (N n : Nat) (cs : List Value) (y : DataW H × List MemPlace), n < N → DataW.trod enc Tryz.prog W 0 (fun _ => true) true n 24 cs = some y → ∃ t : FE, cs = feF t ∧ FeIn W W.heap.size t := by
  intro N
  induction N with
  | zero => intro n cs y h; omega
  | succ N ih =>
    intro n cs y hn h
    obtain ⟨xs, m, hm, _, hlen, hxl, hf⟩ := DataW.trod_struct Tryz.underlying24 h
    have hC : Tryz.prog.cellsOf 24 = 5 := by kernel_rfl
    rw [hC] at hlen
    match cs, hlen with
    | [c0, c1, c2, c3, c4], _ =>
      have e0 : Tryz.prog.cellsOf 3 = 1 := by kernel_rfl
      have e1 : Tryz.prog.cellsOf 9 = 1 := by kernel_rfl
      have e2 : Tryz.prog.cellsOf 22 = 1 := by kernel_rfl
      have h0 := hf 0 _ rfl
      have h1 := hf 1 _ rfl
      have h2 := hf 2 _ rfl
      have h3 := hf 3 _ rfl
      have h4 := hf 4 _ rfl
      match xs, hxl with
      | [x0, x1, x2, x3, x4], _ =>
        simp [e0, e1, e2] at h0 h1 h2 h3 h4
        obtain ⟨k, ek, _, wk⟩ := DataW.trod_int Tryz.underlying3 h0
        obtain ⟨a, ea, _, wa⟩ := DataW.trod_int Tryz.underlying3 h1
        obtain ⟨b, eb, _, wb⟩ := DataW.trod_int Tryz.underlying3 h2
        obtain ⟨nm, en, _, wn⟩ := DataW.trod_string Tryz.underlying9 h3
        simp at ek ea eb en
        subst ek ea eb en
        obtain ⟨A, ks, c, e, k1, k2, row, kids⟩ := list_trodN fe0 feF_len (by omega) Tryz.underlying22 hC (fun m' cs y hm' hh => ih m' cs y (by omega) hh) h4
        subst e
        exact ⟨.node k a b nm A c ks, rfl, .mk (bounds_i64 wk) (bounds_i64 wa) (bounds_i64 wb) wn (by omega) row kids⟩
set_option maxRecDepth 100000 in
theorem fe_open {base : Nat} {v : Value} {d : DataW H} {p : List MemPlace} (hv : Value.okWide Tryz.prog W .any base 24 v) (h : DataW.Trod enc Tryz.prog W 0 (fun _ => true) true 24 v d p) :
    ∃ t : FE, v = feV t ∧ FeIn W W.heap.size t := by
  have hC : Tryz.prog.cellsOf 24 = 5 := by kernel_rfl
  obtain ⟨cs, rfl, hsz⟩ := okWide_struct Tryz.underlying24 hv
  obtain ⟨l⟩ := cs
  match l, hsz.trans hC with
  | [c0, c1, c2, c3, c4], _ =>
    obtain ⟨m', hm'⟩ := h
    obtain ⟨t, e, ht⟩ := fe_of_trod _ m' _ _ (Nat.lt_succ_self _) hm'
    refine ⟨t, ?_, ht⟩
    obtain ⟨k, a, b, nm, A, c, ks⟩ := t
    have hc : (Value.agg ⟨[c0, c1, c2, c3, c4]⟩).cells.toList = [c0, c1, c2, c3, c4] := rfl
    rw [hc] at e
    simp only [feF, List.cons.injEq, and_true] at e
    obtain ⟨rfl, rfl, rfl, rfl, rfl⟩ := e
    rfl
end
end Go.Proofs.YtjaahiphjekfgaaGreatDoor

/- The walk of PeriodRepeats: it returns true at every input; it writes nothing that was there. -/
namespace Go.Proofs.YtjaahiphjekfgaaGreatDoor.periodRepeats
open Go Go.RowKit
attribute [local go_sem] Oper.semAt_some
set_option linter.unusedVariables false

theorem per10 : perF fe10 = 10 := by
  unfold fe10
  rw [perF, perL]
  unfold ownN
  rw [if_neg (by omega), if_neg (by omega), if_pos rfl]
  rfl
theorem once10 : onceF fe10 = false := rfl

set_option maxRecDepth 100000 in
set_option maxHeartbeats 4000000 in
theorem core (t : FE) (day0 : Int) (w : World) (hv : Env w) (ht : FeIn w w.heap.size t) :
    Calls Tryz.prog 7 #[feV t, .int .i64 day0] w fun e w' => e = .returned (.bool true) ∧ Below w.heap.size w w' := by
  have HTn := Lib.hid (fun W => tenth_any W)
  have HP10 := Lib.hid (fun W (h : Below w.heap.size w W) => pPeriod_any fe10 W (hv.next h) (fe10_in W _))
  have HPe := Lib.hid (fun W (h : Below w.heap.size w W) => pPeriod_any t W (hv.next h) (ht.next h h.size))
  have HCut := Lib.hid (fun W => cut_any day0 1 300000 W (by omega) (by omega) (by omega) (by omega))
  have b1 := Int.emod_nonneg day0 (show (300000 : Int) ≠ 0 by omega)
  have b2 := Int.emod_lt_of_pos day0 (show (0 : Int) < 300000 by omega)
  obtain ⟨day, hday⟩ : ∃ day, day = 1 + day0 % 300000 := ⟨_, rfl⟩
  rw [← hday] at HCut
  have hd1 : 1 ≤ day ∧ day ≤ 300000 := by omega
  have HHs := Lib.hid (fun d W (h : Below w.heap.size w W) => has_any t d W (hv.next h) (ht.next h h.size))
  unfold PeriodQ at HP10 HPe
  unfold HasQ at HHs
  rw [show feV fe10 = .agg #[.int .i64 4, .int .i64 10, .int .i64 0, .string ⟨#[]⟩, .slice none 0 0] from rfl] at HP10
  clear b1 b2 hday hv ht
  obtain ⟨t0, ht0⟩ : ∃ t0, t0 = t := ⟨_, rfl⟩
  obtain ⟨k, a, b, nm, A, c, ks⟩ := t
  rw [← ht0] at HPe HHs ⊢
  have hft : feV t0 = .agg #[.int .i64 k, .int .i64 a, .int .i64 b, .string nm, .slice A ks.length c] := by rw [ht0]; rfl
  rw [hft] at HPe HHs ⊢
  have HB := Lib.hid (below_alloc1 w (Obj.cells #[.int .i64 k, .int .i64 a, .int .i64 b, .string nm, .slice A ks.length c] 24))
  have HX := Lib.hid (Box.new w 24 #[.int .i64 k, .int .i64 a, .int .i64 b, .string nm, .slice A ks.length c])
  clear ht0 hft
  go_enter Tryz.func7, Tryz.ntmps7
  go_upto_region 1 with fail
  generalize w.alloc (Obj.cells #[.int .i64 k, .int .i64 a, .int .i64 b, .string nm, .slice A ks.length c] 24) = W2 at *
  obtain ⟨g0, hg0⟩ : ∃ g0, g0 = w.heap.size := ⟨_, rfl⟩
  rw [← hg0] at HX ⊢
  have HG := Lib.hid hg0
  clear hg0
  go_wp2_with fail
  refine (HTn.out W2).mono ?_
  rintro e w3 ⟨rfl, hb3⟩
  have HB3 := Lib.hid (below_then HB.out hb3)
  have HX3 := Lib.hid (HX.out.below hb3)
  clear hb3 HB HX HTn
  go_wp2_with fail
  refine (HP10.out w3 HB3.out).mono ?_
  rintro e w4 ⟨n, E, rfl, hb4, h1, h2⟩
  have HB4 := Lib.hid (below_then HB3.out hb4)
  have HX4 := Lib.hid (HX3.out.below hb4)
  have hE : E = 0 := h1.2 ⟨fe10_good, once10, by rw [per10]; omega⟩
  have hn : n = 10 := by rw [h2 hE, per10]
  subst hE hn
  clear hb4 h1 h2 HB3 HX3 HP10
  obtain ⟨x0, x1, x2, x3, x4⟩ := fecells HX4.out
  go_wp2_with fail
  refine (HPe.out w4 HB4.out).mono ?_
  rintro e w5 ⟨n, E, rfl, hb5, h1, h2⟩
  have HB5 := Lib.hid (below_then HB4.out hb5)
  have HX5 := Lib.hid (HX4.out.below hb5)
  have HR := Lib.hid (And.intro h1 h2)
  clear hb5 h1 h2 HB4 HX4 HPe x0 x1 x2 x3 x4
  by_cases hE0 : E = 0
  case neg =>
    have t1 : (E != 0) = true := by rw [bne_iff_ne]; exact hE0
    clear hE0 HR
    go_wp2_with fail
    go_ret
    exact ⟨rfl, HB5.out⟩
  subst hE0
  obtain ⟨hgd, hon, hpf⟩ := HR.out.1.1 rfl
  have hnp := HR.out.2 rfl
  by_cases hbig : 1000000 < (n : Int)
  · have t2 : decide (1000000 < (n : Int)) = true := decide_eq_true hbig
    have t2' : decide (1000000 < n) = true := decide_eq_true (by omega)
    clear hgd hon hpf hnp HR
    go_wp2_with fail
    go_ret
    exact ⟨rfl, HB5.out⟩
  have hRep : memF t0 day ↔ memF t0 (day + n) := by
    have hht := hgd.ht
    exact memF_rep (n : Int) (by omega) hgd.ok (per_ok hgd.ok hon hpf (n : Int) (by rw [hnp]; exact Int.dvd_refl _)) day (by omega) (by omega)
  have HGd := Lib.hid hgd
  have HRp := Lib.hid hRep
  have t2 : decide (1000000 < (n : Int)) = false := decide_eq_false hbig
  have t2' : ¬ 1000000 < n := by omega
  have ew : IntKind.i64.wrap (day + (n : Int)) = day + (n : Int) := intFits _ (by omega) (by omega)
  have HD : Hid (DayIn day ∧ DayIn (day + n)) := ⟨⟨by omega, by omega⟩, by omega, by omega⟩
  clear hgd hon hpf hnp HR hRep hbig
  obtain ⟨x0, x1, x2, x3, x4⟩ := fecells HX5.out
  go_wp2_with (go_at_call 9; refine (HCut.out _).mono ?_; rintro e w' ⟨rfl, rfl⟩)
  refine (HHs.out day w5 HB5.out).mono ?_
  rintro e w6 ⟨ta, E, rfl, hE, hm, _, hb6⟩
  have HB6 := Lib.hid (below_then HB5.out hb6)
  have HX6 := Lib.hid (HX5.out.below hb6)
  have hE0 : E = 0 := hE.2 ⟨HGd.out, HD.out.1⟩
  have HMa := Lib.hid (hm hE0)
  subst hE0
  clear hb6 hE hm HB5 HX5 x0 x1 x2 x3 x4
  obtain ⟨x0, x1, x2, x3, x4⟩ := fecells HX6.out
  go_wp2_with fail
  refine (HHs.out (day + n) w6 HB6.out).mono ?_
  rintro e w7 ⟨tb, E, rfl, hE, hm, _, hb7⟩
  have HB7 := Lib.hid (below_then HB6.out hb7)
  have hE0 : E = 0 := hE.2 ⟨HGd.out, HD.out.2⟩
  have htb : ta = tb := by rw [Bool.eq_iff_iff, HMa.out, hm hE0]; exact HRp.out
  subst hE0 htb
  have t5 : (ta == ta) = true := beq_self_eq_true _
  clear hb7 hE hm HB6 HX6 x0 x1 x2 x3 x4
  go_wp2_with fail
  go_ret
  exact ⟨rfl, HB7.out⟩

set_option maxRecDepth 100000 in
theorem walk {H : Type} {enc : TypeId × Value → H} {base : Nat} {W : World} (v0 : Value) (d0 : DataW H) (p0 : List MemPlace) (hv0 : Value.okWide Tryz.prog W .any base 24 v0) (h0 : DataW.Trod enc Tryz.prog W 0 (fun _ => true) true 24 v0 d0 p0)
    (a1 : Int) (w1 : (Lit.int .i64 a1).wf = true)
    (hL : laidMet Tryz.prog Rows.periodRepeatsRow.laid W) (hsh : W.ShapedOpen Tryz.prog) :
    Calls Tryz.prog 7 #[v0, .int .i64 a1] W fun e w' => e = .returned (.bool true) ∧ Below W.heap.size W w' := by
  obtain ⟨t, rfl, ht⟩ := fe_open hv0 h0
  exact core t a1 W ⟨sgs_of hL.tail.tail.tail.tail.tail.tail.tail, lvs_of hL.tail.tail.tail.tail.tail.tail, Shp.of hsh⟩ ht
end Go.Proofs.YtjaahiphjekfgaaGreatDoor.periodRepeats
