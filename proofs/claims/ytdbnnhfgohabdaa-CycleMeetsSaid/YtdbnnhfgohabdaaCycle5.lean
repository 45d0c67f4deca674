/- Contracts of package cycle: next, from a day on or from the day after it. -/
import Derived.Test.YtdbnnhfgohabdaaCycle4
namespace Go.Proofs.Ytdbnnhfgohabdaa
open Go.RowKit
set_option linter.unusedVariables false

/-- the cycles from the u-th on have the day's places t steps later -/
def AllR (Ls : List Int) (u : Nat) (s t : Int) : Prop := ∀ q, u ≤ q → q < Ls.length → Ls.getD q 0 ∣ t * s
/-- What next says. -/
def IsNext (Ls : List Int) (u : Nat) (s D j0 : Int) (w : World) (e : Ending) (w' : World) : Prop :=
  ((∃ t : Int, e = .returned (.tuple #[.int .i64 (D + t * s), .bool true]) ∧ j0 ≤ t ∧ D + t * s ≤ 4000000 ∧ AllR Ls u s t ∧ ∀ t', j0 ≤ t' → t' < t → ¬ AllR Ls u s t') ∨
   (∃ J : Int, e = .returned (.tuple #[.int .i64 0, .bool false]) ∧ 4000000 < D + J * s ∧ ∀ t', j0 ≤ t' → t' < J → ¬ AllR Ls u s t')) ∧ Below w.heap.size w w'

theorem start_mod (D s j0 : Int) (hs : 1 ≤ s) (h : j0 = 0 ∨ j0 = 1) : D + j0 + (D % s - (D + j0)) % s = D + j0 * s := by
  have e0 := dvd_sub_emod s D
  obtain ⟨k, hk⟩ := e0
  rcases h with rfl | rfl
  · have : (D % s - (D + 0)) % s = 0 := by
      rw [show D % s - (D + 0) = 0 + s * (-k) from by rw [Int.mul_neg]; omega, Int.add_mul_emod_self_left]; exact Int.zero_emod s
    omega
  · have : (D % s - (D + 1)) % s = s - 1 := by
      rw [show D % s - (D + 1) = (s - 1) + s * (-k - 1) from by rw [Int.mul_sub, Int.mul_neg]; omega, Int.add_mul_emod_self_left, Int.emod_eq_of_lt (by omega) (by omega)]
    omega

set_option maxHeartbeats 2000000 in
set_option maxRecDepth 100000 in
theorem cnext_any (A A' P : Option Addr) (c c' cp : Nat) (Ls Os Ps : List Int) (D s j0 : Int) (u : Nat) (w : World) (hL : Row w w.heap.size A (ints Ls)) (hO : Row w w.heap.size A' (ints Os)) (hP : Row w w.heap.size P (ints Ps))
    (hok : CycOk Ls Os) (hPs : Ps = places Ls Os D) (hu : u ≤ Ls.length) (hs1 : 1 ≤ s) (hs2 : s ≤ 8000000000) (hD1 : -4000000 ≤ D) (hD2 : D ≤ 3999999) (hj0 : j0 = 0 ∨ j0 = 1) :
    Calls Try.prog 76 #[.agg #[.slice A Ls.length c, .slice A' Ls.length c', .slice P Ls.length cp, .int .i64 (D % s), .int .i64 s, .int .i64 u], .int .i64 (D + j0)] w (IsNext Ls u s D j0 w) := by
  have HOK := Lib.hid hok
  have hc1 := hok.1
  have hc2 := hok.2.1
  have hc3 := hok.2.2.1
  clear hok
  have hpl : Ps.length = Ls.length := by rw [hPs, places_length]
  have HPs := Lib.hid hPs
  clear hPs
  obtain ⟨b, o, rfl, hb, hc⟩ := hL.open_ (ints_ne Ls (by omega))
  obtain ⟨b', o', rfl, hb', hc'⟩ := hO.open_ (ints_ne Os (by omega))
  obtain ⟨bp, op, rfl, hbp, hcp⟩ := hP.open_ (ints_ne Ps (by omega))
  have HC := Lib.hid hc
  have HC' := Lib.hid hc'
  have HCP := Lib.hid hcp
  have Hc3 := Lib.hid hc3
  have Hpl := Lib.hid hpl
  clear hc hc' hcp hL hO hP hc3 hpl
  obtain ⟨n, hn⟩ : ∃ n, Ls.length = n := ⟨_, rfl⟩
  have Hn := Lib.hid hn
  rw [hn] at hc1 hc2 hu ⊢
  clear hn
  have a1 := Int.emod_nonneg D (show s ≠ 0 by omega)
  have a2 := Int.emod_lt_of_pos D (show 0 < s by omega)
  have hst := Lib.hid (start_mod D s j0 hs1 hj0)
  generalize D % s = a at *
  have hj1 : 0 ≤ j0 := by omega
  have hj2 : j0 ≤ 1 := by omega
  clear hj0
  have m1 := Int.emod_nonneg (a - (D + j0)) (show s ≠ 0 by omega)
  have m2 := Int.emod_lt_of_pos (a - (D + j0)) (show 0 < s by omega)
  have hjs : 0 ≤ j0 * s ∧ j0 * s ≤ s := by
    have h1 := Int.mul_nonneg hj1 (show 0 ≤ s by omega)
    have h2 := Int.mul_le_mul_of_nonneg_right hj2 (show 0 ≤ s by omega)
    omega
  go_enter Try.func76, Try.ntmps76
  go_wp2_with (go_at_call 53; refine (mod_pos _ _ _ (by omega) (by omega) (by omega) (by omega)).mono ?_; rintro e w' ⟨rfl, n1, rfl⟩)
  obtain ⟨W0, hW⟩ : ∃ W0, W0 = w.alloc (Obj.cells #[.slice (some ⟨b, o, none⟩) n c, .slice (some ⟨b', o', none⟩) n c', .slice (some ⟨bp, op, none⟩) n cp, .int .i64 a, .int .i64 s, .int .i64 u] 107) := ⟨_, rfl⟩
  have hx : Box W0 w.heap.size 107 #[.slice (some ⟨b, o, none⟩) n c, .slice (some ⟨b', o', none⟩) n c', .slice (some ⟨bp, op, none⟩) n cp, .int .i64 a, .int .i64 s, .int .i64 u] := by rw [hW]; exact Box.new _ _ _
  have hB : Below w.heap.size w W0 := by rw [hW]; exact below_alloc1 _ _
  rw [← hW]
  clear hW
  obtain ⟨G, hG⟩ : ∃ G, w.heap.size = G := ⟨_, rfl⟩
  have HG := Lib.hid hG
  rw [hG] at hx hB hb hb' hbp ⊢
  clear hG
  have z0 : W0.cell? ⟨G, 0, none⟩ = some (.slice (some ⟨b, o, none⟩) n c) := hx.cell 0
  have z1 : W0.cell? ⟨G, 1, none⟩ = some (.slice (some ⟨b', o', none⟩) n c') := hx.cell 1
  have z2 : W0.cell? ⟨G, 2, none⟩ = some (.slice (some ⟨bp, op, none⟩) n cp) := hx.cell 2
  have z4 : W0.cell? ⟨G, 4, none⟩ = some (.int .i64 s) := hx.cell 4
  have z5 : W0.cell? ⟨G, 5, none⟩ = some (.int .i64 u) := hx.cell 5
  rw [hst.out]
  clear hst m1 m2 hx
  go_loopw [6, 7, 8] (fun d _ _ wr => ∃ (j : Int) (nd : Nat), d = .int .i64 (D + j * s) ∧ j0 ≤ j ∧ j * s ≤ 8000000 + s ∧ 0 ≤ j * s ∧ Hid (∀ t', j0 ≤ t' → t' < j → ¬ AllR Ls u s t') ∧ wr = W0.drewN nd) (fun d _ _ _ => (4000001 - intOf d).toNat)
  case atStart => exact ⟨j0, _, rfl, Int.le_refl _, by omega, by omega, fun t' h1 h2 => by omega, rfl⟩
  case round =>
    obtain ⟨j, nd, rfl, hj, hjb, hjp, hno, rfl⟩ := hrel
    have hjs1 : (j + 1) * s = j * s + s := by rw [Int.add_mul, Int.one_mul]
    have HJ1 := Lib.hid hjs1
    have HB : Hid (Below w.heap.size w W0) := by rw [HG.out]; exact hB
    clear hjs1
    by_cases hd : D + j * s ≤ 4000000
    · go_wp2_with (go_at_call 51; refine (is_yes _ _ (by omega) (by omega)).mono ?_; rintro e w' ⟨rfl, rfl⟩)
      go_loopw [7, 8] (fun is i wr => ∃ (k nd : Nat) (bo : Bool), u ≤ k ∧ k ≤ n ∧ i = .int .i64 k ∧ is = .bool bo ∧ Hid (bo = true ↔ ∀ q, u ≤ q → q < k → Ls.getD q 0 ∣ j * s) ∧ wr = W0.drewN nd) (fun _ i _ => n - (intOf i).toNat)
      case atStart => exact ⟨u, _, true, Nat.le_refl _, hu, rfl, rfl, ⟨fun _ q h1 h2 => by omega, fun _ => rfl⟩, rfl⟩
      case round =>
        obtain ⟨k, nd2, bo, hku, hkn, rfl, rfl, hbo, rfl⟩ := hrel
        by_cases hlt : k < n
        · cases bo with
          | false =>
            have hno2 : ¬ ∀ q, u ≤ q → q < k → Ls.getD q 0 ∣ j * s := fun h => by have := hbo.out.2 h; cases this
            go_wp2_with fail
            go_quiet (fail)
            go_wp2_with fail
            go_roundw
            case rel => exact ⟨k + 1, _, false, by omega, by omega, by go_num, rfl, ⟨(fun h => by cases h), fun h => absurd (fun q h1 h2 => h q h1 (by omega)) hno2⟩, (by first | rfl | exact World.drewN_drewN _ _ _)⟩
            case measure => simp [intOf]; omega
          | true =>
            have y0 : W0.cell? ⟨b, o + k, none⟩ = some (.int .i64 (Ls.getD k 0)) := by
              rw [hB.cell (p := ⟨b, o + k, none⟩) hb]; exact ints_cell HC.out k (by rw [Hn.out]; exact hlt)
            have y1 : W0.cell? ⟨b', o' + k, none⟩ = some (.int .i64 (Os.getD k 0)) := by
              rw [hB.cell (p := ⟨b', o' + k, none⟩) hb']; exact ints_cell HC'.out k (by rw [Hc3.out, Hn.out]; exact hlt)
            have y2 : W0.cell? ⟨bp, op + k, none⟩ = some (.int .i64 (Ps.getD k 0)) := by
              rw [hB.cell (p := ⟨bp, op + k, none⟩) hbp]; exact ints_cell HCP.out k (by rw [Hpl.out, Hn.out]; exact hlt)
            have hat := HOK.out.at_ k (by rw [Hn.out]; exact hlt)
            have hpk : Ps.getD k 0 = (D + Os.getD k 0) % Ls.getD k 0 := by rw [HPs.out]; exact places_get Ls Os D k (by rw [Hn.out]; exact hlt)
            generalize hxe : Ls.getD k 0 = x at *
            have Hxe := Lib.hid hxe
            clear hxe
            generalize Os.getD k 0 = y at *
            generalize Ps.getD k 0 = p at *
            obtain ⟨b1, b2, b3, b4⟩ := hat
            have HM := Lib.hid (fun w => mod_pos (D + j * s + y) x w (by omega) (by omega) (by omega) (by omega))
            have hiff : Hid ((D + j * s + y) % x = p ↔ x ∣ j * s) := by
              show (D + j * s + y) % x = p ↔ x ∣ j * s
              rw [hpk, show D + j * s + y = D + y + j * s from by omega]
              exact mod_same_iff (D + y) (j * s) x b1
            clear hpk
            generalize (D + j * s + y) % x = r at *
            have hw1 : IntKind.i64.wrap (D + j * s + y) = D + j * s + y := IntWalk.i64_in _ (by omega)
            have hk1 : (0 : Int) ≤ (k : Int) := by omega
            have hk2 : (k : Int) < (n : Int) := by omega
            have hbo' := hbo.out.1 rfl
            have HBO := Lib.hid hbo'
            clear hbo hbo'
            by_cases hr : r = p
            · have tr : (r == p) = true := beq_iff_eq.2 hr
              have HR := Lib.hid hr
              clear hr
              go_wp2_with fail
              go_quiet ((go_at_call 53; exact quiet_add (HM.out _)))
              go_wp2_with fail
              go_roundw
              case rel => exact ⟨k + 1, _, true, by omega, by omega, by go_num, rfl, ⟨fun _ q h1 h2 => by
                by_cases hq : q < k
                · exact HBO.out q h1 hq
                · obtain rfl : q = k := by omega
                  rw [Hxe.out]; exact hiff.out.1 HR.out, fun _ => rfl⟩, (by first | rfl | exact World.drewN_drewN _ _ _)⟩
              case measure => simp [intOf]; omega
            · have tr : (r == p) = false := beq_eq_false_iff_ne.2 hr
              go_wp2_with fail
              go_quiet ((go_at_call 53; exact quiet_add (HM.out _)))
              go_wp2_with fail
              go_roundw
              case rel => exact ⟨k + 1, _, false, by omega, by omega, by go_num, rfl, ⟨(fun h => by cases h), fun h => absurd (hiff.out.2 (by have := h k hku (by omega); rwa [Hxe.out] at this)) hr⟩, (by first | rfl | exact World.drewN_drewN _ _ _)⟩
              case measure => simp [intOf]; omega
        · obtain rfl : k = n := by omega
          cases bo with
          | true =>
            have HA : Hid (AllR Ls u s j) := fun q h1 h2 => hbo.out.1 rfl q h1 (by rw [Hn.out] at h2; exact h2)
            clear hbo
            go_wp2_with fail
            go_ret2
            exact ⟨.inl ⟨j, rfl, hj, hd, HA.out, hno.out⟩, below_drew HB.out _⟩
          | false =>
            have HA : Hid (¬ AllR Ls u s j) := fun h => by
              have := hbo.out.2 (fun q h1 h2 => h q h1 (by rw [Hn.out]; exact h2))
              cases this
            clear hbo
            go_wp2_with fail
            go_roundw
            case rel => exact ⟨j + 1, _, by rw [HJ1.out]; go_num, by omega, by rw [HJ1.out]; omega, by rw [HJ1.out]; omega, fun t' h1 h2 => by
              by_cases ht : t' < j
              · exact hno.out t' h1 ht
              · obtain rfl : t' = j := by omega
                exact HA.out, rfl⟩
            case measure => simp [intOf]; omega
    · go_wp2_with (go_at_call 51; refine (is_no _ _ (by omega)).mono ?_; rintro e w' ⟨rfl, rfl⟩)
      go_ret2
      exact ⟨.inr ⟨j, rfl, by omega, hno.out⟩, below_drew HB.out _⟩
end Go.Proofs.Ytdbnnhfgohabdaa
