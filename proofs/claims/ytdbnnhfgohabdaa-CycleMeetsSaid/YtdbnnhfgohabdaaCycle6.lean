/- Contracts of package cycle: check and Next at the places of a day. -/
import Derived.Test.YtdbnnhfgohabdaaCycle5
namespace Go.Proofs.Ytdbnnhfgohabdaa
open Go.RowKit
set_option linter.unusedVariables false

theorem allR_zero (Ls : List Int) (u : Nat) (s : Int) : AllR Ls u s 0 := fun q _ _ => by rw [Int.zero_mul]; exact Int.dvd_zero _
theorem take_drop_mem (Ls : List Int) (u : Nat) (x : Int) (h : x ∈ Ls.drop u) : ∃ q, u ≤ q ∧ q < Ls.length ∧ Ls.getD q 0 = x := by
  obtain ⟨k, hk, e⟩ := List.getElem_of_mem h
  rw [List.length_drop] at hk
  refine ⟨u + k, by omega, by omega, ?_⟩
  rw [List.getElem_drop] at e
  simp [List.getD, List.getElem?_eq_getElem (show u + k < Ls.length by omega), e]
/-- the steps after which the places occur again -/
theorem allR_iff (Ls : List Int) (u : Nat) (t : Int) (hp : ∀ n ∈ Ls, 1 ≤ n) : AllR Ls u (lcmR 1 (Ls.take u)) t ↔ lcmR 1 Ls ∣ t * lcmR 1 (Ls.take u) := by
  obtain ⟨b1, b2, b3, b4⟩ := lcmR_facts (Ls.take u) 1 (by omega) (fun n hn => hp n (List.mem_of_mem_take hn))
  obtain ⟨c1, c2, c3, c4⟩ := lcmR_facts (Ls.drop u) (lcmR 1 (Ls.take u)) b1 (fun n hn => hp n (List.mem_of_mem_drop hn))
  rw [← lcmR_append, List.take_append_drop] at c1 c2 c3 c4
  constructor
  · intro h
    apply c4
    · exact Int.dvd_mul_left _ _
    · intro n hn
      obtain ⟨q, h1, h2, rfl⟩ := take_drop_mem Ls u n hn
      exact h q h1 h2
  · intro h q h1 h2
    apply Int.dvd_trans _ h
    apply c3
    have : Ls.getD q 0 = (Ls.drop u)[q - u]'(by rw [List.length_drop]; omega) := by
      rw [List.getElem_drop]
      simp [List.getD, List.getElem?_eq_getElem h2, show u + (q - u) = q from by omega]
    rw [this]
    exact List.getElem_mem _
theorem lcm_step (Ls : List Int) (u : Nat) (hp : ∀ n ∈ Ls, 1 ≤ n) : 1 ≤ lcmR 1 (Ls.take u) ∧ ∃ T : Int, 1 ≤ T ∧ lcmR 1 Ls = T * lcmR 1 (Ls.take u) := by
  obtain ⟨b1, b2, b3, b4⟩ := lcmR_facts (Ls.take u) 1 (by omega) (fun n hn => hp n (List.mem_of_mem_take hn))
  obtain ⟨c1, c2, c3, c4⟩ := lcmR_facts (Ls.drop u) (lcmR 1 (Ls.take u)) b1 (fun n hn => hp n (List.mem_of_mem_drop hn))
  rw [← lcmR_append, List.take_append_drop] at c1 c2 c3 c4
  refine ⟨b1, ?_⟩
  obtain ⟨T, hT⟩ := c2
  refine ⟨T, ?_, by rw [hT, Int.mul_comm]⟩
  rcases Int.lt_trichotomy T 0 with h | h | h
  · have := Int.mul_neg_of_pos_of_neg (show 0 < lcmR 1 (Ls.take u) by omega) h; omega
  · subst h; omega
  · omega

/-- Next's result -/
def nextV (D j0 L : Int) : Value := if j0 = 0 then .tuple #[.int .i64 D, .int .i64 0] else if D + L ≤ 4000000 then .tuple #[.int .i64 (D + L), .int .i64 0] else .tuple #[.int .i64 0, .int .i64 6]

/-- what next finds, said by the least common multiple -/
theorem next_ends (Ls : List Int) (u : Nat) (D j0 : Int) (hp : ∀ n ∈ Ls, 1 ≤ n) (hj : j0 = 0 ∨ j0 = 1) (hD2 : D ≤ 3999999) {w : World} {e : Ending} {w' : World}
    (h : IsNext Ls u (lcmR 1 (Ls.take u)) D j0 w e w') :
    (e = .returned (.tuple #[.int .i64 0, .bool false]) ∧ j0 = 1 ∧ 4000000 < D + lcmR 1 Ls ∨ e = .returned (.tuple #[.int .i64 (if j0 = 0 then D else D + lcmR 1 Ls), .bool true]) ∧ (j0 = 1 → D + lcmR 1 Ls ≤ 4000000)) ∧ Below w.heap.size w w' := by
  obtain ⟨h, hb⟩ := h
  refine ⟨?_, hb⟩
  obtain ⟨s1, T, hT, hL⟩ := lcm_step Ls u hp
  have hall := fun t => allR_iff Ls u t hp
  have hz := allR_zero Ls u (lcmR 1 (Ls.take u))
  generalize lcmR 1 (Ls.take u) = s at *
  have hTA : AllR Ls u s T := (hall T).2 ⟨1, by rw [← hL]; omega⟩
  rcases h with ⟨t, rfl, h1, h2, h3, h4⟩ | ⟨J, rfl, h1, h2⟩
  · right
    rcases hj with rfl | rfl
    · have ht : t = 0 := by
        rcases Int.lt_or_le 0 t with hp | hp
        · exact absurd hz (h4 0 (Int.le_refl _) hp)
        · omega
      subst ht
      simp
    · have hle : t ≤ T := by
        rcases Int.lt_or_le T t with hp | hp
        · exact absurd hTA (h4 T hT hp)
        · exact hp
      have hge : T ≤ t := by
        obtain ⟨k, hk⟩ := (hall t).1 h3
        rcases Int.lt_or_le t T with hlt | hge
        · exfalso
          have hts : t * s < T * s := Int.mul_lt_mul_of_pos_right hlt (by omega)
          have hpos : 0 < t * s := Int.mul_pos (by omega) (by omega)
          have := dvd_of_small (lcmR 1 Ls) (t * s) ((hall t).1 h3) (by omega) (by omega)
          omega
        · exact hge
      obtain rfl : t = T := by omega
      rw [← hL] at h2
      rw [hL]
      simp
      omega
  · rcases hj with rfl | rfl
    · exfalso
      rcases Int.lt_or_le 0 J with hp | hp
      · exact absurd hz (h2 0 (Int.le_refl _) hp)
      · have := Int.mul_le_mul_of_nonneg_right hp (show 0 ≤ s by omega)
        omega
    · left
      refine ⟨rfl, rfl, ?_⟩
      have hle : J ≤ T := by
        rcases Int.lt_or_le T J with hp | hp
        · exact absurd hTA (h2 T hT hp)
        · exact hp
      have := Int.mul_le_mul_of_nonneg_right hle (show 0 ≤ s by omega)
      omega

set_option maxHeartbeats 1000000 in
set_option maxRecDepth 100000 in
theorem ccheck2_yes (A A' P : Option Addr) (c c' cp : Nat) (Ls Os Ps : List Int) (D day : Int) (w : World) (hL : Row w w.heap.size A (ints Ls)) (hO : Row w w.heap.size A' (ints Os)) (hP : Row w w.heap.size P (ints Ps))
    (hok : CycOk Ls Os) (hPs : Ps = places Ls Os D) (hD1 : -4000000 ≤ day) (hD2 : day ≤ 4000000) :
    Calls Try.prog 74 #[.agg #[.slice A Ls.length c, .slice A' Ls.length c'], .int .i64 day, .slice P Ls.length cp] w fun e w' => e = .returned (.int .i64 0) ∧ Below w.heap.size w w' := by
  have HOK := Lib.hid hok
  have hc1 := hok.1
  have hc2 := hok.2.1
  have hc3 := hok.2.2.1
  clear hok
  have hpl : Ps.length = Ls.length := by rw [hPs, places_length]
  have HPs := Lib.hid hPs
  clear hPs
  obtain ⟨b, o, rfl, hb, hc⟩ := hL.open_ (ints_ne Ls (by omega))
  obtain ⟨bp, op, rfl, hbp, hcp⟩ := hP.open_ (ints_ne Ps (by omega))
  have HC := Lib.hid hc
  have HCP := Lib.hid hcp
  have Hck := Lib.hid (fun w hL hO => ccheck_any (some ⟨b, o, none⟩) A' c c' Ls Os w hL hO (by unfold maxLen; omega) (by unfold maxLen; omega))
  rw [hc3] at Hck
  have Hpl := Lib.hid hpl
  clear hc hcp hP hc3 hpl
  obtain ⟨n, hn⟩ : ∃ n, Ls.length = n := ⟨_, rfl⟩
  have Hn := Lib.hid hn
  rw [hn] at hc1 hc2 Hck ⊢
  clear hn
  go_enter Try.func74, Try.ntmps74
  go_wp2_with fail
  refine (Hck.out _ (hL.alloc _) (hO.alloc _)).mono ?_
  rintro e w1 ⟨E, rfl, hE, hb1⟩
  obtain rfl : E = 0 := hE.2 HOK.out
  have hB := below_next (Below.refl _ _) hb1
  have hx := (Box.new w 76 #[.slice (some ⟨b, o, none⟩) n c, .slice A' n c']).below hb1
  clear hE hb1 hL hO Hck
  have x0 : w1.cell? ⟨w.heap.size, 0, none⟩ = some (.slice (some ⟨b, o, none⟩) n c) := hx.cell 0
  have t3 : ((n : Int) != (n : Int)) = false := by simp
  go_wp2_with (go_at_call 51; refine (is_yes _ _ hD1 hD2).mono ?_; rintro e w' ⟨rfl, rfl⟩)
  clear hx
  go_loop [8, 9, 26] (fun _ _ i => ∃ k : Nat, k ≤ n ∧ i = .int .i64 k) (fun _ _ i => n - (intOf i).toNat)
  case atStart => exact ⟨0, by omega, rfl⟩
  case round =>
    obtain ⟨k, hk, rfl⟩ := hrel
    by_cases hkn : k < n
    · have y0 : w1.cell? ⟨b, o + k, none⟩ = some (.int .i64 (Ls.getD k 0)) := by
        rw [hB.cell (p := ⟨b, o + k, none⟩) hb]; exact ints_cell HC.out k (by rw [Hn.out]; exact hkn)
      have y2 : w1.cell? ⟨bp, op + k, none⟩ = some (.int .i64 (Ps.getD k 0)) := by
        rw [hB.cell (p := ⟨bp, op + k, none⟩) hbp]; exact ints_cell HCP.out k (by rw [Hpl.out, Hn.out]; exact hkn)
      have hat := HOK.out.at_ k (by rw [Hn.out]; exact hkn)
      have hpk : Ps.getD k 0 = (D + Os.getD k 0) % Ls.getD k 0 := by rw [HPs.out]; exact places_get Ls Os D k (by rw [Hn.out]; exact hkn)
      generalize Ls.getD k 0 = x at *
      generalize Os.getD k 0 = y at *
      generalize Ps.getD k 0 = p at *
      have p1 := Int.emod_nonneg (D + y) (show x ≠ 0 by omega)
      have p2 := Int.emod_lt_of_pos (D + y) (show 0 < x by omega)
      rw [← hpk] at p1 p2
      clear hpk
      have t1 : decide (p < 0) = false := decide_eq_false (by omega)
      have t2 : decide (x ≤ p) = false := decide_eq_false (by omega)
      go_wp2_with fail
      go_round
      case rel => exact ⟨k + 1, by omega, by go_num⟩
      case measure => simp [intOf]; omega
    · go_wp2_with fail
      go_ret
      exact ⟨rfl, hB⟩

set_option maxHeartbeats 1000000 in
set_option maxRecDepth 100000 in
theorem cNext_yes (A A' P : Option Addr) (c c' cp : Nat) (Ls Os Ps : List Int) (D j0 : Int) (w : World) (hL : Row w w.heap.size A (ints Ls)) (hO : Row w w.heap.size A' (ints Os)) (hP : Row w w.heap.size P (ints Ps))
    (hok : CycOk Ls Os) (hPs : Ps = places Ls Os D) (hD1 : -4000000 ≤ D) (hD2 : D ≤ 3999999) (hj0 : j0 = 0 ∨ j0 = 1) :
    Calls Try.prog 44 #[.agg #[.slice A Ls.length c, .slice A' Ls.length c'], .int .i64 (D + j0), .slice P Ls.length cp] w fun e w' => e = .returned (nextV D j0 (lcmR 1 Ls)) ∧ Below w.heap.size w w' := by
  have HC := Lib.hid (fun w hL hO hP => ccheck2_yes A A' P c c' cp Ls Os Ps D (D + j0) w hL hO hP hok hPs (by omega) (by omega))
  have HO := Lib.hid (fun w hL hO hP => copen_yes A A' P c c' cp Ls Os Ps D w hL hO hP hok hPs)
  have HN := Lib.hid (fun s u w hL hO hP hu hs1 hs2 => cnext_any A A' P c c' cp Ls Os Ps D s j0 u w hL hO hP hok hPs hu hs1 hs2 hD1 hD2 hj0)
  have HE := Lib.hid (fun u (w : World) e (w' : World) h => next_ends Ls u D j0 hok.pos hj0 hD2 (w := w) (e := e) (w' := w') h)
  have HS := Lib.hid (fun u => (lcm_step Ls u hok.pos).1)
  have HJ := Lib.hid hj0
  clear hj0 hok hPs
  obtain ⟨n, hn⟩ : ∃ n, Ls.length = n := ⟨_, rfl⟩
  rw [hn] at HC HO HN
  rw [hn]
  have Hn := Lib.hid hn
  clear hn
  go_enter Try.func44, Try.ntmps44
  go_wp2_with fail
  refine (HC.out _ (hL.alloc _) (hO.alloc _) (hP.alloc _)).mono ?_
  rintro e w1 ⟨rfl, hb1⟩
  have hB := below_next (Below.refl _ _) hb1
  have hx := (Box.new w 76 #[.slice A n c, .slice A' n c']).below hb1
  replace hL := (hL.alloc _).next hb1
  replace hO := (hO.alloc _).next hb1
  replace hP := (hP.alloc _).next hb1
  clear hb1
  have x0 : w1.cell? ⟨w.heap.size, 0, none⟩ = some (.slice A n c) := hx.cell 0
  have x1 : w1.cell? ⟨w.heap.size, 1, none⟩ = some (.slice A' n c') := hx.cell 1
  go_wp2_with fail
  refine (HO.out _ hL hO hP).mono ?_
  rintro e w2 ⟨u, rfl, hu, hu2, hs2, hb2⟩
  rw [Hn.out] at hu
  have hs1 := HS.out u
  have HEu := Lib.hid (HE.out u)
  have HNu := Lib.hid (fun w hL hO hP => HN.out (lcmR 1 (Ls.take u)) u w hL hO hP hu hs1 hs2)
  clear x0 x1 hx hu2 HE HN HS
  generalize lcmR 1 (Ls.take u) = s at *
  replace hB := below_then hB hb2
  replace hL := hL.next hb2
  replace hO := hO.next hb2
  replace hP := hP.next hb2
  clear hb2
  go_wp2_with fail
  refine (HNu.out _ (hL.alloc _) (hO.alloc _) (hP.alloc _)).mono ?_
  intro e w3 hN
  obtain ⟨hE, hb3⟩ := HEu.out _ _ _ hN
  replace hB := below_next hB hb3
  clear hb3 hN HNu HEu
  rcases hE with ⟨rfl, hj, hbig⟩ | ⟨rfl, hfit⟩
  · go_wp2_with fail
    go_ret2
    exact ⟨by unfold nextV; rw [if_neg (by omega), if_neg (by omega)]; rfl, hB⟩
  · rcases HJ.out with h | h
    · subst h
      rw [if_pos rfl]
      go_wp2_with fail
      go_ret2
      exact ⟨by unfold nextV; rw [if_pos rfl]; rfl, hB⟩
    · subst h
      rw [if_neg (by omega)]
      have hf := Lib.hid (hfit rfl)
      clear hfit
      go_wp2_with fail
      go_ret2
      exact ⟨by unfold nextV; rw [if_neg (by omega), if_pos hf.out]; rfl, hB⟩
end Go.Proofs.Ytdbnnhfgohabdaa
