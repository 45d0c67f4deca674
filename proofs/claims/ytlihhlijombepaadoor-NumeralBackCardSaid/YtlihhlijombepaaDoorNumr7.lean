/- Contract of numeral.writeChinese. -/
import Derived.Test.YtlihhlijombepaaDoorNumr6
import Derived.Deep.DeepCutAuto
namespace Go.Proofs.YtlihhlijombepaaDoor
open Go.RowKit
set_option linter.unusedVariables false

def chP (n j : Nat) : List Nat × Bool := (chPl.take j).foldl (chF n) ([], false)
def plAt (j : Nat) : Nat := if j = 0 then 1000 else if j = 1 then 100 else if j = 2 then 10 else if j = 3 then 1 else 0
def unitAt (j : Nat) : List Nat := if j = 0 then [0x5343] else if j = 1 then [0x767e] else if j = 2 then [0x5341] else []
theorem chP_succ (n j : Nat) (hj : j < 4) : chP n (j + 1) = chF n (chP n j) (plAt j, unitAt j) := by
  match j, hj with
  | 0, _ | 1, _ | 2, _ | 3, _ => rfl
theorem chD_bmp (d : Nat) (h : d < 10) : chD d < 55296 := by
  have : ∀ d, d < 10 → chD d < 55296 := by decide
  exact this d h
theorem chP_ok (n : Nat) : ∀ j, j ≤ 4 → (chP n j).1.length ≤ 3 * j ∧ ∀ r ∈ (chP n j).1, Bmp r
  | 0, _ => by simp [chP]
  | j + 1, hj => by
    obtain ⟨h1, h2⟩ := chP_ok n j (by omega)
    rw [chP_succ n j (by omega)]
    have hu : (unitAt j).length ≤ 1 ∧ ∀ r ∈ unitAt j, r < 55296 := by
      unfold unitAt
      repeat' split
      all_goals simp
    unfold chF
    by_cases hd : n / plAt j % 10 = 0
    · simp only [hd, if_true]
      exact ⟨by omega, h2⟩
    · simp only [hd, if_false]
      constructor
      · simp only [List.length_append, List.length_cons]
        have : (if (chP n j).2 = true then [chD 0] else []).length ≤ 1 := by split <;> simp
        omega
      · intro r hr
        simp only [List.mem_append, List.mem_cons] at hr
        rcases hr with (hr | hr) | rfl | hr
        · exact h2 r hr
        · split at hr
          · obtain rfl := List.mem_singleton.1 hr
            exact .inl (chD_bmp 0 (by omega))
          · cases hr
        · exact .inl (chD_bmp _ (by omega))
        · exact .inl (hu.2 r hr)
theorem run_unit (j : Nat) (hj : j < 4) (W : World) : (Instr.index 201 (.agg #[.string ⟨#[229, 141, 131]⟩, .string ⟨#[231, 153, 190]⟩, .string ⟨#[229, 141, 129]⟩, .string ⟨#[]⟩]) (.int .i64 (j : Int))).run Tryd.prog W = .ok (.string (str (encs (unitAt j)))) W := by
  have u0 : str (encs (unitAt 0)) = ⟨#[229, 141, 131]⟩ := by decide +kernel
  have u1 : str (encs (unitAt 1)) = ⟨#[231, 153, 190]⟩ := by decide +kernel
  have u2 : str (encs (unitAt 2)) = ⟨#[229, 141, 129]⟩ := by decide +kernel
  have u3 : str (encs (unitAt 3)) = ⟨#[]⟩ := by decide +kernel
  match j, hj with
  | 0, _ => rw [u0]; simp [Instr.index, run_underlying Tryd.underlying201, asIntOf, go_sem]
  | 1, _ => rw [u1]; simp [Instr.index, run_underlying Tryd.underlying201, asIntOf, go_sem]
  | 2, _ => rw [u2]; simp [Instr.index, run_underlying Tryd.underlying201, asIntOf, go_sem]
  | 3, _ => rw [u3]; simp [Instr.index, run_underlying Tryd.underlying201, asIntOf, go_sem]
theorem encs_empty (rs : List Nat) (h : ∀ r ∈ rs, Bmp r) : (str (encs rs)).toList.isEmpty = rs.isEmpty := by
  rw [str_toList]
  cases rs with
  | nil => rfl
  | cons r rs =>
    have := (encs_len (r :: rs) h).1
    cases he : encs (r :: rs) with
    | nil => rw [he] at this; simp at this
    | cons a b => rfl

set_option maxHeartbeats 1000000 in
set_option maxRecDepth 100000 in
theorem writeChinese_any (n : Nat) (hn : n ≤ 9999) (w : World) : Calls Tryd.prog 115 #[.int .i64 (n : Int)] w (SignQ (chR n) w) := by
  by_cases h0 : n = 0
  · subst h0
    have HD := Lib.hid (chineseDigit_any 0 (by omega) w)
    rw [show chR 0 = [chD 0] from rfl]
    unfold SignQ
    generalize str (encs [chD 0]) = R at *
    go_enter Tryd.func115, Tryd.ntmps115
    go_wp2_with fail
    refine HD.out.mono ?_
    rintro e w1 ⟨rfl, rfl⟩
    go_wp2_with fail
    go_ret
    exact ⟨rfl, Below.refl _ _⟩
  have t0 : ((n : Int) == 0) = false := by rw [beq_eq_false_iff_ne]; omega
  have hR : chR n = (chP n 4).1 := by unfold chR; rw [if_neg h0]; rfl
  rw [hR]
  clear hR
  have HZ := Lib.hid (fun W => chineseDigit_any 0 (by omega) W)
  go_enter Tryd.func115, Tryd.ntmps115
  go_wp2_with fail
  go_loopw [3, 4, 5, 13] (fun s z p i wr => ∃ j : Nat, j ≤ 4 ∧ i = .int .i64 (j : Int) ∧ s = .string (str (encs (chP n j).1)) ∧ z = .bool (chP n j).2 ∧ p = .int .i64 (plAt j : Nat) ∧ wr = w) (fun _ _ _ i _ => 4 - (intOf i).toNat)
  case atStart => exact ⟨0, by omega, rfl, rfl, rfl, rfl, rfl⟩
  case round =>
    obtain ⟨j, hj, rfl, rfl, rfl, rfl, rfl⟩ := hrel
    by_cases hlt : j < 4
    · have hu := run_unit j hlt
      obtain ⟨c1, c2⟩ := chP_ok n j (by omega)
      have sz := encs_small _ c2
      have hE := encs_empty _ c2
      have HS := Lib.hid (chP_succ n j hlt)
      have hpl : ∃ q : Nat, plAt j = q ∧ 1 ≤ q ∧ q ≤ 1000 ∧ plAt (j + 1) = q / 10 := by
        match j, hlt with
        | 0, _ => exact ⟨1000, rfl, by omega, by omega, rfl⟩
        | 1, _ => exact ⟨100, rfl, by omega, by omega, rfl⟩
        | 2, _ => exact ⟨10, rfl, by omega, by omega, rfl⟩
        | 3, _ => exact ⟨1, rfl, by omega, by omega, rfl⟩
      obtain ⟨q, hq, q1, q2, hq'⟩ := hpl
      rw [hq] at HS ⊢
      have HQ := Lib.hid hq'
      have j0 : (0 : Int) ≤ (j : Int) := by omega
      have j4 : (j : Int) < 4 := by omega
      clear hq hq' c2
      unfold chF at HS
      generalize hP : chP n j = P at *
      obtain ⟨L, Z⟩ := P
      simp only at HS hE sz c1
      have q5 : ¬ (q : Int) = 0 := by omega
      have HD := Lib.hid (fun W => chineseDigit_any (n / q % 10) (by omega) W)
      rw [show ((n / q % 10 : Nat) : Int) = (n : Int) / (q : Int) % 10 from by rw [← Int.natCast_ediv]; omega] at HD
      have d1 : (n : Int) / (q : Int) ≤ 9999 := by have := Nat.div_le_self n q; rw [← Int.natCast_ediv]; omega
      have d0 : (0 : Int) ≤ (n : Int) / (q : Int) := Int.ediv_nonneg (by omega) (by omega)
      by_cases hd : n / q % 10 = 0
      · have td : ((n : Int) / (q : Int) % 10 == 0) = true := by rw [beq_iff_eq, ← Int.natCast_ediv]; omega
        simp only [hd, if_true] at HS
        have HS2 := Lib.hid HS.out
        have HS3 : Hid (str (encs (chP n (j + 1)).1) = str (encs L)) := by unfold Hid; rw [HS2.out]
        clear HS
        generalize str (encs L) = S at *
        go_wp2_with fail
        go_roundw
        case rel => exact ⟨j + 1, by omega, by go_num, by rw [HS3.out], by rw [HS2.out], congrArg (Value.int .i64) (by rw [HQ.out]; omega), trivial⟩
        case measure => simp [intOf]; omega
      · have td : ((n : Int) / (q : Int) % 10 == 0) = false := by rw [beq_eq_false_iff_ne, ← Int.natCast_ediv]; omega
        simp only [hd, if_false] at HS
        have HS2 := Lib.hid HS.out
        have hbu : (str (encs (unitAt j))).size ≤ 3 := by
          refine Nat.le_trans (encs_small _ ?_) ?_
          · unfold unitAt
            repeat' split
            all_goals simp [Bmp]
          · unfold unitAt
            repeat' split
            all_goals simp
        have zd : (str (encs [chD (n / q % 10)])).size ≤ 3 := encs_small _ (fun r hr => by obtain rfl := List.mem_singleton.1 hr; exact .inl (chD_bmp _ (by omega)))
        have z0 : (str (encs [chD 0])).size ≤ 3 := encs_small _ (fun r hr => by obtain rfl := List.mem_singleton.1 hr; exact .inl (chD_bmp _ (by omega)))
        have cat2 : str (encs [chD (n / q % 10)]) ++ str (encs (unitAt j)) = str (encs (chD (n / q % 10) :: unitAt j)) := enc_cat [chD (n / q % 10)] (unitAt j)
        have szu : (str (encs [chD (n / q % 10)]) ++ str (encs (unitAt j))).size ≤ 6 := by rw [ByteArray.size_append]; omega
        have sz6 : (str (encs L)).size ≤ 100 := by omega
        clear HS
        cases Z with
        | true =>
          have cat3 : str (encs L) ++ str (encs [chD 0]) ++ (str (encs [chD (n / q % 10)]) ++ str (encs (unitAt j))) = str (encs (chP n (j + 1)).1) := by
            rw [HS2.out, cat2, enc_cat, enc_cat]; rfl
          have HS3 : Hid ((chP n (j + 1)).2 = false) := by unfold Hid; rw [HS2.out]
          have szc : (str (encs L) ++ str (encs [chD 0])).size ≤ 103 := by rw [ByteArray.size_append]; omega
          have HC3 := Lib.hid cat3
          clear cat2 cat3 hE HS2
          generalize str (encs [chD (n / q % 10)]) = D at *
          generalize str (encs [chD 0]) = D0 at *
          generalize str (encs (unitAt j)) = U at *
          generalize str (encs L) = S at *
          go_wp2_with fail
          refine (HZ.out _).mono ?_
          rintro e w' ⟨rfl, rfl⟩
          go_wp2_with fail
          refine (HD.out _).mono ?_
          rintro e w' ⟨rfl, rfl⟩
          go_wp2_with fail
          go_roundw
          case rel => exact ⟨j + 1, by omega, by go_num, by rw [HC3.out], by rw [HS3.out], congrArg (Value.int .i64) (by rw [HQ.out]; omega), trivial⟩
          case measure => simp [intOf]; omega
        | false =>
          have cat3 : str (encs L) ++ (str (encs [chD (n / q % 10)]) ++ str (encs (unitAt j))) = str (encs (chP n (j + 1)).1) := by
            rw [HS2.out, cat2, enc_cat]; simp
          have HS3 : Hid ((chP n (j + 1)).2 = false) := by unfold Hid; rw [HS2.out]
          have HC3 := Lib.hid cat3
          clear cat2 cat3 hE HS2
          generalize str (encs [chD (n / q % 10)]) = D at *
          generalize str (encs (unitAt j)) = U at *
          generalize str (encs L) = S at *
          go_wp2_with fail
          refine (HD.out _).mono ?_
          rintro e w' ⟨rfl, rfl⟩
          go_wp2_with fail
          go_roundw
          case rel => exact ⟨j + 1, by omega, by go_num, by rw [HC3.out], by rw [HS3.out], congrArg (Value.int .i64) (by rw [HQ.out]; omega), trivial⟩
          case measure => simp [intOf]; omega
    · obtain rfl : j = 4 := by omega
      go_wp2_with fail
      go_ret
      exact ⟨rfl, Below.refl _ _⟩
end Go.Proofs.YtlihhlijombepaaDoor
