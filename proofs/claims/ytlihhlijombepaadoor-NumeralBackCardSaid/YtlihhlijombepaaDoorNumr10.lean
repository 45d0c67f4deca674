/- Contract of numeral.Value: script 12; all scripts. -/
import Derived.Test.YtlihhlijombepaaDoorNumr9
namespace Go.Proofs.YtlihhlijombepaaDoor
open Go.RowKit
set_option linter.unusedVariables false

def chBig : List Nat := [0x5341, 0x767e, 0x5343]
theorem run_big (i : Nat) (hi : i < 3) (W : World) : (Instr.index 216 (.agg #[.int .i32 21313, .int .i32 30334, .int .i32 21315]) (.int .i64 (i : Int))).run Tryd.prog W = .ok (.int .i32 (chBig.getD i 0 : Nat)) W := by
  match i, hi with
  | 0, _ | 1, _ | 2, _ => simp [Instr.index, run_underlying Tryd.underlying216, asIntOf, go_sem, chBig]
theorem run_tens (i : Nat) (hi : i < 3) (W : World) : (Instr.index 215 (.agg #[.int .i64 10, .int .i64 100, .int .i64 1000]) (.int .i64 (i : Int))).run Tryd.prog W = .ok (.int .i64 (10 ^ (i + 1) : Nat)) W := by
  match i, hi with
  | 0, _ | 1, _ | 2, _ => simp [Instr.index, run_underlying Tryd.underlying215, asIntOf, go_sem]

set_option maxHeartbeats 2000000 in
set_option maxRecDepth 100000 in
theorem value_ch1 (c i0 : Nat) (hi0 : i0 < 10) (hat : chD i0 = c) (hno : ∀ i, i < i0 → chD i ≠ c) (w : World) :
    Calls Tryd.prog 126 #[.int .i64 12, .int .i32 (c : Int)] w (ValQ i0 w) := by
  have HCD := Lib.hid (fun d hd W => chineseDigit_any d hd W)
  have hc : Bmp c := by rw [← hat]; exact .inl (chD_bmp i0 hi0)
  have HBQ := Lib.hid (fun d (hd : d < 10) => encs_beq [chD d] c (fun r hr => by obtain rfl := List.mem_singleton.1 hr; exact .inl (chD_bmp d hd)) hc)
  have HAT := Lib.hid hat
  have HNO := Lib.hid hno
  clear hat hno hc
  unfold ValQ
  go_enter Tryd.func126, Tryd.ntmps126
  go_wp2_with fail
  go_loopw [50] (fun i wr => ∃ d : Nat, d ≤ i0 ∧ i = .int .i64 (d : Int) ∧ wr = w) (fun i _ => 10 - (intOf i).toNat)
  case atStart => exact ⟨0, by omega, rfl, rfl⟩
  case round =>
    obtain ⟨d, hd, rfl, rfl⟩ := hrel
    have hq := HBQ.out d (by omega)
    have HD := Lib.hid (fun W => HCD.out d (by omega) W)
    have d10 : (d : Int) < 10 := by omega
    by_cases heq : d = i0
    · have e1 : ([chD d] == [c]) = true := by rw [heq, HAT.out]; simp
      rw [e1] at hq
      clear e1
      generalize str (encs [chD d]) = S at *
      have HEQ := Lib.hid heq
      clear heq
      go_wp2_with fail
      refine (HD.out _).mono ?_
      rintro e w' ⟨rfl, rfl⟩
      go_wp2_with fail
      go_ret2
      exact ⟨by rw [HEQ.out]; rfl, Below.refl _ _⟩
    · have e1 : ([chD d] == [c]) = false := by
        rw [beq_eq_false_iff_ne]
        intro h
        exact HNO.out d (by omega) (by simpa using h)
      rw [e1] at hq
      clear e1
      generalize str (encs [chD d]) = S at *
      go_wp2_with fail
      refine (HD.out _).mono ?_
      rintro e w' ⟨rfl, rfl⟩
      go_wp2_with fail
      go_roundw
      case rel => exact ⟨d + 1, by omega, by go_num, trivial⟩
      case measure => simp [intOf]; omega

set_option maxHeartbeats 2000000 in
set_option maxRecDepth 100000 in
theorem value_ch2 (c k0 : Nat) (hk0 : k0 < 3) (hat : chBig.getD k0 0 = c) (w : World) :
    Calls Tryd.prog 126 #[.int .i64 12, .int .i32 (c : Int)] w (ValQ (10 ^ (k0 + 1)) w) := by
  have HCD := Lib.hid (fun d hd W => chineseDigit_any d hd W)
  have hb : ∀ k, k < 3 → chBig.getD k 0 < 55296 := by decide
  have hc : Bmp c := by rw [← hat]; exact .inl (hb k0 hk0)
  have HBQ := Lib.hid (fun d (hd : d < 10) => encs_beq [chD d] c (fun r hr => by obtain rfl := List.mem_singleton.1 hr; exact .inl (chD_bmp d hd)) hc)
  have hno : ∀ k, k < 3 → ∀ d, d < 10 → chD d ≠ chBig.getD k 0 := by decide
  have hdis : ∀ k, k < 3 → ∀ d, d < k → chBig.getD d 0 ≠ chBig.getD k 0 := by decide
  have HNO : Hid (∀ d, d < 10 → chD d ≠ c) := fun d hd => by rw [← hat]; exact hno k0 hk0 d hd
  have HDI : Hid (∀ d, d < k0 → chBig.getD d 0 ≠ c) := fun d hd => by rw [← hat]; exact hdis k0 hk0 d hd
  have HAT := Lib.hid hat
  have HRB := Lib.hid run_big
  have HRT := Lib.hid run_tens
  have c32 : (c : Int) ≤ 2147483647 := by rw [← hat]; have := hb k0 hk0; omega
  clear hat hno hdis hc hb
  unfold ValQ
  go_enter Tryd.func126, Tryd.ntmps126
  go_wp2_with fail
  go_loopw [50] (fun i wr => ∃ d : Nat, d ≤ 10 ∧ i = .int .i64 (d : Int) ∧ wr = w) (fun i _ => 10 - (intOf i).toNat)
  case atStart => exact ⟨0, by omega, rfl, rfl⟩
  case round =>
    obtain ⟨d, hd, rfl, rfl⟩ := hrel
    by_cases hlt : d < 10
    · have hq := HBQ.out d hlt
      have HD := Lib.hid (fun W => HCD.out d hlt W)
      have e1 : ([chD d] == [c]) = false := by
        rw [beq_eq_false_iff_ne]
        intro h
        exact HNO.out d hlt (by simpa using h)
      rw [e1] at hq
      clear e1
      generalize str (encs [chD d]) = S at *
      go_wp2_with fail
      refine (HD.out _).mono ?_
      rintro e w' ⟨rfl, rfl⟩
      go_wp2_with fail
      go_roundw
      case rel => exact ⟨d + 1, by omega, by go_num, trivial⟩
      case measure => simp [intOf]; omega
    · obtain rfl : d = 10 := by omega
      go_wp2_with fail
      go_loopw [61] (fun i wq => ∃ k : Nat, k ≤ k0 ∧ i = .int .i64 (k : Int) ∧ wq = wr) (fun i _ => 3 - (intOf i).toNat)
      case atStart => exact ⟨0, by omega, rfl, rfl⟩
      case round =>
        obtain ⟨k, hk, rfl, rfl⟩ := hrel
        have hr := HRB.out k (by omega)
        have ht := HRT.out k (by omega)
        have k3 : (k : Int) < 3 := by omega
        by_cases heq : k = k0
        · have e1 : (((chBig.getD k 0 : Nat) : Int) == (c : Int)) = true := by rw [beq_iff_eq, heq, HAT.out]
          have HEQ := Lib.hid heq
          clear heq
          generalize chBig.getD k 0 = r at *
          go_wp2_with fail
          go_ret2
          exact ⟨by rw [← HEQ.out]; rfl, Below.refl _ _⟩
        · have e1 : (((chBig.getD k 0 : Nat) : Int) == (c : Int)) = false := by
            rw [beq_eq_false_iff_ne]
            intro h
            exact HDI.out k (by omega) (by omega)
          generalize chBig.getD k 0 = r at *
          go_wp2_with fail
          go_roundw
          case rel => exact ⟨k + 1, by omega, by go_num, trivial⟩
          case measure => simp [intOf]; omega

theorem find_first (p : Nat → Bool) : ∀ (n : Nat) (i : Nat), (List.range n).find? p = some i → i < n ∧ p i = true ∧ ∀ j, j < i → p j = false := by
  intro n i h
  rw [List.find?_range_eq_some] at h
  obtain ⟨h1, h2, h3⟩ := h
  exact ⟨List.mem_range.1 h2, h1, fun j hj => by simpa using h3 j hj⟩
theorem sgAt_bmp (sc i : Nat) : ∀ r ∈ sgAt sc i, Bmp r := (sgnR_ok sc (i / 9) (i % 9 + 1) (by omega)).2
/-- the value of a code point of a script -/
theorem value_any (sc : Nat) (hs : sc < 13) (c v : Nat) (h : valR sc c = some v) (w : World) (hz : Zer w) :
    Calls Tryd.prog 126 #[.int .i64 (sc : Int), .int .i32 (c : Int)] w (ValQ v w) := by
  unfold valR at h
  by_cases h9 : sc < 9
  · rw [if_pos h9] at h
    split at h
    · rename_i hr
      obtain rfl := Option.some.inj h
      exact value_pos sc h9 c hr.1 hr.2 w hz
    · cases h
  rw [if_neg h9] at h
  by_cases e9 : sc = 9
  · subst e9
    rw [if_pos rfl] at h
    exact value_rom c v h w
  rw [if_neg e9] at h
  by_cases h12 : sc < 12
  · rw [if_pos h12] at h
    unfold sgV at h
    cases hf : (List.range 27).find? (fun i => sgnR sc (i / 9) (i % 9 + 1) == [c]) with
    | none => rw [hf] at h; cases h
    | some i =>
      rw [hf] at h
      obtain ⟨f1, f2, f3⟩ := find_first _ _ _ hf
      have hv : (i % 9 + 1) * 10 ^ (i / 9) = v := Option.some.inj h
      rw [← hv]
      have hat : sgAt sc i = [c] := by simpa [sgAt] using f2
      refine value_sg sc (by omega) c i ?_ f1 hat (fun j hj => ?_) w
      · exact sgAt_bmp sc i c (by rw [hat]; simp)
      · have := f3 j hj
        rw [beq_eq_false_iff_ne] at this
        exact this
  rw [if_neg h12] at h
  obtain rfl : sc = 12 := by omega
  unfold chV at h
  cases hf : (List.range 10).find? (fun n => chD n == c) with
  | some i =>
    rw [hf] at h
    obtain ⟨f1, f2, f3⟩ := find_first _ _ _ hf
    obtain rfl := Option.some.inj h
    exact value_ch1 c i f1 (by simpa using f2) (fun j hj => by have := f3 j hj; rw [beq_eq_false_iff_ne] at this; exact this) w
  | none =>
    rw [hf] at h
    simp only at h
    by_cases c1 : c = 0x5341
    · rw [if_pos c1] at h
      obtain rfl := Option.some.inj h
      exact value_ch2 c 0 (by omega) (by rw [c1]; rfl) w
    rw [if_neg c1] at h
    by_cases c2 : c = 0x767e
    · rw [if_pos c2] at h
      obtain rfl := Option.some.inj h
      exact value_ch2 c 1 (by omega) (by rw [c2]; rfl) w
    rw [if_neg c2] at h
    by_cases c3 : c = 0x5343
    · rw [if_pos c3] at h
      obtain rfl := Option.some.inj h
      exact value_ch2 c 2 (by omega) (by rw [c3]; rfl) w
    · rw [if_neg c3] at h; cases h
end Go.Proofs.YtlihhlijombepaaDoor
