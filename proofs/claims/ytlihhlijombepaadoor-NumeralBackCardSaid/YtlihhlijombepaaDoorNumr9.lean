/- Contract of numeral.Value at the code points of a script. -/
import Derived.Test.YtlihhlijombepaaDoorNumr8
import Derived.Test.YtlihhlijombepaaDoorShelf3
import Derived.BigQuiet
namespace Go.Proofs.YtlihhlijombepaaDoor
open Go.RowKit
set_option linter.unusedVariables false

def ValQ (v : Nat) (w : World) (e : Ending) (w' : World) : Prop := e = .returned (.tuple #[.int .i64 (v : Int), .bool true]) ∧ Below w.heap.size w w'
set_option maxHeartbeats 1000000 in
set_option maxRecDepth 100000 in
theorem value_pos (k : Nat) (hk : k < 9) (c : Nat) (h1 : zeroN.getD k 0 ≤ c) (h2 : c < zeroN.getD k 0 + 10) (w : World) (hz : Zer w) :
    Calls Tryd.prog 126 #[.int .i64 (k : Int), .int .i32 (c : Int)] w (ValQ (c - zeroN.getD k 0) w) := by
  have hc := hz k hk
  obtain ⟨z1, z2⟩ := zeros_in k hk
  have hzz := zero_same k hk
  rw [hzz] at hc z1 z2
  clear hzz
  generalize zeroN.getD k 0 = z at *
  have t9 : ((k : Int) == 9) = false := by rw [beq_eq_false_iff_ne]; omega
  have t10 : ((k : Int) == 10) = false := by rw [beq_eq_false_iff_ne]; omega
  have t11 : ((k : Int) == 11) = false := by rw [beq_eq_false_iff_ne]; omega
  have t12 : ((k : Int) == 12) = false := by rw [beq_eq_false_iff_ne]; omega
  have t45 : ((c : Int) == 45) = false := by rw [beq_eq_false_iff_ne]; omega
  have d1 : decide ((z : Int) ≤ (c : Int)) = true := decide_eq_true (by omega)
  have d2 : decide ((c : Int) < (z : Int) + 10) = true := decide_eq_true (by omega)
  have k0 : (0 : Int) ≤ (k : Int) := by omega
  have k9 : (k : Int) < 9 := by omega
  have w1 : IntKind.i32.wrap ((c : Int) - (z : Int)) = (c : Int) - (z : Int) := by rw [IntKind.wrap_i32]; omega
  have w2 : IntKind.i32.wrap ((z : Int) + 10) = (z : Int) + 10 := by rw [IntKind.wrap_i32]; omega
  have w3 : IntKind.i64.wrap ((c : Int) - (z : Int)) = (c : Int) - (z : Int) := by rw [IntKind.wrap_i64]; omega
  have e1 : (((c - z : Nat)) : Int) = (c : Int) - (z : Int) := by omega
  unfold ValQ
  rw [e1]
  clear e1
  go_enter Tryd.func126, Tryd.ntmps126
  go_wp2_with fail
  go_quiet (fail)
  clear w1 w2 w3
  go_wp2_with fail
  go_ret2
  exact ⟨rfl, below_drewN _ _⟩
theorem rom_index (v c : Nat) (h : romV c = some v) : c < 128 ∧ ∃ i : Nat, i < 7 ∧ Lib.indexByte [73, 86, 88, 76, 67, 68, 77] c.toUInt8 = (i : Int) ∧ [1, 5, 10, 50, 100, 500, 1000].getD i 0 = v := by
  unfold romV at h
  by_cases e1 : c = 73
  · subst e1; simp at h; subst h; exact ⟨by omega, 0, by omega, by decide, rfl⟩
  by_cases e2 : c = 86
  · subst e2; simp at h; subst h; exact ⟨by omega, 1, by omega, by decide, rfl⟩
  by_cases e3 : c = 88
  · subst e3; simp at h; subst h; exact ⟨by omega, 2, by omega, by decide, rfl⟩
  by_cases e4 : c = 76
  · subst e4; simp at h; subst h; exact ⟨by omega, 3, by omega, by decide, rfl⟩
  by_cases e5 : c = 67
  · subst e5; simp at h; subst h; exact ⟨by omega, 4, by omega, by decide, rfl⟩
  by_cases e6 : c = 68
  · subst e6; simp at h; subst h; exact ⟨by omega, 5, by omega, by decide, rfl⟩
  by_cases e7 : c = 77
  · subst e7; simp at h; subst h; exact ⟨by omega, 6, by omega, by decide, rfl⟩
  · simp [e1, e2, e3, e4, e5, e6, e7] at h
theorem run_rom (i : Nat) (hi : i < 7) (W : World) : (Instr.index 214 (.agg #[.int .i64 1, .int .i64 5, .int .i64 10, .int .i64 50, .int .i64 100, .int .i64 500, .int .i64 1000]) (.int .i64 (i : Int))).run Tryd.prog W = .ok (.int .i64 ([1, 5, 10, 50, 100, 500, 1000].getD i 0 : Nat)) W := by
  match i, hi with
  | 0, _ | 1, _ | 2, _ | 3, _ | 4, _ | 5, _ | 6, _ => simp [Instr.index, run_underlying Tryd.underlying214, asIntOf, go_sem]
set_option maxRecDepth 100000 in
theorem value_rom (c v : Nat) (h : romV c = some v) (w : World) : Calls Tryd.prog 126 #[.int .i64 9, .int .i32 (c : Int)] w (ValQ v w) := by
  obtain ⟨hc, i, hi, hix, hv⟩ := rom_index v c h
  have HI := Lib.hid (strings_IndexRune_ascii ⟨#[73, 86, 88, 76, 67, 68, 77]⟩ (c : Int) w (by omega) (by omega))
  rw [show (⟨#[73, 86, 88, 76, 67, 68, 77]⟩ : ByteArray).data.toList = [73, 86, 88, 76, 67, 68, 77] from rfl, Int.toNat_natCast, hix] at HI
  have hr := run_rom i hi
  rw [hv] at hr
  have i0 : ¬ (i : Int) < 0 := by omega
  unfold ValQ
  clear hv hix h
  go_enter Tryd.func126, Tryd.ntmps126
  go_wp2_with fail
  refine HI.out.mono ?_
  rintro e w' ⟨rfl, rfl⟩
  go_wp2_with fail
  go_ret2
  exact ⟨rfl, Below.refl _ _⟩

/-- equal texts, equal code points -/
theorem encs_inj : ∀ (a b : List Nat), (∀ r ∈ a, Bmp r) → (∀ r ∈ b, Bmp r) → encs a = encs b → a = b
  | [], [], _, _, _ => rfl
  | [], r :: b, _, hb, h => by
    have := (encs_len (r :: b) hb).1
    rw [← h] at this
    simp [encs] at this
  | r :: a, [], ha, _, h => by
    have := (encs_len (r :: a) ha).1
    rw [h] at this
    simp [encs] at this
  | r :: a, q :: b, ha, hb, h => by
    have e1 : encs (r :: a) = Lib.encodeRune (r : Int) ++ encs a := by simp [encs]
    have e2 : encs (q :: b) = Lib.encodeRune (q : Int) ++ encs b := by simp [encs]
    rw [e1, e2] at h
    have hr := ha r (List.mem_cons_self ..)
    have hq := hb q (List.mem_cons_self ..)
    have d1 := decodeL_enc r hr (encs a)
    have d2 := decodeL_enc q hq (encs b)
    rw [h, d2] at d1
    have : q = r := congrArg Prod.fst d1
    subst this
    have := encs_inj a b (fun x hx => ha x (List.mem_cons_of_mem _ hx)) (fun x hx => hb x (List.mem_cons_of_mem _ hx)) (List.append_cancel_left h)
    rw [this]
theorem encs_beq (a : List Nat) (c : Nat) (ha : ∀ r ∈ a, Bmp r) (hc : Bmp c) : ((str (encs a)).toList == (Utf8.encode (c : Int)).toList) = (a == [c]) := by
  rw [utf_one c hc, str_toList, str_toList, Bool.eq_iff_iff, beq_iff_eq, beq_iff_eq]
  constructor
  · exact encs_inj a [c] ha (fun r hr => by obtain rfl := List.mem_singleton.1 hr; exact hc)
  · intro h; rw [h]

def sgAt (sc i : Nat) : List Nat := sgnR sc (i / 9) (i % 9 + 1)
set_option maxHeartbeats 2000000 in
set_option maxRecDepth 100000 in
/-- the value of a sign: its first place in the table -/
theorem value_sg (sc : Nat) (hs : sc = 10 ∨ sc = 11) (c i0 : Nat) (hc : Bmp c) (hi0 : i0 < 27) (hat : sgAt sc i0 = [c]) (hno : ∀ i, i < i0 → sgAt sc i ≠ [c]) (w : World) :
    Calls Tryd.prog 126 #[.int .i64 (sc : Int), .int .i32 (c : Int)] w (ValQ ((i0 % 9 + 1) * 10 ^ (i0 / 9)) w) := by
  have HSG := Lib.hid (fun pl d hp hd W => sign_any sc pl d hs hp hd W)
  have HBQ := Lib.hid (fun pl d (hd : d < 10) => encs_beq (sgnR sc pl d) c (sgnR_ok sc pl d hd).2 hc)
  have HAT := Lib.hid hat
  have HNO := Lib.hid hno
  have hr : ∀ p : Nat, p < 3 → ∀ W, (Instr.index 215 (.agg #[.int .i64 1, .int .i64 10, .int .i64 100]) (.int .i64 (p : Int))).run Tryd.prog W = .ok (.int .i64 ((10 ^ p : Nat) : Int)) W := fun p hp W => by
    match p, hp with
    | 0, _ | 1, _ | 2, _ => simp [Instr.index, run_underlying Tryd.underlying215, asIntOf, go_sem]
  have HR := Lib.hid hr
  have t9 : ((sc : Int) == 9) = false := by rw [beq_eq_false_iff_ne]; omega
  clear hat hno hr hc
  unfold ValQ
  have hcase : ((sc : Int) == 10) = true ∨ (((sc : Int) == 10) = false ∧ ((sc : Int) == 11) = true) := by
    rcases hs with rfl | rfl
    · exact .inl rfl
    · exact .inr ⟨rfl, rfl⟩
  clear hs
  rcases hcase with t10 | ⟨t10, t11⟩
  all_goals
    go_enter Tryd.func126, Tryd.ntmps126
    go_wp2_with fail
    go_loopw [28] (fun i wr => ∃ p : Nat, p ≤ 2 ∧ 9 * p ≤ i0 ∧ i = .int .i64 (p : Int) ∧ Hid (Below w.heap.size w wr)) (fun i _ => 3 - (intOf i).toNat)
  all_goals try (case atStart => exact ⟨0, by omega, by omega, rfl, Below.refl _ _⟩)
  all_goals
    obtain ⟨p, hp, hpi, rfl, hbr⟩ := hrel
    have hrp := HR.out p (by omega)
    have p0 : (0 : Int) ≤ (p : Int) := by omega
    have p3 : (p : Int) < 3 := by omega
    have hpw : 10 ^ p ≤ 100 := by
      have : p = 0 ∨ p = 1 ∨ p = 2 := by omega
      rcases this with rfl | rfl | rfl <;> decide
    have HVAL : Hid (∀ d : Nat, 1 ≤ d → d ≤ 9 → 9 * p + (d - 1) = i0 → d * 10 ^ p = (i0 % 9 + 1) * 10 ^ (i0 / 9)) := fun d h1 h2 h3 => by
      rw [← h3, show (9 * p + (d - 1)) % 9 + 1 = d from by omega, show (9 * p + (d - 1)) / 9 = p from by omega]
    generalize 10 ^ p = u at *
    go_wp2_with fail
    go_loopw [9] (fun d wi => ∃ n : Nat, 1 ≤ n ∧ n ≤ 10 ∧ 9 * p + (n - 1) ≤ i0 ∧ d = .int .i64 (n : Int) ∧ Hid (Below w.heap.size w wi)) (fun d _ => 10 - (intOf d).toNat)
    case atStart => exact ⟨1, by omega, by omega, by omega, rfl, hbr⟩
    case round =>
      obtain ⟨n, n1, n10, hni, rfl, hbi⟩ := hrel
      by_cases hlt : n ≤ 9
      · have HS := Lib.hid (fun W => HSG.out p n (by omega) (by omega) W)
        have hq := HBQ.out p n (by omega)
        have tn : decide ((n : Int) ≤ 9) = true := decide_eq_true (by omega)
        have hnu : n * u ≤ 900 := by
          have : n * u ≤ 9 * 100 := Nat.mul_le_mul hlt hpw
          omega
        have hnu' : (n : Int) * (u : Int) = ((n * u : Nat) : Int) := (Int.natCast_mul n u).symm
        have hb1 : (n : Int) * (u : Int) ≤ 900 := by omega
        have hb0 : (0 : Int) ≤ (n : Int) * (u : Int) := by omega
        have HNU := Lib.hid hnu'
        clear hnu'
        unfold SignQ at HS
        have hsame : (sgnR sc p n == [c]) = decide (9 * p + (n - 1) = i0) := by
          have hp9 : (9 * p + (n - 1)) / 9 = p := by omega
          have hm9 : (9 * p + (n - 1)) % 9 + 1 = n := by omega
          have hsg : sgAt sc (9 * p + (n - 1)) = sgnR sc p n := by unfold sgAt; rw [hp9, hm9]
          rw [← hsg, Bool.eq_iff_iff, beq_iff_eq, decide_eq_true_eq]
          constructor
          · intro h
            by_cases hh : 9 * p + (n - 1) < i0
            · exact absurd h (HNO.out _ hh)
            · omega
          · intro h; rw [h]; exact HAT.out
        rw [hsame] at hq
        clear hsame
        generalize str (encs (sgnR sc p n)) = S at *
        by_cases heq : 9 * p + (n - 1) = i0
        · have HV := Lib.hid (HVAL.out n n1 hlt heq)
          rw [decide_eq_true heq] at hq
          clear heq hni
          go_wp2_with fail
          refine (HS.out _).mono ?_
          rintro e w' ⟨rfl, hb⟩
          have HB := Lib.hid (below_then hbi.out hb)
          clear hb
          go_wp2_with fail
          go_ret2
          exact ⟨by rw [← HV.out, ← HNU.out]; rfl, HB.out⟩
        · rw [decide_eq_false heq] at hq
          have hlt' : 9 * p + n ≤ i0 := by omega
          clear heq hni
          go_wp2_with fail
          refine (HS.out _).mono ?_
          rintro e w' ⟨rfl, hb⟩
          have HB := Lib.hid (below_then hbi.out hb)
          clear hb
          go_wp2_with fail
          go_roundw
          case rel => exact ⟨n + 1, by omega, by omega, by omega, by go_num, HB⟩
          case measure => simp [intOf]; omega
      · obtain rfl : n = 10 := by omega
        go_wp2_with fail
        go_roundw
        case rel => exact ⟨p + 1, by omega, by omega, by go_num, hbi⟩
        case measure => simp [intOf]; omega
end Go.Proofs.YtlihhlijombepaaDoor
