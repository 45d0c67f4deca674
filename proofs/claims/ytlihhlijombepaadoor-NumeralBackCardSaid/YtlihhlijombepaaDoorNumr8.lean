/- Contracts of package numeral: Write in each script. -/
import Derived.Test.YtlihhlijombepaaDoorNumr7
namespace Go.Proofs.YtlihhlijombepaaDoor
open Go.RowKit
set_option linter.unusedVariables false

theorem encs_ascii : ∀ (l : List UInt8), (∀ b ∈ l, b.toNat < 128) → encs (l.map UInt8.toNat) = l
  | [], _ => rfl
  | b :: l, h => by
    have hb := h b (List.mem_cons_self ..)
    have ih := encs_ascii l fun x hx => h x (List.mem_cons_of_mem _ hx)
    have e : encs ((b :: l).map UInt8.toNat) = Lib.encodeRune (b.toNat : Int) ++ encs (l.map UInt8.toNat) := by simp [encs]
    rw [e, ih, enc_one b.toNat hb]
    simp [Nat.toUInt8]
theorem romB_map (n : Nat) (o f t : UInt8) : (romB n o f t).map UInt8.toNat = romD n o.toNat f.toNat t.toNat := by
  unfold romB romD
  repeat' split
  all_goals simp
theorem romL_map (n : Nat) : (romL n).map UInt8.toNat = romR n := by
  unfold romL romR
  rw [List.map_append, List.map_append, List.map_append, romB_map, romB_map, romB_map]
  simp
theorem romB_mem (n : Nat) (o f t : UInt8) : ∀ b ∈ romB n o f t, b = o ∨ b = f ∨ b = t := by
  intro b hb
  unfold romB at hb
  repeat' split at hb
  all_goals (simp at hb)
  · rcases hb with h | h
    · exact .inl h
    · exact .inr (.inr h)
  · rcases hb with h | ⟨_, h⟩
    · exact .inr (.inl h)
    · exact .inl h
  · rcases hb with h | h
    · exact .inl h
    · exact .inr (.inl h)
  · exact .inl hb.2
theorem romL_ascii (n : Nat) : ∀ b ∈ romL n, b.toNat < 128 := by
  intro b hb
  unfold romL at hb
  simp only [List.mem_append, List.mem_replicate] at hb
  rcases hb with ((h | h) | h) | h
  · rw [h.2]; decide
  all_goals
    rcases romB_mem _ _ _ _ b h with rfl | rfl | rfl <;> decide
theorem romR_str (n : Nat) : str (romL n) = str (encs (romR n)) := by rw [← romL_map, encs_ascii _ (romL_ascii n)]
theorem zero_same (k : Nat) (hk : k < 9) : zerosL.getD k 0 = (zeroN.getD k 0 : Int) := by
  match k, hk with
  | 0, _ | 1, _ | 2, _ | 3, _ | 4, _ | 5, _ | 6, _ | 7, _ | 8, _ => rfl
theorem dec4_lt (n : Nat) (h : n < 10000) : ∀ d ∈ dec4 n, d < 10 := by
  intro d hd
  unfold dec4 at hd
  repeat' split at hd
  all_goals simp at hd
  all_goals omega
theorem pos_runes (k : Nat) (hk : k < 9) (n : Nat) (hn : n < 10000) : runesOf (zerosL.getD k 0) (Lib.itoa (n : Int)) = wrR k n := by
  unfold wrR runesOf Lib.itoa
  rw [if_pos hk, if_neg (by omega), Int.toNat_natCast, dec4_eq n hn, List.map_map, zero_same k hk]
  apply List.map_congr_left
  intro d hd
  have := dec4_lt n hn d hd
  simp only [Function.comp]
  rw [digit_byte d this]
  unfold dgt
  rw [if_neg (by omega)]
  omega
theorem pos_str (k : Nat) (hk : k < 9) (n : Nat) (hn : n < 10000) : str (Lib.mapD (dgt (zerosL.getD k 0)) (Lib.itoa (n : Int))) = str (encs (wrR k n)) := by
  rw [(map_runes k hk (Lib.itoa (n : Int)) (itoa_byte _)).1, pos_runes k hk n hn]

def lowB (sc : Nat) : Int := if sc < 9 then -2147483647 else if sc < 12 then 1 else 0
def highB (sc : Nat) : Int := if sc < 9 then 2147483647 else if sc = 9 then 3999 else if sc < 12 then 999 else 9999
set_option maxRecDepth 100000 in
theorem bounds_any (k : Nat) (hk : k < 13) (w : World) : Calls Tryd.prog 105 #[.int .i64 (k : Int)] w fun e w' => e = .returned (.tuple #[.int .i64 (lowB k), .int .i64 (highB k)]) ∧ w = w' := by
  by_cases h9 : k < 9
  · unfold lowB highB; rw [if_pos h9, if_pos h9]; exact bounds_pos k h9 w
  have : k = 9 ∨ k = 10 ∨ k = 11 ∨ k = 12 := by omega
  rcases this with rfl | rfl | rfl | rfl
  all_goals
    go_enter Tryd.func105, Tryd.ntmps105
    go_wp2_with fail
    go_ret2
    exact ⟨rfl, rfl⟩
theorem inR_bounds (sc n : Nat) (hs : sc < 13) (hn : n < 1100) : inR sc n = true ↔ lowB sc ≤ (n : Int) ∧ (n : Int) ≤ highB sc := by
  unfold inR lowB highB
  repeat' split
  all_goals simp
  all_goals omega
set_option maxRecDepth 100000 in
theorem writes_any (k : Nat) (hk : k < 13) (n : Int) (w : World) : Calls Tryd.prog 70 #[.int .i64 (k : Int), .int .i64 n] w fun e w' => e = .returned (.bool (decide (lowB k ≤ n) && decide (n ≤ highB k))) ∧ w = w' := by
  have HB := Lib.hid (bounds_any k hk w)
  generalize lowB k = lo at *
  generalize highB k = hi at *
  by_cases h1 : lo ≤ n
  · have t1 : decide (lo ≤ n) = true := decide_eq_true h1
    rw [t1, Bool.true_and]
    go_enter Tryd.func70, Tryd.ntmps70
    go_wp2_with fail
    refine HB.out.mono ?_
    rintro e w' ⟨rfl, rfl⟩
    go_wp2_with fail
    go_ret
    exact ⟨rfl, rfl⟩
  · have t1 : decide (lo ≤ n) = false := decide_eq_false h1
    rw [t1, Bool.false_and]
    go_enter Tryd.func70, Tryd.ntmps70
    go_wp2_with fail
    refine HB.out.mono ?_
    rintro e w' ⟨rfl, rfl⟩
    go_wp2_with fail
    go_ret
    exact ⟨rfl, rfl⟩

set_option maxRecDepth 100000 in
/-- what a script writes -/
theorem write_any (sc n : Nat) (hs : sc < 13) (hn : n < 1100) (hi : inR sc n = true) (w : World) (hp : Pow w) (hz : Zer w) (hu : U8 w) :
    Calls Tryd.prog 75 #[.int .i64 (sc : Int), .int .i64 (n : Int)] w (SignQ (wrR sc n) w) := by
  by_cases h9 : sc < 9
  · have := write_pos sc h9 (n : Int) (by omega) (by omega) w hp hz hu
    rw [pos_str sc h9 n (by omega)] at this
    exact this
  have : sc = 9 ∨ sc = 10 ∨ sc = 11 ∨ sc = 12 := by omega
  clear hp hz hu
  rcases this with rfl | rfl | rfl | rfl
  · have HW := Lib.hid (writeRoman_any n (by omega) w)
    rw [romR_str] at HW
    rw [show wrR 9 n = romR n from rfl]
    unfold SignQ
    generalize str (encs (romR n)) = R at *
    go_enter Tryd.func75, Tryd.ntmps75
    go_wp2_with fail
    refine HW.out.mono ?_
    rintro e w1 ⟨rfl, hb⟩
    have HB := Lib.hid hb
    clear hb
    go_wp2_with fail
    go_ret
    exact ⟨rfl, HB.out⟩
  · have HW := Lib.hid (writeSigns_any 10 n (by omega) (by simp [inR] at hi; omega) w)
    rw [show wrR 10 n = sgsR 10 n from rfl]
    unfold SignQ at *
    generalize str (encs (sgsR 10 n)) = R at *
    go_enter Tryd.func75, Tryd.ntmps75
    go_wp2_with fail
    refine HW.out.mono ?_
    rintro e w1 ⟨rfl, hb⟩
    have HB := Lib.hid hb
    clear hb
    go_wp2_with fail
    go_ret
    exact ⟨rfl, HB.out⟩
  · have HW := Lib.hid (writeSigns_any 11 n (by omega) (by simp [inR] at hi; omega) w)
    rw [show wrR 11 n = sgsR 11 n from rfl]
    unfold SignQ at *
    generalize str (encs (sgsR 11 n)) = R at *
    go_enter Tryd.func75, Tryd.ntmps75
    go_wp2_with fail
    refine HW.out.mono ?_
    rintro e w1 ⟨rfl, hb⟩
    have HB := Lib.hid hb
    clear hb
    go_wp2_with fail
    go_ret
    exact ⟨rfl, HB.out⟩
  · have HW := Lib.hid (writeChinese_any n (by omega) w)
    rw [show wrR 12 n = chR n from rfl]
    unfold SignQ at *
    generalize str (encs (chR n)) = R at *
    go_enter Tryd.func75, Tryd.ntmps75
    go_wp2_with fail
    refine HW.out.mono ?_
    rintro e w1 ⟨rfl, hb⟩
    have HB := Lib.hid hb
    clear hb
    go_wp2_with fail
    go_ret
    exact ⟨rfl, HB.out⟩
set_option maxRecDepth 100000 in
theorem nWrite_any (sc n : Nat) (hs : sc < 13) (hn : n < 1100) (hi : inR sc n = true) (w : World) (hp : Pow w) (hz : Zer w) (hu : U8 w) :
    Calls Tryd.prog 26 #[.int .i64 (sc : Int), .int .i64 (n : Int)] w fun e w' => e = .returned (.tuple #[.string (str (encs (wrR sc n))), .int .i64 0]) ∧ Below w.heap.size w w' := by
  have HI := Lib.hid (isScript_yes sc hs w)
  have HW := Lib.hid (writes_any sc hs (n : Int) w)
  rw [show (decide (lowB sc ≤ (n : Int)) && decide ((n : Int) ≤ highB sc)) = true from by have := (inR_bounds sc n hs hn).1 hi; simp [this]] at HW
  have HD := Lib.hid (write_any sc n hs hn hi w hp hz hu)
  clear hp hz hu
  unfold SignQ at HD
  generalize str (encs (wrR sc n)) = f at *
  go_enter Tryd.func26, Tryd.ntmps26
  go_wp2_with fail
  refine HI.out.mono ?_
  rintro e w' ⟨rfl, rfl⟩
  go_wp2_with fail
  refine HW.out.mono ?_
  rintro e w' ⟨rfl, rfl⟩
  go_wp2_with fail
  refine HD.out.mono ?_
  rintro e w1 ⟨rfl, hb⟩
  have HB := Lib.hid hb
  clear hb HD
  go_wp2_with fail
  go_ret2
  exact ⟨rfl, HB.out⟩
set_option maxRecDepth 100000 in
theorem nWrite_no (sc n : Nat) (hs : sc < 13) (hn : n < 1100) (hi : inR sc n = false) (w : World) :
    Calls Tryd.prog 26 #[.int .i64 (sc : Int), .int .i64 (n : Int)] w fun e w' => e = .returned (.tuple #[.string ⟨#[]⟩, .int .i64 3]) ∧ w = w' := by
  have HI := Lib.hid (isScript_yes sc hs w)
  have HW := Lib.hid (writes_any sc hs (n : Int) w)
  rw [show (decide (lowB sc ≤ (n : Int)) && decide ((n : Int) ≤ highB sc)) = false from by
    have h := inR_bounds sc n hs hn
    rw [hi] at h
    rw [Bool.and_eq_false_iff, decide_eq_false_iff_not, decide_eq_false_iff_not]
    by_cases h1 : lowB sc ≤ (n : Int)
    · exact .inr fun h2 => by have := h.2 ⟨h1, h2⟩; cases this
    · exact .inl h1] at HW
  go_enter Tryd.func26, Tryd.ntmps26
  go_wp2_with fail
  refine HI.out.mono ?_
  rintro e w' ⟨rfl, rfl⟩
  go_wp2_with fail
  refine HW.out.mono ?_
  rintro e w' ⟨rfl, rfl⟩
  go_wp2_with fail
  go_ret2
  exact ⟨rfl, rfl⟩
end Go.Proofs.YtlihhlijombepaaDoor
