/- Contract of numeral.sign. -/
import Derived.Test.YtlihhlijombepaaDoorNumr4
namespace Go.Proofs.YtlihhlijombepaaDoor
open Go.RowKit
set_option linter.unusedVariables false

theorem utf_one (r : Nat) (h : Bmp r) : Utf8.encode (r : Int) = str (encs [r]) := by rw [encs_one]; exact utf_enc r h
def SignQ (rs : List Nat) (w : World) (e : Ending) (w' : World) : Prop := e = .returned (.string (str (encs rs))) ∧ Below w.heap.size w w'
theorem enc_cat (a b : List Nat) : str (encs a) ++ str (encs b) = str (encs (a ++ b)) := by rw [str_append]; unfold encs; rw [List.flatMap_append]
theorem encs_small (rs : List Nat) (h : ∀ r ∈ rs, Bmp r) : (str (encs rs)).size ≤ 3 * rs.length := by rw [str_size]; exact (encs_len rs h).2

def grAll : Value := .agg #[.int .i32 945, .int .i32 946, .int .i32 947, .int .i32 948, .int .i32 949, .int .i32 987, .int .i32 950, .int .i32 951, .int .i32 952, .int .i32 953, .int .i32 954, .int .i32 955, .int .i32 956, .int .i32 957, .int .i32 958, .int .i32 959, .int .i32 960, .int .i32 991, .int .i32 961, .int .i32 963, .int .i32 964, .int .i32 965, .int .i32 966, .int .i32 967, .int .i32 968, .int .i32 969, .int .i32 993]
def grRow (pl : Nat) : Value := match pl with | 0 => .agg #[.int .i32 945, .int .i32 946, .int .i32 947, .int .i32 948, .int .i32 949, .int .i32 987, .int .i32 950, .int .i32 951, .int .i32 952] | 1 => .agg #[.int .i32 953, .int .i32 954, .int .i32 955, .int .i32 956, .int .i32 957, .int .i32 958, .int .i32 959, .int .i32 960, .int .i32 991] | _ => .agg #[.int .i32 961, .int .i32 963, .int .i32 964, .int .i32 965, .int .i32 966, .int .i32 967, .int .i32 968, .int .i32 969, .int .i32 993]
def grC (pl : Nat) : List Nat := if pl = 0 then grU else if pl = 1 then grT else grH
theorem run_gr3 (pl : Nat) (hp : pl < 3) (W : World) : (Instr.index 227 grAll (.int .i64 (pl : Int))).run Tryd.prog W = .ok (grRow pl) W := by
  have hz : ∀ w, (sizeOf 168).run Tryd.prog w = .ok 9 w := fun w => Tryd.sizeOf168 w
  match pl, hp with
  | 0, _ | 1, _ | 2, _ => simp [grAll, grRow, Instr.index, run_underlying Tryd.underlying227, asIntOf, go_sem, hz]
theorem run_gr9 (pl m : Nat) (hp : pl < 3) (hm : m < 9) (W : World) : (Instr.index 168 (grRow pl) (.int .i64 (m : Int))).run Tryd.prog W = .ok (.int .i32 ((grC pl).getD m 0 : Nat)) W := by
  match pl, hp, m, hm with
  | 0, _, 0, _ | 0, _, 1, _ | 0, _, 2, _ | 0, _, 3, _ | 0, _, 4, _ | 0, _, 5, _ | 0, _, 6, _ | 0, _, 7, _ | 0, _, 8, _ => simp [grRow, grC, grU, Instr.index, run_underlying Tryd.underlying168, asIntOf, go_sem]
  | 1, _, 0, _ | 1, _, 1, _ | 1, _, 2, _ | 1, _, 3, _ | 1, _, 4, _ | 1, _, 5, _ | 1, _, 6, _ | 1, _, 7, _ | 1, _, 8, _ => simp [grRow, grC, grT, Instr.index, run_underlying Tryd.underlying168, asIntOf, go_sem]
  | 2, _, 0, _ | 2, _, 1, _ | 2, _, 2, _ | 2, _, 3, _ | 2, _, 4, _ | 2, _, 5, _ | 2, _, 6, _ | 2, _, 7, _ | 2, _, 8, _ => simp [grRow, grC, grH, Instr.index, run_underlying Tryd.underlying168, asIntOf, go_sem]

theorem grC_bmp (pl m : Nat) (hp : pl < 3) (hm : m < 9) : Bmp ((grC pl).getD m 0) := by
  have : ∀ pl, pl < 3 → ∀ m, m < 9 → (grC pl).getD m 0 < 55296 := by decide
  exact .inl (this pl hp m hm)
set_option maxRecDepth 100000 in
theorem sign_zero (sc pl : Nat) (w : World) : Calls Tryd.prog 145 #[.int .i64 (sc : Int), .int .i64 (pl : Int), .int .i64 0] w (SignQ [] w) := by
  go_enter Tryd.func145, Tryd.ntmps145
  go_wp2_with fail
  go_ret
  exact ⟨rfl, Below.refl _ _⟩
set_option maxRecDepth 100000 in
theorem sign_gr (pl n : Nat) (hp : pl < 3) (h1 : 1 ≤ n) (hn : n < 10) (w : World) : Calls Tryd.prog 145 #[.int .i64 10, .int .i64 (pl : Int), .int .i64 (n : Int)] w (SignQ [(grC pl).getD (n - 1) 0] w) := by
  have t0 : ((n : Int) == 0) = false := by rw [beq_eq_false_iff_ne]; omega
  have p0 : (0 : Int) ≤ (pl : Int) := by omega
  have p3 : (pl : Int) < 3 := by omega
  have h3 := run_gr3 pl hp
  unfold grAll at h3
  have h9 := run_gr9 pl (n - 1) hp (by omega)
  rw [show ((n - 1 : Nat) : Int) = (n : Int) - 1 from by omega] at h9
  have HU := Lib.hid (utf_one _ (grC_bmp pl (n - 1) hp (by omega)))
  generalize (grC pl).getD (n - 1) 0 = r at *
  generalize grRow pl = V at *
  go_enter Tryd.func145, Tryd.ntmps145
  go_wp2_with fail
  go_ret
  exact ⟨by rw [← HU.out]; rfl, below_alloc3 _ _ _ _⟩

def heCells : Array Value := #[.int .i32 1497, .int .i32 1499, .int .i32 1500, .int .i32 1502, .int .i32 1504, .int .i32 1505, .int .i32 1506, .int .i32 1508, .int .i32 1510]
theorem he_cell (m : Nat) (hm : m < 9) : heCells[m]? = some (.int .i32 (heT.getD m 0 : Nat)) := by
  match m, hm with
  | 0, _ | 1, _ | 2, _ | 3, _ | 4, _ | 5, _ | 6, _ | 7, _ | 8, _ => rfl
theorem heT_bmp (m : Nat) (hm : m < 9) : Bmp (heT.getD m 0) := by
  have : ∀ m, m < 9 → heT.getD m 0 < 55296 := by decide
  exact .inl (this m hm)
set_option maxRecDepth 100000 in
theorem sign_he0 (n : Nat) (h1 : 1 ≤ n) (hn : n < 10) (w : World) : Calls Tryd.prog 145 #[.int .i64 11, .int .i64 0, .int .i64 (n : Int)] w (SignQ [1488 + (n - 1)] w) := by
  have t0 : ((n : Int) == 0) = false := by rw [beq_eq_false_iff_ne]; omega
  have HU := Lib.hid (utf_one (1488 + (n - 1)) (.inl (by omega)))
  go_enter Tryd.func145, Tryd.ntmps145
  go_wp2_with fail
  go_ret
  refine ⟨?_, below_alloc1 _ _⟩
  rw [← HU.out, show ((1488 + (n - 1) : Nat) : Int) = 1488 + (n : Int) - 1 from by omega]
  rfl
set_option maxRecDepth 100000 in
theorem sign_he1 (n : Nat) (h1 : 1 ≤ n) (hn : n < 10) (w : World) : Calls Tryd.prog 145 #[.int .i64 11, .int .i64 1, .int .i64 (n : Int)] w (SignQ [heT.getD (n - 1) 0] w) := by
  have t0 : ((n : Int) == 0) = false := by rw [beq_eq_false_iff_ne]; omega
  have HU := Lib.hid (utf_one _ (heT_bmp (n - 1) (by omega)))
  have hc := he_cell (n - 1) (by omega)
  unfold heCells at hc
  have m0 : (1 : Int) ≤ (n : Int) := by omega
  have m9 : (n : Int) - 1 < 9 := by omega
  generalize heT.getD (n - 1) 0 = r at *
  go_enter Tryd.func145, Tryd.ntmps145
  go_wp2_with fail
  go_ret
  exact ⟨by rw [← HU.out]; rfl, below_alloc1 _ _⟩
set_option maxRecDepth 100000 in
theorem sign_he2 (n : Nat) (h1 : 1 ≤ n) (hn : n < 5) (w : World) : Calls Tryd.prog 145 #[.int .i64 11, .int .i64 2, .int .i64 (n : Int)] w (SignQ [1511 + (n - 1)] w) := by
  have t0 : ((n : Int) == 0) = false := by rw [beq_eq_false_iff_ne]; omega
  have t4 : decide ((4 : Int) < (n : Int)) = false := decide_eq_false (by omega)
  have HU := Lib.hid (utf_one (1511 + (n - 1)) (.inl (by omega)))
  go_enter Tryd.func145, Tryd.ntmps145
  go_wp2_with fail
  go_ret
  refine ⟨?_, below_alloc1 _ _⟩
  rw [← HU.out, show ((1511 + (n - 1) : Nat) : Int) = 1511 + (n : Int) - 1 from by omega]
  rfl
set_option maxRecDepth 100000 in
theorem sign_heX (n : Nat) (rs : List Nat) (h5 : 5 ≤ n) (hn : n < 10) (hr : ∀ r ∈ rs, Bmp r) (hl : rs.length ≤ 2) (hrec : ∀ W, Calls Tryd.prog 145 #[.int .i64 11, .int .i64 2, .int .i64 ((n : Int) - 4)] W (SignQ rs W)) (w : World) :
    Calls Tryd.prog 145 #[.int .i64 11, .int .i64 2, .int .i64 (n : Int)] w (SignQ (1514 :: rs) w) := by
  have t0 : ((n : Int) == 0) = false := by rw [beq_eq_false_iff_ne]; omega
  have t4 : decide ((4 : Int) < (n : Int)) = true := decide_eq_true (by omega)
  have hc : str (encs [1514]) ++ str (encs rs) = str (encs (1514 :: rs)) := enc_cat [1514] rs
  have z1 : (str (encs [1514])).size ≤ 3 := encs_small _ (by simp [Bmp])
  have z2 : (str (encs rs)).size ≤ 6 := Nat.le_trans (encs_small rs hr) (by omega)
  have H4 := Lib.hid (fun W => sign_he2 4 (by omega) (by omega) W)
  have H5 := Lib.hid hrec
  have HC := Lib.hid hc
  have HB := Lib.hid (fun o => below_alloc1 w o)
  clear hrec hc hr hl
  unfold SignQ at *
  rw [show (1511 + (4 - 1)) = 1514 from rfl] at H4
  generalize str (encs (1514 :: rs)) = R at *
  generalize str (encs rs) = b at *
  generalize str (encs [1514]) = a at *
  go_enter Tryd.func145, Tryd.ntmps145
  go_wp2_with fail
  refine (H4.out _).mono ?_
  rintro e w1 ⟨rfl, hb⟩
  have HB1 := Lib.hid (below_then (HB.out _) hb)
  clear hb
  go_wp2_with fail
  refine (H5.out _).mono ?_
  rintro e w2 ⟨rfl, hb⟩
  have HB2 := Lib.hid (below_then HB1.out hb)
  clear hb
  go_wp2_with fail
  go_ret
  exact ⟨by rw [← HC.out]; rfl, HB2.out⟩
theorem sign_he5 (n : Nat) (h5 : 5 ≤ n) (hn : n ≤ 8) (w : World) : Calls Tryd.prog 145 #[.int .i64 11, .int .i64 2, .int .i64 (n : Int)] w (SignQ [1514, 1511 + (n - 4 - 1)] w) :=
  sign_heX n [1511 + (n - 4 - 1)] h5 (by omega) (fun r hr => by obtain rfl := List.mem_singleton.1 hr; exact .inl (by omega)) (by simp) (fun W => by
    have := sign_he2 (n - 4) (by omega) (by omega) W
    rwa [show ((n - 4 : Nat) : Int) = (n : Int) - 4 from by omega] at this) w
theorem sign_he9 (w : World) : Calls Tryd.prog 145 #[.int .i64 11, .int .i64 2, .int .i64 9] w (SignQ [1514, 1514, 1511] w) :=
  sign_heX 9 [1514, 1511] (by omega) (by omega) (by simp [Bmp]) (by simp) (fun W => sign_he5 5 (by omega) (by omega) W) w
/-- the sign of a digit -/
theorem sign_any (sc pl n : Nat) (hs : sc = 10 ∨ sc = 11) (hp : pl < 3) (hn : n < 10) (w : World) : Calls Tryd.prog 145 #[.int .i64 (sc : Int), .int .i64 (pl : Int), .int .i64 (n : Int)] w (SignQ (sgnR sc pl n) w) := by
  unfold sgnR
  by_cases h0 : n = 0
  · subst h0; exact sign_zero sc pl w
  rw [if_neg h0]
  rcases hs with rfl | rfl
  · rw [if_pos rfl]; exact sign_gr pl n hp (by omega) hn w
  · rw [if_neg (by omega)]
    by_cases p0 : pl = 0
    · subst p0
      rw [if_pos rfl, show 0x5d0 + n - 1 = 1488 + (n - 1) from by omega]
      exact sign_he0 n (by omega) hn w
    rw [if_neg p0]
    by_cases p1 : pl = 1
    · subst p1
      rw [if_pos rfl]
      exact sign_he1 n (by omega) hn w
    rw [if_neg p1]
    obtain rfl : pl = 2 := by omega
    unfold heH
    by_cases h4 : n ≤ 4
    · rw [if_pos h4, show 0x5e7 + n - 1 = 1511 + (n - 1) from by omega]
      exact sign_he2 n (by omega) (by omega) w
    rw [if_neg h4]
    by_cases h8 : n ≤ 8
    · rw [if_pos h8, show 0x5e7 + (n - 4) - 1 = 1511 + (n - 4 - 1) from by omega]
      exact sign_he5 n (by omega) h8 w
    · rw [if_neg h8]
      obtain rfl : n = 9 := by omega
      exact sign_he9 w
end Go.Proofs.YtlihhlijombepaaDoor
