/- Pb0, Pb1, Pb2, Pb3, Pb4, Pb5, Pb6, Pb7, Pb8, Pb11, Pb9, Pb10, Pb12, Pb13 -/
import Derived.Test.YtoemghiejfkpbaaGreatDoorGPat0
import Derived.Test.YtoemghiejfkpbaaGreatDoorGNumr1
/- Numbers from -20000 to 20000 in thirteen scripts, padded too, as code points; what is written is read. -/
namespace Go.Proofs.YtoemghiejfkpbaaGreatDoor
open Go.Lib
set_option linter.unusedVariables false
theorem rom_back : ∀ n, n < 4000 → inR 9 n = true → lenR 9 (wrR 9 n) = some (n : Int) ∧ (wrR 9 n).all bmpB = true ∧ (wrR 9 n).length ≤ 100 := by
 have h : ((List.range 4000).all fun n => !inR 9 n || (lenR 9 (wrR 9 n) == some (n : Int) && ((wrR 9 n).all bmpB && decide ((wrR 9 n).length ≤ 100)))) = true := by kernel_rfl
 intro n hn hi
 rw [List.all_eq_true] at h
 have h2 := h n (List.mem_range.2 hn)
 rw [hi, Bool.not_true, Bool.false_or, Bool.and_eq_true, Bool.and_eq_true, beq_iff_eq, decide_eq_true_eq] at h2
 exact h2
def chiP (n : Nat) : Bool := lenR 12 (wrR 12 n) == some (n : Int) && ((wrR 12 n).all bmpB && decide ((wrR 12 n).length ≤ 100))
theorem chi_0 : ((List.range 1000).all fun n => chiP (0 + n)) = true := by kernel_rfl
theorem chi_1 : ((List.range 1000).all fun n => chiP (1000 + n)) = true := by kernel_rfl
theorem chi_2 : ((List.range 1000).all fun n => chiP (2000 + n)) = true := by kernel_rfl
theorem chi_3 : ((List.range 1000).all fun n => chiP (3000 + n)) = true := by kernel_rfl
theorem chi_4 : ((List.range 1000).all fun n => chiP (4000 + n)) = true := by kernel_rfl
theorem chi_5 : ((List.range 1000).all fun n => chiP (5000 + n)) = true := by kernel_rfl
theorem chi_6 : ((List.range 1000).all fun n => chiP (6000 + n)) = true := by kernel_rfl
theorem chi_7 : ((List.range 1000).all fun n => chiP (7000 + n)) = true := by kernel_rfl
theorem chi_8 : ((List.range 1000).all fun n => chiP (8000 + n)) = true := by kernel_rfl
theorem chi_9 : ((List.range 1000).all fun n => chiP (9000 + n)) = true := by kernel_rfl
theorem chi_in (k n : Nat) (h : ((List.range 1000).all fun n => chiP (k + n)) = true) (h1 : k ≤ n) (h2 : n < k + 1000) : chiP n = true := by
 rw [List.all_eq_true] at h
 have h3 := h (n - k) (List.mem_range.2 (by omega))
 rw [show k + (n - k) = n by omega] at h3
 exact h3
theorem chi_back (n : Nat) (hn : n < 10000) : lenR 12 (wrR 12 n) = some (n : Int) ∧ (wrR 12 n).all bmpB = true ∧ (wrR 12 n).length ≤ 100 := by
 have h2 : chiP n = true := by
  by_cases h0 : n < 1000
  ·exact chi_in 0 n chi_0 (by omega) (by omega)
  by_cases h1 : n < 2000
  ·exact chi_in 1000 n chi_1 (by omega) (by omega)
  by_cases h2 : n < 3000
  ·exact chi_in 2000 n chi_2 (by omega) (by omega)
  by_cases h3 : n < 4000
  ·exact chi_in 3000 n chi_3 (by omega) (by omega)
  by_cases h4 : n < 5000
  ·exact chi_in 4000 n chi_4 (by omega) (by omega)
  by_cases h5 : n < 6000
  ·exact chi_in 5000 n chi_5 (by omega) (by omega)
  by_cases h6 : n < 7000
  ·exact chi_in 6000 n chi_6 (by omega) (by omega)
  by_cases h7 : n < 8000
  ·exact chi_in 7000 n chi_7 (by omega) (by omega)
  by_cases h8 : n < 9000
  ·exact chi_in 8000 n chi_8 (by omega) (by omega)
  exact chi_in 9000 n chi_9 (by omega) (by omega)
 unfold chiP at h2
 rw [Bool.and_eq_true, Bool.and_eq_true, beq_iff_eq, decide_eq_true_eq] at h2
 exact h2
theorem bmp_all (l : List Nat) (h : l.all bmpB = true) : ∀ r ∈ l, Bmp r := fun r hr => by
 rw [List.all_eq_true] at h
 have h3 := h r hr
 unfold bmpB at h3
 rw [Bool.or_eq_true, Bool.and_eq_true, decide_eq_true_eq, decide_eq_true_eq, decide_eq_true_eq] at h3
 exact h3
def dsN (z : Nat) (l : List UInt8) : List Nat := l.map fun b => z + (b.toNat - 48)
theorem decFrom_mono : ∀ (l : List UInt8) (acc v : Nat), decFrom acc l = some v → acc ≤ v
 | [], acc, v, h => by
  simp only [decFrom, Option.some.injEq] at h
  omega
 | b :: l, acc, v, h => by
  simp only [decFrom] at h
  cases hd : digitVal b with
  | none => rw [hd] at h; cases h
  | some d =>
   rw [hd] at h
   have := decFrom_mono l _ v h
   omega
theorem len_dec (sc : Nat) (hs : sc < 9) : ∀ (l : List UInt8) (acc v : Nat) (lp d : Int), decFrom acc l = some v → v ≤ 1099511627776 → (dsN (zeroN.getD sc 0) l).foldl (lenF sc) (some ((acc : Int), lp, d)) = some ((v : Int), lp, d)
 | [], acc, v, lp, d, h, _ => by
  simp only [decFrom, Option.some.injEq] at h
  subst h
  rfl
 | b :: l, acc, v, lp, d, h, hv => by
  have hm := decFrom_mono _ _ _ h
  simp only [decFrom] at h
  cases hd : digitVal b with
  | none => rw [hd] at h; cases h
  | some x =>
   rw [hd] at h
   have hx : x = b.toNat - 48 ∧ x < 10 := by
    unfold digitVal at hd
    split at hd
    ·have := Option.some.inj hd; omega
    ·cases hd
   have hval : valR sc (zeroN.getD sc 0 + (b.toNat - 48)) = some x := by
    unfold valR
    rw [if_pos hs, if_pos (by omega)]
    congr 1
    omega
   have ih := len_dec sc hs l _ v lp d h hv
   show (dsN (zeroN.getD sc 0) l).foldl (lenF sc) (lenF sc (some ((acc : Int), lp, d)) (zeroN.getD sc 0 + (b.toNat - 48))) = _
   have hst : lenF sc (some ((acc : Int), lp, d)) (zeroN.getD sc 0 + (b.toNat - 48)) = some (((acc * 10 + x : Nat) : Int), lp, d) := by
    simp only [lenF, hval]
    rw [if_neg (by omega), if_neg (by omega), if_pos hs]
    congr 2
    all_goals omega
   rw [hst]
   have he : (acc * 10 + x) = (10 * acc + x) := by omega
   first
    | exact ih
    | (rw [he]; exact ih)
theorem decFrom_zeros : ∀ (k : Nat) (l : List UInt8), decFrom 0 (List.replicate k 48 ++ l) = decFrom 0 l
 | 0, l => rfl
 | k + 1, l => by
  rw [List.replicate_succ, List.cons_append]
  simp only [decFrom, digitVal, show (48 : UInt8).toNat = 48 from rfl]
  exact decFrom_zeros k l
def padD (wd n : Nat) : List UInt8 := List.replicate (wd - (decDigits n).length) 48 ++ decDigits n
def posR (z wd : Nat) (n : Int) : List Nat := (if n < 0 then [45] else []) ++ dsN z (padD wd n.natAbs)
def inN (sc : Nat) (n : Int) : Bool := decide (0 ≤ n) && inR sc n.toNat
def ntR (sc wd : Nat) (n : Int) : Option (List Nat) :=
 if sc < 9 then some (posR (zeroN.getD sc 0) wd n) else if wd = 0 then (if inN sc n then some (wrR sc n.toNat) else none) else none
theorem padD_dec (wd n : Nat) : decFrom 0 (padD wd n) = some n := by unfold padD; rw [decFrom_zeros]; exact decFrom_dec n
theorem padD_ne (wd n : Nat) : padD wd n ≠ [] := fun e => by
 unfold padD at e
 exact dec_ne n (List.append_eq_nil_iff.1 e).2
theorem padD_byte (wd n : Nat) : ∀ b ∈ padD wd n, 48 ≤ b.toNat ∧ b.toNat ≤ 57 := fun b hb => by
 rcases List.mem_append.1 hb with h | h
 ·have := List.eq_of_mem_replicate h
  subst this
  decide
 ·exact dec_digit n b h
theorem dec_len6 (n : Nat) (h : n ≤ 20000) : (decDigits n).length ≤ 6 := by
 have := itoa_len (n : Int) 5 (by omega) (by omega)
 unfold itoa at this
 rw [if_neg (by omega), Int.toNat_natCast] at this
 exact this
theorem zero_le (sc : Nat) (hs : sc < 9) : zeroN.getD sc 0 + 10 ≤ 55296 ∨ (57343 < zeroN.getD sc 0 ∧ zeroN.getD sc 0 + 10 ≤ 65535) := by
 match sc, hs with
 | 0, _ | 1, _ | 2, _ | 3, _ | 4, _ | 5, _ | 6, _ | 7, _ | 8, _ => decide
theorem dsN_bmp (sc : Nat) (hs : sc < 9) (l : List UInt8) (hl : ∀ b ∈ l, 48 ≤ b.toNat ∧ b.toNat ≤ 57) : ∀ r ∈ dsN (zeroN.getD sc 0) l, Bmp r := fun r hr => by
 obtain ⟨b, hb, rfl⟩ := List.mem_map.1 hr
 have := hl b hb
 have := zero_le sc hs
 unfold Bmp
 omega
theorem len_some {sc : Nat} {rs : List Nat} {v : Int} (h : ∃ l d, rs.foldl (lenF sc) (some (0, 0, 0)) = some (v, l, d) ∧ d = 0) (hne : rs ≠ []) : lenR sc rs = some v := by
 obtain ⟨l, d, h, rfl⟩ := h
 unfold lenR
 rw [h]
 have : rs.isEmpty = false := by cases rs with | nil => exact absurd rfl hne | cons _ _ => rfl
 simp [this]
theorem dsN_back (sc : Nat) (hs : sc < 9) (wd n : Nat) (hn : n ≤ 20000) : lenR sc (dsN (zeroN.getD sc 0) (padD wd n)) = some (n : Int) :=
 len_some ⟨0, 0, len_dec sc hs _ 0 n 0 0 (padD_dec wd n) (by omega), rfl⟩ (by unfold dsN; simp [padD_ne])
structure NumOk (sc : Nat) (n : Int) (r : List Nat) : Prop where
 bmp : ∀ x ∈ r, Bmp x
 len : r.length ≤ 100
 ne : r ≠ []
 back : (0 ≤ n ∧ lenR sc r = some n) ∨ (sc < 9 ∧ ∃ r', r = 45 :: r' ∧ lenR sc r' = some (-n))
theorem wr_num (sc : Nat) (hs : ¬ sc < 9) (hs2 : sc < 13) (n : Nat) (hi : inR sc n = true) : lenR sc (wrR sc n) = some (n : Int) ∧ (wrR sc n).all bmpB = true ∧ (wrR sc n).length ≤ 100 := by
 have h4 : sc = 9 ∨ sc = 10 ∨ sc = 11 ∨ sc = 12 := by omega
 rcases h4 with rfl | rfl | rfl | rfl
 ·have hn : n < 4000 := by simp [inR] at hi; omega
  exact rom_back n hn hi
 ·have hn : n < 1100 := by simp [inR] at hi; omega
  refine ⟨read_back 10 (by omega) n hn hi, ?_, (wr_ok 10 (by omega) n hn).2⟩
  rw [List.all_eq_true]
  intro r hr
  have := (wr_ok 10 (by omega) n hn).1 r hr
  unfold Bmp at this
  unfold bmpB
  simp
  omega
 ·have hn : n < 1100 := by simp [inR] at hi; omega
  refine ⟨read_back 11 (by omega) n hn hi, ?_, (wr_ok 11 (by omega) n hn).2⟩
  rw [List.all_eq_true]
  intro r hr
  have := (wr_ok 11 (by omega) n hn).1 r hr
  unfold Bmp at this
  unfold bmpB
  simp
  omega
 ·have hn : n < 10000 := by simp [inR] at hi; omega
  exact chi_back n hn
theorem nt_ok (sc wd : Nat) (hs : sc < 13) (hw : wd ≤ 4) (n : Int) (h1 : -20000 ≤ n) (h2 : n ≤ 20000) (r : List Nat) (h : ntR sc wd n = some r) : NumOk sc n r := by
 unfold ntR at h
 by_cases h9 : sc < 9
 ·rw [if_pos h9] at h
  obtain rfl := Option.some.inj h
  have hb := dsN_bmp sc h9 _ (padD_byte wd n.natAbs)
  have hbk := dsN_back sc h9 wd n.natAbs (by omega)
  have hl : (dsN (zeroN.getD sc 0) (padD wd n.natAbs)).length ≤ 10 := by
   unfold dsN padD
   rw [List.length_map, List.length_append, List.length_replicate]
   have := dec_len6 n.natAbs (by omega)
   omega
  have hne : dsN (zeroN.getD sc 0) (padD wd n.natAbs) ≠ [] := by unfold dsN; simp [padD_ne]
  unfold posR
  by_cases h0 : n < 0
  ·rw [if_pos h0]
   refine ⟨fun x hx => ?_, ?_, by simp, .inr ⟨h9, _, rfl, ?_⟩⟩
   ·rcases List.mem_append.1 hx with h | h
    ·obtain rfl := List.mem_singleton.1 h
     exact .inl (by omega)
    ·exact hb x h
   ·rw [List.length_append, List.length_singleton]; omega
   ·show lenR sc (dsN (zeroN.getD sc 0) (padD wd n.natAbs)) = _
    rw [hbk]; congr 1; omega
  ·rw [if_neg h0, List.nil_append]
   exact ⟨hb, by omega, hne, .inl ⟨by omega, by rw [hbk]; congr 1; omega⟩⟩
 ·rw [if_neg h9] at h
  split at h
  ·split at h
   ·rename_i hin
    obtain rfl := Option.some.inj h
    unfold inN at hin
    rw [Bool.and_eq_true, decide_eq_true_eq] at hin
    obtain ⟨q1, q2, q3⟩ := wr_num sc h9 hs n.toNat hin.2
    refine ⟨bmp_all _ q2, q3, ?_, .inl ⟨hin.1, by rw [q1]; congr 1; omega⟩⟩
    intro e
    rw [e] at q1
    simp [lenR] at q1
   ·cases h
  ·cases h
end Go.Proofs.YtoemghiejfkpbaaGreatDoor
/- Contracts of pattern.kind at every item, of pattern.split at patterns that are sound: prints of wip/gen/pb1.py. -/
namespace Go.Proofs.YtoemghiejfkpbaaGreatDoor
open Go Go.RowKit
set_option linter.unusedVariables false
def itemW : List (List UInt8 × Nat × Nat) := [([121], 1, 0), ([109], 2, 0), ([100], 3, 0), ([121, 52], 1, 4), ([109, 50], 2, 2), ([100, 50], 3, 2), ([110, 97, 109, 101], 4, 0), ([119], 5, 0)]
set_option maxRecDepth 100000 in
theorem pkindW_any (s : List UInt8) (k wd : Nat) (h : (s, k, wd) ∈ itemW) (w : World) : Calls Tryz.prog 39 #[.string (str s)] w fun e w' => e = .returned (.tuple #[.int .i64 (k : Int), .int .i64 (wd : Int)]) ∧ w' = w := by
 unfold itemW at h
 simp only [List.mem_cons, Prod.mk.injEq, List.not_mem_nil, or_false] at h
 rcases h with ⟨rfl, rfl, rfl⟩ | ⟨rfl, rfl, rfl⟩ | ⟨rfl, rfl, rfl⟩ | ⟨rfl, rfl, rfl⟩ | ⟨rfl, rfl, rfl⟩ | ⟨rfl, rfl, rfl⟩ | ⟨rfl, rfl, rfl⟩ | ⟨rfl, rfl, rfl⟩
 ·rw [show str [121] = ⟨#[121]⟩ from rfl]
  go_enter Tryz.func39, Tryz.ntmps39
  go_wp2_with fail
  go_ret2
  exact ⟨rfl, rfl⟩
 ·rw [show str [109] = ⟨#[109]⟩ from rfl]
  go_enter Tryz.func39, Tryz.ntmps39
  go_wp2_with fail
  go_ret2
  exact ⟨rfl, rfl⟩
 ·rw [show str [100] = ⟨#[100]⟩ from rfl]
  go_enter Tryz.func39, Tryz.ntmps39
  go_wp2_with fail
  go_ret2
  exact ⟨rfl, rfl⟩
 ·rw [show str [121, 52] = ⟨#[121, 52]⟩ from rfl]
  go_enter Tryz.func39, Tryz.ntmps39
  go_wp2_with fail
  go_ret2
  exact ⟨rfl, rfl⟩
 ·rw [show str [109, 50] = ⟨#[109, 50]⟩ from rfl]
  go_enter Tryz.func39, Tryz.ntmps39
  go_wp2_with fail
  go_ret2
  exact ⟨rfl, rfl⟩
 ·rw [show str [100, 50] = ⟨#[100, 50]⟩ from rfl]
  go_enter Tryz.func39, Tryz.ntmps39
  go_wp2_with fail
  go_ret2
  exact ⟨rfl, rfl⟩
 ·rw [show str [110, 97, 109, 101] = ⟨#[110, 97, 109, 101]⟩ from rfl]
  go_enter Tryz.func39, Tryz.ntmps39
  go_wp2_with fail
  go_ret2
  exact ⟨rfl, rfl⟩
 ·rw [show str [119] = ⟨#[119]⟩ from rfl]
  go_enter Tryz.func39, Tryz.ntmps39
  go_wp2_with fail
  go_ret2
  exact ⟨rfl, rfl⟩
theorem itemW_pos (s : List UInt8) (k wd : Nat) (h : (s, k, wd) ∈ itemW) : 1 ≤ k ∧ k ≤ 5 ∧ wd ≤ 4 ∧ s ≠ [] := by
 unfold itemW at h
 simp only [List.mem_cons, Prod.mk.injEq, List.not_mem_nil, or_false] at h
 rcases h with ⟨rfl, rfl, rfl⟩ | ⟨rfl, rfl, rfl⟩ | ⟨rfl, rfl, rfl⟩ | ⟨rfl, rfl, rfl⟩ | ⟨rfl, rfl, rfl⟩ | ⟨rfl, rfl, rfl⟩ | ⟨rfl, rfl, rfl⟩ | ⟨rfl, rfl, rfl⟩ <;> exact ⟨by omega, by omega, by omega, by simp⟩
structure PrOkW (x : List UInt8 × List UInt8) : Prop where
 t1 : ∀ b ∈ x.1, b ≠ 123
 t2 : ∀ b ∈ x.1, b ≠ 125
 i1 : ∀ b ∈ x.2, b ≠ 125
 k : ∃ k wd : Nat, (x.2, k, wd) ∈ itemW
def patE (R : List (List UInt8 × List UInt8)) (tl : List UInt8) : List UInt8 := patT R ++ tl
theorem patE_cons (x : List UInt8 × List UInt8) (R : List (List UInt8 × List UInt8)) (tl : List UInt8) : patE (x :: R) tl = x.1 ++ 123 :: (x.2 ++ 125 :: patE R tl) := by simp [patE, patT_cons]
def partE (R : List (List UInt8 × List UInt8)) (tl : List UInt8) : List (Bool × List UInt8) := partL R ++ (if tl = [] then [] else [(false, tl)])
set_option maxHeartbeats 8000000 in
set_option maxRecDepth 100000 in
theorem psplitW_any (R : List (List UInt8 × List UInt8)) (tl : List UInt8) (hR : ∀ x ∈ R, PrOkW x) (ht1 : ∀ b ∈ tl, b ≠ 123) (ht2 : ∀ b ∈ tl, b ≠ 125) (hlen : (patE R tl).length ≤ 60) (hn : R.length ≤ 20) (w : World) (hsh : Shp w) :
  Calls Tryz.prog 36 #[.string (str (patE R tl))] w fun e w' => ∃ v, e = .returned (.tuple #[v, .int .i64 0]) ∧ w'.ownsRow w.heap.size 83 2 v (partE R tl).length ((partE R tl).flatMap partV) ∧ Below w.heap.size w w' := by
 obtain ⟨i0, hi0, hz0, hz1, hz2⟩ := info_parts infoPart
 have HR := Lib.hid hR
 have HSh := Lib.hid hsh
 have hcs : (str (patE R tl)).size = (patE R tl).length := str_size _
 have t60 : decide (60 < ((patE R tl).length : Int)) = false := decide_eq_false (by omega)
 have HTL0 : Hid ((∀ b ∈ tl, b ≠ 123) ∧ ∀ b ∈ tl, b ≠ 125) := ⟨ht1, ht2⟩
 clear hR hsh ht1 ht2
 go_enter Tryz.func36, Tryz.ntmps36
 go_wp2_with fail
 clear hcs t60
 go_loopw [0, 4, 5, 6, 7, 8, 9, 10, 11] (fun s0 s4 _ _ _ _ _ _ _ wr => ∃ R1 R2, R = R1 ++ R2 ∧ s0 = .string (str (patE R2 tl)) ∧ (patE R2 tl).length ≤ 60 ∧ Hid (wr.ownsRow w.heap.size 83 2 s4 (partL R1).length ((partL R1).flatMap partV)) ∧ Hid (Below w.heap.size w wr)) (fun s0 _ _ _ _ _ _ _ _ _ => match s0 with | .string s => s.size | _ => 0)
 case atStart => exact ⟨[], R, rfl, rfl, hlen, World.ownsRow_nil _ _ _ _, Below.refl _ _⟩
 case round =>
  obtain ⟨R1, R2, hRR, rfl, hl2, hown, hbr⟩ := hrel
  have hsz := hbr.out.size
  have hn1 : R1.length + R2.length ≤ 20 := by rw [hRR, List.length_append] at hn; exact hn
  have hp1 := partL_len R1
  cases R2 with
  | nil =>
   have hR1 : R1 = R := by rw [hRR, List.append_nil]
   have HTL : Hid ((∀ b ∈ tl, b ≠ 123) ∧ ∀ b ∈ tl, b ≠ 125) := HTL0
   rw [show patE [] tl = tl from rfl] at hl2 ⊢
   subst hR1
   clear hRR
   by_cases htl : tl = []
   ·have HO : Hid (wr.ownsRow w.heap.size 83 2 u4 (partE R1 tl).length ((partE R1 tl).flatMap partV)) := by
     unfold Hid partE
     rw [if_pos htl, List.append_nil]
     exact hown.out
    subst htl
    rw [show str [] = ⟨#[]⟩ from rfl]
    clear hown
    go_wp2_with fail
    go_ret2
    exact ⟨u4, rfl, HO.out, hbr.out⟩
   ·have HS2 := Lib.hid (HSh.out.next hbr.out)
    have hps : partE R1 tl = partL R1 ++ [(false, tl)] := by unfold partE; rw [if_neg htl]
    have hE : (str tl).toList.isEmpty = false := by
     rw [str_toList]
     cases tl with
     | nil => exact absurd rfl htl
     | cons _ _ => rfl
    have HC1 : Hid (Calls Tryz.prog 53 #[.string (str tl), .string ⟨#[123]⟩] wr fun e w' => e = .returned (.tuple #[.string (str tl), .string ⟨#[]⟩, .bool false]) ∧ Below wr.heap.size wr w') := by
     have h2 := cutc_any (str tl) 123 wr (by rw [str_size]; omega) HS2.out
     rw [str_data, cut_no 123 tl HTL.out.1] at h2
     exact h2
    have HCt := Lib.hid (fun W (h : Shp W) => pcontains_no tl 125 HTL.out.2 (by omega) W h)
    clear HTL
    go_upto_region 9 with (first
     | (go_at_call 53; refine Calls.mono HC1.out ?_; rintro e w1 ⟨rfl, hb1⟩; have HB1 := Lib.hid hb1; clear hb1)
     | (go_at_call 66; refine Calls.mono (HCt.out w1 (HS2.out.next HB1.out)) ?_; rintro e w2 ⟨rfl, hw⟩; subst hw))
    have HBw := Lib.hid (below_then hbr.out HB1.out)
    have hown := own_next hown.out HB1.out
    have hsz := HBw.out.size
    clear HC1 HCt HB1 HS2 hE hbr HSh
    have hp3 : (partL R1).length + 1 ≤ 60 := by have := hp1; omega
    go_wp2_with (at_builtin; refine wpList_append_own _ rfl (.tmp 27) (.tmp 30) 40 rfl w.heap.size 83 i0 (.agg #[.bool false, .string ⟨#[]⟩]) 2 24 Tryz.underlying40 hi0 hz0 hz1 hz2 rfl (by decide) u4 (partL R1).length _ rfl (hown.alloc _) ⟨w2.heap.size, 0, none⟩ 1 1 [.bool false, .string (str tl)] rfl rfl ?c1 ?c2 ?c3 ?c4 ?c5 ?_)
    case c1 => exact fun j u hj => World.news_of_block (cs := #[.bool false, .string (str tl)]) (t := 83) (fr := (0, 0)) (heap_alloc_new w2 _) j u hj
    case c2 => simp [Value.oneCell']
    case c3 => unfold maxLen; omega
    case c4 => omega
    case c5 => simp only [World.size_alloc]; omega
    intro v' w3 hown' hgrow _
    have HO3 : Hid (w3.ownsRow w.heap.size 83 2 v' (partE R1 tl).length ((partE R1 tl).flatMap partV)) := by
     unfold Hid
     rw [hps, List.length_append, List.flatMap_append]
     exact hown'
    have hgl : ∀ b, u4.ownBlock = some b → w.heap.size ≤ b := fun b hb => (own_lt hown b hb).1
    have HB3 := Lib.hid ((HBw.out.alloc hsz (Obj.cells #[.bool false, .string (str tl)] 83)).grown hgrow (by simp only [World.size_alloc]; omega) hgl)
    clear hgrow hown hown' hgl HBw
    go_wp2_with fail
    go_ret2
    exact ⟨v', rfl, HO3.out, HB3.out⟩
  | cons x R3 =>
   have hok : PrOkW x := HR.out x (by rw [hRR]; simp)
   obtain ⟨k, wd, hk⟩ := hok.k
   have HS2 := Lib.hid (HSh.out.next hbr.out)
   rw [List.length_cons] at hn1
   have hlp : (patE (x :: R3) tl).length = x.1.length + (x.2.length + ((patE R3 tl).length + 1) + 1) := by rw [patE_cons]; simp
   have HC1 : Hid (Calls Tryz.prog 53 #[.string (str (x.1 ++ 123 :: (x.2 ++ 125 :: patE R3 tl))), .string ⟨#[123]⟩] wr fun e w' => e = .returned (.tuple #[.string (str x.1), .string (str (x.2 ++ 125 :: patE R3 tl)), .bool true]) ∧ Below wr.heap.size wr w') := by
    have h2 := cutc_any (str (x.1 ++ 123 :: (x.2 ++ 125 :: patE R3 tl))) 123 wr (by rw [str_size]; simp; omega) HS2.out
    rw [str_data, cut_at 123 x.1 _ hok.t1] at h2
    exact h2
   rw [patE_cons]
   have HCt := Lib.hid (fun W (h : Shp W) => pcontains_no x.1 125 hok.t2 (by omega) W h)
   have HC2 : Hid (∀ W, Shp W → Calls Tryz.prog 53 #[.string (str (x.2 ++ 125 :: patE R3 tl)), .string ⟨#[125]⟩] W fun e w' => e = .returned (.tuple #[.string (str x.2), .string (str (patE R3 tl)), .bool true]) ∧ Below W.heap.size W w') := fun W h => by
    have h2 := cutc_any (str (x.2 ++ 125 :: patE R3 tl)) 125 W (by rw [str_size]; simp; omega) h
    rw [str_data, cut_at 125 x.2 _ hok.i1] at h2
    exact h2
   have HK := Lib.hid (fun W => pkindW_any x.2 k wd hk W)
   have hk0 : ((k : Int) == 0) = false := by
    rw [beq_eq_false_iff_ne]
    have := itemW_pos x.2 k wd hk
    omega
   have HRR : Hid (R = (R1 ++ [x]) ++ R3) := by unfold Hid; rw [hRR]; simp
   have hm : (str (patE R3 tl)).size < (str (x.1 ++ 123 :: (x.2 ++ 125 :: patE R3 tl))).size := by rw [str_size, str_size]; simp; omega
   have HM := Lib.hid hm
   have hs3 : (patE R3 tl).length ≤ 60 := by omega
   have hE : (str (x.1 ++ 123 :: (x.2 ++ 125 :: patE R3 tl))).toList.isEmpty = false := by
    rw [str_toList]
    cases x.1 <;> rfl
   have hX : (str x.1).toList.isEmpty = decide (x.1 = []) := by
    rw [str_toList]
    cases x.1 <;> simp
   have hP : str x.1 = str x.1 := rfl
   clear hm hlp hl2 hRR hk hP
   generalize str (x.1 ++ 123 :: (x.2 ++ 125 :: patE R3 tl)) = S0 at *
   generalize str (x.2 ++ 125 :: patE R3 tl) = S1 at *
   generalize hS3 : str (patE R3 tl) = S3 at *
   have HS3 := Lib.hid hS3
   clear hS3
   go_upto_region 8 with (first
    | (go_at_call 53; refine Calls.mono HC1.out ?_; rintro e w1 ⟨rfl, hb1⟩; have HB1 := Lib.hid hb1; clear hb1)
    | (go_at_call 66; refine Calls.mono (HCt.out w1 (HS2.out.next HB1.out)) ?_; rintro e w2 ⟨rfl, hw⟩; subst hw))
   have HBw := Lib.hid (below_then hbr.out HB1.out)
   have HSw := Lib.hid (HS2.out.next HB1.out)
   have HOw := Lib.hid (own_next hown.out HB1.out)
   clear hown hbr HS2 HB1 HC1 HCt hE hsz
   obtain ⟨B, hBe⟩ : ∃ B : Bool, B = decide (x.1 = []) := ⟨_, rfl⟩
   rw [← hBe] at hX
   have HBe := Lib.hid hBe
   clear hBe
   go_upto_if 26 with fail
   go_cut [4] (fun s4 wx => Hid (wx.ownsRow w.heap.size 83 2 s4 (partL R1 ++ (if x.1 = [] then [] else [(false, x.1)])).length ((partL R1 ++ (if x.1 = [] then [] else [(false, x.1)])).flatMap partV)) ∧ Hid (Below w.heap.size w wx))
   case first =>
    cases B
    ·have hx1 : ¬ x.1 = [] := of_decide_eq_false HBe.out.symm
     have hsz := HBw.out.size
     have hown := HOw.out
     clear HBe HC2 HK HSw hX
     go_wp2_with (at_builtin; refine wpList_append_own _ rfl (.tmp 27) (.tmp 30) 40 rfl w.heap.size 83 i0 (.agg #[.bool false, .string ⟨#[]⟩]) 2 24 Tryz.underlying40 hi0 hz0 hz1 hz2 rfl (by decide) u4 (partL R1).length _ rfl (hown.alloc _) ⟨w2.heap.size, 0, none⟩ 1 1 [.bool false, .string (str x.1)] rfl rfl ?c1 ?c2 ?c3 ?c4 ?c5 ?_)
     case c1 => exact fun j u hj => World.news_of_block (cs := #[.bool false, .string (str x.1)]) (t := 83) (fr := (0, 0)) (heap_alloc_new w2 _) j u hj
     case c2 => simp [Value.oneCell']
     case c3 => unfold maxLen; omega
     case c4 => omega
     case c5 => simp only [World.size_alloc]; omega
     intro v' w3 hown' hgrow _
     have HO3 : Hid (w3.ownsRow w.heap.size 83 2 v' (partL R1 ++ (if x.1 = [] then [] else [(false, x.1)])).length ((partL R1 ++ (if x.1 = [] then [] else [(false, x.1)])).flatMap partV)) := by
      unfold Hid
      rw [if_neg hx1, List.length_append, List.flatMap_append]
      exact hown'
     have hgl : ∀ b, u4.ownBlock = some b → w.heap.size ≤ b := fun b hb => (own_lt hown b hb).1
     have HB3 := Lib.hid ((HBw.out.alloc hsz (Obj.cells #[.bool false, .string (str x.1)] 83)).grown hgrow (by simp only [World.size_alloc]; omega) hgl)
     clear hgrow hown hown' hgl HBw HOw
     go_wp2_with fail
     go_meet
     exact ⟨HO3, HB3⟩
    ·have hx1 : x.1 = [] := of_decide_eq_true HBe.out.symm
     clear HBe
     have HO3 : Hid (w2.ownsRow w.heap.size 83 2 u4 (partL R1 ++ (if x.1 = [] then [] else [(false, x.1)])).length ((partL R1 ++ (if x.1 = [] then [] else [(false, x.1)])).flatMap partV)) := by
      unfold Hid
      rw [if_pos hx1, List.append_nil]
      exact HOw.out
     clear HOw
     go_wp2_with fail
     go_meet
     exact ⟨HO3, HBw⟩
   case rest =>
   obtain ⟨hown, hbw⟩ := hcut
   have HSc := Lib.hid (HSh.out.next hbw.out)
   clear HBw HSw HOw HBe hX
   go_upto_region 15 with (first
    | (go_at_call 53; refine Calls.mono (HC2.out wc HSc.out) ?_; rintro e w3 ⟨rfl, hb3⟩; have HB3 := Lib.hid (below_then hbw.out hb3); have HO3 := Lib.hid (own_next hown.out hb3); clear hb3)
    | (go_at_call 39; refine Calls.mono (HK.out w3) ?_; rintro e w4 ⟨rfl, hw⟩; subst hw))
   clear HC2 HK HSc hown hbw hk0
   have hsz := HB3.out.size
   have hown := HO3.out
   have hp3 : (partL R1 ++ (if x.1 = [] then [] else [(false, x.1)])).length ≤ 2 * R1.length + 1 := by rw [List.length_append]; split <;> simp <;> omega
   have hps := partL_snoc R1 x
   generalize hq : partL R1 ++ (if x.1 = [] then [] else [(false, x.1)]) = Q at *
   go_wp2_with (at_builtin; refine wpList_append_own _ rfl (.tmp 51) (.tmp 54) 40 rfl w.heap.size 83 i0 (.agg #[.bool false, .string ⟨#[]⟩]) 2 24 Tryz.underlying40 hi0 hz0 hz1 hz2 rfl (by decide) u4 Q.length _ rfl (hown.alloc _) ⟨w4.heap.size, 0, none⟩ 1 1 [.bool true, .string (str x.2)] rfl rfl ?c1 ?c2 ?c3 ?c4 ?c5 ?_)
   case c1 => exact fun j u hj => World.news_of_block (cs := #[.bool true, .string (str x.2)]) (t := 83) (fr := (0, 0)) (heap_alloc_new w4 _) j u hj
   case c2 => simp [Value.oneCell']
   case c3 => unfold maxLen; omega
   case c4 => omega
   case c5 => simp only [World.size_alloc]; omega
   intro v' w5 hown' hgrow _
   have HO5 : Hid (w5.ownsRow w.heap.size 83 2 v' (partL (R1 ++ [x])).length ((partL (R1 ++ [x])).flatMap partV)) := by
    unfold Hid
    rw [hps, ← List.append_assoc, hq, List.length_append, List.flatMap_append]
    exact hown'
   have hgl : ∀ b, u4.ownBlock = some b → w.heap.size ≤ b := fun b hb => (own_lt hown b hb).1
   have HB5 := Lib.hid ((HB3.out.alloc hsz (Obj.cells #[.bool true, .string (str x.2)] 83)).grown hgrow (by simp only [World.size_alloc]; omega) hgl)
   clear hgrow hown hown' hgl HB3 HO3 hps hq
   go_wp2_with fail
   go_roundw
   case rel => exact ⟨R1 ++ [x], R3, HRR.out, by rw [HS3.out], hs3, HO5, HB5⟩
   case measure => exact HM.out
end Go.Proofs.YtoemghiejfkpbaaGreatDoor
/- Contracts of pattern.joins, pattern.full: prints of wip/gen/pb2.py. -/
namespace Go.Proofs.YtoemghiejfkpbaaGreatDoor
open Go Go.RowKit
set_option linter.unusedVariables false
def kdw (s : List UInt8) : Nat × Nat :=
 if s = [121] then (1, 0) else if s = [109] then (2, 0) else if s = [100] then (3, 0) else if s = [121, 52] then (1, 4) else if s = [109, 50] then (2, 2) else if s = [100, 50] then (3, 2) else if s = [110, 97, 109, 101] then (4, 0) else (5, 0)
theorem kdw_of (s : List UInt8) (k wd : Nat) (h : (s, k, wd) ∈ itemW) : kdw s = (k, wd) := by
 unfold itemW at h
 simp only [List.mem_cons, Prod.mk.injEq, List.not_mem_nil, or_false] at h
 rcases h with ⟨rfl, rfl, rfl⟩ | ⟨rfl, rfl, rfl⟩ | ⟨rfl, rfl, rfl⟩ | ⟨rfl, rfl, rfl⟩ | ⟨rfl, rfl, rfl⟩ | ⟨rfl, rfl, rfl⟩ | ⟨rfl, rfl, rfl⟩ | ⟨rfl, rfl, rfl⟩ <;> rfl
def sepL : List Nat := [47, 46, 32, 62, 124, 44, 58, 33]
set_option maxRecDepth 100000 in
theorem joins_no (c : Nat) (h : c ∈ sepL) (w : World) : Calls Tryz.prog 40 #[.int .u8 (c : Int)] w fun e w' => e = .returned (.bool false) ∧ w' = w := by
 unfold sepL at h
 simp only [List.mem_cons, List.not_mem_nil, or_false] at h
 rcases h with rfl | rfl | rfl | rfl | rfl | rfl | rfl | rfl
 all_goals
  go_enter Tryz.func40, Tryz.ntmps40
  go_wp2_with fail
  go_ret
  exact ⟨rfl, rfl⟩
def cntK (k : Nat) (l : List (Bool × List UInt8)) : Nat := (l.filter fun p => p.1 && (kdw p.2).1 == k).length
theorem cnt_snoc (k : Nat) (l : List (Bool × List UInt8)) (p : Bool × List UInt8) : cntK k (l ++ [p]) = cntK k l + (if p.1 && (kdw p.2).1 == k then 1 else 0) := by
 unfold cntK
 rw [List.filter_append, List.length_append]
 congr 1
 rw [List.filter_cons]
 split <;> simp_all
def cntC (l : List (Bool × List UInt8)) : Array Value := #[.int .i64 (cntK 0 l : Nat), .int .i64 (cntK 1 l : Nat), .int .i64 (cntK 2 l : Nat), .int .i64 (cntK 3 l : Nat), .int .i64 (cntK 4 l : Nat), .int .i64 (cntK 5 l : Nat)]
structure FullOk (ps : List (Bool × List UInt8)) : Prop where
 len : ps.length ≤ 40
 it : ∀ p ∈ ps, p.1 = true → ∃ k wd, (p.2, k, wd) ∈ itemW
 adj : ∀ i p q, ps[i]? = some p → ps[i + 1]? = some q → p.1 = true → q.1 = false ∧ ∃ h : 0 < (str q.2).size, (str q.2)[0].toNat ∈ sepL
 yr : cntK 1 ps = 1
 dy : cntK 3 ps = 1
 mo : cntK 2 ps + cntK 4 ps = 1
 wk : cntK 5 ps ≤ 1
theorem cntC_item (l : List (Bool × List UInt8)) (s : List UInt8) (k : Nat) (hk : (kdw s).1 = k) (h5 : k ≤ 5) : (cntC l).setIfInBounds k (.int .i64 ((cntK k l : Nat) + 1)) = cntC (l ++ [(true, s)]) := by
 have hc : ∀ i, cntK i (l ++ [(true, s)]) = cntK i l + (if k = i then 1 else 0) := fun i => by
  rw [cnt_snoc, hk]
  by_cases h : k = i
  ·simp [h]
  ·simp [h]
 unfold cntC
 rw [hc 0, hc 1, hc 2, hc 3, hc 4, hc 5]
 rcases (show k = 0 ∨ k = 1 ∨ k = 2 ∨ k = 3 ∨ k = 4 ∨ k = 5 by omega) with rfl | rfl | rfl | rfl | rfl | rfl <;> simp
theorem cntC_text (l : List (Bool × List UInt8)) (s : List UInt8) : cntC l = cntC (l ++ [(false, s)]) := by
 have hc : ∀ i, cntK i (l ++ [(false, s)]) = cntK i l := fun i => by rw [cnt_snoc]; simp
 unfold cntC
 rw [hc 0, hc 1, hc 2, hc 3, hc 4, hc 5]
set_option maxHeartbeats 8000000 in
set_option maxRecDepth 100000 in
theorem full_any (ps : List (Bool × List UInt8)) (ok : FullOk ps) (gp cp : Nat) (w : World) (hgp : gp < w.heap.size) (hc : ∀ i x, (ps.flatMap partV)[i]? = some x → w.cell? ⟨gp, i, none⟩ = some x) :
  Calls Tryz.prog 13 #[.slice (some ⟨gp, 0, none⟩) ps.length cp] w fun e w' => e = .returned (.bool true) ∧ Below w.heap.size w w' := by
 have HOK := Lib.hid ok
 have hl40 := ok.len
 have HJ := Lib.hid (fun c h W => joins_no c h W)
 have HB0 := Lib.hid (below_alloc1 w (Obj.cells #[.int .i64 0, .int .i64 0, .int .i64 0, .int .i64 0, .int .i64 0, .int .i64 0] 81))
 have HX0 : Hid (Box (w.alloc (Obj.cells #[.int .i64 0, .int .i64 0, .int .i64 0, .int .i64 0, .int .i64 0, .int .i64 0] 81)) w.heap.size 81 (cntC (ps.take 0))) := Box.new w 81 _
 have HCp : Hid (∀ W, Below w.heap.size w W → ∀ i x, (ps.flatMap partV)[i]? = some x → W.cell? ⟨gp, i, none⟩ = some x) := fun W hb i x hx => (hb.cell (p := ⟨gp, i, none⟩) hgp).trans (hc i x hx)
 clear ok hc
 go_enter Tryz.func13, Tryz.ntmps13
 go_upto_region 2 with fail
 generalize w.alloc (Obj.cells #[.int .i64 0, .int .i64 0, .int .i64 0, .int .i64 0, .int .i64 0, .int .i64 0] 81) = W0 at *
 generalize hg : w.heap.size = g at *
 have HG := Lib.hid hg
 clear hg
 go_wp2_with fail
 go_loopw [4, 5, 6, 7, 10] (fun _ _ _ _ i wr => ∃ j : Nat, j ≤ ps.length ∧ i = .int .i64 (j : Int) ∧ Hid (Box wr g 81 (cntC (ps.take j))) ∧ Hid (Below g w wr)) (fun _ _ _ _ i _ => ps.length - (intOf i).toNat)
 case atStart => exact ⟨0, by omega, rfl, HX0, HB0⟩
 case round =>
  obtain ⟨j, hj, rfl, hx, hbr⟩ := hrel
  by_cases hlt : j < ps.length
  ·have t1 : decide ((j : Int) < (ps.length : Int)) = true := decide_eq_true (by omega)
   obtain ⟨p, hpe⟩ : ∃ p, ps[j]? = some p := ⟨_, List.getElem?_eq_getElem hlt⟩
   have hmem : p ∈ ps := List.mem_of_getElem? hpe
   obtain ⟨z0, z1⟩ := flat2_at (HCp.out wr hbr.out) j p hpe
   have htk : ps.take (j + 1) = ps.take j ++ [p] := by rw [List.take_add_one, hpe]; rfl
   have HIt := Lib.hid (HOK.out.it p hmem)
   have HPrev : Hid (j = 0 ∨ ∃ i q, j = i + 1 ∧ ps[i]? = some q ∧ (q.1 = true → p.1 = false ∧ ∃ h : 0 < (str p.2).size, (str p.2)[0].toNat ∈ sepL)) := by
    rcases Nat.eq_zero_or_pos j with h | h
    ·exact .inl h
    ·obtain ⟨q, hq⟩ : ∃ q, ps[j - 1]? = some q := ⟨_, List.getElem?_eq_getElem (by omega)⟩
     refine .inr ⟨j - 1, q, by omega, hq, fun h1 => HOK.out.adj (j - 1) q p hq (by rw [show j - 1 + 1 = j by omega]; exact hpe) h1⟩
   obtain ⟨tt, sx⟩ := p
   dsimp only at z0 z1 HIt HPrev
   have hxl := hx.out.lt
   have hb5 := below_alloc1 wr (Obj.cells #[.bool tt, .string (str sx)] 83)
   have HB5 : Hid (Below g w (wr.alloc (Obj.cells #[.bool tt, .string (str sx)] 83))) := hbr.out.trans (hb5.mono (by omega))
   have HX5 := Lib.hid (hx.out.below hb5)
   have HQ5 := Lib.hid (Box.new wr 83 #[.bool tt, .string (str sx)])
   go_upto_region 5 with fail
   clear hb5 z0 z1 hpe hmem hbr hx
   generalize wr.alloc (Obj.cells #[.bool tt, .string (str sx)] 83) = w5 at *
   generalize wr.heap.size = gq at *
   have hgq : g ≠ gq := by omega
   have HTk := Lib.hid htk
   clear htk
   have c0 : w5.cell? ⟨gq, 0, none⟩ = some (.bool tt) := HQ5.out.cell 0
   have c1 : w5.cell? ⟨gq, 1, none⟩ = some (.string (str sx)) := HQ5.out.cell 1
   go_upto_if 16 with fail
   go_cut [6, 7] (fun _ _ wx => Hid (Box wx g 81 (cntC (ps.take (j + 1)))) ∧ Hid (Below g w wx) ∧ Hid (Box wx gq 83 #[.bool tt, .string (str sx)]))
   case first =>
    cases tt
    ·have HX6 : Hid (Box w5 g 81 (cntC (ps.take (j + 1)))) := by unfold Hid; rw [HTk.out, ← cntC_text]; exact HX5.out
     clear HIt HPrev
     go_wp2_with fail
     go_meet
     exact ⟨HX6, HB5, HQ5⟩
    ·obtain ⟨k, wd, hk⟩ := HIt.out rfl
     have HK := Lib.hid (fun W => pkindW_any sx k wd hk W)
     have hkd : (kdw sx).1 = k := by rw [kdw_of sx k wd hk]
     have hk5 := itemW_pos sx k wd hk
     have HX6 : Hid (Box (w5.setCell ⟨g, k, none⟩ (.int .i64 ((cntK k (ps.take j) : Nat) + 1))) g 81 (cntC (ps.take (j + 1)))) := by
      unfold Hid
      rw [HTk.out, ← cntC_item (ps.take j) sx k hkd hk5.2.1]
      exact HX5.out.set_ k _
     have HQ6 : Hid (Box (w5.setCell ⟨g, k, none⟩ (.int .i64 ((cntK k (ps.take j) : Nat) + 1))) gq 83 #[.bool true, .string (str sx)]) := HQ5.out.far (fun e => hgq e.symm) _
     have HB6 : Hid (Below g w (w5.setCell ⟨g, k, none⟩ (.int .i64 ((cntK k (ps.take j) : Nat) + 1)))) := HB5.out.setCell (p := ⟨g, k, none⟩) (Nat.le_refl _) _
     have fr : w5.frozen? ⟨g, k, none⟩ = false := HX5.out.free k
     have hcell : w5.cell? ⟨g, k, none⟩ = some (.int .i64 (cntK k (ps.take j) : Nat)) := by
      rw [HX5.out.cell k]
      unfold cntC
      rcases (show k = 1 ∨ k = 2 ∨ k = 3 ∨ k = 4 ∨ k = 5 by omega) with rfl | rfl | rfl | rfl | rfl <;> rfl
     have hcl : cntK k (ps.take j) ≤ 40 := by
      have h1 := List.length_filter_le (fun p => p.1 && (kdw p.2).1 == k) (ps.take j)
      rw [List.length_take] at h1
      unfold cntK
      omega
     clear HIt HPrev hk hkd HB5 HX5 HQ5
     have hk6 : k = 1 ∨ k = 2 ∨ k = 3 ∨ k = 4 ∨ k = 5 := by omega
     rcases hk6 with rfl | rfl | rfl | rfl | rfl
     all_goals
      go_wp2_with (go_at_call 39; refine Calls.mono (HK.out _) ?_; rintro e w6 ⟨rfl, hw⟩; subst hw)
      go_meet
      exact ⟨HX6, HB6, HQ6⟩
   case rest =>
   obtain ⟨hx6, hb6, hq6⟩ := hcut
   clear HX5 HB5 HQ5 HIt c0 c1
   have c0 : wc.cell? ⟨gq, 0, none⟩ = some (.bool tt) := hq6.out.cell 0
   have c1 : wc.cell? ⟨gq, 1, none⟩ = some (.string (str sx)) := hq6.out.cell 1
   rcases HPrev.out with h0 | ⟨i, q, hi, hq, hadj⟩
   ·have t0 : decide ((0 : Int) < (j : Int)) = false := decide_eq_false (by omega)
    clear HPrev
    go_wp2_with fail
    go_roundw
    case rel => exact ⟨j + 1, by omega, by go_num, hx6, hb6⟩
    case measure => simp [intOf]; omega
   ·have t0 : decide ((0 : Int) < (j : Int)) = true := decide_eq_true (by omega)
    have q1 : (j : Int) - 1 = (i : Int) := by omega
    have q2 : i < ps.length := by omega
    obtain ⟨z0, z1⟩ := flat2_at (HCp.out wc hb6.out) i q hq
    have HA := Lib.hid hadj
    clear HPrev hq hadj
    obtain ⟨qt, qs⟩ := q
    dsimp only at z0 z1 HA
    cases qt
    ·clear HA
     go_wp2_with fail
     go_roundw
     case rel => exact ⟨j + 1, by omega, by go_num, hx6, hb6⟩
     case measure => simp [intOf]; omega
    ·obtain ⟨rfl, h0, hsep⟩ := HA.out rfl
     have HJc := Lib.hid (fun W => HJ.out _ hsep W)
     clear HA hsep
     go_wp2_with (go_at_call 40; refine Calls.mono (HJc.out _) ?_; rintro e w6 ⟨rfl, hw⟩; subst hw)
     go_roundw
     case rel => exact ⟨j + 1, by omega, by go_num, hx6, hb6⟩
     case measure => simp [intOf]; omega
  ·have t1 : decide ((j : Int) < (ps.length : Int)) = false := decide_eq_false (by omega)
   have hjj : ps.take j = ps := List.take_of_length_le (by omega)
   have hx := hx.out
   rw [hjj] at hx
   have k1 : wr.cell? ⟨g, 1, none⟩ = some (.int .i64 1) := by have := hx.cell 1; rw [this]; unfold cntC; rw [HOK.out.yr]; rfl
   have k3 : wr.cell? ⟨g, 3, none⟩ = some (.int .i64 1) := by have := hx.cell 3; rw [this]; unfold cntC; rw [HOK.out.dy]; rfl
   have k2 : wr.cell? ⟨g, 2, none⟩ = some (.int .i64 (cntK 2 ps : Nat)) := hx.cell 2
   have k4 : wr.cell? ⟨g, 4, none⟩ = some (.int .i64 (cntK 4 ps : Nat)) := hx.cell 4
   have k5 : wr.cell? ⟨g, 5, none⟩ = some (.int .i64 (cntK 5 ps : Nat)) := hx.cell 5
   have hm := HOK.out.mo
   have hw5 := HOK.out.wk
   have m1 : ((cntK 2 ps : Nat) : Int) + ((cntK 4 ps : Nat) : Int) = 1 := by omega
   have m2 : decide (((cntK 5 ps : Nat) : Int) ≤ 1) = true := decide_eq_true (by omega)
   have m3 : cntK 2 ps ≤ 1 := by omega
   have m4 : cntK 4 ps ≤ 1 := by omega
   generalize cntK 2 ps = n2 at *
   generalize cntK 4 ps = n4 at *
   generalize cntK 5 ps = n5 at *
   clear hm hx hjj
   go_wp2_with fail
   go_ret
   exact ⟨rfl, by rw [HG.out]; exact hbr.out⟩
end Go.Proofs.YtoemghiejfkpbaaGreatDoor
/- Contracts of numeral.Write and numeral.Pad at numbers from -20000 to 20000, in every script: prints of wip/gen/pb3.py. -/
namespace Go.Proofs.YtoemghiejfkpbaaGreatDoor
open Go.RowKit
set_option linter.unusedVariables false
theorem runes_ds (k : Nat) (hk : k < 9) (l : List UInt8) (hl : ∀ b ∈ l, 48 ≤ b.toNat ∧ b.toNat ≤ 57) : runesOf (zerosL.getD k 0) l = dsN (zeroN.getD k 0) l := by
 unfold runesOf dsN
 apply List.map_congr_left
 intro b hb
 have := hl b hb
 rw [zero_same k hk]
 unfold dgt
 rw [if_neg (by omega)]
 omega
def padS (wd : Nat) (n : Int) : List UInt8 := (if n < 0 then [45] else []) ++ padD wd n.natAbs
theorem padS_byte (wd : Nat) (n : Int) : ∀ b ∈ padS wd n, b.toNat = 45 ∨ (48 ≤ b.toNat ∧ b.toNat ≤ 57) := fun b hb => by
 unfold padS at hb
 rcases List.mem_append.1 hb with h | h
 ·left
  split at h
  ·obtain rfl := List.mem_singleton.1 h
   rfl
  ·cases h
 ·exact .inr (padD_byte wd _ b h)
theorem padS_zero (n : Int) : padS 0 n = Lib.itoa n := by
 unfold padS padD Lib.itoa
 rw [Nat.zero_sub]
 by_cases h : n < 0
 ·rw [if_pos h, if_pos h]; rfl
 ·rw [if_neg h, if_neg h, show n.natAbs = n.toNat by omega]; rfl
theorem padS_text (k : Nat) (hk : k < 9) (wd : Nat) (n : Int) : Lib.mapD (dgt (zerosL.getD k 0)) (padS wd n) = encs (posR (zeroN.getD k 0) wd n) := by
 rw [(map_runes k hk (padS wd n) (padS_byte wd n)).1]
 congr 1
 unfold padS posR
 rw [show runesOf (zerosL.getD k 0) ((if n < 0 then [45] else []) ++ padD wd n.natAbs) = runesOf (zerosL.getD k 0) (if n < 0 then [45] else []) ++ runesOf (zerosL.getD k 0) (padD wd n.natAbs) from by unfold runesOf; rw [List.map_append], runes_ds k hk _ (padD_byte wd _)]
 congr 1
 by_cases h : n < 0
 ·rw [if_pos h, if_pos h]; rfl
 ·rw [if_neg h, if_neg h]; rfl
theorem inN_bounds (sc : Nat) (n : Int) (h9 : ¬ sc < 9) (hs : sc < 13) : (decide (lowB sc ≤ n) && decide (n ≤ highB sc)) = inN sc n := by
 have h4 : sc = 9 ∨ sc = 10 ∨ sc = 11 ∨ sc = 12 := by omega
 rw [Bool.eq_iff_iff, Bool.and_eq_true, decide_eq_true_eq, decide_eq_true_eq]
 rcases h4 with rfl | rfl | rfl | rfl
 all_goals
  simp [inN, inR, lowB, highB]
  try omega
set_option maxRecDepth 100000 in
theorem write_big (sc n : Nat) (h9 : ¬ sc < 9) (hs : sc < 13) (hi : inR sc n = true) (w : World) :
  Calls Tryz.prog 80 #[.int .i64 (sc : Int), .int .i64 (n : Int)] w (SignQ (wrR sc n) w) := by
 have : sc = 9 ∨ sc = 10 ∨ sc = 11 ∨ sc = 12 := by omega
 rcases this with rfl | rfl | rfl | rfl
 ·have HW := Lib.hid (writeRoman_any n (by simp [inR] at hi; omega) w)
  rw [romR_str] at HW
  rw [show wrR 9 n = romR n from rfl]
  unfold SignQ at *
  generalize str (encs (romR n)) = R at *
  clear hi
  go_enter Tryz.func80, Tryz.ntmps80
  go_wp2_with fail
  refine HW.out.mono ?_
  rintro e w1 ⟨rfl, hb⟩
  have HB := Lib.hid hb
  clear hb
  go_wp2_with fail
  go_ret
  exact ⟨rfl, HB.out⟩
 ·have HW := Lib.hid (writeSigns_any 10 n (by omega) (by simp [inR] at hi; omega) w)
  rw [show wrR 10 n = sgsR 10 n from rfl]
  unfold SignQ at *
  generalize str (encs (sgsR 10 n)) = R at *
  clear hi
  go_enter Tryz.func80, Tryz.ntmps80
  go_wp2_with fail
  refine HW.out.mono ?_
  rintro e w1 ⟨rfl, hb⟩
  have HB := Lib.hid hb
  clear hb
  go_wp2_with fail
  go_ret
  exact ⟨rfl, HB.out⟩
 ·have HW := Lib.hid (writeSigns_any 11 n (by omega) (by simp [inR] at hi; omega) w)
  rw [show wrR 11 n = sgsR 11 n from rfl]
  unfold SignQ at *
  generalize str (encs (sgsR 11 n)) = R at *
  clear hi
  go_enter Tryz.func80, Tryz.ntmps80
  go_wp2_with fail
  refine HW.out.mono ?_
  rintro e w1 ⟨rfl, hb⟩
  have HB := Lib.hid hb
  clear hb
  go_wp2_with fail
  go_ret
  exact ⟨rfl, HB.out⟩
 ·have HW := Lib.hid (writeChinese_any n (by simp [inR] at hi; omega) w)
  rw [show wrR 12 n = chR n from rfl]
  unfold SignQ at *
  generalize str (encs (chR n)) = R at *
  clear hi
  go_enter Tryz.func80, Tryz.ntmps80
  go_wp2_with fail
  refine HW.out.mono ?_
  rintro e w1 ⟨rfl, hb⟩
  have HB := Lib.hid hb
  clear hb
  go_wp2_with fail
  go_ret
  exact ⟨rfl, HB.out⟩
def ntS : Option (List Nat) → ByteArray
 | some l => str (encs l)
 | none => ⟨#[]⟩
def ntE (r : Option (List Nat)) (E : Int) : Int := match r with
 | some _ => 0
 | none => E
def NtQ (r : Option (List Nat)) (E : Int) (w : World) (e : Ending) (w' : World) : Prop :=
 e = .returned (.tuple #[.string (ntS r), .int .i64 (ntE r E)]) ∧ Below w.heap.size w w'
set_option maxRecDepth 100000 in
theorem nw_any (sc : Nat) (hs : sc < 13) (n : Int) (h1 : -20000 ≤ n) (h2 : n ≤ 20000) (w : World) (hp : Pow w) (hz : Zer w) (hu : U8 w) :
  Calls Tryz.prog 50 #[.int .i64 (sc : Int), .int .i64 n] w (NtQ (ntR sc 0 n) 3 w) := by
 unfold NtQ ntR
 by_cases h9 : sc < 9
 ·rw [if_pos h9]
  have h := nWrite_pos sc h9 n (by omega) (by omega) w hp hz hu
  rw [← padS_zero n, padS_text sc h9 0 n] at h
  exact h
 rw [if_neg h9, if_pos rfl]
 have HI := Lib.hid (isScript_yes sc hs w)
 have HW := Lib.hid (writes_any sc hs n w)
 rw [inN_bounds sc n h9 hs] at HW
 cases hin : inN sc n with
 | true =>
  rw [hin] at HW
  rw [if_pos rfl]
  have hin2 : 0 ≤ n ∧ inR sc n.toNat = true := by
   unfold inN at hin
   rw [Bool.and_eq_true, decide_eq_true_eq] at hin
   exact hin
  have HD := Lib.hid (write_big sc n.toNat h9 hs hin2.2 w)
  rw [show ((n.toNat : Nat) : Int) = n by omega] at HD
  clear hp hz hu hin hin2
  unfold SignQ at HD
  dsimp only [ntS, ntE]
  generalize str (encs (wrR sc n.toNat)) = f at *
  go_enter Tryz.func50, Tryz.ntmps50
  go_wp2_with fail
  refine HI.out.mono ?_
  rintro e w' ⟨rfl, rfl⟩
  go_wp2_with fail
  refine HW.out.mono ?_
  rintro e w' ⟨rfl, rfl⟩
  go_wp2_with fail
  refine HD.out.mono ?_
  rintro e w1 ⟨rfl, hb⟩
  have HB := Lib.hid hb
  clear hb HD
  go_wp2_with fail
  go_ret2
  exact ⟨rfl, HB.out⟩
 | false =>
  rw [hin] at HW
  rw [if_neg (by simp)]
  dsimp only [ntS, ntE]
  go_enter Tryz.func50, Tryz.ntmps50
  go_wp2_with fail
  refine HI.out.mono ?_
  rintro e w' ⟨rfl, rfl⟩
  go_wp2_with fail
  refine HW.out.mono ?_
  rintro e w' ⟨rfl, rfl⟩
  go_wp2_with fail
  go_ret2
  exact ⟨rfl, Below.refl _ _⟩
theorem cut_sign (n : Int) : Lib.hasPrefix (Lib.itoa n) [45] = decide (n < 0) ∧ Lib.trimPrefix (Lib.itoa n) [45] = Lib.decDigits n.natAbs := by
 by_cases h : n < 0
 ·have e : Lib.itoa n = 45 :: Lib.decDigits n.natAbs := by unfold Lib.itoa; rw [if_pos h]
  rw [e, decide_eq_true h]
  exact ⟨by simp [Lib.hasPrefix], by simp [Lib.trimPrefix, Lib.hasPrefix]⟩
 ·rw [(itoa_head n (by omega)).1, (itoa_head n (by omega)).2, decide_eq_false h]
  refine ⟨rfl, ?_⟩
  unfold Lib.itoa
  rw [if_neg h, show n.natAbs = n.toNat by omega]
set_option maxHeartbeats 1000000 in
set_option maxRecDepth 100000 in
theorem pad_any (sc : Nat) (hs : sc < 13) (wd : Nat) (hw1 : 1 ≤ wd) (hw : wd ≤ 4) (n : Int) (h1 : -20000 ≤ n) (h2 : n ≤ 20000) (w : World) (hp : Pow w) (hz : Zer w) (hu : U8 w) :
  Calls Tryz.prog 51 #[.int .i64 (sc : Int), .int .i64 n, .int .i64 (wd : Int)] w (NtQ (ntR sc wd n) 1 w) := by
 unfold NtQ ntR
 have t1 : decide ((sc : Int) < 0) = false := decide_eq_false (by omega)
 by_cases h9 : sc < 9
 case neg =>
  rw [if_neg h9, if_neg (by omega)]
  dsimp only [ntS, ntE]
  have t2 : decide ((9 : Int) ≤ (sc : Int)) = true := decide_eq_true (by omega)
  go_enter Tryz.func51, Tryz.ntmps51
  go_wp2_with fail
  go_ret2
  exact ⟨rfl, Below.refl _ _⟩
 rw [if_pos h9]
 dsimp only [ntS, ntE]
 rw [← padS_text sc h9 wd n]
 have HW := Lib.hid (writes_pos sc h9 n (by omega) (by omega) w)
 have HI := Lib.hid (itoa_any n w (by omega) (by omega) hp)
 have HC := Lib.hid (fun W => strings_CutPrefix (str (Lib.itoa n)) ⟨#[45]⟩ W)
 rw [str_data, show (⟨#[45]⟩ : ByteArray).data.toList = [45] from rfl, (cut_sign n).1, (cut_sign n).2, show (⟨(Lib.decDigits n.natAbs).toArray⟩ : ByteArray) = str (Lib.decDigits n.natAbs) from rfl] at HC
 have hl6 := dec_len6 n.natAbs (by omega)
 have hlen : (str (Lib.decDigits n.natAbs)).size = (Lib.decDigits n.natAbs).length := str_size _
 have t2 : decide ((9 : Int) ≤ (sc : Int)) = false := decide_eq_false (by omega)
 have t3 : decide ((wd : Int) < 0) = false := decide_eq_false (by omega)
 have t4 : decide ((12 : Int) < (wd : Int)) = false := decide_eq_false (by omega)
 have q1 : ¬ (sc : Int) < 0 := by omega
 have q2 : ¬ (9 : Int) ≤ (sc : Int) := by omega
 have q3 : ¬ (wd : Int) < 0 := by omega
 have q4 : ¬ (12 : Int) < (wd : Int) := by omega
 have HD := Lib.hid (fun W (hW : Below w.heap.size w W) => digits_any sc h9 (str (padS wd n)) (by
  rw [str_size]; unfold padS padD
  rw [List.length_append, List.length_append, List.length_replicate]
  split <;> simp <;> omega) W (hz.next hW) (hu.next hW))
 rw [str_data] at HD
 have hps : padS wd n = (if n < 0 then [45] else []) ++ (List.replicate (wd - (Lib.decDigits n.natAbs).length) 48 ++ Lib.decDigits n.natAbs) := rfl
 clear hp hz hu
 generalize dgt (zerosL.getD sc 0) = f at *
 generalize Lib.mapD f (padS wd n) = R at *
 generalize padS wd n = P at *
 generalize Lib.itoa n = I at *
 generalize Lib.decDigits n.natAbs = D at *
 generalize hr : List.replicate (wd - D.length) (48 : UInt8) = Zr at hps
 have hzl : Zr.length ≤ 4 := by rw [← hr, List.length_replicate]; omega
 have hsI : (str D).size ≤ 6 := by omega
 have hsZ : (str Zr).size ≤ 4 := by rw [str_size]; exact hzl
 by_cases hlt : (str D).size < wd
 ·have HR := Lib.hid (fun W => strings_Repeat ⟨#[48]⟩ (wd - (str D).size) W (by omega) (by rw [show (⟨#[48]⟩ : ByteArray).size = 1 from rfl]; omega))
  rw [show (⟨#[48]⟩ : ByteArray).data.toList = [48] from rfl, repeat_zero, hlen, hr, show (⟨Zr.toArray⟩ : ByteArray) = str Zr from rfl] at HR
  have e1 : (wd : Int) - ((str D).size : Int) = ((wd - D.length : Nat) : Int) := by omega
  have tl : decide (((str D).size : Int) < (wd : Int)) = true := decide_eq_true (by omega)
  have hcat : str Zr ++ str D = str (Zr ++ D) := str_append _ _
  have hsc : (str (Zr ++ D)).size ≤ 10 := by rw [← hcat, ByteArray.size_append]; omega
  by_cases hn : n < 0
  ·have tn : decide (n < 0) = true := decide_eq_true hn
   rw [tn] at HC
   rw [if_pos hn] at hps
   have hc2 : (⟨#[45]⟩ : ByteArray) ++ str (Zr ++ D) = str P := by rw [hps, ← str_append]; rfl
   have HE := Lib.hid hc2
   clear hps hc2
   generalize str P = SP at *
   clear hr hlen tn hn
   have HE1 := Lib.hid hcat
   clear hcat
   generalize str (Zr ++ D) = SZ at *
   generalize str Zr = zs at *
   generalize str D = sd at *
   generalize str I = si at *
   go_enter Tryz.func51, Tryz.ntmps51
   go_wp2_with fail
   refine HW.out.mono ?_
   rintro e w' ⟨rfl, rfl⟩
   go_wp2_with fail
   refine HI.out.mono ?_
   rintro e w1 ⟨rfl, hb⟩
   have HB := Lib.hid hb
   clear hb HI
   go_wp2_with fail
   refine (HC.out _).mono ?_
   rintro e w' ⟨rfl, rfl⟩
   go_wp2_with fail
   refine (HR.out _).mono ?_
   rintro e w2 ⟨rfl, hb⟩
   have HB2 := Lib.hid (below_then HB.out hb)
   clear hb HR
   have HD2 := Lib.hid (HD.out w2 HB2.out)
   clear HD
   have E1 := HE1.out
   clear HE1
   have E2 := HE.out
   clear HE
   go_wp2_with fail
   try rw [E1]
   try rw [E2]
   refine HD2.out.mono ?_
   rintro e w3 ⟨rfl, hb⟩
   have HB3 := Lib.hid (below_then HB2.out hb)
   clear hb HD2
   go_wp2_with fail
   go_ret2
   exact ⟨rfl, HB3.out⟩
  ·have tn : decide (n < 0) = false := decide_eq_false hn
   rw [tn] at HC
   rw [if_neg hn] at hps
   rw [List.nil_append] at hps
   have hps2 := hps.symm
   subst hps2
   clear hr hlen tn hn
   have HE1 := Lib.hid hcat
   clear hcat
   generalize str (Zr ++ D) = SZ at *
   generalize str Zr = zs at *
   generalize str D = sd at *
   generalize str I = si at *
   go_enter Tryz.func51, Tryz.ntmps51
   go_wp2_with fail
   refine HW.out.mono ?_
   rintro e w' ⟨rfl, rfl⟩
   go_wp2_with fail
   refine HI.out.mono ?_
   rintro e w1 ⟨rfl, hb⟩
   have HB := Lib.hid hb
   clear hb HI
   go_wp2_with fail
   refine (HC.out _).mono ?_
   rintro e w' ⟨rfl, rfl⟩
   go_wp2_with fail
   refine (HR.out _).mono ?_
   rintro e w2 ⟨rfl, hb⟩
   have HB2 := Lib.hid (below_then HB.out hb)
   clear hb HR
   have HD2 := Lib.hid (HD.out w2 HB2.out)
   clear HD
   have E1 := HE1.out
   clear HE1
   go_wp2_with fail
   try rw [E1]
   refine HD2.out.mono ?_
   rintro e w3 ⟨rfl, hb⟩
   have HB3 := Lib.hid (below_then HB2.out hb)
   clear hb HD2
   go_wp2_with fail
   go_ret2
   exact ⟨rfl, HB3.out⟩
 ·have hZ : Zr = [] := by rw [← hr, show wd - D.length = 0 by omega]; rfl
  subst hZ
  rw [List.nil_append] at hps
  have tl : decide (((str D).size : Int) < (wd : Int)) = false := decide_eq_false (by omega)
  by_cases hn : n < 0
  ·have tn : decide (n < 0) = true := decide_eq_true hn
   rw [tn] at HC
   rw [if_pos hn] at hps
   have hc2 : (⟨#[45]⟩ : ByteArray) ++ str (D) = str P := by rw [hps, ← str_append]; rfl
   have HE := Lib.hid hc2
   clear hps hc2
   generalize str P = SP at *
   clear hr hlen tn hn
   generalize str D = sd at *
   generalize str I = si at *
   go_enter Tryz.func51, Tryz.ntmps51
   go_wp2_with fail
   refine HW.out.mono ?_
   rintro e w' ⟨rfl, rfl⟩
   go_wp2_with fail
   refine HI.out.mono ?_
   rintro e w1 ⟨rfl, hb⟩
   have HB := Lib.hid hb
   clear hb HI
   go_wp2_with fail
   refine (HC.out _).mono ?_
   rintro e w' ⟨rfl, rfl⟩
   have HD2 := Lib.hid (HD.out _ HB.out)
   clear HD
   have E2 := HE.out
   clear HE
   go_wp2_with fail
   try rw [E2]
   refine HD2.out.mono ?_
   rintro e w3 ⟨rfl, hb⟩
   have HB3 := Lib.hid (below_then HB.out hb)
   clear hb HD2
   go_wp2_with fail
   go_ret2
   exact ⟨rfl, HB3.out⟩
  ·have tn : decide (n < 0) = false := decide_eq_false hn
   rw [tn] at HC
   rw [if_neg hn] at hps
   rw [List.nil_append] at hps
   have hps2 := hps.symm
   subst hps2
   clear hr hlen tn hn
   generalize str D = sd at *
   generalize str I = si at *
   go_enter Tryz.func51, Tryz.ntmps51
   go_wp2_with fail
   refine HW.out.mono ?_
   rintro e w' ⟨rfl, rfl⟩
   go_wp2_with fail
   refine HI.out.mono ?_
   rintro e w1 ⟨rfl, hb⟩
   have HB := Lib.hid hb
   clear hb HI
   go_wp2_with fail
   refine (HC.out _).mono ?_
   rintro e w' ⟨rfl, rfl⟩
   have HD2 := Lib.hid (HD.out _ HB.out)
   clear HD
   go_wp2_with fail
   refine HD2.out.mono ?_
   rintro e w3 ⟨rfl, hb⟩
   have HB3 := Lib.hid (below_then HB.out hb)
   clear hb HD2
   go_wp2_with fail
   go_ret2
   exact ⟨rfl, HB3.out⟩
end Go.Proofs.YtoemghiejfkpbaaGreatDoor
/- Contract of pattern.write at every item, in every script: prints of wip/gen/pb4.py. -/
namespace Go.Proofs.YtoemghiejfkpbaaGreatDoor
open Go Go.RowKit
set_option linter.unusedVariables false
def valX (k : Nat) (y : Int) (m : Nat) (d wk : Int) : Int := if k = 1 then y else if k = 2 then (m : Int) + 1 else if k = 3 then d + 1 else wk
def partO (mn : ByteArray) (sc : Nat) (y : Int) (m : Nat) (d wk : Int) (p : Bool × List UInt8) : Option (List UInt8) :=
 if p.1 = false then some p.2 else if (kdw p.2).1 = 4 then some mn.data.toList else (ntR sc (kdw p.2).2 (valX (kdw p.2).1 y m d wk)).map encs
theorem sixW_at (y : Int) (m : Nat) (d wk : Int) (k : Nat) (hk : k = 1 ∨ k = 2 ∨ k = 3 ∨ k = 5) (W : World) : (Instr.index 81 (.agg #[.int .i64 0, .int .i64 y, .int .i64 ((m : Int) + 1), .int .i64 (d + 1), .int .i64 0, .int .i64 wk]) (.int .i64 (k : Int))).run Tryz.prog W = .ok (.int .i64 (valX k y m d wk)) W := by
 rcases hk with rfl | rfl | rfl | rfl <;>
 simp [Instr.index, run_underlying Tryz.underlying81, asIntOf, go_sem, valX]
def WrW (ps : List (Bool × List UInt8)) (c : Cal) (sc : Nat) (day : Int) (w : World) (e : Ending) (w' : World) : Prop :=
 Below w.heap.size w w' ∧ ((∃ (y : Int) (m : Nat) (d : Int), -10000 ≤ y ∧ y ≤ 10000 ∧ IsOn c y m d day ∧
   (((∀ p ∈ ps, partO (c.mo.getD m mth0).nm sc y m d ((day - 1) % 7) p ≠ none) ∧ e = .returned (.tuple #[.string (str (ps.flatMap fun p => (partO (c.mo.getD m mth0).nm sc y m d ((day - 1) % 7) p).getD [])), .int .i64 0])) ∨
    ((∃ p ∈ ps, partO (c.mo.getD m mth0).nm sc y m d ((day - 1) % 7) p = none) ∧ ∃ E : Int, E ≠ 0 ∧ e = .returned (.tuple #[.string ⟨#[]⟩, .int .i64 E])))) ∨
  (¬ (c.ny (-10000) ≤ day ∧ day < c.ny 10001) ∧ e = .returned (.tuple #[.string ⟨#[]⟩, .int .i64 3])))
set_option maxHeartbeats 8000000 in
set_option maxRecDepth 100000 in
theorem pwriteW_any (ps : List (Bool × List UInt8)) (c : Cal) (sc : Nat) (hs : sc < 13) (day : Int) (gp cp : Nat) (w : World) (hv : CalV w c) (hgp : gp < w.heap.size) (hc : ∀ i x, (ps.flatMap partV)[i]? = some x → w.cell? ⟨gp, i, none⟩ = some x)
  (hps : ps.length ≤ 40) (hpt : ∀ p ∈ ps, p.2.length ≤ 100 ∧ (p.1 = true → ∃ k wd, (p.2, k, wd) ∈ itemW)) (hnm : ∀ i, i < c.mo.length → ((c.mo.getD i mth0).nm).size ≤ 100)
  (hpw : Pow w) (hz : Zer w) (hu : U8 w)
  (hd1 : -4000000 ≤ day) (hd2 : day ≤ 4000000) :
  Calls Tryz.prog 16 #[.slice (some ⟨gp, 0, none⟩) ps.length cp, c.val, .int .i64 (sc : Int), .int .i64 day] w (WrW ps c sc day w) := by
 have HB := Lib.hid (below_alloc1 w (Obj.cells c.cells 43))
 have HX := Lib.hid (Box.new w 43 c.cells)
 have HC := Lib.hid (hv.next HB.out)
 have HP := Lib.hid hpt
 have HNm := Lib.hid hnm
 have HT := Lib.hid (show Pow w ∧ Zer w ∧ U8 w from ⟨hpw, hz, hu⟩)
 have HCs := Lib.hid hc
 have HDay := Lib.hid (show -4000000 ≤ day ∧ day ≤ 4000000 from ⟨hd1, hd2⟩)
 have HWd := Lib.hid (fun W => Weekday_yes day W hd1 hd2)
 unfold WrW
 clear hv hc hpt hnm hpw hz hu hd1 hd2
 go_enter Tryz.func16, Tryz.ntmps16
 go_upto_region 1 with fail
 generalize w.alloc (Obj.cells c.cells 43) = W0 at *
 generalize hg : w.heap.size = g at *
 have HG := Lib.hid hg
 clear hg
 obtain ⟨y0, y1, y2, y3, y4⟩ := ccells HX.out
 go_wp2_with fail
 refine Calls.mono (FromDay_any c day W0 HC.out) ?_
 rintro e w1 ⟨hb1, hc⟩
 have HX1 := Lib.hid (HX.out.below hb1)
 have HB1 : Hid (Below g w w1) := HB.out.trans (hb1.mono (by have := HX.out.lt; omega))
 have HC1 := Lib.hid (HC.out.next hb1)
 clear hb1 HX HB HC y0 y1 y2 y3 y4
 rcases hc with ⟨y, m, d, h1, h2, h3, rfl⟩ | ⟨h1, rfl⟩
 case inr =>
  have HNo : Hid (¬ (c.ny (-10000) ≤ day ∧ day < c.ny 10001)) := fun h => h1 ⟨HDay.out.1, HDay.out.2, h.1, h.2⟩
  clear h1
  go_wp2_with fail
  have HB2 : Hid (Below g w (w1.alloc (Obj.cells #[.int .i64 0, .int .i64 0, .int .i64 0] 48))) := HB1.out.alloc (by have := HX1.out.lt; omega) _
  go_ret2
  exact ⟨by rw [HG.out]; exact HB2.out, .inr ⟨HNo.out, rfl⟩⟩
 have hm := h3.m1
 have hdd := h3.d0
 have hdL := h3.d1
 have hdM := Cal.mlen_in HC1.out.ok y m hm
 have hmo := HC1.out.ok.mo.n2
 have HOn := Lib.hid (show -10000 ≤ y ∧ y ≤ 10000 ∧ IsOn c y m d day from ⟨h1, h2, h3⟩)
 have hd4 : d ≤ 400 := by omega
 have HNuy : Hid (∀ k, -20000 ≤ valX k y m d ((day - 1) % 7) ∧ valX k y m d ((day - 1) % 7) ≤ 20000) := fun k => by
  have := Int.emod_nonneg (day - 1) (show (7 : Int) ≠ 0 by omega)
  have := Int.emod_lt_of_pos (day - 1) (show (0 : Int) < 7 by omega)
  unfold valX
  repeat' split
  all_goals omega
 have HNmL := Lib.hid (HNm.out m hm)
 obtain ⟨bm, om, hA, hbl, hcs⟩ := HC1.out.r.r1.open_ (flat_ne mthF_len (by omega) c.mo (by omega))
 have hc0 := flat_cell mthF_len mth0 hcs m 0 hm (by omega) _ rfl
 rw [Nat.add_zero] at hc0
 have hx3 : Box w1 g 43 c.cells := HX1.out
 clear hcs h1 h2 h3 hdd hdL hdM HC1 HNm
 obtain ⟨mn, hmn⟩ : ∃ mn, mn = (c.mo.getD m mth0).nm := ⟨_, rfl⟩
 rw [← hmn] at hc0 HNmL
 have HMn := Lib.hid hmn
 clear hmn
 go_upto_region 4 with fail
 have hba := below_alloc1 w1 (Obj.cells #[.int .i64 y, .int .i64 ((m : Int) + 1), .int .i64 (d + 1)] 48)
 have HX2 := Lib.hid (HX1.out.below hba)
 have HB2 : Hid (Below g w (w1.alloc (Obj.cells #[.int .i64 y, .int .i64 ((m : Int) + 1), .int .i64 (d + 1)] 48))) := HB1.out.trans (hba.mono (by have := HX1.out.lt; omega))
 have HD2 := Lib.hid (Box.new w1 48 #[.int .i64 y, .int .i64 ((m : Int) + 1), .int .i64 (d + 1)])
 have hc2 := (hba.cell (p := ⟨bm, om + m * 3, none⟩) hbl).trans hc0
 have hbl2 : bm < (w1.alloc (Obj.cells #[.int .i64 y, .int .i64 ((m : Int) + 1), .int .i64 (d + 1)] 48)).heap.size := Nat.lt_of_lt_of_le hbl hba.size
 clear hba HX1 HB1 hc0 hbl hx3
 generalize w1.alloc (Obj.cells #[.int .i64 y, .int .i64 ((m : Int) + 1), .int .i64 (d + 1)] 48) = w2 at *
 generalize w1.heap.size = gd at *
 go_upto_region 5 with (go_at_call 8; refine Calls.mono (HWd.out _) ?_; rintro e w' ⟨rfl, nw, rfl⟩)
 have HX3 := Lib.hid (HX2.out.drewN nw)
 have HD3 := Lib.hid (HD2.out.drewN nw)
 have HB3 : Hid (Below g w (w2.drewN nw)) := below_drew HB2.out nw
 have hc3 : (w2.drewN nw).cell? ⟨bm, om + m * 3, none⟩ = some (.string mn) := hc2
 have hbl3 : bm < (w2.drewN nw).heap.size := hbl2
 clear HX2 HD2 HB2 hc2 hbl2 HWd
 generalize w2.drewN nw = w3 at *
 go_upto_region 6 with fail
 have HBd := Lib.hid (bld_new w3)
 have HBw := Lib.hid (below_alloc1 w3 (.cells #[.pointer none, .slice none 0 0] 103))
 generalize w3.alloc (.cells #[.pointer none, .slice none 0 0] 103) = w4 at *
 obtain ⟨gb, hgb⟩ : ∃ gb, gb = w3.heap.size := ⟨_, rfl⟩
 have hgg : g < gb := by rw [hgb]; exact HX3.out.lt
 have hgd : gd < gb := by rw [hgb]; exact HD3.out.lt
 have hgs := HB3.out.size
 have hgq : gp < gb := by have := HG.out; omega
 rw [← hgb] at HBd HBw hbl3
 rw [← hgb]
 have x3 : ∀ W, Below gb w3 W → W.cell? ⟨g, 3, none⟩ = some (.slice (some ⟨bm, om, none⟩) c.mo.length c.c1) := fun W hb => by rw [← hA]; exact (ccells (HX3.out.belowB hb hgg)).2.2.2.1
 have d0 : ∀ W, Below gb w3 W → W.cell? ⟨gd, 0, none⟩ = some (.int .i64 y) := fun W hb => (HD3.out.belowB hb hgd).cell 0
 have d1 : ∀ W, Below gb w3 W → W.cell? ⟨gd, 1, none⟩ = some (.int .i64 ((m : Int) + 1)) := fun W hb => (HD3.out.belowB hb hgd).cell 1
 have d2 : ∀ W, Below gb w3 W → W.cell? ⟨gd, 2, none⟩ = some (.int .i64 (d + 1)) := fun W hb => (HD3.out.belowB hb hgd).cell 2
 have mc : ∀ W, Below gb w3 W → W.cell? ⟨bm, om + m * 3, none⟩ = some (.string mn) := fun W hb => (hb.cell (p := ⟨bm, om + m * 3, none⟩) hbl3).trans hc3
 have HFx := Lib.hid (show (∀ W, Below gb w3 W → W.cell? ⟨g, 3, none⟩ = some (.slice (some ⟨bm, om, none⟩) c.mo.length c.c1)) ∧ (∀ W, Below gb w3 W → W.cell? ⟨gd, 0, none⟩ = some (.int .i64 y)) ∧ (∀ W, Below gb w3 W → W.cell? ⟨gd, 1, none⟩ = some (.int .i64 ((m : Int) + 1))) ∧ (∀ W, Below gb w3 W → W.cell? ⟨gd, 2, none⟩ = some (.int .i64 (d + 1))) ∧ (∀ W, Below gb w3 W → W.cell? ⟨bm, om + m * 3, none⟩ = some (.string mn)) from ⟨x3, d0, d1, d2, mc⟩)
 have HCp : Hid (∀ W, Below gb w3 W → ∀ i x, (ps.flatMap partV)[i]? = some x → W.cell? ⟨gp, i, none⟩ = some x) := fun W hb i x hx => (hb.cell (p := ⟨gp, i, none⟩) hgq).trans ((HB3.out.cell (p := ⟨gp, i, none⟩) (by have := HG.out; show gp < g; omega)).trans (HCs.out i x hx))
 have HBg : Hid (∀ W, Below gb w3 W → Below g w W) := fun W hb => HB3.out.trans (hb.mono (by omega))
 clear x3 d0 d1 d2 mc hA hc3 hbl3 HX3 HD3 HCs hgb
 obtain ⟨O, hO⟩ : ∃ O, O = partO mn sc y m d ((day - 1) % 7) := ⟨_, rfl⟩
 have hFl : ∀ p ∈ ps, ((O p).getD []).length ≤ 300 := fun p hp => by
  rw [hO]
  unfold partO
  have h1 := (HP.out p hp).1
  have h2 := HNmL.out
  split
  ·simp only [Option.getD_some]; omega
  ·split
   ·have : mn.data.toList.length = mn.size := Array.length_toList
    simp only [Option.getD_some]; omega
   ·rename_i hp1 hp4
    obtain ⟨k, wd, hk⟩ := (HP.out p hp).2 (by simpa using hp1)
    rw [kdw_of _ k wd hk]
    have hk5 := itemW_pos _ k wd hk
    have hN := HNuy.out k
    cases hr : ntR sc wd (valX k y m d ((day - 1) % 7)) with
    | none => simp
    | some r =>
     have ok := nt_ok sc wd hs hk5.2.2.1 _ hN.1 hN.2 r hr
     have := encs_small r ok.bmp
     have := ok.len
     rw [str_size] at *
     simp only [Option.map_some, Option.getD_some]
     omega
 obtain ⟨G, hGd⟩ : ∃ G, G = fun p : Bool × List UInt8 => (O p).getD [] := ⟨_, rfl⟩
 have hGp : ∀ p, G p = (O p).getD [] := fun p => by rw [hGd]
 have HFl : Hid (∀ p ∈ ps, (G p).length ≤ 300) := fun p hp => by rw [hGp]; exact hFl p hp
 have HO := Lib.hid hO
 have HGp := Lib.hid hGp
 have HGd := Lib.hid hGd
 clear hO hFl HNmL hGp hGd
 go_wp2_with fail
 go_loopw [16, 17, 18, 19, 20, 21, 38] (fun _ _ _ _ _ _ i wr => ∃ j : Nat, j ≤ ps.length ∧ i = .int .i64 (j : Int) ∧ Hid (Bld gb ((ps.take j).flatMap G) wr) ∧ Hid (∀ p ∈ ps.take j, O p ≠ none) ∧ Hid (Below gb w3 wr)) (fun _ _ _ _ _ _ i _ => ps.length - (intOf i).toNat)
 case atStart => exact ⟨0, by omega, rfl, HBd, fun p hp => by simp at hp, HBw⟩
 case round =>
  obtain ⟨j, hj, rfl, hbd, hall, hbr⟩ := hrel
  by_cases hlt : j < ps.length
  ·have t1 : decide ((j : Int) < (ps.length : Int)) = true := decide_eq_true (by omega)
   obtain ⟨p, hpe⟩ : ∃ p, ps[j]? = some p := ⟨_, List.getElem?_eq_getElem hlt⟩
   have hmem : p ∈ ps := List.mem_of_getElem? hpe
   obtain ⟨z0, z1⟩ := flat2_at (HCp.out wr hbr.out) j p hpe
   have HTk : Hid ((ps.take (j + 1)).flatMap G = (ps.take j).flatMap G ++ G p) := by
    unfold Hid
    rw [List.take_add_one, hpe, List.flatMap_append]
    simp
   have hln := pflat_len G 300 (ps.take j) (fun x hx => HFl.out x (List.mem_of_mem_take hx))
   rw [List.length_take] at hln
   have hlp := HFl.out p hmem
   have hpk := (HP.out p hmem).2
   have HAl : Hid (O p ≠ none → ∀ q ∈ ps.take (j + 1), O q ≠ none) := fun h q hq => by
    rw [List.take_add_one, hpe] at hq
    rcases List.mem_append.1 hq with h1 | h1
    ·exact hall.out q h1
    ·obtain rfl := List.mem_singleton.1 h1
     exact h
   have HMem := Lib.hid hmem
   have HFp : Hid (O p = partO mn sc y m d ((day - 1) % 7) p) := by unfold Hid; rw [HO.out]
   have HGq : Hid (G p = (O p).getD []) := HGp.out p
   obtain ⟨tt, sx⟩ := p
   dsimp only at z0 z1 hpk
   have hb5 := below_alloc1 wr (Obj.cells #[.bool tt, .string (str sx)] 83)
   have hgbl := bld_lt hbd.out
   have HBd5 := Lib.hid (bld_next hbd.out hb5)
   have HB5 : Hid (Below gb w3 (wr.alloc (Obj.cells #[.bool tt, .string (str sx)] 83))) := hbr.out.trans (hb5.mono (by omega))
   have HQ5 := Lib.hid (Box.new wr 83 #[.bool tt, .string (str sx)])
   go_upto_region 9 with fail
   clear hb5 z0 z1 hpe hmem hbd
   generalize wr.alloc (Obj.cells #[.bool tt, .string (str sx)] 83) = w5 at *
   generalize wr.heap.size = gq at *
   have c0 : w5.cell? ⟨gq, 0, none⟩ = some (.bool tt) := HQ5.out.cell 0
   have c1 : w5.cell? ⟨gq, 1, none⟩ = some (.string (str sx)) := HQ5.out.cell 1
   cases tt
   ·have hOp : O (false, sx) = some sx := by rw [HFp.out]; simp [partO]
    have hGe : G (false, sx) = sx := by rw [HGq.out, hOp]; rfl
    have HAl2 := Lib.hid (HAl.out (by rw [hOp]; simp))
    rw [hGe] at hlp HTk
    clear hOp hGe HFp HGq HAl hpk
    have HW := Lib.hid (bld_write HBd5.out sx (by omega))
    go_wp2_with fail
    refine Calls.mono HW.out ?_
    rintro e w8 ⟨rfl, hbd8, hb8⟩
    have HB8 := Lib.hid (HB5.out.trans hb8)
    have HBd8 : Hid (Bld gb ((ps.take (j + 1)).flatMap G) w8) := by unfold Hid; rw [HTk.out]; exact hbd8
    clear hbd8 hb8 HW
    go_wp2_with fail
    go_roundw
    case rel => exact ⟨j + 1, by omega, by go_num, HBd8, HAl2, HB8⟩
    case measure => simp [intOf]; omega
   ·obtain ⟨k, wd, hk⟩ := hpk rfl
    have HK := Lib.hid (fun W => pkindW_any sx k wd hk W)
    have hkd := kdw_of sx k wd hk
    have hk5 := itemW_pos sx k wd hk
    obtain ⟨x3, d0, d1, d2, mc⟩ := HFx.out
    by_cases hk4 : k = 4
    ·have hOp : O (true, sx) = some mn.data.toList := by rw [HFp.out]; unfold partO; rw [if_neg (by simp), if_pos (by rw [hkd]; exact hk4)]
     have hGe : G (true, sx) = mn.data.toList := by rw [HGq.out, hOp]; rfl
     have HAl2 := Lib.hid (HAl.out (by rw [hOp]; simp))
     rw [hGe] at hlp HTk
     clear hOp hGe HFp HGq HAl hpk hkd hk
     subst hk4
     have e1 := d1 _ HB5.out
     have e3 := x3 _ HB5.out
     have em := mc _ HB5.out
     have q1 : (m : Int) + 1 - 1 = m := by omega
     have q2 : (0 : Int) ≤ (m : Int) := by omega
     have q3 : (m : Int) < (c.mo.length : Int) := by omega
     clear x3 d0 d1 d2 mc
     have HW := Lib.hid (bld_write HBd5.out mn.data.toList (by omega))
     rw [pstr_own] at HW
     go_wp2_with (go_at_call 39; refine Calls.mono (HK.out _) ?_; rintro e w6 ⟨rfl, hw⟩; subst hw)
     refine Calls.mono HW.out ?_
     rintro e w8 ⟨rfl, hbd8, hb8⟩
     have HB8 := Lib.hid (HB5.out.trans hb8)
     have HBd8 : Hid (Bld gb ((ps.take (j + 1)).flatMap G) w8) := by unfold Hid; rw [HTk.out]; exact hbd8
     clear hbd8 hb8 HW
     go_wp2_with fail
     go_roundw
     case rel => exact ⟨j + 1, by omega, by go_num, HBd8, HAl2, HB8⟩
     case measure => simp [intOf]; omega
    ·have hkc : k = 1 ∨ k = 2 ∨ k = 3 ∨ k = 5 := by omega
     have t4 : ((k : Int) == 4) = false := by rw [beq_eq_false_iff_ne]; omega
     have hOp : O (true, sx) = (ntR sc wd (valX k y m d ((day - 1) % 7))).map encs := by rw [HFp.out]; unfold partO; rw [if_neg (by simp), if_neg (by rw [hkd]; exact hk4), hkd]
     have hsa := sixW_at y m d ((day - 1) % 7) k hkc
     have hN := HNuy.out k
     have h5w := HBg.out w5 HB5.out
     have HNw := Lib.hid (nw_any sc hs _ hN.1 hN.2 w5 (HT.out.1.next (by rw [HG.out]; exact h5w)) (HT.out.2.1.next (by rw [HG.out]; exact h5w)) (HT.out.2.2.next (by rw [HG.out]; exact h5w)))
     have HPw : Hid (1 ≤ wd → ∀ W, Below w5.heap.size w5 W → Calls Tryz.prog 51 #[.int .i64 (sc : Int), .int .i64 (valX k y m d ((day - 1) % 7)), .int .i64 (wd : Int)] W (NtQ (ntR sc wd (valX k y m d ((day - 1) % 7))) 1 W)) := fun h1 W hb => by
      have hbw : Below w.heap.size w W := by
       have h2 := HB5.out.size
       rw [HG.out]
       exact h5w.trans (hb.mono (by have := bld_lt HBd5.out; omega))
      exact pad_any sc hs wd h1 hk5.2.2.1 _ hN.1 hN.2 W (HT.out.1.next hbw) (HT.out.2.1.next hbw) (HT.out.2.2.next hbw)
     have hv1 := hN.1
     have hv2 := hN.2
     have HOp := Lib.hid hOp
     clear hk hkd hkc hN h5w HFp hpk hOp
     generalize valX k y m d ((day - 1) % 7) = v at *
     have e0 := d0 _ HB5.out
     have e1 := d1 _ HB5.out
     have e2 := d2 _ HB5.out
     clear x3 d0 d1 d2 mc
     unfold NtQ at HNw HPw
     obtain ⟨r, hr⟩ : ∃ r, r = ntR sc wd v := ⟨_, rfl⟩
     by_cases hw0 : wd = 0
     ·subst hw0
      rw [← hr] at HNw HOp
      clear HPw hr
      go_upto_region 16 with (first
       | (go_at_call 39; refine Calls.mono (HK.out _) ?_; rintro e w6 ⟨rfl, hw⟩; subst hw)
       | (go_at_call 50; refine Calls.mono HNw.out ?_; rintro e w7 ⟨rfl, hb7⟩))
      have HB7 := Lib.hid (HB5.out.trans (hb7.mono (by have := bld_lt HBd5.out; omega)))
      have HBd7 := Lib.hid (bld_next HBd5.out hb7)
      clear hb7 HNw hsa e0 e1 e2 c0 c1
      cases r with
      | none =>
       dsimp only [ntS, ntE]
       have HNone : Hid (O (true, sx) = none) := by unfold Hid; rw [HOp.out]; rfl
       clear HOp HAl HGq hlp HTk
       go_wp2_with fail
       go_ret2
       have HB8 := Lib.hid (HBg.out _ HB7.out)
       exact ⟨by rw [HG.out]; exact HB8.out, .inl ⟨y, m, d, HOn.out.1, HOn.out.2.1, HOn.out.2.2, .inr ⟨⟨_, HMem.out, by rw [← HMn.out, ← HO.out]; exact HNone.out⟩, _, by omega, rfl⟩⟩⟩
      | some l =>
       dsimp only [ntS, ntE]
       have hOp : O (true, sx) = some (encs l) := by rw [HOp.out]; rfl
       have hGe : G (true, sx) = encs l := by rw [HGq.out, hOp]; rfl
       have HAl2 := Lib.hid (HAl.out (by rw [hOp]; simp))
       rw [hGe] at hlp HTk
       clear hOp hGe HGq HAl HOp
       have HW := Lib.hid (bld_write HBd7.out (encs l) (by omega))
       go_wp2_with fail
       refine Calls.mono HW.out ?_
       rintro e w8 ⟨rfl, hbd8, hb8⟩
       have HB8 := Lib.hid (HB7.out.trans hb8)
       have HBd8 : Hid (Bld gb ((ps.take (j + 1)).flatMap G) w8) := by unfold Hid; rw [HTk.out]; exact hbd8
       clear hbd8 hb8 HW
       go_wp2_with fail
       go_roundw
       case rel => exact ⟨j + 1, by omega, by go_num, HBd8, HAl2, HB8⟩
       case measure => simp [intOf]; omega
     ·have hw1 : 1 ≤ wd := by omega
      have tw : decide ((0 : Int) < (wd : Int)) = true := decide_eq_true (by omega)
      rw [← hr] at HPw HOp
      clear hr
      generalize ntS (ntR sc 0 v) = s1 at *
      generalize ntE (ntR sc 0 v) 3 = E1 at *
      have HPv := Lib.hid (HPw.out hw1)
      clear HPw
      go_upto_region 17 with (first
       | (go_at_call 39; refine Calls.mono (HK.out _) ?_; rintro e w6 ⟨rfl, hw⟩; subst hw)
       | (go_at_call 50; refine Calls.mono HNw.out ?_; rintro e w6 ⟨rfl, hb6⟩))
      have HPu := Lib.hid (HPv.out _ hb6)
      have HB6 := Lib.hid hb6
      clear HPv hb6
      go_upto_region 18 with (go_at_call 51; refine Calls.mono HPu.out ?_; rintro e w7 ⟨rfl, hb7'⟩; have hb7 := below_then HB6.out hb7'; clear hb7')
      clear HPu HB6
      have HB7 := Lib.hid (HB5.out.trans (hb7.mono (by have := bld_lt HBd5.out; omega)))
      have HBd7 := Lib.hid (bld_next HBd5.out hb7)
      clear hb7 HNw hsa e0 e1 e2 c0 c1
      cases r with
      | none =>
       dsimp only [ntS, ntE]
       have HNone : Hid (O (true, sx) = none) := by unfold Hid; rw [HOp.out]; rfl
       clear HOp HAl HGq hlp HTk
       go_wp2_with fail
       go_ret2
       have HB8 := Lib.hid (HBg.out _ HB7.out)
       exact ⟨by rw [HG.out]; exact HB8.out, .inl ⟨y, m, d, HOn.out.1, HOn.out.2.1, HOn.out.2.2, .inr ⟨⟨_, HMem.out, by rw [← HMn.out, ← HO.out]; exact HNone.out⟩, _, by omega, rfl⟩⟩⟩
      | some l =>
       dsimp only [ntS, ntE]
       have hOp : O (true, sx) = some (encs l) := by rw [HOp.out]; rfl
       have hGe : G (true, sx) = encs l := by rw [HGq.out, hOp]; rfl
       have HAl2 := Lib.hid (HAl.out (by rw [hOp]; simp))
       rw [hGe] at hlp HTk
       clear hOp hGe HGq HAl HOp
       have HW := Lib.hid (bld_write HBd7.out (encs l) (by omega))
       go_wp2_with fail
       refine Calls.mono HW.out ?_
       rintro e w8 ⟨rfl, hbd8, hb8⟩
       have HB8 := Lib.hid (HB7.out.trans hb8)
       have HBd8 : Hid (Bld gb ((ps.take (j + 1)).flatMap G) w8) := by unfold Hid; rw [HTk.out]; exact hbd8
       clear hbd8 hb8 HW
       go_wp2_with fail
       go_roundw
       case rel => exact ⟨j + 1, by omega, by go_num, HBd8, HAl2, HB8⟩
       case measure => simp [intOf]; omega
  ·have t1 : decide ((j : Int) < (ps.length : Int)) = false := decide_eq_false (by omega)
   have HS := Lib.hid (bld_string hbd.out)
   rw [List.take_of_length_le (show ps.length ≤ j by omega)] at HS
   go_wp2_with fail
   refine Calls.mono HS.out ?_
   rintro e w6 ⟨rfl, hb6⟩
   have HB6 := Lib.hid (HBg.out _ (hbr.out.trans hb6))
   have HAll : Hid (∀ p ∈ ps, O p ≠ none) := fun p hp => hall.out p (by rw [List.take_of_length_le (show ps.length ≤ j by omega)]; exact hp)
   clear hb6 HS hall
   go_wp2_with fail
   go_ret2
   exact ⟨by rw [HG.out]; exact HB6.out, .inl ⟨y, m, d, HOn.out.1, HOn.out.2.1, HOn.out.2.2, .inl ⟨by rw [← HMn.out, ← HO.out]; exact HAll.out, by rw [← HMn.out, ← HO.out, HGd.out]; rfl⟩⟩⟩
end Go.Proofs.YtoemghiejfkpbaaGreatDoor
/- Contracts of numeral.Value at bytes that are in no number, and at the sign. -/
namespace Go.Proofs.YtoemghiejfkpbaaGreatDoor
open Go.RowKit
set_option linter.unusedVariables false
def ValN (w : World) (e : Ending) (w' : World) : Prop := ∃ v : Int, e = .returned (.tuple #[.int .i64 v, .bool false]) ∧ Below w.heap.size w w'
theorem sep_in (c : Nat) (h : c ∈ sepL) : 32 ≤ c ∧ c ≤ 124 ∧ c ≠ 45 ∧ (c < 48 ∨ 58 ≤ c) ∧ Lib.indexByte [73, 86, 88, 76, 67, 68, 77] c.toUInt8 = -1 := by
 unfold sepL at h
 simp only [List.mem_cons, List.not_mem_nil, or_false] at h
 rcases h with rfl | rfl | rfl | rfl | rfl | rfl | rfl | rfl <;> decide
set_option maxHeartbeats 1000000 in
set_option maxRecDepth 100000 in
theorem valueN_pos (k : Nat) (hk : k < 9) (c : Nat) (hcs : c ∈ sepL) (w : World) (hz : Zer w) :
  Calls Tryz.prog 71 #[.int .i64 (k : Int), .int .i32 (c : Int)] w (ValN w) := by
 obtain ⟨s1, s2, s3, s4, _⟩ := sep_in c hcs
 have hc := hz k hk
 obtain ⟨z1, z2⟩ := zeros_in k hk
 have hzz := zero_same k hk
 have z3 : zeroN.getD k 0 = 48 ∨ 1000 ≤ zeroN.getD k 0 := by
  match k, hk with
  | 0, _ | 1, _ | 2, _ | 3, _ | 4, _ | 5, _ | 6, _ | 7, _ | 8, _ => decide
 rw [hzz] at hc z1 z2
 clear hzz hcs
 generalize zeroN.getD k 0 = z at *
 have t9 : ((k : Int) == 9) = false := by rw [beq_eq_false_iff_ne]; omega
 have t10 : ((k : Int) == 10) = false := by rw [beq_eq_false_iff_ne]; omega
 have t11 : ((k : Int) == 11) = false := by rw [beq_eq_false_iff_ne]; omega
 have t12 : ((k : Int) == 12) = false := by rw [beq_eq_false_iff_ne]; omega
 have t45 : ((c : Int) == 45) = false := by rw [beq_eq_false_iff_ne]; omega
 have k0 : (0 : Int) ≤ (k : Int) := by omega
 have k9 : (k : Int) < 9 := by omega
 have w1 : IntKind.i32.wrap ((c : Int) - (z : Int)) = (c : Int) - (z : Int) := by rw [IntKind.wrap_i32]; omega
 have w2 : IntKind.i32.wrap ((z : Int) + 10) = (z : Int) + 10 := by rw [IntKind.wrap_i32]; omega
 have w3 : IntKind.i64.wrap ((c : Int) - (z : Int)) = (c : Int) - (z : Int) := by rw [IntKind.wrap_i64]; omega
 unfold ValN
 by_cases hzc : z ≤ c
 ·have d1 : decide ((z : Int) ≤ (c : Int)) = true := decide_eq_true (by omega)
  have d2 : decide ((c : Int) < (z : Int) + 10) = false := decide_eq_false (by omega)
  go_enter Tryz.func71, Tryz.ntmps71
  go_wp2_with fail
  go_quiet (fail)
  clear w1 w2 w3
  go_wp2_with fail
  go_ret2
  exact ⟨_, rfl, below_drewN _ _⟩
 ·have d1 : decide ((z : Int) ≤ (c : Int)) = false := decide_eq_false (by omega)
  go_enter Tryz.func71, Tryz.ntmps71
  go_wp2_with fail
  go_quiet (fail)
  clear w1 w2 w3
  go_wp2_with fail
  go_ret2
  exact ⟨_, rfl, below_drewN _ _⟩
def ValS (w : World) (e : Ending) (w' : World) : Prop := ∃ v : Int, e = .returned (.tuple #[.int .i64 v, .bool true]) ∧ Below w.heap.size w w'
set_option maxHeartbeats 1000000 in
set_option maxRecDepth 100000 in
theorem value_sign (k : Nat) (hk : k < 9) (w : World) (hz : Zer w) :
  Calls Tryz.prog 71 #[.int .i64 (k : Int), .int .i32 45] w (ValS w) := by
 have hc := hz k hk
 obtain ⟨z1, z2⟩ := zeros_in k hk
 have hzz := zero_same k hk
 rw [hzz] at hc z1 z2
 clear hzz
 generalize zeroN.getD k 0 = z at *
 have t9 : ((k : Int) == 9) = false := by rw [beq_eq_false_iff_ne]; omega
 have t10 : ((k : Int) == 10) = false := by rw [beq_eq_false_iff_ne]; omega
 have t11 : ((k : Int) == 11) = false := by rw [beq_eq_false_iff_ne]; omega
 have t12 : ((k : Int) == 12) = false := by rw [beq_eq_false_iff_ne]; omega
 have k0 : (0 : Int) ≤ (k : Int) := by omega
 have k9 : (k : Int) < 9 := by omega
 have w1 : IntKind.i32.wrap (45 - (z : Int)) = 45 - (z : Int) := by rw [IntKind.wrap_i32]; omega
 have w2 : IntKind.i32.wrap ((z : Int) + 10) = (z : Int) + 10 := by rw [IntKind.wrap_i32]; omega
 have w3 : IntKind.i64.wrap (45 - (z : Int)) = 45 - (z : Int) := by rw [IntKind.wrap_i64]; omega
 unfold ValS
 go_enter Tryz.func71, Tryz.ntmps71
 go_wp2_with fail
 go_quiet (fail)
 clear w1 w2 w3
 go_wp2_with fail
 go_ret2
 exact ⟨_, rfl, below_drewN _ _⟩
set_option maxRecDepth 100000 in
theorem valueN_rom (c : Nat) (hcs : c ∈ sepL) (w : World) : Calls Tryz.prog 71 #[.int .i64 9, .int .i32 (c : Int)] w (ValN w) := by
 obtain ⟨s1, s2, s3, s4, s5⟩ := sep_in c hcs
 have HI := Lib.hid (strings_IndexRune_ascii ⟨#[73, 86, 88, 76, 67, 68, 77]⟩ (c : Int) w (by omega) (by omega))
 rw [show (⟨#[73, 86, 88, 76, 67, 68, 77]⟩ : ByteArray).data.toList = [73, 86, 88, 76, 67, 68, 77] from rfl, Int.toNat_natCast, s5] at HI
 unfold ValN
 clear hcs s5
 go_enter Tryz.func71, Tryz.ntmps71
 go_wp2_with fail
 refine HI.out.mono ?_
 rintro e w' ⟨rfl, n, rfl⟩
 go_wp2_with fail
 go_ret2
 exact ⟨_, rfl, Below.refl _ _⟩
theorem sg_great : ∀ i, i < 27 → ((sgAt 10 i).all (fun r => decide (128 ≤ r)) && (sgAt 11 i).all (fun r => decide (128 ≤ r))) = true := by decide
theorem sg_no (sc : Nat) (hs : sc = 10 ∨ sc = 11) (c : Nat) (hc : c < 128) (i : Nat) (hi : i < 27) : sgAt sc i ≠ [c] := fun e => by
 have h := sg_great i hi
 rw [Bool.and_eq_true, List.all_eq_true, List.all_eq_true] at h
 have h2 : decide (128 ≤ c) = true := by
  rcases hs with rfl | rfl
  ·exact h.1 c (by rw [e]; simp)
  ·exact h.2 c (by rw [e]; simp)
 rw [decide_eq_true_eq] at h2
 omega
set_option maxHeartbeats 2000000 in
set_option maxRecDepth 100000 in
theorem valueN_sg (sc : Nat) (hs : sc = 10 ∨ sc = 11) (c : Nat) (hc : c < 128) (w : World) :
  Calls Tryz.prog 71 #[.int .i64 (sc : Int), .int .i32 (c : Int)] w (ValN w) := by
 have HSG := Lib.hid (fun pl d hp hd W => sign_any sc pl d hs hp hd W)
 have HBQ := Lib.hid (fun pl d (hd : d < 10) => encs_beq (sgnR sc pl d) c (sgnR_ok sc pl d hd).2 (.inl (by omega)))
 have HNO := Lib.hid (fun i hi => sg_no sc hs c hc i hi)
 have hr : ∀ p : Nat, p < 3 → ∀ W, (Instr.index 178 (.agg #[.int .i64 1, .int .i64 10, .int .i64 100]) (.int .i64 (p : Int))).run Tryz.prog W = .ok (.int .i64 ((10 ^ p : Nat) : Int)) W := fun p hp W => by
  match p, hp with
  | 0, _ | 1, _ | 2, _ => simp [Instr.index, run_underlying Tryz.underlying178, asIntOf, go_sem]
 have HR := Lib.hid hr
 have t9 : ((sc : Int) == 9) = false := by rw [beq_eq_false_iff_ne]; omega
 clear hr
 unfold ValN
 have hcase : ((sc : Int) == 10) = true ∨ (((sc : Int) == 10) = false ∧ ((sc : Int) == 11) = true) := by
  rcases hs with rfl | rfl
  ·exact .inl rfl
  ·exact .inr ⟨rfl, rfl⟩
 clear hs
 rcases hcase with t10 | ⟨t10, t11⟩
 all_goals
  go_enter Tryz.func71, Tryz.ntmps71
  go_wp2_with fail
  go_loopw [28] (fun i wr => ∃ p : Nat, p ≤ 3 ∧ i = .int .i64 (p : Int) ∧ Hid (Below w.heap.size w wr)) (fun i _ => 3 - (intOf i).toNat)
 all_goals try (case atStart => exact ⟨0, by omega, rfl, Below.refl _ _⟩)
 all_goals
  obtain ⟨p, hp, rfl, hbr⟩ := hrel
  by_cases hp3 : p = 3
  ·subst hp3
   go_wp2_with fail
   go_ret2
   exact ⟨_, rfl, hbr.out⟩
  have hrp := HR.out p (by omega)
  have p0 : (0 : Int) ≤ (p : Int) := by omega
  have p3 : (p : Int) < 3 := by omega
  generalize 10 ^ p = u at *
  go_wp2_with fail
  go_loopw [9] (fun d wi => ∃ n : Nat, 1 ≤ n ∧ n ≤ 10 ∧ d = .int .i64 (n : Int) ∧ Hid (Below w.heap.size w wi)) (fun d _ => 10 - (intOf d).toNat)
  case atStart => exact ⟨1, by omega, by omega, rfl, hbr⟩
  case round =>
   obtain ⟨n, n1, n10, rfl, hbi⟩ := hrel
   by_cases hlt : n ≤ 9
   ·have HS := Lib.hid (fun W => HSG.out p n (by omega) (by omega) W)
    have hq := HBQ.out p n (by omega)
    have tn : decide ((n : Int) ≤ 9) = true := decide_eq_true (by omega)
    unfold SignQ at HS
    have hsame : (sgnR sc p n == [c]) = false := by
     have hp9 : (9 * p + (n - 1)) / 9 = p := by omega
     have hm9 : (9 * p + (n - 1)) % 9 + 1 = n := by omega
     have hsg : sgAt sc (9 * p + (n - 1)) = sgnR sc p n := by unfold sgAt; rw [hp9, hm9]
     rw [← hsg, beq_eq_false_iff_ne]
     exact HNO.out _ (by omega)
    rw [hsame] at hq
    clear hsame
    generalize str (encs (sgnR sc p n)) = S at *
    go_wp2_with fail
    refine (HS.out _).mono ?_
    rintro e w' ⟨rfl, hb⟩
    have HB := Lib.hid (below_then hbi.out hb)
    clear hb
    go_wp2_with fail
    go_roundw
    case rel => exact ⟨n + 1, by omega, by omega, by go_num, HB⟩
    case measure => simp [intOf]; omega
   ·obtain rfl : n = 10 := by omega
    go_wp2_with fail
    go_roundw
    case rel => exact ⟨p + 1, by omega, by go_num, hbi⟩
    case measure => simp [intOf]; omega
set_option maxHeartbeats 2000000 in
set_option maxRecDepth 100000 in
theorem valueN_ch (c : Nat) (hc : c < 128) (w : World) :
  Calls Tryz.prog 71 #[.int .i64 12, .int .i32 (c : Int)] w (ValN w) := by
 have HCD := Lib.hid (fun d hd W => chineseDigit_any d hd W)
 have HBQ := Lib.hid (fun d (hd : d < 10) => encs_beq [chD d] c (fun r hr => by obtain rfl := List.mem_singleton.1 hr; exact .inl (chD_bmp d hd)) (.inl (by omega)))
 have hno : ∀ d, d < 10 → 128 ≤ chD d := by decide
 have hdi : ∀ d, d < 3 → 128 ≤ chBig.getD d 0 := by decide
 have HNO := Lib.hid hno
 have HDI := Lib.hid hdi
 have HRB := Lib.hid run_big
 have c32 : (c : Int) ≤ 2147483647 := by omega
 clear hno hdi
 unfold ValN
 go_enter Tryz.func71, Tryz.ntmps71
 go_wp2_with fail
 go_loopw [50] (fun i wr => ∃ d : Nat, d ≤ 10 ∧ i = .int .i64 (d : Int) ∧ wr = w) (fun i _ => 10 - (intOf i).toNat)
 case atStart => exact ⟨0, by omega, rfl, rfl⟩
 case round =>
  obtain ⟨d, hd, rfl, rfl⟩ := hrel
  by_cases hlt : d < 10
  ·have hq := HBQ.out d hlt
   have HD := Lib.hid (fun W => HCD.out d hlt W)
   have e1 : ([chD d] == [c]) = false := by
    rw [beq_eq_false_iff_ne]
    intro h
    have h2 : chD d = c := by simpa using h
    have := HNO.out d hlt
    omega
   rw [e1] at hq
   clear e1
   generalize str (encs [chD d]) = S at *
   go_wp2_with fail
   refine (HD.out _).mono ?_
   rintro e w' ⟨rfl, rfl⟩
   go_wp2_with fail
   go_roundw
   case rel => exact ⟨d + 1, by omega, by go_num, trivial⟩
   case measure => simp [intOf]; omega
  ·obtain rfl : d = 10 := by omega
   go_wp2_with fail
   go_loopw [61] (fun i wq => ∃ k : Nat, k ≤ 3 ∧ i = .int .i64 (k : Int) ∧ wq = wr) (fun i _ => 3 - (intOf i).toNat)
   case atStart => exact ⟨0, by omega, rfl, rfl⟩
   case round =>
    obtain ⟨k, hk, rfl, rfl⟩ := hrel
    by_cases hk3 : k = 3
    ·subst hk3
     go_wp2_with fail
     go_ret2
     exact ⟨_, rfl, Below.refl _ _⟩
    have hr := HRB.out k (by omega)
    have k3 : (k : Int) < 3 := by omega
    have e1 : (((chBig.getD k 0 : Nat) : Int) == (c : Int)) = false := by
     rw [beq_eq_false_iff_ne]
     intro h
     have := HDI.out k (by omega)
     omega
    generalize chBig.getD k 0 = r at *
    go_wp2_with fail
    go_roundw
    case rel => exact ⟨k + 1, by omega, by go_num, trivial⟩
    case measure => simp [intOf]; omega
theorem valueN_any (sc : Nat) (hs : sc < 13) (c : Nat) (hcs : c ∈ sepL) (w : World) (hz : Zer w) :
  Calls Tryz.prog 71 #[.int .i64 (sc : Int), .int .i32 (c : Int)] w (ValN w) := by
 have hc := (sep_in c hcs).2.1
 by_cases h9 : sc < 9
 ·exact valueN_pos sc h9 c hcs w hz
 have h4 : sc = 9 ∨ sc = 10 ∨ sc = 11 ∨ sc = 12 := by omega
 rcases h4 with rfl | rfl | rfl | rfl
 ·exact valueN_rom c hcs w
 ·exact valueN_sg 10 (.inl rfl) c (by omega) w
 ·exact valueN_sg 11 (.inr rfl) c (by omega) w
 ·exact valueN_ch c (by omega) w
end Go.Proofs.YtoemghiejfkpbaaGreatDoor
/- Contract of numeral.Lenient at a number with a sign; at whatever a script writes: a print out of Numr11. -/
namespace Go.Proofs.YtoemghiejfkpbaaGreatDoor
open Go.RowKit
set_option linter.unusedVariables false
set_option maxHeartbeats 4000000 in
set_option maxRecDepth 100000 in
theorem lenient_neg (sc : Nat) (hs : sc < 9) (rs : List Nat) (hne : rs ≠ []) (hb : ∀ r ∈ rs, Bmp r) (hlen : rs.length ≤ 1000) (t0 l0 d0 : Int) (h : rs.foldl (lenF sc) (some (0, 0, 0)) = some (t0, l0, d0)) (w : World) (hz : Zer w) :
  Calls Tryz.prog 44 #[.int .i64 (sc : Int), .string (str (encs (45 :: rs)))] w fun e w' => e = .returned (.tuple #[.int .i64 (-(t0 + d0)), .bool true]) ∧ Below w.heap.size w w' := by
 have hV := Lib.hid (fun c v hv W hz => value_any sc (by omega) c v hv W hz)
 have hb45 : ∀ r ∈ 45 :: rs, Bmp r := fun r hr => by
  rcases List.mem_cons.1 hr with rfl | hr
  ·exact .inl (by omega)
  ·exact hb r hr
 have HNE := encs_empty (45 :: rs) hb45
 have HSg := Lib.hid (fun W hz => value_sign sc hs W hz)
 have hie : (45 :: rs).isEmpty = false := rfl
 have hie2 : List.isEmpty (45 :: rs) = false := hie
 have HB := Lib.hid hb
 have H := Lib.hid h
 have hz0 := Lib.hid hz
 have HL : LenI sc rs 0 0 0 := ⟨fun _ => by omega, by omega, by omega, by omega, by omega, by omega, by omega⟩
 have HL := Lib.hid HL
 have HD : Hid (∀ (pos c : Nat) (ps : List Nat), (encs (45 :: rs)).drop pos = encs (c :: ps) → (∀ r ∈ c :: ps, Bmp r) → pos < (str (encs (45 :: rs))).size ∧ Utf8.decode (str (encs (45 :: rs))) pos = (c, (Lib.encodeRune (c : Int)).length) ∧ (encs (45 :: rs)).drop (pos + (Lib.encodeRune (c : Int)).length) = encs ps) := fun pos c ps hd hb => at_pos (45 :: rs) (c :: ps) pos hd c ps rfl hb
 have HE : Hid (∀ pos, (encs (45 :: rs)).drop pos = encs [] → ¬ pos < (str (encs (45 :: rs))).size) := fun pos hd => at_end (45 :: rs) pos hd
 have hsmall : (str (encs (45 :: rs))).size ≤ 3003 := by have := encs_small (45 :: rs) hb45; rw [List.length_cons] at this; omega
 have HB45 := Lib.hid hb45
 rw [hie] at HNE
 have HSC := Lib.hid hs
 have t9 : ((sc : Int) == 9) = false := by rw [beq_eq_false_iff_ne]; omega
 have t10 : ((sc : Int) == 10) = false := by rw [beq_eq_false_iff_ne]; omega
 have t11 : ((sc : Int) == 11) = false := by rw [beq_eq_false_iff_ne]; omega
 have t12 : ((sc : Int) == 12) = false := by rw [beq_eq_false_iff_ne]; omega
 clear h hb hb45 hie hie2 hne hz hs
 generalize hA : encs (45 :: rs) = A at *
 have HS0 : Hid (A.drop 0 = encs (45 :: rs)) := hA.symm
 clear hA
 generalize hStr : str A = S at *
 clear hStr
 go_enter Tryz.func44, Tryz.ntmps44
 go_wp2_with fail
 go_loopw [6, 7, 8, 9, 10, 11, 12, 13] (fun tv lv dv nv _ _ _ _ wr => (tv = .int .i64 0 ∧ lv = .int .i64 0 ∧ dv = .int .i64 0 ∧ nv = .bool false ∧ wr.heap[w.heap.size]? = some (.stringIter S 0) ∧ Hid (Below w.heap.size w wr)) ∨ ∃ (pos : Nat) (post : List Nat) (t l d : Int), tv = .int .i64 t ∧ lv = .int .i64 l ∧ dv = .int .i64 d ∧ nv = .bool true ∧ Hid (A.drop pos = encs post) ∧ Hid (∀ r ∈ post, Bmp r) ∧ Hid (LenI sc post t l d) ∧ Hid (post.foldl (lenF sc) (some (t, l, d)) = some (t0, l0, d0)) ∧ wr.heap[w.heap.size]? = some (.stringIter S pos) ∧ Hid (Below w.heap.size w wr)) (fun _ _ _ _ _ _ _ _ wr => S.size - wr.iterPos w.heap.size)
 case atStart =>
  exact .inl ⟨rfl, rfl, rfl, rfl, World.iter_heap w S 0, Lib.hid ((Below.refl _ w).alloc (Nat.le_refl _) _)⟩
 case round =>
  rcases hrel with ⟨rfl, rfl, rfl, rfl, hit, hbw⟩ | ⟨pos, post, t, l, d, rfl, rfl, rfl, rfl, hd, hb, hi, hf, hit, hbw⟩
  ·obtain ⟨hp, hdec, hdr⟩ := HD.out 0 45 rs HS0.out HB45.out
   have e45 : (Lib.encodeRune ((45 : Nat) : Int)).length = 1 := by rw [enc_one 45 (by omega)]; rfl
   rw [e45] at hdec hdr
   have HDR := Lib.hid hdr
   have hnx : ∀ ty, (Instr.next (.pointer (some ⟨w.heap.size, 0, none⟩)) true ty).run Tryz.prog wr = .ok (.tuple #[.bool true, .int .i64 0, .int .i32 45]) (wr.iterAt w.heap.size S 1) := fun ty => by
    rw [Lib.run_next_any_at wr w.heap.size S 0 ty hit hp, hdec]
    rfl
   have hit2 := Lib.iterAt_heap wr w.heap.size S 0 1 hit
   have hbw2 := Lib.below_iterAt hbw.out (k := w.heap.size) (Nat.le_refl _) S 1
   have hzw := hz0.out.next hbw2
   have hlt2 : w.heap.size < (wr.iterAt w.heap.size S 1).heap.size := (Array.getElem?_eq_some_iff.1 hit2).1
   have HVc := Lib.hid (HSg.out _ hzw)
   unfold ValS at HVc
   have HP1 : Hid (S.size - 1 < S.size - wr.iterPos w.heap.size) := by
    unfold World.iterPos
    rw [hit]
    show S.size - 1 < S.size - 0
    omega
   clear hdec hdr hzw hp e45
   generalize hW : wr.iterAt w.heap.size S 1 = W1 at *
   clear hW hit hbw
   have HIT := Lib.hid hit2
   have HBW := Lib.hid hbw2
   have HLT := Lib.hid hlt2
   clear hit2 hbw2 hlt2
   go_wp2_with fail
   refine HVc.out.mono ?_
   rintro e W2 ⟨v, rfl, hb2⟩
   have HB2 := Lib.hid hb2
   have HIT2 : Hid (W2.heap[w.heap.size]? = some (.stringIter S 1)) := (HB2.out.block _ HLT.out).trans HIT.out
   have HBW2 := Lib.hid (HBW.out.trans (HB2.out.mono (Nat.le_of_lt HLT.out)))
   clear hb2 HVc HB2
   go_wp2_with fail
   go_roundw
   case rel => exact .inr ⟨1, rs, 0, 0, 0, rfl, rfl, rfl, rfl, HDR.out, HB.out, HL.out, H.out, HIT2.out, HBW2.out⟩
   case measure => unfold World.iterPos; rw [HIT2.out]; exact HP1.out
  cases post with
  | nil =>
   have hp := HE.out pos hd.out
   have hnx : ∀ ty, (Instr.next (.pointer (some ⟨w.heap.size, 0, none⟩)) true ty).run Tryz.prog wr = _ := fun ty => Lib.run_next_end_at wr w.heap.size S pos ty hit hp
   have he : (t, l, d) = (t0, l0, d0) := Option.some.inj hf.out
   obtain ⟨i1, i2, i3, i4, i5, i6, i7⟩ := hi.out
   obtain ⟨rfl, rfl, rfl⟩ : t = t0 ∧ l = l0 ∧ d = d0 := by injection he with a b; injection b with b c; exact ⟨a, b, c⟩
   clear he hf hi i1
   simp only [List.length_nil] at i7
   go_wp2_with fail
   go_ret2
   exact ⟨rfl, hbw.out⟩
  | cons c ps =>
   obtain ⟨hp, hdec, hdr⟩ := HD.out pos c ps hd.out hb.out
   obtain ⟨v, hv, hg, hf2⟩ := len_step sc c ps t l d _ hf.out
   have hv1 := val_le sc c v hv
   obtain ⟨i1, i2, i3, i4, i5, i6, i7⟩ := hi.out
   have c1 := (enc_len c (hb.out c (List.mem_cons_self ..))).1
   have HF := Lib.hid hf2
   have HDR := Lib.hid hdr
   have HBP : Hid (∀ r ∈ ps, Bmp r) := fun r hr => hb.out r (List.mem_cons_of_mem _ hr)
   have hnx : ∀ ty, (Instr.next (.pointer (some ⟨w.heap.size, 0, none⟩)) true ty).run Tryz.prog wr = .ok (.tuple #[.bool true, .int .i64 pos, .int .i32 (c : Int)]) (wr.iterAt w.heap.size S (pos + (Lib.encodeRune (c : Int)).length)) := fun ty => by
    rw [Lib.run_next_any_at wr w.heap.size S pos ty hit hp, hdec]
   have hit2 := Lib.iterAt_heap wr w.heap.size S pos (pos + (Lib.encodeRune (c : Int)).length) hit
   have hbw2 := Lib.below_iterAt hbw.out (k := w.heap.size) (Nat.le_refl _) S (pos + (Lib.encodeRune (c : Int)).length)
   have hzw := hz0.out.next hbw2
   have hlt2 : w.heap.size < (wr.iterAt w.heap.size S (pos + (Lib.encodeRune (c : Int)).length)).heap.size := (Array.getElem?_eq_some_iff.1 hit2).1
   have HVc := Lib.hid (hV.out c v hv _ hzw)
   unfold ValQ at HVc
   have hps : (((c :: ps).length : Nat) : Int) = (ps.length : Int) + 1 := by simp
   rw [hps] at i7
   have hi0 : 0 ≤ (ps.length : Int) := by omega
   have hs := HSC.out
   have t0 := i1 (by omega)
   have c45 := val_45 sc c v hs hv
   have hst : lenS sc t l d v = (t * 10 + v, l, d) := by unfold lenS; rw [if_neg (by omega), if_pos (by omega)]
   rw [hst] at HF
   clear hst
   have HI : Hid (LenI sc ps (t * 10 + v) l d) := ⟨fun _ => by omega, by omega, i3, i4, i5, i6, by omega⟩
   have HP1 : Hid (S.size - (pos + (Lib.encodeRune (c : Int)).length) < S.size - wr.iterPos w.heap.size) := by
    unfold World.iterPos
    rw [hit]
    show S.size - _ < S.size - pos
    omega
   clear hi hf hv hdec hdr hf2 hps hb hd hzw c1 hp i1 hs
   generalize (Lib.encodeRune (c : Int)).length = k at *
   generalize hW : wr.iterAt w.heap.size S (pos + k) = W1 at *
   clear hW hit hbw
   have HIT := Lib.hid hit2
   have HBW := Lib.hid hbw2
   have HLT := Lib.hid hlt2
   clear hit2 hbw2 hlt2
   go_wp2_with fail
   refine HVc.out.mono ?_
   rintro e W2 ⟨rfl, hb2⟩
   have HB2 := Lib.hid hb2
   have HIT2 : Hid (W2.heap[w.heap.size]? = some (.stringIter S (pos + k))) := (HB2.out.block _ HLT.out).trans HIT.out
   have HBW2 := Lib.hid (HBW.out.trans (HB2.out.mono (Nat.le_of_lt HLT.out)))
   clear hb2 HVc HB2
   go_wp2_with fail
   go_roundw
   case rel => exact .inr ⟨pos + k, ps, _, _, _, rfl, rfl, rfl, rfl, HDR.out, HBP.out, HI.out, HF.out, HIT2.out, HBW2.out⟩
   case measure => unfold World.iterPos; rw [HIT2.out]; exact HP1.out
theorem lenient_num (sc : Nat) (hs : sc < 13) (n : Int) (r : List Nat) (ok : NumOk sc n r) (w : World) (hz : Zer w) :
  Calls Tryz.prog 44 #[.int .i64 (sc : Int), .string (str (encs r))] w (LenQ n w) := by
 rcases ok.back with ⟨_, h⟩ | ⟨h9, r', rfl, h⟩
 ·exact lenient_any sc hs r ok.bmp (by have := ok.len; omega) n h w hz
 ·obtain ⟨hne, t, l, d, hf, hn⟩ := lenR_fold sc r' (-n) h
  have hl := ok.len
  rw [List.length_cons] at hl
  have h2 := lenient_neg sc h9 r' hne (fun x hx => ok.bmp x (List.mem_cons_of_mem _ hx)) (by omega) t l d hf w hz
  rw [show -(t + d) = n by omega] at h2
  exact h2
end Go.Proofs.YtoemghiejfkpbaaGreatDoor
/- Contracts of pattern.name and pattern.number. -/
namespace Go.Proofs.YtoemghiejfkpbaaGreatDoor
open Go.RowKit
set_option linter.unusedVariables false
theorem name_str (S : ByteArray) (m : Nat) (hm : m ≤ S.size) (hS : S.size ≤ 100000) (hin : ∀ k (h : k < S.size), k < m → 97 ≤ S[k].toNat ∧ S[k].toNat ≤ 122) (hout : ∀ (h : m < S.size), S[m].toNat < 97 ∨ 122 < S[m].toNat) (w : World) :
  Calls Tryz.prog 42 #[.string S] w fun e w' => e = .returned (.tuple #[.string (S.extract 0 m), .string (S.extract m S.size)]) ∧ Below w.heap.size w w' := by
 have HI := Lib.hid hin
 have HO := Lib.hid hout
 clear hin hout
 go_enter Tryz.func42, Tryz.ntmps42
 go_wp2_with fail
 go_loop [4] (fun nv => ∃ k : Nat, k ≤ m ∧ nv = .int .i64 (k : Int)) (fun nv => S.size - (intOf nv).toNat)
 case atStart => exact ⟨0, by omega, rfl⟩
 case round =>
  obtain ⟨k, hk, rfl⟩ := hrel
  by_cases hlt : k < m
  ·have hks : k < S.size := by omega
   obtain ⟨i1, i2⟩ := HI.out k hks hlt
   have j1 : decide ((97 : Int) ≤ (S[k].toNat : Int)) = true := decide_eq_true (by omega)
   have j2 : decide ((S[k].toNat : Int) ≤ 122) = true := decide_eq_true (by omega)
   have j3 : decide (97 ≤ S[k].toNat) = true := decide_eq_true (by omega)
   have j4 : decide (S[k].toNat ≤ 122) = true := decide_eq_true (by omega)
   go_wp2_with fail
   go_round
   case rel => exact ⟨k + 1, by omega, by go_num⟩
   case measure => simp [intOf]; omega
  ·obtain rfl : k = m := by omega
   have q0 : (0 : Int) ≤ (k : Int) := by omega
   have q1 : (k : Int) ≤ (S.size : Int) := by omega
   by_cases hks : k < S.size
   ·have ho := HO.out hks
    by_cases h1 : 97 ≤ S[k].toNat
    ·have j1 : decide ((97 : Int) ≤ (S[k].toNat : Int)) = true := decide_eq_true (by omega)
     have j2 : decide ((S[k].toNat : Int) ≤ 122) = false := decide_eq_false (by omega)
     have j3 : decide (97 ≤ S[k].toNat) = true := decide_eq_true (by omega)
     have j4 : decide (S[k].toNat ≤ 122) = false := decide_eq_false (by omega)
     clear ho
     go_wp2_with fail
     go_quiet (fail)
     go_wp2_with fail
     go_ret2
     exact ⟨rfl, below_drewN _ _⟩
    ·have j1 : decide ((97 : Int) ≤ (S[k].toNat : Int)) = false := decide_eq_false (by omega)
     have j3 : decide (97 ≤ S[k].toNat) = false := decide_eq_false (by omega)
     clear ho
     go_wp2_with fail
     go_quiet (fail)
     go_wp2_with fail
     go_ret2
     exact ⟨rfl, below_drewN _ _⟩
   ·have t1 : decide ((k : Int) < (S.size : Int)) = false := decide_eq_false (by omega)
    go_wp2_with fail
    go_quiet (fail)
    go_wp2_with fail
    go_ret2
    exact ⟨rfl, below_drewN _ _⟩
theorem ext_split (l r : List UInt8) : (str (l ++ r)).extract 0 l.length = str l ∧ (str (l ++ r)).extract l.length (str (l ++ r)).size = str r := by
 rw [ext_str, ext_str, str_size]
 refine ⟨?_, ?_⟩
 ·rw [List.drop_zero, List.take_left]
 ·rw [List.take_length, List.drop_left]
theorem str_get (l : List UInt8) (k : Nat) (h : k < (str l).size) : (str l)[k] = l[k]'(by rw [str_size] at h; exact h) := by
 simp [ByteArray.getElem_eq_getElem_data, str]
theorem pname_any (l r : List UInt8) (hl : ∀ b ∈ l, 97 ≤ b.toNat ∧ b.toNat ≤ 122) (hr : ∀ b t, r = b :: t → b.toNat < 97 ∨ 122 < b.toNat) (hlen : (l ++ r).length ≤ 100000) (w : World) :
  Calls Tryz.prog 42 #[.string (str (l ++ r))] w fun e w' => e = .returned (.tuple #[.string (str l), .string (str r)]) ∧ Below w.heap.size w w' := by
 have h := name_str (str (l ++ r)) l.length (by rw [str_size, List.length_append]; omega) (by rw [str_size]; exact hlen) (fun k hk hkl => by
   rw [str_get, List.getElem_append_left hkl]
   exact hl _ (List.getElem_mem _)) (fun hk => by
   rw [str_get]
   cases r with
   | nil => rw [str_size] at hk; simp at hk
   | cons b t =>
    rw [List.getElem_append_right (Nat.le_refl _)]
    simp only [Nat.sub_self, List.getElem_cons_zero]
    exact hr b t rfl) w
 rw [(ext_split l r).1, (ext_split l r).2] at h
 exact h
def IsV (sc x : Nat) : Prop := (∃ v, valR sc x = some v) ∨ (sc < 9 ∧ x = 45)
theorem sg_small : ∀ i, i < 27 → ((sgAt 10 i).all (fun r => decide (r < 60000)) && (sgAt 11 i).all (fun r => decide (r < 60000))) = true := by decide
theorem valR_small (sc x v : Nat) (hs : sc < 13) (h : valR sc x = some v) : x < 65400 := by
 unfold valR at h
 by_cases h9 : sc < 9
 ·rw [if_pos h9] at h
  have := zero_le sc h9
  have z2 := (zeros_in sc h9).2
  rw [zero_same sc h9] at z2
  split at h
  ·omega
  ·cases h
 rw [if_neg h9] at h
 split at h
 ·unfold romV at h
  repeat' split at h
  all_goals first | omega | cases h
 split at h
 ·unfold sgV at h
  cases hf : (List.range 27).find? (fun i => sgnR sc (i / 9) (i % 9 + 1) == [x]) with
  | none => rw [hf] at h; cases h
  | some i =>
   obtain ⟨h1, h2, _⟩ := find_first _ _ _ hf
   have h3 := sg_small i h1
   rw [Bool.and_eq_true, List.all_eq_true, List.all_eq_true] at h3
   rw [beq_iff_eq] at h2
   have h4 : decide (x < 60000) = true := by
    rcases (show sc = 10 ∨ sc = 11 by omega) with rfl | rfl
    ·exact h3.1 x (by unfold sgAt; rw [h2]; simp)
    ·exact h3.2 x (by unfold sgAt; rw [h2]; simp)
   rw [decide_eq_true_eq] at h4
   omega
 ·unfold chV at h
  cases hf : (List.range 10).find? (fun n => chD n == x) with
  | some i =>
   obtain ⟨h1, h2, _⟩ := find_first _ _ _ hf
   rw [beq_iff_eq] at h2
   have := chD_bmp i h1
   omega
  | none =>
   rw [hf] at h
   simp only at h
   repeat' split at h
   all_goals first | omega | cases h
theorem isV_small (sc x : Nat) (hs : sc < 13) (h : IsV sc x) : x < 65400 := by
 rcases h with ⟨v, h⟩ | ⟨_, h⟩
 ·exact valR_small sc x v hs h
 ·omega
theorem value_isV (sc x : Nat) (hs : sc < 13) (h : IsV sc x) (w : World) (hz : Zer w) : Calls Tryz.prog 71 #[.int .i64 (sc : Int), .int .i32 (x : Int)] w (ValS w) := by
 rcases h with ⟨v, h⟩ | ⟨h9, rfl⟩
 ·refine Calls.mono (value_any sc hs x v h w hz) ?_
  rintro e w' ⟨rfl, hb⟩
  exact ⟨_, rfl, hb⟩
 ·exact value_sign sc h9 w hz
theorem encs_app (a b : List Nat) : encs (a ++ b) = encs a ++ encs b := by unfold encs; rw [List.flatMap_append]
theorem dec_at (rs ps : List Nat) (c pos : Nat) (hd : (encs rs).drop pos = encs (c :: ps)) (hb : ∀ r ∈ c :: ps, Bmp r) :
  pos < (str (encs rs)).size ∧ Lib.decodeGo ((str (encs rs)).extract pos (str (encs rs)).size) = (c, (Lib.encodeRune (c : Int)).length) ∧ (encs rs).drop (pos + (Lib.encodeRune (c : Int)).length) = encs ps := by
 obtain ⟨h1, h2, h3⟩ := at_pos rs (c :: ps) pos hd c ps rfl hb
 exact ⟨h1, by rw [Lib.decodeGo_extract _ _ h1]; exact h2, h3⟩
set_option maxHeartbeats 4000000 in
set_option maxRecDepth 100000 in
theorem number_any (sc : Nat) (hs : sc < 13) (r L : List Nat) (hr : ∀ x ∈ r, Bmp x) (hL : ∀ x ∈ L, Bmp x) (hv : ∀ x ∈ r, IsV sc x) (hsep : L = [] ∨ ∃ c t, L = c :: t ∧ c ∈ sepL) (hlen : (r ++ L).length ≤ 2000) (w : World) (hz : Zer w) (hu : U8 w) :
  Calls Tryz.prog 43 #[.int .i64 (sc : Int), .string (str (encs (r ++ L)))] w fun e w' => e = .returned (.tuple #[.string (str (encs r)), .string (str (encs L))]) ∧ Below w.heap.size w w' := by
 have hbA : ∀ x ∈ r ++ L, Bmp x := fun x hx => (List.mem_append.1 hx).elim (hr x) (hL x)
 have hsz : (str (encs (r ++ L))).size ≤ 6000 := by have := encs_small (r ++ L) hbA; omega
 have HXT := Lib.hid (ext_split (encs r) (encs L))
 rw [← encs_app] at HXT
 have HD : Hid (∀ (pos c : Nat) (ps : List Nat), (encs (r ++ L)).drop pos = encs (c :: ps) → (∀ x ∈ c :: ps, Bmp x) → pos < (str (encs (r ++ L))).size ∧ Lib.decodeGo ((str (encs (r ++ L))).extract pos (str (encs (r ++ L))).size) = (c, (Lib.encodeRune (c : Int)).length) ∧ (encs (r ++ L)).drop (pos + (Lib.encodeRune (c : Int)).length) = encs ps) := fun pos c ps hd hb => dec_at (r ++ L) ps c pos hd hb
 have HE : Hid (∀ pos, (encs (r ++ L)).drop pos = encs [] → ¬ pos < (str (encs (r ++ L))).size) := fun pos hd => at_end (r ++ L) pos hd
 have HV : Hid (∀ x ∈ r, ∀ W, Zer W → x < 65400 ∧ Calls Tryz.prog 71 #[.int .i64 (sc : Int), .int .i32 (x : Int)] W (ValS W)) := fun x hx W hz => ⟨isV_small sc x hs (hv x hx), value_isV sc x hs (hv x hx) W hz⟩
 have HN : Hid (∀ c, c ∈ sepL → ∀ W, Zer W → Calls Tryz.prog 71 #[.int .i64 (sc : Int), .int .i32 (c : Int)] W (ValN W)) := fun c hc W hz => valueN_any sc hs c hc W hz
 have hend : (encs r).length ≤ (str (encs (r ++ L))).size := by rw [str_size, encs_app, List.length_append]; omega
 have hdr0 : ∀ r1 r2, r = r1 ++ r2 → (encs (r ++ L)).drop (encs r1).length = encs (r2 ++ L) := fun r1 r2 h => by
  rw [h, List.append_assoc, encs_app, List.drop_left]
 have HDr := Lib.hid hdr0
 have HU := Lib.hid (show Zer w ∧ U8 w from ⟨hz, hu⟩)
 have HSp := Lib.hid hsep
 have HB := Lib.hid hbA
 have HDc := Lib.hid (fun s W (h : U8 W) => utf8_DecodeRuneInString s W h)
 have HL1 : Hid (∀ (r1 : List Nat) (x : Nat), (encs (r1 ++ [x])).length = (encs r1).length + (Lib.encodeRune (x : Int)).length) := fun r1 x => by rw [encs_app, List.length_append, encs_one]
 clear hz hu hv hr hL hsep hbA hdr0 hlen
 obtain ⟨A, hA⟩ : ∃ A, A = encs (r ++ L) := ⟨_, rfl⟩
 rw [← hA] at HXT HD HE hend hsz HDr
 rw [← hA]
 clear hA
 generalize hS : str A = S at *
 clear hS
 go_enter Tryz.func43, Tryz.ntmps43
 go_wp2_with fail
 go_loopw [6, 7, 8, 9, 10] (fun nv _ _ _ _ wr => ∃ r1 r2 : List Nat, r = r1 ++ r2 ∧ nv = .int .i64 (((encs r1).length : Nat) : Int) ∧ (encs r1).length ≤ S.size ∧ Hid (Below w.heap.size w wr)) (fun nv _ _ _ _ _ => S.size - (intOf nv).toNat)
 case atStart => exact ⟨[], r, rfl, rfl, by simp [encs], Below.refl _ _⟩
 case round =>
  obtain ⟨r1, r2, hrr, rfl, hle, hbr⟩ := hrel
  have hd0 := HDr.out r1 r2 hrr
  have hzw := HU.out.1.next hbr.out
  have huw := HU.out.2.next hbr.out
  cases r2 with
  | cons x r3 =>
   obtain ⟨hp, hdec, hdr⟩ := HD.out _ x (r3 ++ L) hd0 (fun y hy => HB.out y (by rw [hrr]; simp at hy ⊢; grind))
   obtain ⟨hx, _⟩ := HV.out x (by rw [hrr]; simp) wr hzw
   have HVx := Lib.hid (fun W h => (HV.out x (by rw [hrr]; simp) W h).2)
   have HDx := Lib.hid (HDc.out (S.extract (encs r1).length S.size) wr huw)
   rw [hdec] at HDx
   have HRR : Hid (r = (r1 ++ [x]) ++ r3) := by unfold Hid; rw [hrr]; simp
   have hl2 := HL1.out r1 x
   have hpos := (enc_len x (HB.out x (by rw [hrr]; simp))).1
   have HZw := Lib.hid hzw
   have hnx : (encs (r1 ++ [x])).length ≤ S.size := by
    have h1 := congrArg List.length (HDr.out (r1 ++ [x]) r3 HRR.out)
    have h2 := HXT.out
    rcases Nat.lt_or_ge S.size (encs (r1 ++ [x])).length with h | h
    ·exfalso
     have h3 : (encs r).length = (encs (r1 ++ [x])).length + (encs r3).length := by rw [HRR.out, encs_app, List.length_append]
     omega
    ·exact h
   have tx : ((x : Int) == 65533) = false := by rw [beq_eq_false_iff_ne]; omega
   have q0 : (0 : Int) ≤ (((encs r1).length : Nat) : Int) := by omega
   have t1 : decide ((((encs r1).length : Nat) : Int) < (S.size : Int)) = true := decide_eq_true (by omega)
   clear hdec hdr hd0 hrr hzw huw HDr HXT
   generalize (encs r1).length = n at *
   generalize hn2 : (encs (r1 ++ [x])).length = n2 at *
   have HN2 := Lib.hid hn2
   clear hn2
   generalize (Lib.encodeRune (x : Int)).length = kx at *
   go_wp2_with fail
   refine HDx.out.mono ?_
   rintro e w1 ⟨rfl, hb1⟩
   have HB1 := Lib.hid (below_then hbr.out hb1)
   have HVw := Lib.hid (HVx.out w1 (HZw.out.next hb1))
   unfold ValS at HVw
   clear hb1 HDx
   go_wp2_with fail
   refine HVw.out.mono ?_
   rintro e w2 ⟨v, rfl, hb2⟩
   have HB2 := Lib.hid (below_then HB1.out hb2)
   clear hb2 HVw
   go_wp2_with fail
   go_roundw
   case rel => exact ⟨r1 ++ [x], r3, HRR.out, by rw [HN2.out, hl2]; go_num, by rw [HN2.out]; exact hnx, HB2⟩
   case measure => simp [intOf]; omega
  | nil =>
   have hr1 : r = r1 := by rw [hrr, List.append_nil]
   subst hr1
   rw [List.nil_append] at hd0
   obtain ⟨x1, x2⟩ := HXT.out
   rcases HSp.out with rfl | ⟨c, t, rfl, hc⟩
   ·have hno := HE.out _ hd0
    have q0 : (0 : Int) ≤ (((encs r).length : Nat) : Int) := by omega
    have t1 : decide ((((encs r).length : Nat) : Int) < (S.size : Int)) = false := decide_eq_false (by omega)
    have q1 : (((encs r).length : Nat) : Int) ≤ (S.size : Int) := by omega
    clear hd0 hrr
    generalize (encs r).length = n at *
    go_wp2_with fail
    go_quiet (fail)
    go_wp2_with fail
    go_ret2
    exact ⟨rfl, below_drew hbr.out _⟩
   ·obtain ⟨hp, hdec, hdr⟩ := HD.out _ c t hd0 (fun y hy => HB.out y (by simp at hy ⊢; grind))
    have HNc := Lib.hid (fun W h => HN.out c hc W h)
    have HDx := Lib.hid (HDc.out (S.extract (encs r).length S.size) wr huw)
    rw [hdec] at HDx
    have HZw := Lib.hid hzw
    have q0 : (0 : Int) ≤ (((encs r).length : Nat) : Int) := by omega
    have q1 : (((encs r).length : Nat) : Int) ≤ (S.size : Int) := by omega
    have t1 : decide ((((encs r).length : Nat) : Int) < (S.size : Int)) = true := decide_eq_true (by omega)
    have X1 := Lib.hid x1
    have X2 := Lib.hid x2
    clear hdec hdr hd0 hrr hzw huw HDr HXT x1 x2
    generalize (encs r).length = n at *
    generalize (Lib.encodeRune (c : Int)).length = kx at *
    go_wp2_with fail
    refine HDx.out.mono ?_
    rintro e w1 ⟨rfl, hb1⟩
    have HB1 := Lib.hid (below_then hbr.out hb1)
    have HVw := Lib.hid (HNc.out w1 (HZw.out.next hb1))
    unfold ValN at HVw
    clear hb1 HDx
    go_wp2_with fail
    refine HVw.out.mono ?_
    rintro e w2 ⟨v, rfl, hb2⟩
    have HB2 := Lib.hid (below_then HB1.out hb2)
    clear hb2 HVw
    have x1 := X1.out
    have x2 := X2.out
    go_wp2_with fail
    go_quiet (fail)
    go_wp2_with fail
    go_ret2
    exact ⟨rfl, below_drew HB2.out _⟩
end Go.Proofs.YtoemghiejfkpbaaGreatDoor
/- Contract of pattern.read at a text that was written. -/
namespace Go.Proofs.YtoemghiejfkpbaaGreatDoor
open Go Go.RowKit
set_option linter.unusedVariables false
def dtC (y : Int) (m : Nat) (d : Int) (l : List (Bool × List UInt8)) : Array Value :=
 #[.int .i64 (if cntK 1 l = 0 then 0 else y), .int .i64 (if cntK 2 l + cntK 4 l = 0 then 0 else (m : Int) + 1), .int .i64 (if cntK 3 l = 0 then 0 else d + 1)]
theorem cnt_item (l : List (Bool × List UInt8)) (s : List UInt8) (k i : Nat) (hk : (kdw s).1 = k) : cntK i (l ++ [(true, s)]) = cntK i l + (if k = i then 1 else 0) := by
 rw [cnt_snoc, hk]
 by_cases h : k = i
 ·simp [h]
 ·simp [h]
theorem dtC_text (y : Int) (m : Nat) (d : Int) (l : List (Bool × List UInt8)) (s : List UInt8) : dtC y m d (l ++ [(false, s)]) = dtC y m d l := by
 have hc : ∀ i, cntK i (l ++ [(false, s)]) = cntK i l := fun i => by rw [cnt_snoc]; simp
 unfold dtC
 rw [hc 1, hc 2, hc 3, hc 4]
theorem dtC_1 (y : Int) (m : Nat) (d wk : Int) (l : List (Bool × List UInt8)) (s : List UInt8) (hk : (kdw s).1 = 1) : (dtC y m d l).setIfInBounds 0 (.int .i64 (valX 1 y m d wk)) = dtC y m d (l ++ [(true, s)]) := by
 unfold dtC
 rw [cnt_item l s 1 1 hk, cnt_item l s 1 2 hk, cnt_item l s 1 3 hk, cnt_item l s 1 4 hk]
 simp [valX]
theorem dtC_2 (y : Int) (m : Nat) (d wk : Int) (l : List (Bool × List UInt8)) (s : List UInt8) (hk : (kdw s).1 = 2) : (dtC y m d l).setIfInBounds 1 (.int .i64 (valX 2 y m d wk)) = dtC y m d (l ++ [(true, s)]) := by
 unfold dtC
 rw [cnt_item l s 2 1 hk, cnt_item l s 2 2 hk, cnt_item l s 2 3 hk, cnt_item l s 2 4 hk]
 simp [valX]
theorem dtC_3 (y : Int) (m : Nat) (d wk : Int) (l : List (Bool × List UInt8)) (s : List UInt8) (hk : (kdw s).1 = 3) : (dtC y m d l).setIfInBounds 2 (.int .i64 (valX 3 y m d wk)) = dtC y m d (l ++ [(true, s)]) := by
 unfold dtC
 rw [cnt_item l s 3 1 hk, cnt_item l s 3 2 hk, cnt_item l s 3 3 hk, cnt_item l s 3 4 hk]
 simp [valX]
theorem dtC_4 (y : Int) (m : Nat) (d : Int) (l : List (Bool × List UInt8)) (s : List UInt8) (hk : (kdw s).1 = 4) : (dtC y m d l).setIfInBounds 1 (.int .i64 ((m : Int) + 1)) = dtC y m d (l ++ [(true, s)]) := by
 unfold dtC
 rw [cnt_item l s 4 1 hk, cnt_item l s 4 2 hk, cnt_item l s 4 3 hk, cnt_item l s 4 4 hk]
 simp
theorem dtC_5 (y : Int) (m : Nat) (d : Int) (l : List (Bool × List UInt8)) (s : List UInt8) (hk : (kdw s).1 = 5) : dtC y m d (l ++ [(true, s)]) = dtC y m d l := by
 unfold dtC
 rw [cnt_item l s 5 1 hk, cnt_item l s 5 2 hk, cnt_item l s 5 3 hk, cnt_item l s 5 4 hk]
 simp
theorem dtC_end {ps : List (Bool × List UInt8)} (ok : FullOk ps) (y : Int) (m : Nat) (d : Int) : dtC y m d ps = #[.int .i64 y, .int .i64 ((m : Int) + 1), .int .i64 (d + 1)] := by
 have h1 := ok.yr
 have h2 := ok.mo
 have h3 := ok.dy
 unfold dtC
 rw [if_neg (by omega), if_neg (by omega), if_neg (by omega)]
structure RTxOk (ps : List (Bool × List UInt8)) (X : Bool × List UInt8 → List Nat) (sc : Nat) (mn : ByteArray) (y : Int) (m : Nat) (d wk : Int) : Prop where
 full : FullOk ps
 bmp : ∀ p ∈ ps, ∀ x ∈ X p, Bmp x
 len : (ps.flatMap X).length ≤ 2000
 txt : ∀ p ∈ ps, p.1 = false → encs (X p) = p.2
 nm : ∀ p ∈ ps, p.1 = true → (kdw p.2).1 = 4 → encs (X p) = mn.data.toList
 num : ∀ p ∈ ps, p.1 = true → (kdw p.2).1 ≠ 4 → NumOk sc (valX (kdw p.2).1 y m d wk) (X p) ∧ ∀ x ∈ X p, IsV sc x
 sep : ∀ p ∈ ps, p.1 = false → ∀ c t, p.2 = c :: t → c.toNat ∈ sepL → ∃ t', X p = c.toNat :: t'
theorem cut_text (a b : List UInt8) : Lib.hasPrefix (a ++ b) a = true ∧ Lib.trimPrefix (a ++ b) a = b := by
 have h : Lib.hasPrefix (a ++ b) a = true := by unfold Lib.hasPrefix; rw [List.isPrefixOf_iff_prefix]; exact ⟨b, rfl⟩
 refine ⟨h, ?_⟩
 unfold Lib.trimPrefix
 rw [if_pos h, List.drop_left]
theorem RTxOk.next {ps : List (Bool × List UInt8)} {X : Bool × List UInt8 → List Nat} {sc : Nat} {mn : ByteArray} {y : Int} {m : Nat} {d wk : Int} (ok : RTxOk ps X sc mn y m d wk) (j : Nat) (p : Bool × List UInt8) (hp : ps[j]? = some p) (h1 : p.1 = true) :
  (ps.drop (j + 1)).flatMap X = [] ∨ ∃ c t, (ps.drop (j + 1)).flatMap X = c :: t ∧ c ∈ sepL := by
 cases hq : ps[j + 1]? with
 | none =>
  left
  rw [List.drop_eq_nil_of_le (by rw [List.getElem?_eq_none_iff] at hq; omega)]
  rfl
 | some q =>
  right
  obtain ⟨a1, h, a2⟩ := ok.full.adj j p q hp hq h1
  obtain ⟨qt, qs⟩ := q
  dsimp only at a1 h a2
  subst a1
  cases qs with
  | nil => simp [str_size] at h
  | cons c t =>
   have e0 : (str (c :: t))[0] = c := by rw [str_get]; rfl
   rw [e0] at a2
   obtain ⟨t', ht⟩ := ok.sep (false, c :: t) (List.mem_of_getElem? hq) rfl c t rfl a2
   have hlt : j + 1 < ps.length := by
    rcases Nat.lt_or_ge (j + 1) ps.length with h | h
    ·exact h
    ·rw [List.getElem?_eq_none_iff.2 h] at hq; cases hq
   have he : ps.drop (j + 1) = (false, c :: t) :: ps.drop (j + 2) := by
    rw [List.drop_eq_getElem_cons hlt]
    congr 1
    rw [List.getElem?_eq_getElem hlt] at hq
    exact Option.some.inj hq
   rw [he, List.flatMap_cons, ht]
   exact ⟨c.toNat, t' ++ (ps.drop (j + 2)).flatMap X, rfl, a2⟩
end Go.Proofs.YtoemghiejfkpbaaGreatDoor
/- What is written by a pattern, as code points: it can be read; names of months of the catalog are different. -/
namespace Go.Proofs.YtoemghiejfkpbaaGreatDoor
open Go Go.RowKit
set_option linter.unusedVariables false
def cpX (mn : ByteArray) (sc : Nat) (y : Int) (m : Nat) (d wk : Int) (p : Bool × List UInt8) : List Nat :=
 if p.1 = false then p.2.map UInt8.toNat else if (kdw p.2).1 = 4 then mn.data.toList.map UInt8.toNat else (ntR sc (kdw p.2).2 (valX (kdw p.2).1 y m d wk)).getD []
theorem fold_vals (sc : Nat) : ∀ (rs : List Nat) (t l d : Int) (R : Int × Int × Int), rs.foldl (lenF sc) (some (t, l, d)) = some R → ∀ x ∈ rs, ∃ v, valR sc x = some v
 | [], _, _, _, _, _, x, hx => by cases hx
 | c :: rs, t, l, d, R, h, x, hx => by
  obtain ⟨v, hv, _, h2⟩ := len_step sc c rs t l d R h
  rcases List.mem_cons.1 hx with rfl | hx
  ·exact ⟨v, hv⟩
  ·obtain ⟨t', l', d'⟩ := lenS sc t l d v
   exact fold_vals sc rs _ _ _ R h2 x hx
theorem num_vals (sc : Nat) (n : Int) (r : List Nat) (ok : NumOk sc n r) : ∀ x ∈ r, IsV sc x := by
 rcases ok.back with ⟨_, h⟩ | ⟨h9, r', rfl, h⟩
 ·obtain ⟨_, t, l, d, hf, _⟩ := lenR_fold sc r n h
  exact fun x hx => .inl (fold_vals sc r 0 0 0 _ hf x hx)
 ·obtain ⟨_, t, l, d, hf, _⟩ := lenR_fold sc r' (-n) h
  intro x hx
  rcases List.mem_cons.1 hx with rfl | hx
  ·exact .inr ⟨h9, rfl⟩
  ·exact .inl (fold_vals sc r' 0 0 0 _ hf x hx)
theorem ascii_bmp (l : List UInt8) (h : ∀ b ∈ l, b.toNat < 128) : ∀ x ∈ l.map UInt8.toNat, Bmp x := fun x hx => by
 obtain ⟨b, hb, rfl⟩ := List.mem_map.1 hx
 have := h b hb
 exact .inl (by omega)
theorem rt_ok (ps : List (Bool × List UInt8)) (mn : ByteArray) (sc : Nat) (hs : sc < 13) (y : Int) (m : Nat) (d wk : Int) (full : FullOk ps) (h20 : ps.length ≤ 20) (hsm : ∀ p ∈ ps, p.2.length ≤ 100) (has : ∀ p ∈ ps, p.1 = false → ∀ b ∈ p.2, b.toNat < 128)
  (hal : ∀ b ∈ mn.data.toList, 97 ≤ b.toNat ∧ b.toNat ≤ 122) (hmn : mn.size ≤ 12) (hv : ∀ k, -20000 ≤ valX k y m d wk ∧ valX k y m d wk ≤ 20000) (hall : ∀ p ∈ ps, partO mn sc y m d wk p ≠ none) :
  RTxOk ps (cpX mn sc y m d wk) sc mn y m d wk ∧ ∀ p ∈ ps, encs (cpX mn sc y m d wk p) = (partO mn sc y m d wk p).getD [] := by
 have hal2 : ∀ b ∈ mn.data.toList, b.toNat < 128 := fun b hb => by have := hal b hb; omega
 have hnum : ∀ p ∈ ps, p.1 = true → (kdw p.2).1 ≠ 4 → NumOk sc (valX (kdw p.2).1 y m d wk) (cpX mn sc y m d wk p) ∧ (partO mn sc y m d wk p).getD [] = encs (cpX mn sc y m d wk p) := fun p hp h1 h4 => by
  have ha := hall p hp
  obtain ⟨k, wd, hk⟩ := full.it p hp h1
  have hk5 := itemW_pos _ k wd hk
  have hkd := kdw_of _ k wd hk
  unfold partO at ha ⊢
  unfold cpX
  rw [if_neg (by rw [h1]; simp), if_neg h4] at ha ⊢
  rw [if_neg (by rw [h1]; simp), if_neg h4]
  rw [hkd] at ha ⊢
  dsimp only at ha ⊢
  cases hr : ntR sc wd (valX k y m d wk) with
  | none => rw [hr] at ha; simp at ha
  | some r =>
   simp only [Option.map_some, Option.getD_some]
   exact ⟨nt_ok sc wd hs hk5.2.2.1 _ (hv k).1 (hv k).2 r hr, trivial⟩
 have htx : ∀ p ∈ ps, p.1 = false → cpX mn sc y m d wk p = p.2.map UInt8.toNat := fun p hp h => by unfold cpX; rw [if_pos h]
 have hnx : ∀ p ∈ ps, p.1 = true → (kdw p.2).1 = 4 → cpX mn sc y m d wk p = mn.data.toList.map UInt8.toNat := fun p hp h h4 => by
  unfold cpX; rw [if_neg (by rw [h]; simp), if_pos h4]
 have hbmp : ∀ p ∈ ps, (∀ x ∈ cpX mn sc y m d wk p, Bmp x) ∧ (cpX mn sc y m d wk p).length ≤ 100 := fun p hp => by
  cases h1 : p.1 with
  | false =>
   rw [htx p hp h1]
   exact ⟨ascii_bmp _ (has p hp h1), by rw [List.length_map]; exact hsm p hp⟩
  | true =>
   by_cases h4 : (kdw p.2).1 = 4
   ·rw [hnx p hp h1 h4]
    refine ⟨ascii_bmp _ hal2, ?_⟩
    rw [List.length_map]
    have : mn.data.toList.length = mn.size := Array.length_toList
    omega
   ·have := (hnum p hp h1 h4).1
    exact ⟨this.bmp, this.len⟩
 refine ⟨⟨full, fun p hp => (hbmp p hp).1, ?_, fun p hp h => ?_, fun p hp h h4 => ?_, fun p hp h h4 => ⟨(hnum p hp h h4).1, num_vals _ _ _ (hnum p hp h h4).1⟩, fun p hp h c t e hc => ?_⟩, fun p hp => ?_⟩
 ·have key : ∀ l : List (Bool × List UInt8), (∀ p ∈ l, (cpX mn sc y m d wk p).length ≤ 100) → (l.flatMap (cpX mn sc y m d wk)).length ≤ 100 * l.length := by
   intro l
   induction l with
   | nil => intro _; simp
   | cons a l ih =>
    intro h
    have h1 := h a (List.mem_cons_self ..)
    have h2 := ih fun x hx => h x (List.mem_cons_of_mem _ hx)
    rw [List.flatMap_cons, List.length_append, List.length_cons, Nat.mul_add]
    omega
  have := key ps fun p hp => (hbmp p hp).2
  omega
 ·rw [htx p hp h, encs_ascii _ (has p hp h)]
 ·rw [hnx p hp h h4, encs_ascii _ hal2]
 ·rw [htx p hp h, e]
  exact ⟨t.map UInt8.toNat, rfl⟩
 ·cases h1 : p.1 with
  | false =>
   rw [htx p hp h1, encs_ascii _ (has p hp h1)]
   unfold partO
   rw [if_pos h1]
   rfl
  | true =>
   by_cases h4 : (kdw p.2).1 = 4
   ·rw [hnx p hp h1 h4, encs_ascii _ hal2]
    unfold partO
    rw [if_neg (by rw [h1]; simp), if_pos h4]
    rfl
   ·exact (hnum p hp h1 h4).2.symm
theorem flat_enc (ps : List (Bool × List UInt8)) (X : Bool × List UInt8 → List Nat) (G : Bool × List UInt8 → List UInt8) (h : ∀ p ∈ ps, encs (X p) = G p) : encs (ps.flatMap X) = ps.flatMap G := by
 induction ps with
 | nil => rfl
 | cons a l ih =>
  rw [List.flatMap_cons, List.flatMap_cons, encs_app, h a (List.mem_cons_self ..), ih fun x hx => h x (List.mem_cons_of_mem _ hx)]
set_option maxRecDepth 1000000 in
theorem names_apart (r : CatRow) (hr : r ∈ catR) (i m : Nat) (hi : i < r.t.mo.length) (hm : m < r.t.mo.length) (hne : i ≠ m) : (r.t.mo.getD i mth0).nm ≠ (r.t.mo.getD m mth0).nm := by
 have h : catR.all (fun r => (List.range r.t.mo.length).all fun i => (List.range r.t.mo.length).all fun j => i == j || !((r.t.mo.getD i mth0).nm.data.toList == (r.t.mo.getD j mth0).nm.data.toList)) = true := by decide +kernel
 have h1 := List.all_eq_true.1 (List.all_eq_true.1 (List.all_eq_true.1 h r hr) i (List.mem_range.2 hi)) m (List.mem_range.2 hm)
 intro e
 rw [e] at h1
 simp [hne] at h1
end Go.Proofs.YtoemghiejfkpbaaGreatDoor
/- The walk of pattern.read at a text that was written. -/
namespace Go.Proofs.YtoemghiejfkpbaaGreatDoor
open Go Go.RowKit
set_option linter.unusedVariables false
theorem tl_inj9 {a b : ByteArray} (h : a.toList = b.toList) : a = b := by
 have h2 : (str a.data.toList).toList = (str b.data.toList).toList := by rw [pstr_own, pstr_own]; exact h
 rw [str_toList, str_toList] at h2
 rw [← pstr_own a, ← pstr_own b, h2]
set_option maxHeartbeats 8000000 in
set_option maxRecDepth 100000 in
theorem pread_any (ps : List (Bool × List UInt8)) (X : Bool × List UInt8 → List Nat) (c : Cal) (sc : Nat) (hs : sc < 13) (y : Int) (m : Nat) (d wk : Int) (gp cp : Nat) (w : World) (hv : CalV w c) (hgp : gp < w.heap.size) (hc : ∀ i x, (ps.flatMap partV)[i]? = some x → w.cell? ⟨gp, i, none⟩ = some x)
  (mn : ByteArray) (hmn : mn = (c.mo.getD m mth0).nm) (ok : RTxOk ps X sc mn y m d wk) (hm : m < c.mo.length) (hdis : ∀ i, i < c.mo.length → i ≠ m → (c.mo.getD i mth0).nm ≠ mn) (hal : ∀ b ∈ mn.data.toList, 97 ≤ b.toNat ∧ b.toNat ≤ 122)
  (hz : Zer w) (hu : U8 w) (hy1 : -20000 ≤ y) (hy2 : y ≤ 20000) (hd1 : 0 ≤ d) (hd2 : d ≤ 400) (hw1 : 0 ≤ wk) (hw2 : wk ≤ 6) :
  Calls Tryz.prog 14 #[.slice (some ⟨gp, 0, none⟩) ps.length cp, c.val, .int .i64 (sc : Int), .string (str (encs (ps.flatMap X)))] w fun e w' => e = .returned (.tuple #[.agg #[.int .i64 y, .int .i64 ((m : Int) + 1), .int .i64 (d + 1)], .bool true]) ∧ Below w.heap.size w w' := by
 have HB0 := Lib.hid (below_alloc1 w (Obj.cells c.cells 43))
 have HX0 := Lib.hid (Box.new w 43 c.cells)
 have HC0 := Lib.hid (hv.next HB0.out)
 have HOK := Lib.hid ok
 have hl40 := ok.full.len
 have HT := Lib.hid (show Zer w ∧ U8 w from ⟨hz, hu⟩)
 have HDis := Lib.hid hdis
 have HAl := Lib.hid hal
 have HVb : Hid (∀ k, -20000 ≤ valX k y m d wk ∧ valX k y m d wk ≤ 20000) := fun k => by
  have := hv.ok.mo.n2
  unfold valX
  repeat' split
  all_goals omega
 have hmo := hv.ok.mo.n2
 have hnm : ∀ i, i < c.mo.length → ((c.mo.getD i mth0).nm).size ≤ 12 := fun i hi => (hv.ok.mo.each i hi).nm.2.1
 have HNm := Lib.hid hnm
 have HMn := Lib.hid hmn
 have hmn12 : mn.size ≤ 12 := by rw [hmn]; exact hnm m hm
 have HCs := Lib.hid hc
 clear hmn hv hc ok hdis hal hz hu hy1 hy2 hd1 hd2 hw1 hw2 hnm
 go_enter Tryz.func14, Tryz.ntmps14
 go_upto_region 1 with fail
 generalize hg : w.heap.size = g at *
 have HG := Lib.hid hg
 have hX1 := HX0.out.alloc (Obj.cells #[.int .i64 0, .int .i64 0, .int .i64 0] 48)
 have hR1 := Box.new (w.alloc (Obj.cells c.cells 43)) 48 #[.int .i64 0, .int .i64 0, .int .i64 0]
 have hba := below_alloc1 (w.alloc (Obj.cells c.cells 43)) (Obj.cells #[.int .i64 0, .int .i64 0, .int .i64 0] 48)
 have hB1 : Below g w ((w.alloc (Obj.cells c.cells 43)).alloc (Obj.cells #[.int .i64 0, .int .i64 0, .int .i64 0] 48)) := HB0.out.trans (hba.mono (by have := HX0.out.lt; omega))
 have hC1 := HC0.out.next hba
 have hlg := HX0.out.lt
 have h8 : (w.alloc (Obj.cells c.cells 43)).heap.size = g + 1 := by rw [World.size_alloc]; omega
 have HX1 := Lib.hid hX1
 have HR1 := Lib.hid hR1
 have HB1 := Lib.hid hB1
 have HC1 := Lib.hid hC1
 clear hX1 hR1 hB1 hC1 hba HX0 HB0 HC0 hg
 generalize (w.alloc (Obj.cells c.cells 43)).alloc (Obj.cells #[.int .i64 0, .int .i64 0, .int .i64 0] 48) = w3 at *
 generalize (w.alloc (Obj.cells c.cells 43)).heap.size = g8 at *
 subst h8
 obtain ⟨bm, om, hA, hbl, hcs⟩ := HC1.out.r.r1.open_ (flat_ne mthF_len (by omega) c.mo (by omega))
 have hbl8 := hbl
 go_upto_region 2 with fail
 have HBd := Lib.hid (Box.new w3 48 #[.int .i64 0, .int .i64 0, .int .i64 0])
 have HBw := Lib.hid (below_alloc1 w3 (Obj.cells #[.int .i64 0, .int .i64 0, .int .i64 0] 48))
 generalize w3.alloc (Obj.cells #[.int .i64 0, .int .i64 0, .int .i64 0] 48) = w4 at *
 obtain ⟨gd, hgd⟩ : ∃ gd, gd = w3.heap.size := ⟨_, rfl⟩
 have h8d : (g + 1) < gd := by rw [hgd]; exact HR1.out.lt
 have hgd2 : g < gd := by rw [hgd]; exact HX1.out.lt
 have hgs := HB1.out.size
 have hgq : gp < gd := by have := HG.out; omega
 rw [← hgd] at HBd HBw hbl
 rw [← hgd]
 have x3 : ∀ W, Below gd w3 W → W.cell? ⟨g, 3, none⟩ = some (.slice (some ⟨bm, om, none⟩) c.mo.length c.c1) := fun W hb => by rw [← hA]; exact (ccells (HX1.out.belowB hb hgd2)).2.2.2.1
 have HFx := Lib.hid x3
 have HMo : Hid (∀ W, Below gd w3 W → ∀ i, i < c.mo.length → W.cell? ⟨bm, om + i * 3, none⟩ = some (.string (c.mo.getD i mth0).nm) ∧ W.cell? ⟨bm, om + i * 3 + 1, none⟩ = some (.int .i64 (c.mo.getD i mth0).sh) ∧ W.cell? ⟨bm, om + i * 3 + 2, none⟩ = some (.int .i64 (c.mo.getD i mth0).lo)) := fun W hb i hi => by
  have e0 := flat_cell mthF_len mth0 hcs i 0 hi (by omega) _ rfl
  have e1 := flat_cell mthF_len mth0 hcs i 1 hi (by omega) _ rfl
  have e2 := flat_cell mthF_len mth0 hcs i 2 hi (by omega) _ rfl
  rw [Nat.add_zero] at e0
  exact ⟨(hb.cell (p := ⟨bm, om + i * 3, none⟩) hbl).trans e0, (hb.cell (p := ⟨bm, om + i * 3 + 1, none⟩) hbl).trans e1, (hb.cell (p := ⟨bm, om + i * 3 + 2, none⟩) hbl).trans e2⟩
 have HCp : Hid (∀ W, Below gd w3 W → ∀ i x, (ps.flatMap partV)[i]? = some x → W.cell? ⟨gp, i, none⟩ = some x) := fun W hb i x hx => (hb.cell (p := ⟨gp, i, none⟩) hgq).trans ((HB1.out.cell (p := ⟨gp, i, none⟩) (by have := HG.out; show gp < g; omega)).trans (HCs.out i x hx))
 have HBg : Hid (∀ W, Below gd w3 W → Below g w W) := fun W hb => HB1.out.trans (hb.mono (by omega))
 have HR8 : Hid (∀ W, Below gd w3 W → Box W (g + 1) 48 #[.int .i64 0, .int .i64 0, .int .i64 0]) := fun W hb => HR1.out.belowB hb h8d
 have HZU : Hid (∀ W, Below gd w3 W → Zer W ∧ U8 W) := fun W hb => by
  have h2 := HBg.out W hb
  rw [← HG.out] at h2
  exact ⟨HT.out.1.next h2, HT.out.2.next h2⟩
 clear x3 hA hcs hbl hbl8 HC1 HX1 HCs hlg HR1 hgd
 go_wp2_with fail
 go_loopw [3, 12, 13, 14, 15, 16, 17, 18, 19, 20, 21, 24] (fun sv _ _ _ _ _ _ _ _ _ _ iv wr => ∃ j : Nat, j ≤ ps.length ∧ iv = .int .i64 (j : Int) ∧ sv = .string (str (encs ((ps.drop j).flatMap X))) ∧ Hid (Box wr gd 48 (dtC y m d (ps.take j))) ∧ Hid (Below gd w3 wr)) (fun _ _ _ _ _ _ _ _ _ _ _ iv _ => ps.length - (intOf iv).toNat)
 case atStart => exact ⟨0, by omega, rfl, rfl, HBd, HBw⟩
 case round =>
  obtain ⟨j, hj, rfl, rfl, hx, hbr⟩ := hrel
  by_cases hlt : j < ps.length
  ·have t1 : decide ((j : Int) < (ps.length : Int)) = true := decide_eq_true (by omega)
   obtain ⟨p, hpe⟩ : ∃ p, ps[j]? = some p := ⟨_, List.getElem?_eq_getElem hlt⟩
   have hmem : p ∈ ps := List.mem_of_getElem? hpe
   obtain ⟨z0, z1⟩ := flat2_at (HCp.out wr hbr.out) j p hpe
   have htk : ps.take (j + 1) = ps.take j ++ [p] := by rw [List.take_add_one, hpe]; rfl
   have hdr : (ps.drop j).flatMap X = X p ++ (ps.drop (j + 1)).flatMap X := by
    rw [List.drop_eq_getElem_cons hlt, List.flatMap_cons]
    rw [List.getElem?_eq_getElem hlt] at hpe
    rw [Option.some.inj hpe]
   have hbL : ∀ x ∈ (ps.drop (j + 1)).flatMap X, Bmp x := fun x hx => by
    obtain ⟨q, hq, hxq⟩ := List.mem_flatMap.1 hx
    exact HOK.out.bmp q (List.mem_of_mem_drop hq) x hxq
   have hlen2 : (X p ++ (ps.drop (j + 1)).flatMap X).length ≤ 2000 := by
    have h1 := HOK.out.len
    have h2 : (ps.flatMap X).length = ((ps.take j).flatMap X).length + ((ps.drop j).flatMap X).length := by
     rw [← List.length_append, ← List.flatMap_append, List.take_append_drop]
    rw [← hdr]
    omega
   have hsz : (str (encs (X p ++ (ps.drop (j + 1)).flatMap X))).size ≤ 6000 := by
    have := encs_small (X p ++ (ps.drop (j + 1)).flatMap X) (fun x hx => (List.mem_append.1 hx).elim (HOK.out.bmp p hmem x) (hbL x))
    omega
   rw [hdr]
   have HNxt := Lib.hid (HOK.out.next j p hpe)
   have HTk := Lib.hid htk
   have hxl := hx.out.lt
   have HBm := Lib.hid (HOK.out.bmp p hmem)
   have HBL := Lib.hid hbL
   have HTx := Lib.hid (HOK.out.txt p hmem)
   have HNmp := Lib.hid (HOK.out.nm p hmem)
   have HNum := Lib.hid (HOK.out.num p hmem)
   have HIt := Lib.hid (HOK.out.full.it p hmem)
   have HLen := Lib.hid hlen2
   clear hbL hlen2 hdr htk
   generalize hLd : (ps.drop (j + 1)).flatMap X = L at *
   have HLd := Lib.hid hLd
   clear hLd
   obtain ⟨tt, sx⟩ := p
   dsimp only at z0 z1 HNxt HTx HNmp HNum HIt
   have hb5 := below_alloc1 wr (Obj.cells #[.bool tt, .string (str sx)] 83)
   have HX5 := Lib.hid (hx.out.below hb5)
   have HB5 : Hid (Below gd w3 (wr.alloc (Obj.cells #[.bool tt, .string (str sx)] 83))) := hbr.out.trans (hb5.mono (by omega))
   have HQ5 := Lib.hid (Box.new wr 83 #[.bool tt, .string (str sx)])
   go_upto_region 5 with fail
   clear hb5 z0 z1 hpe hmem hbr hx
   generalize wr.alloc (Obj.cells #[.bool tt, .string (str sx)] 83) = w5 at *
   generalize wr.heap.size = gq at *
   have hgdq : gd ≠ gq := by omega
   have c0 : w5.cell? ⟨gq, 0, none⟩ = some (.bool tt) := HQ5.out.cell 0
   have c1 : w5.cell? ⟨gq, 1, none⟩ = some (.string (str sx)) := HQ5.out.cell 1
   cases tt
   ·have htx := HTx.out rfl
    have HCu := Lib.hid (fun W => strings_CutPrefix (str (encs (X (false, sx) ++ L))) (str sx) W)
    rw [str_data, str_data, encs_app, htx, (cut_text sx (encs L)).1, (cut_text sx (encs L)).2, show (⟨(encs L).toArray⟩ : ByteArray) = str (encs L) from rfl, ← htx, ← encs_app, htx] at HCu
    have HX6 : Hid (Box w5 gd 48 (dtC y m d (ps.take (j + 1)))) := by unfold Hid; rw [HTk.out, dtC_text]; exact HX5.out
    clear HNxt HTx HNmp HNum HIt htx HX5
    generalize str (encs (X (false, sx) ++ L)) = S at *
    go_wp2_with (go_at_call 41; refine Calls.mono (HCu.out _) ?_; rintro e w6 ⟨rfl, hw⟩; subst hw)
    go_roundw
    case rel => exact ⟨j + 1, by omega, by go_num, by rw [HLd.out], HX6, HB5⟩
    case measure => simp [intOf]; omega
   ·obtain ⟨k, wd, hk⟩ := HIt.out rfl
    have HK := Lib.hid (fun W => pkindW_any sx k wd hk W)
    have hkd : kdw sx = (k, wd) := kdw_of sx k wd hk
    have hk5 := itemW_pos sx k wd hk
    have hkd1 : (kdw sx).1 = k := by rw [hkd]
    rw [hkd1] at HNmp HNum
    have HKd := Lib.hid hkd1
    have hsep := HNxt.out rfl
    have HSep := Lib.hid hsep
    clear HNxt HTx HIt hkd hkd1 hk hsep
    by_cases hk4 : k = 4
    ·subst hk4
     have hnm := HNmp.out rfl rfl
     have HNa := Lib.hid (fun W => pname_any (encs (X (true, sx))) (encs L) (by rw [hnm]; exact HAl.out) (fun b t e => by
      rcases HSep.out with h | ⟨cc, t', h, hc⟩
      ·rw [h] at e; cases e
      ·obtain ⟨q1, q2, q3, q4, q5⟩ := sep_in cc hc
       have hw : cc ∈ sepL := hc
       unfold sepL at hw
       simp only [List.mem_cons, List.not_mem_nil, or_false] at hw
       rw [h, show encs (cc :: t') = Lib.encodeRune (cc : Int) ++ encs t' from by simp [encs], enc_one cc (by omega)] at e
       obtain ⟨rfl, _⟩ := List.cons.inj e
       rw [byte_nat cc (by omega)]
       omega) (by
      rw [← encs_app]
      have h1 := encs_small (X (true, sx) ++ L) (fun x hx => (List.mem_append.1 hx).elim (HBm.out x) (HBL.out x))
      have h2 := HLen.out
      rw [str_size] at h1
      omega) W)
     rw [← encs_app, hnm, pstr_own] at HNa
     have HX6 : Hid (∀ W, Box W gd 48 (dtC y m d (ps.take j)) → Box (W.setCell ⟨gd, 1, none⟩ (.int .i64 ((m : Int) + 1))) gd 48 (dtC y m d (ps.take (j + 1)))) := fun W h => by
      rw [HTk.out, ← dtC_4 y m d (ps.take j) sx HKd.out]
      exact h.set_ 1 _
     have e3 := HFx.out w5 HB5.out
     clear HNmp HNum HSep hnm HKd HBm HBL HLen
     generalize str (encs (X (true, sx) ++ L)) = S at *
     go_upto_region 14 with (first
      | (go_at_call 39; refine Calls.mono (HK.out _) ?_; rintro e w6 ⟨rfl, hw⟩; subst hw)
      | (go_at_call 42; refine Calls.mono (HNa.out _) ?_; rintro e w7 ⟨rfl, hb7⟩))
     have HB7 := Lib.hid (HB5.out.trans (hb7.mono (by have := HX5.out.lt; omega)))
     have HX7 := Lib.hid (HX5.out.below hb7)
     have e3 := HFx.out _ HB7.out
     clear hb7 HNa c0 c1 HX5 HB5 HQ5 HK
     go_wp2_with fail
     go_loopw [18, 19, 58] (fun _ _ iv wi => ∃ i : Nat, i ≤ c.mo.length ∧ iv = .int .i64 (i : Int) ∧ Hid (Box wi gd 48 (dtC y m d (ps.take (if m < i then j + 1 else j)))) ∧ Hid (Below gd w3 wi)) (fun _ _ iv _ => c.mo.length - (intOf iv).toNat)
     case atStart => exact ⟨0, by omega, rfl, by rw [if_neg (by omega)]; exact HX7, HB7⟩
     case round =>
      obtain ⟨i, hi, rfl, hxi, hbi⟩ := hrel
      by_cases hil : i < c.mo.length
      ·have t2 : decide ((i : Int) < (c.mo.length : Int)) = true := decide_eq_true (by omega)
       obtain ⟨f0, f1, f2⟩ := HMo.out wr hbi.out i hil
       obtain ⟨M, hM⟩ : ∃ M, M = c.mo.getD i mth0 := ⟨_, rfl⟩
       have hM12 : M.nm.size ≤ 12 := by rw [hM]; exact HNm.out i hil
       rw [← hM] at f0 f1 f2
       have HMm := Lib.hid hM
       clear hM
       have hbb := below_alloc1 wr (Obj.cells #[.string M.nm, .int .i64 M.sh, .int .i64 M.lo] 92)
       have hxil := hxi.out.lt
       have HX8 := Lib.hid (hxi.out.below hbb)
       have HB8 : Hid (Below gd w3 (wr.alloc (Obj.cells #[.string M.nm, .int .i64 M.sh, .int .i64 M.lo] 92))) := hbi.out.trans (hbb.mono (by omega))
       have hb0 : (wr.alloc (Obj.cells #[.string M.nm, .int .i64 M.sh, .int .i64 M.lo] 92)).cell? ⟨wr.heap.size, 0, none⟩ = some (.string M.nm) := (Box.new wr 92 #[.string M.nm, .int .i64 M.sh, .int .i64 M.lo]).cell 0
       go_upto_region 17 with fail
       clear hbb f0 f1 f2 hbi hxi
       generalize wr.alloc (Obj.cells #[.string M.nm, .int .i64 M.sh, .int .i64 M.lo] 92) = w8 at *
       generalize wr.heap.size = gm at *
       by_cases hie : i = m
       ·have hie2 := hie.symm
        subst hie2
        clear hie
        have tq : ((M.nm).toList == mn.toList) = true := by rw [HMm.out, ← HMn.out]; exact beq_self_eq_true _
        have HX9 : Hid (Box (w8.setCell ⟨gd, 1, none⟩ (.int .i64 ((m : Int) + 1))) gd 48 (dtC y m d (ps.take (if m < m + 1 then j + 1 else j)))) := by
         unfold Hid
         rw [if_pos (by omega)]
         exact HX6.out w8 (by have h := HX8.out; rw [if_neg (by omega)] at h; exact h)
        have HB9 : Hid (Below gd w3 (w8.setCell ⟨gd, 1, none⟩ (.int .i64 ((m : Int) + 1)))) := HB8.out.setCell (p := ⟨gd, 1, none⟩) (Nat.le_refl _) _
        have fr : w8.frozen? ⟨gd, 1, none⟩ = false := HX8.out.free 1
        have f1 := HX8.out.cell 1
        unfold dtC at f1
        simp only [List.getElem?_toArray, List.getElem?_cons_succ, List.getElem?_cons_zero] at f1
        clear HX8 HB8
        go_wp2_with fail
        go_roundw
        case rel => exact ⟨m + 1, by omega, by go_num, HX9, HB9⟩
        case measure => simp [intOf]; omega
       ·have tq : ((M.nm).toList == mn.toList) = false := by
         rw [beq_eq_false_iff_ne]
         intro h
         exact HDis.out i hil hie (by rw [← HMm.out]; exact tl_inj9 h)
        have HX9 : Hid (Box w8 gd 48 (dtC y m d (ps.take (if m < i + 1 then j + 1 else j)))) := by
         unfold Hid
         have h := HX8.out
         by_cases h1 : m < i
         ·rw [if_pos (by omega)]; rw [if_pos h1] at h; exact h
         ·rw [if_neg (by omega)]; rw [if_neg h1] at h; exact h
        clear HX8
        go_wp2_with fail
        go_roundw
        case rel => exact ⟨i + 1, by omega, by go_num, HX9, HB8⟩
        case measure => simp [intOf]; omega
      ·have t2 : decide ((i : Int) < (c.mo.length : Int)) = false := decide_eq_false (by omega)
       have HX9 : Hid (Box wr gd 48 (dtC y m d (ps.take (j + 1)))) := by
        unfold Hid
        have h := hxi.out
        rw [if_pos (by omega)] at h
        exact h
       go_wp2_with fail
       go_roundw
       case rel => exact ⟨j + 1, by omega, by go_num, by rw [HLd.out], HX9, hbi⟩
       case measure => simp [intOf]; omega
    ·have t4 : ((k : Int) == 4) = false := by rw [beq_eq_false_iff_ne]; omega
     have hnum := HNum.out rfl hk4
     have hz5 := HZU.out w5 HB5.out
     have HNb := Lib.hid (number_any sc hs (X (true, sx)) L HBm.out HBL.out hnum.2 HSep.out HLen.out w5 hz5.1 hz5.2)
     have HLe : Hid (∀ W, Below gd w3 W → Calls Tryz.prog 44 #[.int .i64 (sc : Int), .string (str (encs (X (true, sx))))] W (LenQ (valX k y m d wk) W)) := fun W hb => lenient_num sc hs _ _ hnum.1 W (HZU.out W hb).1
     unfold LenQ at HLe
     have hv1 := HVb.out k
     have hkc : k = 1 ∨ k = 2 ∨ k = 3 ∨ k = 5 := by omega
     clear HNmp HNum HSep HBm HBL HLen hnum hz5 hk4 hk5
     generalize str (encs (X (true, sx) ++ L)) = S at *
     go_upto_region 21 with (first
      | (go_at_call 39; refine Calls.mono (HK.out _) ?_; rintro e w6 ⟨rfl, hw⟩; subst hw)
      | (go_at_call 43; refine Calls.mono HNb.out ?_; rintro e w7 ⟨rfl, hb7⟩))
     have HB7 := Lib.hid (HB5.out.trans (hb7.mono (by have := HX5.out.lt; omega)))
     have HX7 := Lib.hid (HX5.out.below hb7)
     have HLw := Lib.hid (HLe.out _ HB7.out)
     clear hb7 HNb HLe c0 c1 HX5 HB5 HQ5 HK
     generalize str (encs (X (true, sx))) = SX at *
     go_upto_region 22 with (go_at_call 44; refine Calls.mono HLw.out ?_; rintro e w8 ⟨rfl, hb8⟩)
     have HB8 := Lib.hid (HB7.out.trans (hb8.mono (by have := HX7.out.lt; omega)))
     have HX8 := Lib.hid (HX7.out.below hb8)
     clear hb8 HLw HX7 HB7
     rcases hkc with rfl | rfl | rfl | rfl
     ·have HX9 : Hid (Box (w8.setCell ⟨gd, 0, none⟩ (.int .i64 (valX 1 y m d wk))) gd 48 (dtC y m d (ps.take (j + 1)))) := by
       unfold Hid
       rw [HTk.out, ← dtC_1 y m d wk (ps.take j) sx HKd.out]
       exact HX8.out.set_ 0 _
      have HB9 : Hid (Below gd w3 (w8.setCell ⟨gd, 0, none⟩ (.int .i64 (valX 1 y m d wk)))) := HB8.out.setCell (p := ⟨gd, 0, none⟩) (Nat.le_refl _) _
      have fr : w8.frozen? ⟨gd, 0, none⟩ = false := HX8.out.free 0
      have f1 := HX8.out.cell 0
      unfold dtC at f1
      simp at f1
      generalize valX 1 y m d wk = v at *
      clear HX8 HB8
      go_wp2_with fail
      go_roundw
      case rel => exact ⟨j + 1, by omega, by go_num, by rw [HLd.out], HX9, HB9⟩
      case measure => simp [intOf]; omega
     ·have HX9 : Hid (Box (w8.setCell ⟨gd, 1, none⟩ (.int .i64 (valX 2 y m d wk))) gd 48 (dtC y m d (ps.take (j + 1)))) := by
       unfold Hid
       rw [HTk.out, ← dtC_2 y m d wk (ps.take j) sx HKd.out]
       exact HX8.out.set_ 1 _
      have HB9 : Hid (Below gd w3 (w8.setCell ⟨gd, 1, none⟩ (.int .i64 (valX 2 y m d wk)))) := HB8.out.setCell (p := ⟨gd, 1, none⟩) (Nat.le_refl _) _
      have fr : w8.frozen? ⟨gd, 1, none⟩ = false := HX8.out.free 1
      have f1 := HX8.out.cell 1
      unfold dtC at f1
      simp at f1
      generalize valX 2 y m d wk = v at *
      clear HX8 HB8
      go_wp2_with fail
      go_roundw
      case rel => exact ⟨j + 1, by omega, by go_num, by rw [HLd.out], HX9, HB9⟩
      case measure => simp [intOf]; omega
     ·have HX9 : Hid (Box (w8.setCell ⟨gd, 2, none⟩ (.int .i64 (valX 3 y m d wk))) gd 48 (dtC y m d (ps.take (j + 1)))) := by
       unfold Hid
       rw [HTk.out, ← dtC_3 y m d wk (ps.take j) sx HKd.out]
       exact HX8.out.set_ 2 _
      have HB9 : Hid (Below gd w3 (w8.setCell ⟨gd, 2, none⟩ (.int .i64 (valX 3 y m d wk)))) := HB8.out.setCell (p := ⟨gd, 2, none⟩) (Nat.le_refl _) _
      have fr : w8.frozen? ⟨gd, 2, none⟩ = false := HX8.out.free 2
      have f1 := HX8.out.cell 2
      unfold dtC at f1
      simp at f1
      generalize valX 3 y m d wk = v at *
      clear HX8 HB8
      go_wp2_with fail
      go_roundw
      case rel => exact ⟨j + 1, by omega, by go_num, by rw [HLd.out], HX9, HB9⟩
      case measure => simp [intOf]; omega
     ·have HX9 : Hid (Box w8 gd 48 (dtC y m d (ps.take (j + 1)))) := by
       unfold Hid
       rw [HTk.out, dtC_5 y m d (ps.take j) sx HKd.out]
       exact HX8.out
      generalize valX 5 y m d wk = v at *
      clear HX8
      go_wp2_with fail
      go_roundw
      case rel => exact ⟨j + 1, by omega, by go_num, by rw [HLd.out], HX9, HB8⟩
      case measure => simp [intOf]; omega
  ·have t1 : decide ((j : Int) < (ps.length : Int)) = false := decide_eq_false (by omega)
   have hjj : ps.take j = ps := List.take_of_length_le (by omega)
   have hdd : (ps.drop j).flatMap X = [] := by rw [List.drop_eq_nil_of_le (by omega)]; rfl
   have hx := hx.out
   rw [hjj, dtC_end HOK.out.full] at hx
   rw [hdd, show str (encs []) = ⟨#[]⟩ from rfl]
   have b0 := hx.cell 0
   have b1 := hx.cell 1
   have b2 := hx.cell 2
   simp only [List.getElem?_toArray, List.getElem?_cons_succ, List.getElem?_cons_zero] at b0 b1 b2
   have hr8 := HR8.out wr hbr.out
   have r0 := hr8.cell 0
   have r1 := hr8.cell 1
   have r2 := hr8.cell 2
   simp only [List.getElem?_toArray, List.getElem?_cons_succ, List.getElem?_cons_zero] at r0 r1 r2
   have rf : ∀ i, wr.frozen? ⟨(g + 1), i, none⟩ = false := fun i => hr8.free i
   have hbW := HBg.out wr hbr.out
   have HBW := Lib.hid hbW
   have HR9 := Lib.hid hr8
   clear hr8 hbW hdd hx
   go_wp2_with fail
   have hx6 : Box (((wr.setCell ⟨g + 1, 0, none⟩ (.int .i64 y)).setCell ⟨g + 1, 1, none⟩ (.int .i64 ((m : Int) + 1))).setCell ⟨g + 1, 2, none⟩ (.int .i64 (d + 1))) (g + 1) 48 #[.int .i64 y, .int .i64 ((m : Int) + 1), .int .i64 (d + 1)] := ((HR9.out.set_ 0 _).set_ 1 _).set_ 2 _
   have hb6 : Below g w (((wr.setCell ⟨g + 1, 0, none⟩ (.int .i64 y)).setCell ⟨g + 1, 1, none⟩ (.int .i64 ((m : Int) + 1))).setCell ⟨g + 1, 2, none⟩ (.int .i64 (d + 1))) := ((HBW.out.setCell (p := ⟨g + 1, 0, none⟩) (Nat.le_succ _) _).setCell (p := ⟨g + 1, 1, none⟩) (Nat.le_succ _) _).setCell (p := ⟨g + 1, 2, none⟩) (Nat.le_succ _) _
   generalize (((wr.setCell ⟨g + 1, 0, none⟩ (.int .i64 y)).setCell ⟨g + 1, 1, none⟩ (.int .i64 ((m : Int) + 1))).setCell ⟨g + 1, 2, none⟩ (.int .i64 (d + 1))) = w6 at *
   have z0 := hx6.cell 0
   have z1 := hx6.cell 1
   have z2 := hx6.cell 2
   simp at z0 z1 z2
   refine bodyPost_ret (v := .tuple #[.agg #[.int .i64 y, .int .i64 ((m : Int) + 1), .int .i64 (d + 1)], .bool true]) (by simp [results, Tryz.results14, go_sem, z0, z1, z2]) rfl ?_
   exact ⟨rfl, by rw [HG.out]; exact hb6⟩
end Go.Proofs.YtoemghiejfkpbaaGreatDoor
/- Contracts of pattern.open, pattern.Write at patterns with text behind the last item: prints of wip/gen/pb10.py. -/
namespace Go.Proofs.YtoemghiejfkpbaaGreatDoor
open Go Go.RowKit
set_option linter.unusedVariables false
structure PatOk (R : List (List UInt8 × List UInt8)) (tl : List UInt8) : Prop where
 r : ∀ x ∈ R, PrOkW x
 t1 : ∀ b ∈ tl, b ≠ 123
 t2 : ∀ b ∈ tl, b ≠ 125
 len : (patE R tl).length ≤ 60
 n : R.length ≤ 20
 ne : partE R tl ≠ []
 full : FullOk (partE R tl)
 small : ∀ p ∈ partE R tl, p.2.length ≤ 100
def POpenW (R : List (List UInt8 × List UInt8)) (tl : List UInt8) (r : CatRow) (w : World) (e : Ending) (w' : World) : Prop :=
 ∃ (v : Value) (c : Cal), e = .returned (.tuple #[v, c.val, .int .i64 0]) ∧ CalOf r c ∧ CalV w' c ∧ w'.ownsRow w.heap.size 83 2 v (partE R tl).length ((partE R tl).flatMap partV) ∧ Below w.heap.size w w'
set_option maxHeartbeats 4000000 in
set_option maxRecDepth 100000 in
theorem popenW_any (R : List (List UInt8 × List UInt8)) (tl : List UInt8) (hR : ∀ x ∈ R, PrOkW x) (ht1 : ∀ b ∈ tl, b ≠ 123) (ht2 : ∀ b ∈ tl, b ≠ 125) (hlen : (patE R tl).length ≤ 60) (hn : R.length ≤ 20) (r : CatRow) (hr : r ∈ catR) (sc : Nat) (hsc : sc < 13) (w : World) (hv : Env w) :
  Calls Tryz.prog 12 #[.string (str (patE R tl)), .string (str r.nm), .int .i64 (sc : Int)] w (POpenW R tl r w) := by
 have HB := Lib.hid (below_alloc1 w (Obj.cells zeroCal 43))
 have HX := Lib.hid (Box.new w 43 zeroCal)
 have HE := Lib.hid (hv.next HB.out)
 have HS := Lib.hid (fun W (h : Shp W) => psplitW_any R tl hR ht1 ht2 hlen hn W h)
 have HT := Lib.hid (fun w (h : Env w) => Calendar_any r hr w h)
 have s1 : decide ((sc : Int) < 0) = false := decide_eq_false (by omega)
 have s2 : decide (13 ≤ (sc : Int)) = false := decide_eq_false (by omega)
 unfold CalQ at HT
 unfold POpenW
 clear hv hR hlen hn ht1 ht2
 go_enter Tryz.func12, Tryz.ntmps12
 go_wp2_with fail
 generalize w.alloc (Obj.cells zeroCal 43) = W0 at *
 generalize hg : w.heap.size = g at *
 have HG := Lib.hid hg
 clear hg
 refine Calls.mono (HS.out W0 HE.out.h) ?_
 rintro e w1 ⟨v, rfl, hown, hb1⟩
 have HX1 := Lib.hid (HX.out.below hb1)
 have HB1 : Hid (Below g w w1) := HB.out.trans (hb1.mono (by have := HX.out.lt; omega))
 have HE1 := Lib.hid (HE.out.next hb1)
 have HO1 := Lib.hid hown
 have hgW : g < W0.heap.size := HX.out.lt
 clear hown hb1 HX HB HE HS
 go_wp2_with fail
 refine Calls.mono (HT.out w1 HE1.out) ?_
 rintro e w2 ⟨c, rfl, hof, hcv, ha1, ha2, hb2⟩
 have HX2 := Lib.hid (HX1.out.below hb2)
 have HB2 : Hid (Below g w w2) := HB1.out.trans (hb2.mono (by have := HX1.out.lt; omega))
 have HO2 := Lib.hid (own_next HO1.out hb2)
 have HOf := Lib.hid hof
 have HCv := Lib.hid hcv
 have hg1 := HX1.out.lt
 have HA1 : Hid (∀ a, c.A1 = some a → g < a.block) := fun a ha => by have := ha1 a ha; omega
 have HA2 : Hid (∀ a, c.A2 = some a → g < a.block) := fun a ha => by have := ha2 a ha; omega
 clear hof hcv ha1 ha2 hb2 HX1 HB1 HE1 HO1 HT hg1
 go_upto_region 5 with fail
 have hba := below_alloc1 w2 (Obj.cells c.cells 43)
 have HX3 := Lib.hid (HX2.out.below hba)
 have HB3 : Hid (Below g w (w2.alloc (Obj.cells c.cells 43))) := HB2.out.trans (hba.mono (by have := HX2.out.lt; omega))
 have HO3 := Lib.hid (own_next HO2.out hba)
 have HC3 := Lib.hid (HCv.out.next hba)
 have HY3 := Lib.hid (Box.new w2 43 c.cells)
 clear hba HX2 HB2 HO2 HCv
 generalize w2.alloc (Obj.cells c.cells 43) = w3 at *
 generalize w2.heap.size = gc at *
 go_upto_region 9 with (go_at_call 38; refine Calls.mono (scripts_any _) ?_; rintro e w' ⟨rfl, hw⟩; subst hw)
 obtain ⟨y0, y1, y2, y3, y4⟩ := ccells HY3.out
 have rf : ∀ i, w3.frozen? ⟨g, i, none⟩ = false := fun i => HX3.out.free i
 have r0 : w3.cell? ⟨g, 0, none⟩ = some (.string ⟨#[]⟩) := HX3.out.cell 0
 have r1 : w3.cell? ⟨g, 1, none⟩ = some (.int .i64 0) := HX3.out.cell 1
 have r2 : w3.cell? ⟨g, 2, none⟩ = some (.int .i64 0) := HX3.out.cell 2
 have r3 : w3.cell? ⟨g, 3, none⟩ = some (.slice none 0 0) := HX3.out.cell 3
 have r4 : w3.cell? ⟨g, 4, none⟩ = some (.slice none 0 0) := HX3.out.cell 4
 have hl := HX3.out.lt
 have HF : Hid (∀ w6, w6 = ((((w3.setCell ⟨g, 0, none⟩ (.string c.nm)).setCell ⟨g, 1, none⟩ (.int .i64 c.ep)).setCell ⟨g, 2, none⟩ (.int .i64 c.cy)).setCell ⟨g, 3, none⟩ (.slice c.A1 c.mo.length c.c1)).setCell ⟨g, 4, none⟩ (.slice c.A2 c.lp.length c.c2) →
   CalV w6 c ∧ w6.ownsRow g 83 2 v (partE R tl).length ((partE R tl).flatMap partV) ∧ Below g w w6) := fun w6 h => by
  rw [h]
  refine ⟨((((HC3.out.set_ g 0 _ HA1.out HA2.out).set_ g 1 _ HA1.out HA2.out).set_ g 2 _ HA1.out HA2.out).set_ g 3 _ HA1.out HA2.out).set_ g 4 _ HA1.out HA2.out, ?_, ((((HB3.out.setCell (p := ⟨g, 0, none⟩) (Nat.le_refl _) _).setCell (p := ⟨g, 1, none⟩) (Nat.le_refl _) _).setCell (p := ⟨g, 2, none⟩) (Nat.le_refl _) _).setCell (p := ⟨g, 3, none⟩) (Nat.le_refl _) _).setCell (p := ⟨g, 4, none⟩) (Nat.le_refl _) _⟩
  exact own_lower (ownsRow_setCell_below (ownsRow_setCell_below (ownsRow_setCell_below (ownsRow_setCell_below (ownsRow_setCell_below HO3.out (a := ⟨g, 0, none⟩) hgW _) (a := ⟨g, 1, none⟩) hgW _) (a := ⟨g, 2, none⟩) hgW _) (a := ⟨g, 3, none⟩) hgW _) (a := ⟨g, 4, none⟩) hgW _) (by omega)
 have HXk := Lib.hid HX3.out
 clear HC3 HO3 HB3 HX3 HY3 HA1 HA2
 go_region
 obtain ⟨hcv, hown, hbw⟩ := HF.out _ rfl
 have hx : Hid (Box ((((((w3.setCell ⟨g, 0, none⟩ (.string c.nm)).setCell ⟨g, 1, none⟩ (.int .i64 c.ep)).setCell ⟨g, 2, none⟩ (.int .i64 c.cy)).setCell ⟨g, 3, none⟩ (.slice c.A1 c.mo.length c.c1)).setCell ⟨g, 4, none⟩ (.slice c.A2 c.lp.length c.c2)).drew) g 43 c.cells) := ((((HXk.out.set_ 0 _).set_ 1 _).set_ 2 _).set_ 3 _).set_ 4 _
 have hdr : ∀ W : World, Below W.heap.size W W.drew := fun W => ⟨rfl, rfl, rfl, Nat.le_refl _, fun _ _ => rfl⟩
 have HCv := Lib.hid (hcv.next (hdr _))
 have HO5 := Lib.hid (World.ownsRow.drew hown)
 have HB5 := Lib.hid (hbw.trans ((hdr _).mono (by have := hx.out.lt; simp at this ⊢; omega)))
 clear hcv hown hbw rf r0 r1 r2 r3 r4 y0 y1 y2 y3 y4 HF HXk
 generalize (((((w3.setCell ⟨g, 0, none⟩ (.string c.nm)).setCell ⟨g, 1, none⟩ (.int .i64 c.ep)).setCell ⟨g, 2, none⟩ (.int .i64 c.cy)).setCell ⟨g, 3, none⟩ (.slice c.A1 c.mo.length c.c1)).setCell ⟨g, 4, none⟩ (.slice c.A2 c.lp.length c.c2)).drew = w6 at *
 obtain ⟨z0, z1, z2, z3, z4⟩ := ccells hx.out
 go_wp2_with fail
 refine bodyPost_ret (v := .tuple #[v, c.val, .int .i64 0]) (by simp [results, Tryz.results12, go_sem, z0, z1, z2, z3, z4]) rfl ?_
 exact ⟨v, c, rfl, HOf.out, HCv.out, by rw [HG.out]; exact HO5.out, by rw [HG.out]; exact HB5.out⟩
set_option maxHeartbeats 4000000 in
set_option maxRecDepth 100000 in
theorem PWriteW_any (R : List (List UInt8 × List UInt8)) (tl : List UInt8) (pk : PatOk R tl) (r : CatRow) (hr : r ∈ catR) (sc : Nat) (hsc : sc < 13) (day : Int) (hd1 : -4000000 ≤ day) (hd2 : day ≤ 4000000) (w : World) (hv : Env w) (hpw : Pow w) (hz : Zer w) (hu : U8 w) :
  Calls Tryz.prog 7 #[.string (str (patE R tl)), .string (str r.nm), .int .i64 (sc : Int), .int .i64 day] w fun e w' => ∃ c, CalOf r c ∧ CalOk c ∧ WrW (partE R tl) c sc day w e w' := by
 have HO := Lib.hid (popenW_any R tl pk.r pk.t1 pk.t2 pk.len pk.n r hr sc hsc w hv)
 have hpl := pk.full.len
 have hpos : ∃ k, (partE R tl).length = k + 1 := by
  have := List.length_pos_iff.2 pk.ne
  exact ⟨(partE R tl).length - 1, by omega⟩
 have HPt : Hid (∀ p ∈ partE R tl, p.2.length ≤ 100 ∧ (p.1 = true → ∃ k wd, (p.2, k, wd) ∈ itemW)) := fun p hp => ⟨pk.small p hp, pk.full.it p hp⟩
 have HTb := Lib.hid (show Pow w ∧ Zer w ∧ U8 w from ⟨hpw, hz, hu⟩)
 have HI := Lib.hid (fun W => isDay_any day W)
 rw [decide_eq_true (show -4000000 ≤ day ∧ day ≤ 4000000 from ⟨hd1, hd2⟩)] at HI
 have HD := Lib.hid (show -4000000 ≤ day ∧ day ≤ 4000000 from ⟨hd1, hd2⟩)
 unfold POpenW at HO
 unfold WrW
 clear pk hd1 hd2 hv hpw hz hu
 generalize hPL : partE R tl = ps at *
 clear hPL
 go_enter Tryz.func7, Tryz.ntmps7
 go_wp2_with fail
 refine Calls.mono HO.out ?_
 rintro e w1 ⟨v, c, rfl, hof, hcv, hown, hb1⟩
 have HB1 := Lib.hid hb1
 have HOf := Lib.hid hof
 have HCv := Lib.hid hcv
 obtain ⟨k, hk⟩ := hpos
 rw [hk] at hown
 have hlo := fun b hb => (own_lt hown b hb).2
 obtain ⟨gp, cap, rfl⟩ := ownsRow_succ hown
 have hcs := fun i x hx => hown.cells (g := gp) rfl i x hx
 simp only [addPlain, Nat.zero_add] at hcs
 have hgl := hlo gp rfl
 rw [← hk]
 clear hown hlo hb1 hof hcv HO hk
 go_upto_region 4 with fail
 have hba := below_alloc1 w1 (Obj.cells c.cells 43)
 have HB2 := Lib.hid (below_then HB1.out hba)
 have HC2 := Lib.hid (HCv.out.next hba)
 have HX2 := Lib.hid (Box.new w1 43 c.cells)
 have hgl2 : gp < (w1.alloc (Obj.cells c.cells 43)).heap.size := Nat.lt_of_lt_of_le hgl hba.size
 have HCs : Hid (∀ i x, (ps.flatMap partV)[i]? = some x → (w1.alloc (Obj.cells c.cells 43)).cell? ⟨gp, i, none⟩ = some x) := fun i x hx => (hba.cell (p := ⟨gp, i, none⟩) hgl).trans (hcs i x hx)
 clear hba HB1 HCv hcs hgl
 generalize w1.alloc (Obj.cells c.cells 43) = w2 at *
 generalize w1.heap.size = gc at *
 have HW := Lib.hid (pwriteW_any ps c sc hsc day gp cap w2 HC2.out hgl2 HCs.out (by omega) HPt.out (fun i hi => by have := (HC2.out.ok.mo.each i hi).nm.2.1; omega) (HTb.out.1.next HB2.out) (HTb.out.2.1.next HB2.out) (HTb.out.2.2.next HB2.out) HD.out.1 HD.out.2)
 have HOk := Lib.hid HC2.out.ok
 obtain ⟨y0, y1, y2, y3, y4⟩ := ccells HX2.out
 unfold WrW at HW
 clear HC2 HX2 HCs hgl2 HPt HTb
 go_wp2_with (go_at_call 19; refine Calls.mono (HI.out _) ?_; rintro e w' ⟨rfl, hw⟩; subst hw)
 refine Calls.mono HW.out ?_
 rintro e w3 ⟨hb3, hc⟩
 have HB3 := Lib.hid (below_then HB2.out hb3)
 have HF := Lib.hid hc
 obtain ⟨s, E, rfl⟩ : ∃ s E, e = .returned (.tuple #[.string s, .int .i64 E]) := by
  rcases hc with ⟨y, m, d, _, _, _, ⟨_, h⟩ | ⟨_, E, _, h⟩⟩ | ⟨_, h⟩
  ·exact ⟨_, _, h⟩
  ·exact ⟨_, _, h⟩
  ·exact ⟨_, _, h⟩
 clear hb3 hc HW y0 y1 y2 y3 y4 HI
 go_wp2_with fail
 go_ret2
 exact ⟨c, HOf.out, HOk.out, HB3.out, HF.out⟩
end Go.Proofs.YtoemghiejfkpbaaGreatDoor
/- Contract of pattern.Read at a text that was written. -/
namespace Go.Proofs.YtoemghiejfkpbaaGreatDoor
open Go Go.RowKit
set_option linter.unusedVariables false
theorem allin_list {lo hi : Nat} {s : ByteArray} (h : AllIn lo hi s) : ∀ b ∈ s.data.toList, lo ≤ b.toNat ∧ b.toNat ≤ hi := fun b hb => by
 obtain ⟨k, hk, rfl⟩ := List.mem_iff_getElem.1 hb
 have hk2 : k < s.size := by rw [Array.length_toList] at hk; exact hk
 have h2 := h k hk2
 rw [ByteArray.getElem_eq_getElem_data] at h2
 simpa using h2
def dtT (ps : List (Bool × List UInt8)) (mn : ByteArray) (sc : Nat) (y : Int) (m : Nat) (d wk : Int) : List UInt8 := ps.flatMap fun p => (partO mn sc y m d wk p).getD []
set_option maxHeartbeats 8000000 in
set_option maxRecDepth 100000 in
theorem PReadW_any (R : List (List UInt8 × List UInt8)) (tl : List UInt8) (pk : PatOk R tl) (h20 : (partE R tl).length ≤ 20) (has : ∀ p ∈ partE R tl, p.1 = false → ∀ b ∈ p.2, b.toNat < 128) (r : CatRow) (hr : r ∈ catR) (sc : Nat) (hsc : sc < 13) (day : Int) (hd1 : -4000000 ≤ day) (hd2 : day ≤ 4000000)
  (y : Int) (m : Nat) (d : Int) (h1 : -10000 ≤ y) (h2 : y ≤ 10000) (hon : ∀ c, CalOf r c → CalOk c → IsOn c y m d day) (hall : ∀ p ∈ partE R tl, partO (r.t.mo.getD m mth0).nm sc y m d ((day - 1) % 7) p ≠ none)
  (w : World) (hv : Env w) (hpw : Pow w) (hz : Zer w) (hu : U8 w) :
  Calls Tryz.prog 4 #[.string (str (patE R tl)), .string (str r.nm), .int .i64 (sc : Int), .string (str (dtT (partE R tl) (r.t.mo.getD m mth0).nm sc y m d ((day - 1) % 7)))] w fun e w' => e = .returned (.tuple #[.int .i64 day, .int .i64 0]) ∧ Below w.heap.size w w' := by
 have HO := Lib.hid (popenW_any R tl pk.r pk.t1 pk.t2 pk.len pk.n r hr sc hsc w hv)
 have hpl := pk.full.len
 have hpos : ∃ k, (partE R tl).length = k + 1 := by
  have := List.length_pos_iff.2 pk.ne
  exact ⟨(partE R tl).length - 1, by omega⟩
 have HPt : Hid (∀ p ∈ partE R tl, p.2.length ≤ 100 ∧ (p.1 = true → ∃ k wd, (p.2, k, wd) ∈ itemW)) := fun p hp => ⟨pk.small p hp, pk.full.it p hp⟩
 have HTb := Lib.hid (show Pow w ∧ Zer w ∧ U8 w from ⟨hpw, hz, hu⟩)
 have HD := Lib.hid (show -4000000 ≤ day ∧ day ≤ 4000000 from ⟨hd1, hd2⟩)
 have HFull := Lib.hid pk.full
 have HSm := Lib.hid pk.small
 have HAs := Lib.hid has
 have HAll := Lib.hid hall
 have HOn := Lib.hid hon
 have HR := Lib.hid hr
 have hw1 := Int.emod_nonneg (day - 1) (show (7 : Int) ≠ 0 by omega)
 have hw2 := Int.emod_lt_of_pos (day - 1) (show (0 : Int) < 7 by omega)
 unfold POpenW at HO
 clear pk hd1 hd2 hv hpw hz hu has hall hon hr
 generalize hPL : partE R tl = ps at *
 clear hPL
 obtain ⟨wk, hwk⟩ : ∃ wk, wk = (day - 1) % 7 := ⟨_, rfl⟩
 obtain ⟨mn, hmn⟩ : ∃ mn, mn = (r.t.mo.getD m mth0).nm := ⟨_, rfl⟩
 rw [← hwk] at hw1 hw2 HAll ⊢
 rw [← hmn] at HAll ⊢
 obtain ⟨S, hS⟩ : ∃ S, S = str (dtT ps mn sc y m d wk) := ⟨_, rfl⟩
 rw [← hS]
 have HS := Lib.hid hS
 have HWk := Lib.hid hwk
 have HMn := Lib.hid hmn
 clear hS hwk hmn
 go_enter Tryz.func4, Tryz.ntmps4
 go_wp2_with fail
 refine Calls.mono HO.out ?_
 rintro e w1 ⟨v, c, rfl, hof, hcv, hown, hb1⟩
 have HB1 := Lib.hid hb1
 have HOf := Lib.hid hof
 have HCv := Lib.hid hcv
 obtain ⟨k, hk⟩ := hpos
 rw [hk] at hown
 have hlo := fun b hb => (own_lt hown b hb).2
 obtain ⟨gp, cap, rfl⟩ := ownsRow_succ hown
 have hcs := fun i x hx => hown.cells (g := gp) rfl i x hx
 simp only [addPlain, Nat.zero_add] at hcs
 have hgl := hlo gp rfl
 rw [← hk]
 clear hown hlo hb1 hof hcv HO hk
 go_upto_region 4 with fail
 have hba := below_alloc1 w1 (Obj.cells c.cells 43)
 have HB2 := Lib.hid (below_then HB1.out hba)
 have HC2 := Lib.hid (HCv.out.next hba)
 have HX2 := Lib.hid (Box.new w1 43 c.cells)
 have hgl2 : gp < (w1.alloc (Obj.cells c.cells 43)).heap.size := Nat.lt_of_lt_of_le hgl hba.size
 have HCs : Hid (∀ i x, (ps.flatMap partV)[i]? = some x → (w1.alloc (Obj.cells c.cells 43)).cell? ⟨gp, i, none⟩ = some x) := fun i x hx => (hba.cell (p := ⟨gp, i, none⟩) hgl).trans (hcs i x hx)
 clear hba HB1 HCv hcs hgl
 generalize w1.alloc (Obj.cells c.cells 43) = w2 at *
 generalize w1.heap.size = gc at *
 have hmo : c.mo = r.t.mo := HOf.out.mo
 have hmn2 : mn = (c.mo.getD m mth0).nm := by rw [hmo]; exact HMn.out
 have hOn : IsOn c y m d day := HOn.out c HOf.out HC2.out.ok
 have hm := hOn.m1
 have hd0 := hOn.d0
 have hdL := hOn.d1
 have hdM := Cal.mlen_in HC2.out.ok y m hm
 have hmn20 := HC2.out.ok.mo.n2
 have hname : NameOk mn := by rw [hmn2]; exact (HC2.out.ok.mo.each m hm).nm
 have hal := allin_list hname.2.2.2.2.2.2
 have hvb : ∀ k, -20000 ≤ valX k y m d wk ∧ valX k y m d wk ≤ 20000 := fun k => by
  unfold valX
  repeat' split
  all_goals omega
 obtain ⟨rt, henc⟩ := rt_ok ps mn sc hsc y m d wk HFull.out h20 HSm.out HAs.out hal hname.2.1 hvb HAll.out
 have hSX : S = str (encs (ps.flatMap (cpX mn sc y m d wk))) := by rw [HS.out, flat_enc ps _ _ henc]; rfl
 have hdis : ∀ i, i < c.mo.length → i ≠ m → (c.mo.getD i mth0).nm ≠ mn := fun i hi hne => by
  rw [hmn2]
  have e : c.mo = r.t.mo := HOf.out.mo
  rw [e] at hi hm ⊢
  exact names_apart r HR.out i m hi hm hne
 have HRd : Hid (∀ W, Below w2.heap.size w2 W → Calls Tryz.prog 14 #[.slice (some ⟨gp, 0, none⟩) ps.length cap, c.val, .int .i64 (sc : Int), .string S] W fun e w' => e = .returned (.tuple #[.agg #[.int .i64 y, .int .i64 ((m : Int) + 1), .int .i64 (d + 1)], .bool true]) ∧ Below W.heap.size W w') := fun W hb => by
  rw [hSX]
  exact pread_any ps (cpX mn sc y m d wk) c sc hsc y m d wk gp cap W (HC2.out.next hb) (Nat.lt_of_lt_of_le hgl2 hb.size) (fun i x hx => (hb.cell (p := ⟨gp, i, none⟩) hgl2).trans (HCs.out i x hx)) mn hmn2 rt hm hdis hal (HTb.out.2.1.next (below_then HB2.out hb)) (HTb.out.2.2.next (below_then HB2.out hb)) (by omega) (by omega) hd0 (by omega) hw1 (by omega)
 have HFu := Lib.hid (full_any ps HFull.out gp cap w2 hgl2 HCs.out)
 have HTd : Hid (∀ W, Below w2.heap.size w2 W → Calls Tryz.prog 15 #[c.val, .agg #[.int .i64 y, .int .i64 ((m : Int) + 1), .int .i64 (d + 1)]] W fun e w' => e = .returned (.tuple #[.int .i64 day, .int .i64 0]) ∧ Below W.heap.size W w') := fun W hb => by
  refine Calls.mono (ToDay_any c y ((m : Int) + 1) (d + 1) W (HC2.out.next hb)) ?_
  rintro e w' ⟨hb', hc⟩
  refine ⟨?_, hb'⟩
  rcases hc with ⟨m0, day', e1, _, _, ho, rfl⟩ | ⟨hno, _⟩
  ·obtain rfl : m0 = m := by omega
   rw [show d + 1 - 1 = d by omega] at ho
   have q1 := ho.on
   have q2 := hOn.on
   obtain rfl : day' = day := by omega
   unfold dayR
   rw [if_pos HD.out]
  ·exact absurd (hno m day rfl h1 h2 (by rw [show d + 1 - 1 = d by omega]; exact hOn)) (fun h => h)
 have HWr : Hid (∀ W, Below w2.heap.size w2 W → Calls Tryz.prog 16 #[.slice (some ⟨gp, 0, none⟩) ps.length cap, c.val, .int .i64 (sc : Int), .int .i64 day] W fun e w' => e = .returned (.tuple #[.string S, .int .i64 0]) ∧ Below W.heap.size W w') := fun W hb => by
  have hbw := below_then HB2.out hb
  refine Calls.mono (pwriteW_any ps c sc hsc day gp cap W (HC2.out.next hb) (Nat.lt_of_lt_of_le hgl2 hb.size) (fun i x hx => (hb.cell (p := ⟨gp, i, none⟩) hgl2).trans (HCs.out i x hx)) (by omega) HPt.out (fun i hi => by have := (HC2.out.ok.mo.each i hi).nm.2.1; omega) (HTb.out.1.next hbw) (HTb.out.2.1.next hbw) (HTb.out.2.2.next hbw) HD.out.1 HD.out.2) ?_
  rintro e w' ⟨hb', hc⟩
  refine ⟨?_, hb'⟩
  rcases hc with ⟨y', m', d', _, _, ho, hcc⟩ | ⟨hno, _⟩
  ·obtain ⟨rfl, rfl, rfl⟩ := ho.unique HC2.out.ok hOn
   rw [← hmn2, ← HWk.out] at hcc
   rcases hcc with ⟨_, rfl⟩ | ⟨⟨p, hp, hn⟩, _⟩
   ·rw [HS.out]; rfl
   ·exact absurd hn (HAll.out p hp)
  ·exfalso
   apply hno
   have q := hOn.year HC2.out.ok
   have q1 := Cal.ny_le HC2.out.ok h1
   have q2 := Cal.ny_le HC2.out.ok (show y + 1 ≤ 10001 by omega)
   omega
 clear HC2 HCs HFull HSm HAs HAll HOf HOn HR HPt HTb HD hOn rt henc hSX hdis hal hname hvb hdM hdL HS HWk HMn hmo hmn2
 obtain ⟨y0, y1, y2, y3, y4⟩ := ccells HX2.out
 go_upto_region 6 with (go_at_call 13; refine Calls.mono HFu.out ?_; rintro e w3 ⟨rfl, hb3⟩)
 have HX3 := Lib.hid (HX2.out.below hb3)
 have HB3 := Lib.hid hb3
 clear HFu hb3 y0 y1 y2 y3 y4
 obtain ⟨y0, y1, y2, y3, y4⟩ := ccells HX3.out
 have HRw := Lib.hid (HRd.out w3 HB3.out)
 go_wp2_with fail
 refine Calls.mono HRw.out ?_
 rintro e w4 ⟨rfl, hb4⟩
 have HX4 := Lib.hid (HX3.out.below hb4)
 have HB4 := Lib.hid (below_then HB3.out hb4)
 clear HRw HRd hb4 y0 y1 y2 y3 y4 HX3 HB3
 go_upto_region 7 with fail
 have hba := below_alloc1 w4 (Obj.cells #[.int .i64 y, .int .i64 ((m : Int) + 1), .int .i64 (d + 1)] 48)
 have HX5 := Lib.hid (HX4.out.below hba)
 have HB5 := Lib.hid (below_then HB4.out hba)
 have HD5 := Lib.hid (Box.new w4 48 #[.int .i64 y, .int .i64 ((m : Int) + 1), .int .i64 (d + 1)])
 clear hba HX4 HB4
 generalize w4.alloc (Obj.cells #[.int .i64 y, .int .i64 ((m : Int) + 1), .int .i64 (d + 1)] 48) = w5 at *
 generalize w4.heap.size = gd at *
 obtain ⟨y0, y1, y2, y3, y4⟩ := ccells HX5.out
 have v0 : w5.cell? ⟨gd, 0, none⟩ = some (.int .i64 y) := HD5.out.cell 0
 have v1 : w5.cell? ⟨gd, 1, none⟩ = some (.int .i64 ((m : Int) + 1)) := HD5.out.cell 1
 have v2 : w5.cell? ⟨gd, 2, none⟩ = some (.int .i64 (d + 1)) := HD5.out.cell 2
 have HTw := Lib.hid (HTd.out w5 HB5.out)
 go_wp2_with fail
 refine Calls.mono HTw.out ?_
 rintro e w6 ⟨rfl, hb6⟩
 have HX6 := Lib.hid (HX5.out.below hb6)
 have HB6 := Lib.hid (below_then HB5.out hb6)
 clear HTw HTd hb6 y0 y1 y2 y3 y4 v0 v1 v2 HX5 HB5
 obtain ⟨y0, y1, y2, y3, y4⟩ := ccells HX6.out
 have HWw := Lib.hid (HWr.out w6 HB6.out)
 go_wp2_with fail
 refine Calls.mono HWw.out ?_
 rintro e w7 ⟨rfl, hb7⟩
 have HB7 := Lib.hid (below_then HB2.out (below_then HB6.out hb7))
 have tq : (S.toList == S.toList) = true := beq_self_eq_true _
 clear HWw HWr hb7 y0 y1 y2 y3 y4
 go_wp2_with fail
 go_ret2
 exact ⟨rfl, HB7.out⟩
end Go.Proofs.YtoemghiejfkpbaaGreatDoor
/- The four patterns of PatternBack show a whole date. -/
namespace Go.Proofs.YtoemghiejfkpbaaGreatDoor
open Go Go.RowKit
set_option linter.unusedVariables false
def adjB : List (Bool × List UInt8) → Bool
 | p :: q :: l => (!p.1 || (!q.1 && (match q.2 with
  | c :: _ => decide (c.toNat ∈ sepL)
  | [] => false))) && adjB (q :: l)
 | _ => true
theorem adj_of : ∀ (ps : List (Bool × List UInt8)), adjB ps = true → ∀ i p q, ps[i]? = some p → ps[i + 1]? = some q → p.1 = true → q.1 = false ∧ ∃ h : 0 < (str q.2).size, (str q.2)[0].toNat ∈ sepL
 | [], _, i, p, q, h1, _, _ => by simp at h1
 | [a], _, i, p, q, h1, h2, _ => by simp at h2
 | a :: b :: l, h, 0, p, q, h1, h2, h3 => by
  simp only [List.getElem?_cons_zero, Option.some.injEq] at h1
  simp only [Nat.zero_add, List.getElem?_cons_succ, List.getElem?_cons_zero, Option.some.injEq] at h2
  subst h1
  subst h2
  simp only [adjB, Bool.and_eq_true] at h
  have h4 := h.1
  rw [h3, Bool.not_true, Bool.false_or, Bool.and_eq_true] at h4
  refine ⟨by simpa using h4.1, ?_⟩
  obtain ⟨bt, bs⟩ := b
  cases bs with
  | nil => simp at h4
  | cons c t =>
   refine ⟨by rw [str_size]; simp, ?_⟩
   have e : (str (c :: t))[0]'(by rw [str_size]; simp) = c := by simp [ByteArray.getElem_eq_getElem_data, str]
   rw [e]
   simpa using h4.2
 | a :: b :: l, h, i + 1, p, q, h1, h2, h3 => by
  simp only [adjB, Bool.and_eq_true] at h
  exact adj_of (b :: l) h.2 i p q (by simpa using h1) (by simpa using h2) h3
def itB (s : List UInt8) : Bool := decide ((s, (kdw s).1, (kdw s).2) ∈ itemW)
structure PatB (R : List (List UInt8 × List UInt8)) (tl : List UInt8) : Prop where
 r : (R.all fun x => x.1.all (fun b => b != 123 && b != 125) && (x.2.all (fun b => b != 125) && itB x.2)) = true
 t : tl.all (fun b => b != 123 && b != 125) = true
 len : (patE R tl).length ≤ 60
 n : R.length ≤ 20
 ne : (partE R tl).isEmpty = false
 l20 : (partE R tl).length ≤ 20
 it : ((partE R tl).all fun p => !p.1 || itB p.2) = true
 adj : adjB (partE R tl) = true
 yr : cntK 1 (partE R tl) = 1
 dy : cntK 3 (partE R tl) = 1
 mo : cntK 2 (partE R tl) + cntK 4 (partE R tl) = 1
 wk : cntK 5 (partE R tl) ≤ 1
 small : ((partE R tl).all fun p => decide (p.2.length ≤ 100) && p.2.all (fun b => decide (b.toNat < 128))) = true
theorem PatB.ok {R : List (List UInt8 × List UInt8)} {tl : List UInt8} (h : PatB R tl) : PatOk R tl := by
 have hit : ∀ s, itB s = true → ∃ k wd : Nat, (s, k, wd) ∈ itemW := fun s hs => ⟨_, _, of_decide_eq_true hs⟩
 refine ⟨fun x hx => ?_, fun b hb => ?_, fun b hb => ?_, h.len, h.n, fun e => ?_, ⟨by have := h.l20; omega, fun p hp h1 => ?_, adj_of _ h.adj, h.yr, h.dy, h.mo, h.wk⟩, fun p hp => ?_⟩
 ·have h1 := List.all_eq_true.1 h.r x hx
  rw [Bool.and_eq_true, Bool.and_eq_true, List.all_eq_true, List.all_eq_true] at h1
  refine ⟨fun b hb => ?_, fun b hb => ?_, fun b hb => ?_, hit _ h1.2.2⟩
  ·have := h1.1 b hb; simp at this; exact this.1
  ·have := h1.1 b hb; simp at this; exact this.2
  ·have := h1.2.1 b hb; simpa using this
 ·have := List.all_eq_true.1 h.t b hb; simp at this; exact this.1
 ·have := List.all_eq_true.1 h.t b hb; simp at this; exact this.2
 ·have h2 := h.ne
  rw [e] at h2
  cases h2
 ·have h2 := List.all_eq_true.1 h.it p hp
  rw [h1, Bool.not_true, Bool.false_or] at h2
  exact hit _ h2
 ·have h2 := List.all_eq_true.1 h.small p hp
  rw [Bool.and_eq_true, decide_eq_true_eq] at h2
  exact h2.1
theorem PatB.ascii {R : List (List UInt8 × List UInt8)} {tl : List UInt8} (h : PatB R tl) : ∀ p ∈ partE R tl, p.1 = false → ∀ b ∈ p.2, b.toNat < 128 := fun p hp _ b hb => by
 have h2 := List.all_eq_true.1 h.small p hp
 rw [Bool.and_eq_true, List.all_eq_true] at h2
 exact of_decide_eq_true (h2.2 b hb)
def pR (i : Nat) : List (List UInt8 × List UInt8) :=
 if i = 0 then [([], [121, 52]), ([47], [109, 50]), ([47], [100, 50])]
 else if i = 1 then [([], [100]), ([46, 32], [110, 97, 109, 101]), ([32], [121])]
 else if i = 2 then [([60], [119]), ([62, 32], [109]), ([124], [100]), ([124], [121])]
 else [([121, 101, 97, 114, 32], [121]), ([44, 32], [110, 97, 109, 101]), ([58], [100, 50])]
def pT (i : Nat) : List UInt8 := if i = 3 then [33] else []
theorem p_ok (i : Nat) (h : i < 4) : PatB (pR i) (pT i) := by
 match i, h with
 | 0, _ | 1, _ | 2, _ | 3, _ => exact ⟨by decide, by decide, by decide, by decide, by decide, by decide, by decide, by decide, by decide, by decide, by decide, by decide, by decide⟩
end Go.Proofs.YtoemghiejfkpbaaGreatDoor
