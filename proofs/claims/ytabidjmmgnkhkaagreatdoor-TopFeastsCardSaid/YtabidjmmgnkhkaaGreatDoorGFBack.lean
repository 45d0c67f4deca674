/- FBack, FBack2, FShB, FBack3 -/
import Derived.Test.YtabidjmmgnkhkaaGreatDoorGFpPlain
/- What is printed of a feast is read (plain). -/
namespace Go.Proofs.YtabidjmmgnkhkaaGreatDoor
open Go.Lib
set_option linter.unusedVariables false
def Rds (j : Jb) (o : Nat) (l : List UInt8) (x : FE) (l' : List UInt8) : Prop := ∃ n, rd n j o l = some (.yes x l')
theorem rds_ex {k o : Nat} {l l1 l2 : List UInt8} {x f : FE} (hk : k ≠ 2) (h1 : Rds (.ex (k + 1)) o l x l1) (h2 : Rds (.lp k x) o l1 f l2) : Rds (.ex k) o l f l2 := by
 obtain ⟨n, hn⟩ := h1
 obtain ⟨m, hm⟩ := h2
 refine ⟨max n m + 1, ?_⟩
 rw [rd, if_neg hk, rd_more hn (Nat.le_max_left n m)]
 exact rd_more hm (Nat.le_max_right n m)
theorem rds_ex2 {o : Nat} {l l1 : List UInt8} {x : FE} (h : Rds .on o l x l1) : Rds (.ex 2) o l x l1 := by
 obtain ⟨n, hn⟩ := h
 refine ⟨n + 1, ?_⟩
 rw [rd, if_pos rfl]
 exact hn
theorem rds_lp_end {k o : Nat} {l : List UInt8} {x : FE} (h : opK k (tk l) = none) : Rds (.lp k x) o l x l := by
 refine ⟨1, ?_⟩
 rw [rd, h]
theorem rds_lp_op {k o : Nat} {l l1 l2 : List UInt8} {x y f : FE} {p : Int} (h : opK k (tk l) = some p) (h1 : Rds (.ex (k + 1)) o (nx l) y l1) (h2 : Rds (.lp k (.node p 0 0 noB none 0 [x, y])) o l1 f l2) : Rds (.lp k x) o l f l2 := by
 obtain ⟨n, hn⟩ := h1
 obtain ⟨m, hm⟩ := h2
 refine ⟨max n m + 1, ?_⟩
 rw [rd, h]
 show thenF (rd (max n m) (.ex (k + 1)) o (nx l)) _ = _
 rw [rd_more hn (Nat.le_max_left n m)]
 exact rd_more hm (Nat.le_max_right n m)
theorem rds_on8 {o : Nat} {l l1 l2 : List UInt8} {y : FE} {a : Int} (h : tk l = [111, 110]) (h1 : numR (nx l) = .yes a l1) (h2 : Rds .on o l1 y l2) : Rds .on o l (.node 8 a 0 noB none 0 [y]) l2 := by
 obtain ⟨n, hn⟩ := h2
 refine ⟨n + 1, ?_⟩
 rw [rd, if_pos h, h1]
 show thenF (rd n .on o l1) _ = _
 rw [hn]
 rfl
theorem rds_on12 {o : Nat} {l l1 l2 l3 l4 s : List UInt8} {y : FE} {a b : Int} (h : tk l = [110, 116, 104]) (h1 : numR (nx l) = .yes a l1) (h2 : tk l1 = [105, 110]) (h3 : wordR (nx l1) = .yes s l2) (h4 : numR l2 = .yes b l3) (h5 : Rds .on o l3 y l4) : Rds .on o l (.node 12 a b (str s) none 0 [y]) l4 := by
 obtain ⟨n, hn⟩ := h5
 refine ⟨n + 1, ?_⟩
 rw [rd, if_neg (by rw [h]; decide), if_pos h, h1]
 show (if tk l1 = [105, 110] then _ else _) = _
 rw [if_pos h2, h3]
 show thenN (numR l2) _ = _
 rw [h4]
 show thenF (rd n .on o l3) _ = _
 rw [hn]
 rfl
theorem rds_on_sh {o : Nat} {l l1 : List UInt8} {x : FE} (h1 : tk l ≠ [111, 110]) (h2 : tk l ≠ [110, 116, 104]) (h : Rds .sh o l x l1) : Rds .on o l x l1 := by
 obtain ⟨n, hn⟩ := h
 refine ⟨n + 1, ?_⟩
 rw [rd, if_neg h1, if_neg h2]
 exact hn
theorem rds_sh {o : Nat} {l l1 l2 : List UInt8} {x f : FE} (h1 : Rds .lf o l x l1) (h2 : Rds (.sl x) o l1 f l2) : Rds .sh o l f l2 := by
 obtain ⟨n, hn⟩ := h1
 obtain ⟨m, hm⟩ := h2
 refine ⟨max n m + 1, ?_⟩
 rw [rd, rd_more hn (Nat.le_max_left n m)]
 exact rd_more hm (Nat.le_max_right n m)
theorem rds_sl_end {o : Nat} {l : List UInt8} {x : FE} (h1 : tk l ≠ [43]) (h2 : tk l ≠ [45]) : Rds (.sl x) o l x l := by
 refine ⟨1, ?_⟩
 rw [rd, if_neg h1, if_neg h2]
theorem rds_sl_plus {o : Nat} {l l1 l2 : List UInt8} {x f : FE} {a : Int} (h : tk l = [43]) (h1 : natR false (nx l) = .yes a l1) (h2 : Rds (.sl (.node 7 a 0 noB none 0 [x])) o l1 f l2) : Rds (.sl x) o l f l2 := by
 obtain ⟨n, hn⟩ := h2
 refine ⟨n + 1, ?_⟩
 rw [rd, if_pos h, h1]
 exact hn
theorem rds_sl_minus {o : Nat} {l l1 l2 : List UInt8} {x f : FE} {a : Int} (h : tk l = [45]) (h1 : natR false (nx l) = .yes a l1) (h2 : Rds (.sl (.node 7 (-a) 0 noB none 0 [x])) o l1 f l2) : Rds (.sl x) o l f l2 := by
 obtain ⟨n, hn⟩ := h2
 refine ⟨n + 1, ?_⟩
 rw [rd, if_neg (by rw [h]; decide), if_pos h, h1]
 exact hn
theorem rds_par {o : Nat} {l l1 : List UInt8} {x : FE} (h : tk l = [40]) (ho : o + 1 ≤ 20) (h1 : Rds (.ex 0) (o + 1) (nx l) x l1) (h2 : tk l1 = [41]) : Rds .lf o l x (nx l1) := by
 obtain ⟨n, hn⟩ := h1
 refine ⟨n + 1, ?_⟩
 rw [rd, if_pos h, if_neg (by omega), hn]
 show (if tk l1 = [41] then _ else _) = _
 rw [if_pos h2]
theorem rds_leaf {o : Nat} {l l1 l2 l3 s : List UInt8} {k a b : Int} (h : leafK (tk l) = some k) (h1 : nameR (usN k) (nx l) = .yes s l1) (h2 : numR l1 = .yes a l2) (h3 : secR (usB k) l2 = .yes b l3) : Rds .lf o l (.node k a b (str s) none 0 []) l3 := by
 refine ⟨1, ?_⟩
 rw [rd, if_neg (fun e => by rw [e] at h; unfold leafK at h; simp at h), h]
 show thenW (nameR (usN k) (nx l)) _ = _
 rw [h1]
 show thenN (numR l1) _ = _
 rw [h2]
 show thenN (secR (usB k) l2) _ = _
 rw [h3]
 rfl
theorem tk_word (w r : List UInt8) (hw : ∀ b ∈ w, isLow b = true) (hne : w ≠ []) (hr : Bd r) : tk (w ++ r) = w := by
 unfold tk
 rw [tw_app isLow w r hw fun b s e => (hr b s e).1, if_pos hne]
theorem nx_of (w r : List UInt8) (h : tk (w ++ r) = w) : nx (w ++ r) = sk r := by
 unfold nx
 rw [h]
 simp
theorem sk_sp (r : List UInt8) : sk (32 :: r) = sk r := rfl
theorem tk_one (c : UInt8) (r : List UInt8) (h1 : isLow c = false) (h2 : isDig c = false) : tk (c :: r) = [c] := by
 unfold tk
 rw [if_neg (by simp [h1]), if_neg (by simp [h2])]
 rfl
theorem dec_len9 (u : Nat) (h : u ≤ 999999999) : (decDigits u).length ≤ 9 := by
 by_cases h0 : u = 0
 ·subst h0; rw [decDigits, dif_pos (by omega)]; simp
 ·have := itoa_len (-(u : Int)) 9 (Nat.lt_of_lt_of_le (show _ < 1000000000 by omega) (by decide)) (by omega)
  unfold itoa at this
  rw [if_pos (by omega), show (-(u : Int)).natAbs = u from by omega] at this
  simpa using this
theorem dg_dec (u : Nat) (q : List UInt8) (hq : Bd q) : dg (decDigits u ++ q) = decDigits u := by
 unfold dg
 exact tw_app isDig _ _ (fun b hb => by have := dec_digit u b hb; unfold isDig; simp; omega) fun b s e => (hq b s e).2
theorem dv_dec (u : Nat) : dv (decDigits u) = u := by
 unfold dv decNat
 rw [if_neg (by simpa using dec_ne u), decFrom_dec]
 rfl
theorem natR_dec (sg : Bool) (u : Nat) (h : u ≤ 999999999) (q : List UInt8) (hq : Bd q) : natR sg (decDigits u ++ q) = .yes (if sg then -(u : Int) else u) (sk q) := by
 unfold natR
 rw [dg_dec u q hq, if_neg (dec_ne u), if_neg (by have := dec_len9 u h; omega), dv_dec]
 simp
theorem dec_head (u : Nat) : ∃ b r, decDigits u = b :: r ∧ isDig b = true ∧ isLow b = false ∧ (b == 32) = false := by
 cases h : decDigits u with
 | nil => exact absurd h (dec_ne u)
 | cons b r =>
  have hb := dec_digit u b (by rw [h]; exact List.mem_cons_self ..)
  refine ⟨b, r, rfl, by unfold isDig; simp; omega, by unfold isLow; simp; omega, ?_⟩
  rw [beq_eq_false_iff_ne]; rintro rfl; simp at hb
theorem numR_itoa (n : Int) (h : n.natAbs ≤ 999999999) (q : List UInt8) (hq : Bd q) : numR (itoa n ++ q) = .yes n (sk q) := by
 unfold numR itoa
 by_cases hn : n < 0
 ·rw [if_pos hn]
  have ht : tk (45 :: decDigits n.natAbs ++ q) = [45] := tk_one 45 _ (by decide) (by decide)
  rw [if_pos ht]
  have := natR_dec true n.natAbs h q hq
  rw [show (45 :: decDigits n.natAbs ++ q).drop 1 = decDigits n.natAbs ++ q from rfl, this]
  simp only [if_true]
  rw [show -(n.natAbs : Int) = n from by omega]
 ·rw [if_neg hn]
  obtain ⟨b, r, hb, hd, hl, _⟩ := dec_head n.toNat
  have ht : tk (decDigits n.toNat ++ q) ≠ [45] := fun e => by
   have h1 : tk (decDigits n.toNat ++ q) = decDigits n.toNat := by
    unfold tk
    rw [if_neg (by rw [hb]; simp [hl])]
    have := dg_dec n.toNat q hq
    unfold dg at this
    rw [this, if_pos (dec_ne _)]
   rw [h1, hb] at e
   injection e with e _
   rw [e] at hd
   revert hd; decide
  rw [if_neg ht]
  have := natR_dec false n.toNat (by omega) q hq
  rw [this]
  simp only [Bool.false_eq_true, if_false]
  rw [show (n.toNat : Int) = n from by omega]
theorem sk_itoa (n : Int) (q : List UInt8) : sk (itoa n ++ q) = itoa n ++ q := by
 unfold itoa
 split
 ·exact sk_of 45 _ (by decide)
 ·obtain ⟨b, r, hb, _, _, h32⟩ := dec_head n.toNat
  rw [hb]
  exact sk_of b _ h32
theorem cat_low : ∀ r ∈ catR, r.nm ≠ [] ∧ ∀ b ∈ r.nm, isLow b = true := by decide +kernel
end Go.Proofs.YtabidjmmgnkhkaaGreatDoor
/- What is printed of a feast is read: whole expressions (plain). -/
namespace Go.Proofs.YtabidjmmgnkhkaaGreatDoor
open Go.Lib
set_option linter.unusedVariables false
def jobL (L : Nat) : Jb := if L = 0 then .ex 0 else if L = 1 then .ex 1 else if L = 2 then .on else if L = 3 then .sh else .lf
structure FGood (L : Nat) (q : List UInt8) : Prop where
 bd : Bd q
 s3 : L ≤ 3 → tk (sk q) ≠ [43] ∧ tk (sk q) ≠ [45]
 s1 : L ≤ 1 → opK 1 (tk (sk q)) = none
 s0 : L = 0 → opK 0 (tk (sk q)) = none
theorem FGood.up {L M : Nat} {q : List UInt8} (h : FGood L q) (hM : L ≤ M) : FGood M q := ⟨h.bd, fun e => h.s3 (by omega), fun e => h.s1 (by omega), fun e => h.s0 (by omega)⟩
theorem fgood_nil : FGood 0 [] := ⟨bd_nil, fun _ => by decide, fun _ => by decide, fun _ => by decide⟩
theorem sk_close (q : List UInt8) : sk (41 :: q) = 41 :: q := sk_of 41 _ (by decide)
theorem tk_close (q : List UInt8) : tk (41 :: q) = [41] := tk_one 41 _ (by decide) (by decide)
theorem fgood_close (q : List UInt8) : FGood 0 (41 :: q) := by
 refine ⟨bd_cons 41 q (by decide) (by decide), fun _ => ?_, fun _ => ?_, fun _ => ?_⟩ <;> rw [sk_close, tk_close] <;> decide
theorem fgood_op (k : Int) (hk : k = 9 ∨ k = 10 ∨ k = 11) (q : List UInt8) : FGood (fLev k + 1) (32 :: (fOp k ++ 32 :: q)) ∧ tk (sk (32 :: (fOp k ++ 32 :: q))) = fOp k ∧ nx (sk (32 :: (fOp k ++ 32 :: q))) = sk q ∧ opK (fLev k) (fOp k) = some k := by
 have hw : ∀ b ∈ fOp k, isLow b = true := by rcases hk with rfl | rfl | rfl <;> decide
 have hne : fOp k ≠ [] := by rcases hk with rfl | rfl | rfl <;> decide
 have hs : sk (32 :: (fOp k ++ 32 :: q)) = fOp k ++ 32 :: q := by
  rw [sk_sp]
  rcases hk with rfl | rfl | rfl
  ·exact sk_of 111 _ (by decide)
  ·exact sk_of 97 _ (by decide)
  ·exact sk_of 110 _ (by decide)
 have ht := tk_word (fOp k) (32 :: q) hw hne (bd_cons 32 q (by decide) (by decide))
 refine ⟨⟨bd_cons 32 _ (by decide) (by decide), fun _ => ?_, fun e => ?_, fun e => ?_⟩, by rw [hs, ht], by rw [hs, nx_of _ _ ht, sk_sp], ?_⟩
 ·rw [hs, ht]; rcases hk with rfl | rfl | rfl <;> decide
 ·rw [hs, ht]
  rcases hk with rfl | rfl | rfl
  ·decide
  ·exact absurd e (by decide)
  ·exact absurd e (by decide)
 ·exact absurd e (by omega)
 ·rcases hk with rfl | rfl | rfl <;> decide
def ndF (L : Nat) (t : FE) : Nat := if fLev (fkd t) < L then fht t else fht t - 1
theorem fht_pos (t : FE) : 1 ≤ fht t := by cases t; rw [fht]; omega
theorem ndF_le (L : Nat) (t : FE) : ndF L t ≤ fht t := by unfold ndF; split <;> omega
theorem fht_kid {k a b : Int} {nm : ByteArray} {A : Option Addr} {c : Nat} {ks : List FE} {x : FE} (h : x ∈ ks) : fht x + 1 ≤ fht (.node k a b nm A c ks) := by
 rw [fht]
 have : ∀ l : List FE, x ∈ l → fht x ≤ fhtL l := by
  intro l
  induction l with
  | nil => intro h; cases h
  | cons y r ihl =>
   intro h
   rw [fhtL]
   rcases List.mem_cons.1 h with rfl | h
   ·omega
   ·have := ihl h; omega
 have := this ks h
 omega
def PL (L : Nat) (t : FE) : Prop := ∀ o, o + ndF L t ≤ 20 → ∀ q, FGood L q → Rds (jobL L) o (fshT L t ++ q) (shp t) (sk q)
def KL (L : Nat) (t : FE) : Prop := ∀ o, o + ndF L t ≤ 20 → ∀ q f l', FGood (L + 1) q → Rds (if L = 3 then .sl (shp t) else .lp L (shp t)) o (sk q) f l' → Rds (jobL L) o (fshT L t ++ q) f l'
theorem fshT_own (L : Nat) (t : FE) (h : L ≤ fLev (fkd t)) : fshT L t = fsh t := by unfold fshT fPar; simp only; rw [if_neg (by omega)]
theorem fshT_par (L : Nat) (t : FE) (h : fLev (fkd t) < L) : fshT L t = 40 :: (fsh t ++ [41]) := by unfold fshT fPar; simp only; rw [if_pos h]
theorem fshT_up (L : Nat) (t : FE) (h : fLev (fkd t) ≠ L) : fshT L t = fshT (L + 1) t ∧ ndF L t = ndF (L + 1) t := by
 unfold fshT fPar ndF
 simp only
 by_cases h1 : fLev (fkd t) < L
 ·rw [if_pos h1, if_pos (by omega), if_pos h1, if_pos (by omega)]; exact ⟨rfl, rfl⟩
 ·rw [if_neg h1, if_neg (by omega), if_neg h1, if_neg (by omega)]; exact ⟨rfl, rfl⟩
theorem PL_of_KL (L : Nat) (hL : L = 0 ∨ L = 1 ∨ L = 3) (t : FE) (h : KL L t) : PL L t := by
 intro o ho q hq
 refine h o ho q _ _ (hq.up (by omega)) ?_
 rcases hL with rfl | rfl | rfl
 ·exact rds_lp_end (hq.s0 rfl)
 ·exact rds_lp_end (hq.s1 (by omega))
 ·exact rds_sl_end (hq.s3 (by omega)).1 (hq.s3 (by omega)).2
theorem KL_up (L : Nat) (hL : L = 0 ∨ L = 1 ∨ L = 3) (t : FE) (hne : fLev (fkd t) ≠ L) (h : PL (L + 1) t) : KL L t := by
 intro o ho q f l' hq h2
 obtain ⟨e1, e2⟩ := fshT_up L t hne
 have h1 := h o (by rw [← e2]; exact ho) q hq
 rw [← e1] at h1
 rcases hL with rfl | rfl | rfl
 ·exact rds_ex (by decide) h1 h2
 ·exact rds_ex (by decide) (rds_ex2 h1) h2
 ·exact rds_sh h1 h2
theorem hd1 {t : FE} (h : FeOk t) : ∃ b r, fsh t = b :: r ∧ (b == 32) = false := by
 induction h with
 | @mk k a b nm A c ks node kids ih =>
  have hT : ∀ x ∈ ks, ∀ L q, ∃ b r, fshT L x ++ q = b :: r ∧ (b == 32) = false := fun x hx L q => by
   unfold fshT fPar
   split
   ·exact ⟨40, _, rfl, by decide⟩
   ·obtain ⟨b, r, e, h⟩ := ih x hx
    exact ⟨b, r ++ q, by show fsh x ++ q = _; rw [e]; rfl, h⟩
  rcases fnode_cases node with ⟨h1, h2, rfl⟩ | ⟨rfl, x, rfl⟩ | ⟨rfl, x, rfl⟩ | ⟨rfl, x, rfl⟩ | ⟨hb, x, y, rfl⟩
  ·have : k = 1 ∨ k = 2 ∨ k = 3 ∨ k = 4 ∨ k = 5 ∨ k = 6 := by omega
   rcases this with rfl | rfl | rfl | rfl | rfl | rfl <;> (rw [fsh]; exact ⟨_, _, rfl, by decide⟩)
  ·rw [fsh_7]; exact hT x (by simp) 3 _
  ·rw [fsh_8]; exact ⟨_, _, rfl, by decide⟩
  ·rw [fsh_12]; exact ⟨_, _, rfl, by decide⟩
  ·rw [fsh_bin k a b hb]; exact hT x (by simp) _ _
theorem sk_fsh {t : FE} (h : FeOk t) (q : List UInt8) : sk (fsh t ++ q) = fsh t ++ q := by
 obtain ⟨b, r, e, h⟩ := hd1 h
 rw [e]; exact sk_of b _ h
theorem sk_fshT {t : FE} (h : FeOk t) (L : Nat) (q : List UInt8) : sk (fshT L t ++ q) = fshT L t ++ q := by
 unfold fshT fPar
 split
 ·exact sk_of 40 _ (by decide)
 ·exact sk_fsh h q
theorem hd3 {t : FE} (h : FeOk t) : (∃ r, fshT 3 t = 40 :: r) ∨ (∃ w r k, fshT 3 t = w ++ 32 :: r ∧ leafK w = some k) := by
 induction h with
 | @mk k a b nm A c ks node kids ih =>
  by_cases h3 : fLev k < 3
  ·exact .inl ⟨_, fshT_par 3 (.node k a b nm A c ks) h3⟩
  ·rw [fshT_own 3 (.node k a b nm A c ks) (by show 3 ≤ fLev k; omega)]
   rcases fnode_cases node with ⟨h1, h2, rfl⟩ | ⟨rfl, x, rfl⟩ | ⟨rfl, x, rfl⟩ | ⟨rfl, x, rfl⟩ | ⟨hb, x, y, rfl⟩
   ·have : k = 1 ∨ k = 2 ∨ k = 3 ∨ k = 4 ∨ k = 5 ∨ k = 6 := by omega
    rcases this with rfl | rfl | rfl | rfl | rfl | rfl
    ·rw [fsh]; exact .inr ⟨[100, 97, 116, 101], _, 1, rfl, rfl⟩
    ·rw [fsh]; exact .inr ⟨[109, 111, 110, 116, 104], _, 2, rfl, rfl⟩
    ·rw [fsh]; exact .inr ⟨[119, 101, 101, 107, 100, 97, 121], _, 3, rfl, rfl⟩
    ·rw [fsh]; exact .inr ⟨[101, 118, 101, 114, 121], _, 4, rfl, rfl⟩
    ·rw [fsh]; exact .inr ⟨[100, 97, 121], _, 5, rfl, rfl⟩
    ·rw [fsh]; exact .inr ⟨[100, 97, 121, 115], _, 6, rfl, rfl⟩
   ·rw [fsh_7]
    rcases ih x (by simp) with ⟨r, e⟩ | ⟨w, r, k, e, hk⟩
    ·exact .inl ⟨r ++ fSh a, by rw [e]; rfl⟩
    ·exact .inr ⟨w, r ++ fSh a, k, by rw [e]; simp, hk⟩
   ·exact absurd h3 (by decide)
   ·exact absurd h3 (by decide)
   ·rcases hb with rfl | rfl | rfl <;> exact absurd h3 (by decide)
theorem leafK_word {w : Tok} {k : Int} (h : leafK w = some k) : (∀ b ∈ w, isLow b = true) ∧ w ≠ [] ∧ w ≠ [111, 110] ∧ w ≠ [110, 116, 104] := by
 unfold leafK at h
 split at h
 ·rename_i e; subst e; decide
 split at h
 ·rename_i e; subst e; decide
 split at h
 ·rename_i e; subst e; decide
 split at h
 ·rename_i e; subst e; decide
 split at h
 ·rename_i e; subst e; decide
 split at h
 ·rename_i e; subst e; decide
 ·cases h
theorem tk_hd3 {t : FE} (h : FeOk t) (q : List UInt8) : tk (fshT 3 t ++ q) ≠ [111, 110] ∧ tk (fshT 3 t ++ q) ≠ [110, 116, 104] := by
 rcases hd3 h with ⟨r, e⟩ | ⟨w, r, k, e, hk⟩
 ·rw [e, show (40 :: r ++ q : List UInt8) = 40 :: (r ++ q) from rfl, tk_one 40 _ (by decide) (by decide)]
  decide
 ·obtain ⟨h1, h2, h3, h4⟩ := leafK_word hk
  rw [e, List.append_assoc, tk_word w (32 :: r ++ q) h1 h2 (bd_cons 32 _ (by decide) (by decide))]
  exact ⟨h3, h4⟩
theorem PL_par (t : FE) (hok : FeOk t) (h : PL 0 t) (hlt : fLev (fkd t) < 4) : PL 4 t := by
 intro o ho q hq
 have e4 : ndF 4 t = fht t := by unfold ndF; rw [if_pos hlt]
 have e0 : ndF 0 t = fht t - 1 := by unfold ndF; rw [if_neg (by omega)]
 have hp := fht_pos t
 have h1 := h (o + 1) (by omega) (41 :: q) (fgood_close q)
 rw [fshT_own 0 t (by omega), sk_close] at h1
 rw [fshT_par 4 t hlt]
 have ht : tk (40 :: (fsh t ++ [41]) ++ q) = [40] := tk_one 40 _ (by decide) (by decide)
 have hn : nx (40 :: (fsh t ++ [41]) ++ q) = fsh t ++ 41 :: q := by
  have := nx_of [40] (fsh t ++ [41] ++ q) ht
  rw [show (40 :: (fsh t ++ [41]) ++ q : List UInt8) = [40] ++ (fsh t ++ [41] ++ q) from rfl, this, List.append_assoc]
  exact sk_fsh hok _
 have h2 := rds_par (o := o) ht (by omega) (by rw [hn]; exact h1) (tk_close q)
 have hx : nx (41 :: q) = sk q := nx_of [41] q (tk_close q)
 rw [hx] at h2
 exact h2
theorem fnums {k a b : Int} {nm : ByteArray} {len : Nat} (h : FeNode k a b nm len) : a.natAbs ≤ 999999999 ∧ b.natAbs ≤ 999999999 := by
 have key : ∀ mo : Nat, mo ≤ 100000 → RngOk k a b mo → a.natAbs ≤ 999999999 ∧ b.natAbs ≤ 999999999 := by
  intro mo hmo hr
  have ua := h.ua
  have ub := h.ub
  have h0 := h.k0
  have h1 := h.k1
  have : k = 1 ∨ k = 2 ∨ k = 3 ∨ k = 4 ∨ k = 5 ∨ k = 6 ∨ k = 7 ∨ k = 8 ∨ k = 9 ∨ k = 10 ∨ k = 11 ∨ k = 12 := by omega
  unfold RngOk DayIn at hr
  rcases this with rfl | rfl | rfl | rfl | rfl | rfl | rfl | rfl | rfl | rfl | rfl | rfl
  all_goals
   simp [usA, usB] at ua ub hr
   omega
 cases hu : usN k with
 | false => exact key 0 (by omega) (h.rg hu)
 | true =>
  obtain ⟨r, hr, _, hg⟩ := h.cal hu
  exact key _ (by have := (row_ok r hr).1.mo.n2; omega) hg
theorem fname {k a b : Int} {nm : ByteArray} {len : Nat} (h : FeNode k a b nm len) (hu : usN k = true) : ∃ w : List UInt8, nm = str w ∧ nm.data.toList = w ∧ (∀ b ∈ w, isLow b = true) ∧ w ≠ [] := by
 obtain ⟨r, hr, e, _⟩ := h.cal hu
 have h1 := cat_low r hr
 exact ⟨r.nm, e.symm, by rw [← e, str_data], h1.2, h1.1⟩
theorem noname {k a b : Int} {nm : ByteArray} {len : Nat} (h : FeNode k a b nm len) (hu : usN k = false) : nm = noB := by
 have h1 := h.un hu
 apply ByteArray.ext
 exact Array.eq_empty_of_size_eq_zero h1
theorem wordR_word (w q : List UInt8) (hw : ∀ b ∈ w, isLow b = true) (hne : w ≠ []) (hq : Bd q) : wordR (w ++ q) = .yes w (sk q) ∧ sk (w ++ q) = w ++ q := by
 have ht := tk_word w q hw hne hq
 have hn := nx_of w q ht
 unfold wordR
 rw [ht, hn]
 cases w with
 | nil => exact absurd rfl hne
 | cons b r =>
  have hb := hw b (List.mem_cons_self ..)
  refine ⟨if_pos (show isLow ((b :: r).headD 0) = true from hb), sk_of b _ ?_⟩
  rw [beq_eq_false_iff_ne]; rintro rfl; revert hb; decide
end Go.Proofs.YtabidjmmgnkhkaaGreatDoor
/- The text of a feast as a string that is put together from the left; how long it is (plain). -/
namespace Go.Proofs.YtabidjmmgnkhkaaGreatDoor
open Go.Lib
set_option linter.unusedVariables false
theorem str_nm (nm : ByteArray) : str nm.data.toList = nm := ByteArray.ext (by simp [str])
theorem sp_str : (⟨#[32]⟩ : ByteArray) = str [32] := rfl
theorem cat_len : ∀ r ∈ catR, r.nm.length ≤ 30 := by decide +kernel
theorem fnm_len {k a b : Int} {nm : ByteArray} {len : Nat} (h : FeNode k a b nm len) : nm.data.toList.length ≤ 30 := by
 by_cases hu : usN k = true
 ·obtain ⟨r, hr, e, _⟩ := h.cal hu
  rw [← e, str_data]
  exact cat_len r hr
 ·have := noname h (by simpa using hu)
  rw [this]
  decide
theorem itoa_len10 (a : Int) (h : a.natAbs ≤ 999999999) : (itoa a).length ≤ 10 := itoa_len a 9 (by omega) (by omega)
theorem fshT_len (L : Nat) (t : FE) : (fshT L t).length ≤ (fsh t).length + 2 := by
 unfold fshT fPar
 split <;> simp
theorem fSh_len (a : Int) (h : a.natAbs ≤ 999999999) : (fSh a).length ≤ 13 := by
 have := itoa_len10 a h
 unfold fSh
 split
 ·simp only [List.length_cons, List.length_drop]; omega
 ·simp only [List.length_cons]; omega
theorem fOp_len (k : Int) : (fOp k).length ≤ 3 := by unfold fOp; (repeat' split) <;> decide
theorem fsh_len {t : FE} (h : FeOk t) : (fsh t).length + 2 ≤ 80 * fsz t := by
 induction h with
 | @mk k a b nm A c ks node kids ih =>
  obtain ⟨ha, hb⟩ := fnums node
  have la := itoa_len10 a ha
  have lb := itoa_len10 b hb
  have ln := fnm_len node
  rcases fnode_cases node with ⟨h1, h2, rfl⟩ | ⟨rfl, x, rfl⟩ | ⟨rfl, x, rfl⟩ | ⟨rfl, x, rfl⟩ | ⟨hb, x, y, rfl⟩
  ·rw [fsz, fszL]
   have hk : k = 1 ∨ k = 2 ∨ k = 3 ∨ k = 4 ∨ k = 5 ∨ k = 6 := by omega
   rcases hk with rfl | rfl | rfl | rfl | rfl | rfl
   all_goals
    rw [fsh]
    simp only [show ¬ (2 : Int) = 1 by decide, show ¬ (3 : Int) = 1 by decide, show ¬ (4 : Int) = 1 by decide, show ¬ (5 : Int) = 1 by decide, show ¬ (6 : Int) = 1 by decide, show ¬ (3 : Int) = 2 by decide, show ¬ (4 : Int) = 2 by decide, show ¬ (5 : Int) = 2 by decide, show ¬ (6 : Int) = 2 by decide, show ¬ (4 : Int) = 3 by decide, show ¬ (5 : Int) = 3 by decide, show ¬ (6 : Int) = 3 by decide, show ¬ (5 : Int) = 4 by decide, show ¬ (6 : Int) = 4 by decide, show ¬ (6 : Int) = 5 by decide, if_true, if_false, List.length_append, List.length_cons, List.length_nil]
    omega
  ·have := ih x (by simp)
   have h2 := fshT_len 3 x
   have h3 := fSh_len a ha
   rw [fsh_7, fsz, fszL, fszL]
   simp only [List.length_append]
   omega
  ·have := ih x (by simp)
   have h2 := fshT_len 2 x
   rw [fsh_8, fsz, fszL, fszL]
   simp only [List.length_append, List.length_cons, List.length_nil]
   omega
  ·have := ih x (by simp)
   have h2 := fshT_len 2 x
   rw [fsh_12, fsz, fszL, fszL]
   simp only [List.length_append, List.length_cons, List.length_nil]
   omega
  ·have := ih x (by simp)
   have := ih y (by simp)
   have h2 := fshT_len (fLev k) x
   have h3 := fshT_len (fLev k + 1) y
   have h4 := fOp_len k
   rw [fsh_bin k a b hb, fsz, fszL, fszL, fszL]
   simp only [List.length_append, List.length_cons]
   omega
theorem fsB_1 (a b : Int) (nm : ByteArray) (A : Option Addr) (c : Nat) (ks : List FE) : str (fsh (.node 1 a b nm A c ks)) = ((((⟨#[100, 97, 116, 101, 32]⟩ ++ nm) ++ ⟨#[32]⟩) ++ str (itoa a)) ++ ⟨#[32]⟩) ++ str (itoa b) := by
 obtain ⟨nl, rfl⟩ : ∃ nl : List UInt8, nm = str nl := ⟨nm.data.toList, (str_nm nm).symm⟩
 rw [fsh, if_pos rfl, show (⟨#[100, 97, 116, 101, 32]⟩ : ByteArray) = str [100, 97, 116, 101, 32] from rfl, sp_str, str_data]
 simp only [str_append]
 congr 1
 simp
theorem fsB_2 (a b : Int) (nm : ByteArray) (A : Option Addr) (c : Nat) (ks : List FE) : str (fsh (.node 2 a b nm A c ks)) = ((⟨#[109, 111, 110, 116, 104, 32]⟩ ++ nm) ++ ⟨#[32]⟩) ++ str (itoa a) := by
 obtain ⟨nl, rfl⟩ : ∃ nl : List UInt8, nm = str nl := ⟨nm.data.toList, (str_nm nm).symm⟩
 rw [fsh, if_neg (by decide), if_pos rfl, show (⟨#[109, 111, 110, 116, 104, 32]⟩ : ByteArray) = str [109, 111, 110, 116, 104, 32] from rfl, sp_str, str_data]
 simp only [str_append]
 congr 1
 simp
theorem fsB_3 (a b : Int) (nm : ByteArray) (A : Option Addr) (c : Nat) (ks : List FE) : str (fsh (.node 3 a b nm A c ks)) = ⟨#[119, 101, 101, 107, 100, 97, 121, 32]⟩ ++ str (itoa a) := by
 rw [fsh, if_neg (by decide), if_neg (by decide), if_pos rfl, show (⟨#[119, 101, 101, 107, 100, 97, 121, 32]⟩ : ByteArray) = str [119, 101, 101, 107, 100, 97, 121, 32] from rfl, str_append]
theorem fsB_4 (a b : Int) (nm : ByteArray) (A : Option Addr) (c : Nat) (ks : List FE) : str (fsh (.node 4 a b nm A c ks)) = ((⟨#[101, 118, 101, 114, 121, 32]⟩ ++ str (itoa a)) ++ ⟨#[32]⟩) ++ str (itoa b) := by
 rw [fsh, if_neg (by decide), if_neg (by decide), if_neg (by decide), if_pos rfl, show (⟨#[101, 118, 101, 114, 121, 32]⟩ : ByteArray) = str [101, 118, 101, 114, 121, 32] from rfl, sp_str]
 simp only [str_append]
 congr 1
 simp
theorem fsB_5 (a b : Int) (nm : ByteArray) (A : Option Addr) (c : Nat) (ks : List FE) : str (fsh (.node 5 a b nm A c ks)) = ⟨#[100, 97, 121, 32]⟩ ++ str (itoa a) := by
 rw [fsh, if_neg (by decide), if_neg (by decide), if_neg (by decide), if_neg (by decide), if_pos rfl, show (⟨#[100, 97, 121, 32]⟩ : ByteArray) = str [100, 97, 121, 32] from rfl, str_append]
theorem fsB_6 (a b : Int) (nm : ByteArray) (A : Option Addr) (c : Nat) (ks : List FE) : str (fsh (.node 6 a b nm A c ks)) = ((⟨#[100, 97, 121, 115, 32]⟩ ++ str (itoa a)) ++ ⟨#[32]⟩) ++ str (itoa b) := by
 rw [fsh, if_neg (by decide), if_neg (by decide), if_neg (by decide), if_neg (by decide), if_neg (by decide), if_pos rfl, show (⟨#[100, 97, 121, 115, 32]⟩ : ByteArray) = str [100, 97, 121, 115, 32] from rfl, sp_str]
 simp only [str_append]
 congr 1
 simp
theorem fsB_7p (a b : Int) (nm : ByteArray) (A : Option Addr) (c : Nat) (x : FE) (h : ¬ a < 0) : str (fsh (.node 7 a b nm A c [x])) = (str (fshT 3 x) ++ ⟨#[32, 43, 32]⟩) ++ str (itoa a) := by
 rw [fsh_7, show (⟨#[32, 43, 32]⟩ : ByteArray) = str [32, 43, 32] from rfl]
 unfold fSh
 rw [if_neg h]
 simp only [str_append]
 congr 1
 simp
theorem fsB_7n (a b : Int) (nm : ByteArray) (A : Option Addr) (c : Nat) (x : FE) (h : a < 0) : str (fsh (.node 7 a b nm A c [x])) = (str (fshT 3 x) ++ ⟨#[32, 45, 32]⟩) ++ str ((itoa a).drop 1) := by
 rw [fsh_7, show (⟨#[32, 45, 32]⟩ : ByteArray) = str [32, 45, 32] from rfl]
 unfold fSh
 rw [if_pos h]
 simp only [str_append]
 congr 1
 simp
theorem fsB_8 (a b : Int) (nm : ByteArray) (A : Option Addr) (c : Nat) (x : FE) : str (fsh (.node 8 a b nm A c [x])) = ((⟨#[111, 110, 32]⟩ ++ str (itoa a)) ++ ⟨#[32]⟩) ++ str (fshT 2 x) := by
 rw [fsh_8, show (⟨#[111, 110, 32]⟩ : ByteArray) = str [111, 110, 32] from rfl, sp_str]
 simp only [str_append]
 congr 1
 simp
theorem fsB_12 (a b : Int) (nm : ByteArray) (A : Option Addr) (c : Nat) (x : FE) : str (fsh (.node 12 a b nm A c [x])) = ((((((⟨#[110, 116, 104, 32]⟩ ++ str (itoa a)) ++ ⟨#[32, 105, 110, 32]⟩) ++ nm) ++ ⟨#[32]⟩) ++ str (itoa b)) ++ ⟨#[32]⟩) ++ str (fshT 2 x) := by
 obtain ⟨nl, rfl⟩ : ∃ nl : List UInt8, nm = str nl := ⟨nm.data.toList, (str_nm nm).symm⟩
 rw [fsh_12, show (⟨#[110, 116, 104, 32]⟩ : ByteArray) = str [110, 116, 104, 32] from rfl, show (⟨#[32, 105, 110, 32]⟩ : ByteArray) = str [32, 105, 110, 32] from rfl, sp_str, str_data]
 simp only [str_append]
 congr 1
 simp
theorem fsB_bin (k a b : Int) (hk : k = 9 ∨ k = 10 ∨ k = 11) (nm : ByteArray) (A : Option Addr) (c : Nat) (x y : FE) : str (fsh (.node k a b nm A c [x, y])) = (((str (fshT (fLev k) x) ++ ⟨#[32]⟩) ++ str (fOp k)) ++ ⟨#[32]⟩) ++ str (fshT (fLev k + 1) y) := by
 rw [fsh_bin k a b hk, sp_str]
 simp only [str_append]
 congr 1
 simp
theorem fpar_yes (L : Nat) (k : Int) (s : List UInt8) (h : fLev k < L) : str (fPar L (k, s)) = (⟨#[40]⟩ ++ str s) ++ ⟨#[41]⟩ := by
 unfold fPar
 rw [if_pos h, show (⟨#[40]⟩ : ByteArray) = str [40] from rfl, show (⟨#[41]⟩ : ByteArray) = str [41] from rfl, str_append, str_append]
 rfl
theorem fpar_no (L : Nat) (k : Int) (s : List UInt8) (h : ¬ fLev k < L) : str (fPar L (k, s)) = str s := by
 unfold fPar
 rw [if_neg h]
end Go.Proofs.YtabidjmmgnkhkaaGreatDoor
/- What is printed of a feast is read: by levels (plain). -/
namespace Go.Proofs.YtabidjmmgnkhkaaGreatDoor
open Go.Lib
set_option linter.unusedVariables false
theorem sk_num (n : Int) (q : List UInt8) : sk (32 :: (itoa n ++ q)) = itoa n ++ q := by rw [sk_sp, sk_itoa]
theorem leaf_one (o : Nat) (w : Tok) (k a : Int) (hk : leafK w = some k) (hN : usN k = false) (hB : usB k = false) (ha : a.natAbs ≤ 999999999) (q : List UInt8) (hq : Bd q) : Rds .lf o (w ++ 32 :: (itoa a ++ q)) (.node k a 0 noB none 0 []) (sk q) := by
 obtain ⟨h1, h2, _, _⟩ := leafK_word hk
 have ht := tk_word w (32 :: (itoa a ++ q)) h1 h2 (bd_cons 32 _ (by decide) (by decide))
 have hn : nx (w ++ 32 :: (itoa a ++ q)) = itoa a ++ q := by rw [nx_of _ _ ht, sk_num]
 exact rds_leaf (s := []) (b := 0) (l3 := sk q) (by rw [ht]; exact hk) (by rw [hN, hn]; rfl) (numR_itoa a ha q hq) (by rw [hB]; rfl)
theorem leaf_two (o : Nat) (w : Tok) (k a b : Int) (hk : leafK w = some k) (hN : usN k = false) (hB : usB k = true) (ha : a.natAbs ≤ 999999999) (hb : b.natAbs ≤ 999999999) (q : List UInt8) (hq : Bd q) : Rds .lf o (w ++ 32 :: (itoa a ++ 32 :: (itoa b ++ q))) (.node k a b noB none 0 []) (sk q) := by
 obtain ⟨h1, h2, _, _⟩ := leafK_word hk
 have ht := tk_word w (32 :: (itoa a ++ 32 :: (itoa b ++ q))) h1 h2 (bd_cons 32 _ (by decide) (by decide))
 have hn : nx (w ++ 32 :: (itoa a ++ 32 :: (itoa b ++ q))) = itoa a ++ 32 :: (itoa b ++ q) := by rw [nx_of _ _ ht, sk_num]
 have e1 := numR_itoa a ha (32 :: (itoa b ++ q)) (bd_cons 32 _ (by decide) (by decide))
 rw [sk_num] at e1
 exact rds_leaf (s := []) (l3 := sk q) (by rw [ht]; exact hk) (by rw [hN, hn]; rfl) e1 (by rw [hB]; exact numR_itoa b hb q hq)
theorem leaf_name (o : Nat) (w nm : Tok) (k a : Int) (hk : leafK w = some k) (hN : usN k = true) (hB : usB k = false) (hw : ∀ b ∈ nm, isLow b = true) (hne : nm ≠ []) (ha : a.natAbs ≤ 999999999) (q : List UInt8) (hq : Bd q) : Rds .lf o (w ++ 32 :: (nm ++ 32 :: (itoa a ++ q))) (.node k a 0 (str nm) none 0 []) (sk q) := by
 obtain ⟨h1, h2, _, _⟩ := leafK_word hk
 have ht := tk_word w (32 :: (nm ++ 32 :: (itoa a ++ q))) h1 h2 (bd_cons 32 _ (by decide) (by decide))
 obtain ⟨e1, e2⟩ := wordR_word nm (32 :: (itoa a ++ q)) hw hne (bd_cons 32 _ (by decide) (by decide))
 rw [sk_num] at e1
 have hn : nx (w ++ 32 :: (nm ++ 32 :: (itoa a ++ q))) = nm ++ 32 :: (itoa a ++ q) := by rw [nx_of _ _ ht, sk_sp, e2]
 exact rds_leaf (b := 0) (l3 := sk q) (by rw [ht]; exact hk) (by rw [hN, hn]; exact e1) (numR_itoa a ha q hq) (by rw [hB]; rfl)
theorem leaf_name2 (o : Nat) (w nm : Tok) (k a b : Int) (hk : leafK w = some k) (hN : usN k = true) (hB : usB k = true) (hw : ∀ b ∈ nm, isLow b = true) (hne : nm ≠ []) (ha : a.natAbs ≤ 999999999) (hb : b.natAbs ≤ 999999999) (q : List UInt8) (hq : Bd q) : Rds .lf o (w ++ 32 :: (nm ++ 32 :: (itoa a ++ 32 :: (itoa b ++ q)))) (.node k a b (str nm) none 0 []) (sk q) := by
 obtain ⟨h1, h2, _, _⟩ := leafK_word hk
 have ht := tk_word w (32 :: (nm ++ 32 :: (itoa a ++ 32 :: (itoa b ++ q)))) h1 h2 (bd_cons 32 _ (by decide) (by decide))
 obtain ⟨e1, e2⟩ := wordR_word nm (32 :: (itoa a ++ 32 :: (itoa b ++ q))) hw hne (bd_cons 32 _ (by decide) (by decide))
 rw [sk_num] at e1
 have hn : nx (w ++ 32 :: (nm ++ 32 :: (itoa a ++ 32 :: (itoa b ++ q)))) = nm ++ 32 :: (itoa a ++ 32 :: (itoa b ++ q)) := by rw [nx_of _ _ ht, sk_sp, e2]
 have e3 := numR_itoa a ha (32 :: (itoa b ++ q)) (bd_cons 32 _ (by decide) (by decide))
 rw [sk_num] at e3
 exact rds_leaf (l3 := sk q) (by rw [ht]; exact hk) (by rw [hN, hn]; exact e1) e3 (by rw [hB]; exact numR_itoa b hb q hq)
theorem PL_leaf {k a b : Int} {nm : ByteArray} {A : Option Addr} {c : Nat} (node : FeNode k a b nm ([] : List FE).length) (h1 : 1 ≤ k) (h6 : k ≤ 6) : PL 4 (.node k a b nm A c []) := by
 intro o ho q hq
 obtain ⟨na, nb⟩ := fnums node
 have ub := node.ub
 have hlv : fLev k = 4 := by unfold fLev; rw [if_neg (by omega), if_neg (by omega), if_neg (by omega), if_neg (by omega)]
 rw [fshT_own 4 _ (by show 4 ≤ fLev k; omega), shp_node]
 show Rds .lf o (fsh (.node k a b nm A c []) ++ q) (.node k a b nm none 0 []) (sk q)
 have : k = 1 ∨ k = 2 ∨ k = 3 ∨ k = 4 ∨ k = 5 ∨ k = 6 := by omega
 rcases this with rfl | rfl | rfl | rfl | rfl | rfl
 ·obtain ⟨w, rfl, hd, hw, hne⟩ := fname node rfl
  have e : fsh (.node 1 a b (str w) A c []) ++ q = [100, 97, 116, 101] ++ 32 :: (w ++ 32 :: (itoa a ++ 32 :: (itoa b ++ q))) := by
   rw [fsh, if_pos rfl, hd]; simp
  rw [e]
  exact leaf_name2 o _ w 1 a b rfl rfl rfl hw hne na nb q hq.bd
 ·obtain ⟨w, rfl, hd, hw, hne⟩ := fname node rfl
  have e : fsh (.node 2 a b (str w) A c []) ++ q = [109, 111, 110, 116, 104] ++ 32 :: (w ++ 32 :: (itoa a ++ q)) := by
   rw [fsh, if_neg (by decide), if_pos rfl, hd]; simp
  rw [e, ub rfl]
  exact leaf_name o _ w 2 a rfl rfl rfl hw hne na q hq.bd
 ·have e : fsh (.node 3 a b nm A c []) ++ q = [119, 101, 101, 107, 100, 97, 121] ++ 32 :: (itoa a ++ q) := by
   rw [fsh, if_neg (by decide), if_neg (by decide), if_pos rfl]; simp
  rw [e, ub rfl, noname node rfl]
  exact leaf_one o _ 3 a rfl rfl rfl na q hq.bd
 ·have e : fsh (.node 4 a b nm A c []) ++ q = [101, 118, 101, 114, 121] ++ 32 :: (itoa a ++ 32 :: (itoa b ++ q)) := by
   rw [fsh, if_neg (by decide), if_neg (by decide), if_neg (by decide), if_pos rfl]; simp
  rw [e, noname node rfl]
  exact leaf_two o _ 4 a b rfl rfl rfl na nb q hq.bd
 ·have e : fsh (.node 5 a b nm A c []) ++ q = [100, 97, 121] ++ 32 :: (itoa a ++ q) := by
   rw [fsh, if_neg (by decide), if_neg (by decide), if_neg (by decide), if_neg (by decide), if_pos rfl]; simp
  rw [e, ub rfl, noname node rfl]
  exact leaf_one o _ 5 a rfl rfl rfl na q hq.bd
 ·have e : fsh (.node 6 a b nm A c []) ++ q = [100, 97, 121, 115] ++ 32 :: (itoa a ++ 32 :: (itoa b ++ q)) := by
   rw [fsh, if_neg (by decide), if_neg (by decide), if_neg (by decide), if_neg (by decide), if_neg (by decide), if_pos rfl]; simp
  rw [e, noname node rfl]
  exact leaf_two o _ 6 a b rfl rfl rfl na nb q hq.bd
theorem KL_bin {k a b : Int} {nm : ByteArray} {A : Option Addr} {c : Nat} {x y : FE} (hb : k = 9 ∨ k = 10 ∨ k = 11) (ha : a = 0) (hbb : b = 0) (hnm : nm = noB) (hoy : FeOk y) (hx : KL (fLev k) x) (hy : PL (fLev k + 1) y) : KL (fLev k) (.node k a b nm A c [x, y]) := by
 intro o ho q f l' hq h2
 have hL : fLev k = 0 ∨ fLev k = 1 := by rcases hb with rfl | rfl | rfl <;> decide
 have hn3 : fLev k ≠ 3 := by omega
 rw [if_neg hn3] at h2
 have hnd : ndF (fLev k) (.node k a b nm A c [x, y]) = fht (.node k a b nm A c [x, y]) - 1 := by unfold ndF; rw [if_neg (by show ¬ fLev k < fLev k; omega)]
 have h3 := fht_kid (k := k) (a := a) (b := b) (nm := nm) (A := A) (c := c) (ks := [x, y]) (x := x) (by simp)
 have h4 := fht_kid (k := k) (a := a) (b := b) (nm := nm) (A := A) (c := c) (ks := [x, y]) (x := y) (by simp)
 have h5 := ndF_le (fLev k) x
 have h6 := ndF_le (fLev k + 1) y
 rw [fshT_own (fLev k) _ (by show fLev k ≤ fLev k; omega), fsh_bin k a b hb]
 obtain ⟨g1, g2, g3, g4⟩ := fgood_op k hb (fshT (fLev k + 1) y ++ q)
 have e : fshT (fLev k) x ++ 32 :: (fOp k ++ 32 :: fshT (fLev k + 1) y) ++ q = fshT (fLev k) x ++ 32 :: (fOp k ++ 32 :: (fshT (fLev k + 1) y ++ q)) := by simp
 rw [e]
 refine hx o (by omega) _ _ _ g1 ?_
 rw [if_neg hn3]
 have hyr := hy o (by omega) q hq
 rw [sk_fshT hoy] at g3
 have hj : jobL (fLev k + 1) = .ex (fLev k + 1) ∨ (fLev k = 1 ∧ jobL (fLev k + 1) = .on) := by
  rcases hL with h | h
  ·left; rw [h]; rfl
  ·right; exact ⟨h, by rw [h]; rfl⟩
 have hyr2 : Rds (.ex (fLev k + 1)) o (fshT (fLev k + 1) y ++ q) (shp y) (sk q) := by
  rcases hj with h | ⟨h, h'⟩
  ·rw [h] at hyr; exact hyr
  ·rw [h'] at hyr; rw [h] at hyr ⊢; exact rds_ex2 hyr
 refine rds_lp_op (by rw [g2]; exact g4) (by rw [g3]; exact hyr2) ?_
 rw [shp_node, ha, hbb, hnm] at h2
 exact h2
theorem KL_shift {a b : Int} {nm : ByteArray} {A : Option Addr} {c : Nat} {x : FE} (ha : a.natAbs ≤ 999999999) (hbb : b = 0) (hnm : nm = noB) (hx : KL 3 x) : KL 3 (.node 7 a b nm A c [x]) := by
 intro o ho q f l' hq h2
 rw [if_pos rfl] at h2
 have hnd : ndF 3 (.node 7 a b nm A c [x]) = fht (.node 7 a b nm A c [x]) - 1 := rfl
 have h3 := fht_kid (k := 7) (a := a) (b := b) (nm := nm) (A := A) (c := c) (ks := [x]) (x := x) (by simp)
 have h5 := ndF_le 3 x
 rw [fshT_own 3 _ (by show 3 ≤ fLev 7; decide), fsh_7, List.append_assoc]
 rw [shp_node, hbb, hnm] at h2
 have hbd : ∀ r, FGood 4 (32 :: r) := fun r => ⟨bd_cons 32 r (by decide) (by decide), fun e => absurd e (by decide), fun e => absurd e (by decide), fun e => absurd e (by decide)⟩
 have hdec : ∀ u : Nat, sk (32 :: (decDigits u ++ q)) = decDigits u ++ q := fun u => by
  obtain ⟨b, r, e, _, _, h32⟩ := dec_head u
  rw [sk_sp, e]
  exact sk_of b _ h32
 by_cases hneg : a < 0
 ·have e : fSh a ++ q = 32 :: (45 :: 32 :: (decDigits a.natAbs ++ q)) := by
   unfold fSh itoa
   rw [if_pos hneg, if_pos hneg]
   rfl
  rw [e]
  refine hx o (by omega) _ _ _ (hbd _) ?_
  rw [if_pos rfl]
  have hs : sk (32 :: (45 :: 32 :: (decDigits a.natAbs ++ q))) = 45 :: 32 :: (decDigits a.natAbs ++ q) := by rw [sk_sp]; exact sk_of 45 _ (by decide)
  rw [hs]
  have ht : tk (45 :: 32 :: (decDigits a.natAbs ++ q)) = [45] := tk_one 45 _ (by decide) (by decide)
  have hn : nx (45 :: 32 :: (decDigits a.natAbs ++ q)) = decDigits a.natAbs ++ q := by rw [show (45 :: 32 :: (decDigits a.natAbs ++ q) : List UInt8) = [45] ++ 32 :: (decDigits a.natAbs ++ q) from rfl, nx_of [45] _ ht, hdec]
  refine rds_sl_minus ht (by rw [hn]; exact natR_dec false a.natAbs ha q hq.bd) ?_
  simp only [Bool.false_eq_true, if_false]
  rw [show -(a.natAbs : Int) = a from by omega]
  exact h2
 ·have e : fSh a ++ q = 32 :: (43 :: 32 :: (decDigits a.toNat ++ q)) := by
   unfold fSh itoa
   rw [if_neg hneg, if_neg hneg]
   rfl
  rw [e]
  refine hx o (by omega) _ _ _ (hbd _) ?_
  rw [if_pos rfl]
  have hs : sk (32 :: (43 :: 32 :: (decDigits a.toNat ++ q))) = 43 :: 32 :: (decDigits a.toNat ++ q) := by rw [sk_sp]; exact sk_of 43 _ (by decide)
  rw [hs]
  have ht : tk (43 :: 32 :: (decDigits a.toNat ++ q)) = [43] := tk_one 43 _ (by decide) (by decide)
  have hn : nx (43 :: 32 :: (decDigits a.toNat ++ q)) = decDigits a.toNat ++ q := by rw [show (43 :: 32 :: (decDigits a.toNat ++ q) : List UInt8) = [43] ++ 32 :: (decDigits a.toNat ++ q) from rfl, nx_of [43] _ ht, hdec]
  refine rds_sl_plus ht (by rw [hn]; exact natR_dec false a.toNat (by omega) q hq.bd) ?_
  simp only [Bool.false_eq_true, if_false]
  rw [show (a.toNat : Int) = a from by omega]
  exact h2
theorem PL_on8 {a b : Int} {nm : ByteArray} {A : Option Addr} {c : Nat} {x : FE} (ha : a.natAbs ≤ 999999999) (hbb : b = 0) (hnm : nm = noB) (hox : FeOk x) (hx : PL 2 x) : PL 2 (.node 8 a b nm A c [x]) := by
 intro o ho q hq
 have hnd : ndF 2 (.node 8 a b nm A c [x]) = fht (.node 8 a b nm A c [x]) - 1 := rfl
 have h3 := fht_kid (k := 8) (a := a) (b := b) (nm := nm) (A := A) (c := c) (ks := [x]) (x := x) (by simp)
 have h5 := ndF_le 2 x
 rw [fshT_own 2 _ (by show 2 ≤ fLev 8; decide), fsh_8, shp_node, hbb, hnm]
 have e : [111, 110, 32] ++ (itoa a ++ 32 :: fshT 2 x) ++ q = [111, 110] ++ 32 :: (itoa a ++ 32 :: (fshT 2 x ++ q)) := by simp
 rw [e]
 have ht := tk_word [111, 110] (32 :: (itoa a ++ 32 :: (fshT 2 x ++ q))) (by decide) (by decide) (bd_cons 32 _ (by decide) (by decide))
 have hn : nx ([111, 110] ++ 32 :: (itoa a ++ 32 :: (fshT 2 x ++ q))) = itoa a ++ 32 :: (fshT 2 x ++ q) := by rw [nx_of _ _ ht, sk_num]
 have e1 := numR_itoa a ha (32 :: (fshT 2 x ++ q)) (bd_cons 32 _ (by decide) (by decide))
 rw [sk_sp, sk_fshT hox] at e1
 exact rds_on8 ht (by rw [hn]; exact e1) (hx o (by omega) q hq)
theorem PL_on12 {a b : Int} {w : List UInt8} {A : Option Addr} {c : Nat} {x : FE} (ha : a.natAbs ≤ 999999999) (hb : b.natAbs ≤ 999999999) (hw : ∀ b ∈ w, isLow b = true) (hne : w ≠ []) (hox : FeOk x) (hx : PL 2 x) : PL 2 (.node 12 a b (str w) A c [x]) := by
 intro o ho q hq
 have hnd : ndF 2 (.node 12 a b (str w) A c [x]) = fht (.node 12 a b (str w) A c [x]) - 1 := rfl
 have h3 := fht_kid (k := 12) (a := a) (b := b) (nm := str w) (A := A) (c := c) (ks := [x]) (x := x) (by simp)
 have h5 := ndF_le 2 x
 rw [fshT_own 2 _ (by show 2 ≤ fLev 12; decide), fsh_12, shp_node, str_data]
 have e : [110, 116, 104, 32] ++ (itoa a ++ ([32, 105, 110, 32] ++ (w ++ 32 :: (itoa b ++ 32 :: fshT 2 x)))) ++ q = [110, 116, 104] ++ 32 :: (itoa a ++ 32 :: ([105, 110] ++ 32 :: (w ++ 32 :: (itoa b ++ 32 :: (fshT 2 x ++ q))))) := by simp
 rw [e]
 generalize hX : itoa b ++ 32 :: (fshT 2 x ++ q) = X
 have ht := tk_word [110, 116, 104] (32 :: (itoa a ++ 32 :: ([105, 110] ++ 32 :: (w ++ 32 :: X)))) (by decide) (by decide) (bd_cons 32 _ (by decide) (by decide))
 have hn : nx ([110, 116, 104] ++ 32 :: (itoa a ++ 32 :: ([105, 110] ++ 32 :: (w ++ 32 :: X)))) = itoa a ++ 32 :: ([105, 110] ++ 32 :: (w ++ 32 :: X)) := by rw [nx_of _ _ ht, sk_num]
 have e1 := numR_itoa a ha (32 :: ([105, 110] ++ 32 :: (w ++ 32 :: X))) (bd_cons 32 _ (by decide) (by decide))
 have hs : sk (32 :: ([105, 110] ++ 32 :: (w ++ 32 :: X))) = [105, 110] ++ 32 :: (w ++ 32 :: X) := by rw [sk_sp]; exact sk_of 105 _ (by decide)
 rw [hs] at e1
 have ht2 := tk_word [105, 110] (32 :: (w ++ 32 :: X)) (by decide) (by decide) (bd_cons 32 _ (by decide) (by decide))
 obtain ⟨e2, e3⟩ := wordR_word w (32 :: X) hw hne (bd_cons 32 _ (by decide) (by decide))
 have hn2 : nx ([105, 110] ++ 32 :: (w ++ 32 :: X)) = w ++ 32 :: X := by rw [nx_of _ _ ht2, sk_sp, e3]
 have e4 := numR_itoa b hb (32 :: (fshT 2 x ++ q)) (bd_cons 32 _ (by decide) (by decide))
 rw [sk_sp, sk_fshT hox] at e4
 have e5 : sk (32 :: X) = X := by rw [← hX, sk_num]
 rw [e5] at e2
 exact rds_on12 ht (by rw [hn]; exact e1) ht2 (by rw [hn2]; exact e2) (by rw [← hX]; exact e4) (hx o (by omega) q hq)
theorem down3 {t : FE} (h : fLev (fkd t) ≠ 3) (h4 : PL 4 t) : PL 3 t ∧ KL 3 t := have k := KL_up 3 (.inr (.inr rfl)) t h h4; ⟨PL_of_KL 3 (.inr (.inr rfl)) t k, k⟩
theorem down2 {t : FE} (hok : FeOk t) (h : fLev (fkd t) ≠ 2) (h3 : PL 3 t) : PL 2 t := by
 intro o ho q hq
 obtain ⟨e1, e2⟩ := fshT_up 2 t h
 have h1 := h3 o (by rw [← e2]; exact ho) q (hq.up (by omega))
 obtain ⟨n1, n2⟩ := tk_hd3 hok q
 rw [e1]
 exact rds_on_sh n1 n2 h1
theorem down1 {t : FE} (h : fLev (fkd t) ≠ 1) (h2 : PL 2 t) : PL 1 t ∧ KL 1 t := have k := KL_up 1 (.inr (.inl rfl)) t h h2; ⟨PL_of_KL 1 (.inr (.inl rfl)) t k, k⟩
theorem down0 {t : FE} (h : fLev (fkd t) ≠ 0) (h1 : PL 1 t) : PL 0 t ∧ KL 0 t := have k := KL_up 0 (.inl rfl) t h h1; ⟨PL_of_KL 0 (.inl rfl) t k, k⟩
structure AllL (t : FE) : Prop where
 p4 : PL 4 t
 p3 : PL 3 t
 k3 : KL 3 t
 p2 : PL 2 t
 p1 : PL 1 t
 k1 : KL 1 t
 p0 : PL 0 t
 k0 : KL 0 t
theorem read_back {t : FE} (h : FeOk t) : AllL t := by
 have hok := h
 induction h with
 | @mk k a b nm A c ks node kids ih =>
  have IH : ∀ x ∈ ks, AllL x := fun x hx => ih x hx (kids x hx)
  obtain ⟨na, nb⟩ := fnums node
  have ua := node.ua
  have ub := node.ub
  rcases fnode_cases node with ⟨h1, h2, rfl⟩ | ⟨rfl, x, rfl⟩ | ⟨rfl, x, rfl⟩ | ⟨rfl, x, rfl⟩ | ⟨hb, x, y, rfl⟩
  ·have hlv : fLev k = 4 := by unfold fLev; rw [if_neg (by omega), if_neg (by omega), if_neg (by omega), if_neg (by omega)]
   have p4 := PL_leaf (A := A) (c := c) node h1 h2
   obtain ⟨p3, k3⟩ := down3 (t := .node k a b nm A c []) (by show fLev k ≠ 3; omega) p4
   have p2 := down2 hok (by show fLev k ≠ 2; omega) p3
   obtain ⟨p1, k1⟩ := down1 (t := .node k a b nm A c []) (by show fLev k ≠ 1; omega) p2
   obtain ⟨p0, k0⟩ := down0 (t := .node k a b nm A c []) (by show fLev k ≠ 0; omega) p1
   exact ⟨p4, p3, k3, p2, p1, k1, p0, k0⟩
  ·have k3 := KL_shift (A := A) (c := c) na (ub rfl) (noname node rfl) (IH x (by simp)).k3
   have p3 := PL_of_KL 3 (.inr (.inr rfl)) _ k3
   have p2 := down2 hok (by show fLev 7 ≠ 2; decide) p3
   obtain ⟨p1, k1⟩ := down1 (t := .node 7 a b nm A c [x]) (by show fLev 7 ≠ 1; decide) p2
   obtain ⟨p0, k0⟩ := down0 (t := .node 7 a b nm A c [x]) (by show fLev 7 ≠ 0; decide) p1
   exact ⟨PL_par _ hok p0 (by show fLev 7 < 4; decide), p3, k3, p2, p1, k1, p0, k0⟩
  ·have p2 := PL_on8 (A := A) (c := c) na (ub rfl) (noname node rfl) (kids x (by simp)) (IH x (by simp)).p2
   obtain ⟨p1, k1⟩ := down1 (t := .node 8 a b nm A c [x]) (by show fLev 8 ≠ 1; decide) p2
   obtain ⟨p0, k0⟩ := down0 (t := .node 8 a b nm A c [x]) (by show fLev 8 ≠ 0; decide) p1
   have p4 := PL_par _ hok p0 (by show fLev 8 < 4; decide)
   obtain ⟨p3, k3⟩ := down3 (t := .node 8 a b nm A c [x]) (by show fLev 8 ≠ 3; decide) p4
   exact ⟨p4, p3, k3, p2, p1, k1, p0, k0⟩
  ·obtain ⟨w, rfl, hd, hw, hne⟩ := fname node rfl
   have p2 := PL_on12 (A := A) (c := c) na nb hw hne (kids x (by simp)) (IH x (by simp)).p2
   obtain ⟨p1, k1⟩ := down1 (t := .node 12 a b (str w) A c [x]) (by show fLev 12 ≠ 1; decide) p2
   obtain ⟨p0, k0⟩ := down0 (t := .node 12 a b (str w) A c [x]) (by show fLev 12 ≠ 0; decide) p1
   have p4 := PL_par _ hok p0 (by show fLev 12 < 4; decide)
   obtain ⟨p3, k3⟩ := down3 (t := .node 12 a b (str w) A c [x]) (by show fLev 12 ≠ 3; decide) p4
   exact ⟨p4, p3, k3, p2, p1, k1, p0, k0⟩
  ·have hua : usA k = false := by rcases hb with rfl | rfl | rfl <;> rfl
   have hub : usB k = false := by rcases hb with rfl | rfl | rfl <;> rfl
   have hun : usN k = false := by rcases hb with rfl | rfl | rfl <;> rfl
   have hl : fLev k = 0 ∨ fLev k = 1 := by rcases hb with rfl | rfl | rfl <;> decide
   rcases hl with hl | hl
   ·have k0 := KL_bin (A := A) (c := c) hb (ua hua) (ub hub) (noname node hun) (kids y (by simp)) (by rw [hl]; exact (IH x (by simp)).k0) (by rw [hl]; exact (IH y (by simp)).p1)
    rw [hl] at k0
    have p0 := PL_of_KL 0 (.inl rfl) _ k0
    have p4 := PL_par _ hok p0 (by show fLev k < 4; omega)
    obtain ⟨p3, k3⟩ := down3 (t := .node k a b nm A c [x, y]) (by show fLev k ≠ 3; omega) p4
    have p2 := down2 hok (by show fLev k ≠ 2; omega) p3
    obtain ⟨p1, k1⟩ := down1 (t := .node k a b nm A c [x, y]) (by show fLev k ≠ 1; omega) p2
    exact ⟨p4, p3, k3, p2, p1, k1, p0, k0⟩
   ·have k1 := KL_bin (A := A) (c := c) hb (ua hua) (ub hub) (noname node hun) (kids y (by simp)) (by rw [hl]; exact (IH x (by simp)).k1) (by rw [hl]; exact (IH y (by simp)).p2)
    rw [hl] at k1
    have p1 := PL_of_KL 1 (.inr (.inl rfl)) _ k1
    obtain ⟨p0, k0⟩ := down0 (t := .node k a b nm A c [x, y]) (by show fLev k ≠ 0; omega) p1
    have p4 := PL_par _ hok p0 (by show fLev k < 4; omega)
    obtain ⟨p3, k3⟩ := down3 (t := .node k a b nm A c [x, y]) (by show fLev k ≠ 3; omega) p4
    have p2 := down2 hok (by show fLev k ≠ 2; omega) p3
    exact ⟨p4, p3, k3, p2, p1, k1, p0, k0⟩
theorem rd_back {t : FE} (h : FeGood t) : ∃ n, rd n (.ex 0) 0 (sk (fsh t)) = some (.yes (shp t) []) := by
 have h1 := (read_back h.ok).p0 0 (by have := ndF_le 0 t; have := h.ht; omega) [] fgood_nil
 rw [fshT_own 0 t (by omega), List.append_nil] at h1
 have h2 := sk_fsh h.ok []
 rw [List.append_nil] at h2
 rw [h2]
 exact h1
end Go.Proofs.YtabidjmmgnkhkaaGreatDoor
