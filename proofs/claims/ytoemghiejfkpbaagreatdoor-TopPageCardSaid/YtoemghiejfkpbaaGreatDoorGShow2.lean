/- Show2, Show4, Back1 -/
import Derived.Test.YtoemghiejfkpbaaGreatDoorGParseA
/- Contract of rule.show. -/
namespace Go.Proofs.YtoemghiejfkpbaaGreatDoor
open Go.Lib
set_option linter.unusedVariables false
theorem shB_one (n : Int) (A : Option Addr) (c : Nat) (ks : List RE) : shB (.node 1 n A c ks) = itoa n := by rw [shB, if_pos rfl]
theorem shB_two (n : Int) (A : Option Addr) (c : Nat) (ks : List RE) : shB (.node 2 n A c ks) = [121] := by rw [shB, if_neg (by omega), if_pos rfl]
theorem shB_neg (n : Int) (A : Option Addr) (c : Nat) (a : RE) : shB (.node 3 n A c [a]) = 45 :: shT 6 a := by
 have e0 := shL_get [a] 0 (by simp)
 simp only [List.getD_cons_zero] at e0
 rw [shB, if_neg (by omega), if_neg (by omega), if_pos rfl, e0]
 rfl
theorem shB_not (n : Int) (A : Option Addr) (c : Nat) (a : RE) : shB (.node 11 n A c [a]) = [110, 111, 116, 32] ++ shT 2 a := by
 have e0 := shL_get [a] 0 (by simp)
 simp only [List.getD_cons_zero] at e0
 rw [shB, if_neg (by omega), if_neg (by omega), if_neg (by omega), if_pos rfl, e0]
 rfl
theorem shB_bin (k n : Int) (A : Option Addr) (c : Nat) (a b : RE) (hk : isBin k) : shB (.node k n A c [a, b]) = shT (fst k) a ++ 32 :: (sgn k ++ 32 :: shT (lev k + 1) b) := by
 have h := hk
 unfold isBin at h
 have e0 := shL_get [a, b] 0 (by simp)
 have e1 := shL_get [a, b] 1 (by simp)
 simp only [List.getD_cons_zero, List.getD_cons_succ] at e0 e1
 rw [shB, if_neg (by omega), if_neg (by omega), if_neg (by omega), if_neg (by omega), e0, e1]
 rfl
theorem node_cases {k n : Int} {ks : List RE} (h : ReNode k n ks.length) :
  (k = 1 ∧ ks = []) ∨ (k = 2 ∧ ks = []) ∨ (k = 3 ∧ ∃ a, ks = [a]) ∨ (k = 11 ∧ ∃ a, ks = [a]) ∨ (isBin k ∧ ∃ a b, ks = [a, b]) := by
 have h0 := h.k0
 have h1 := h.k1
 have hl := h.len
 have hc : k = 1 ∨ k = 2 ∨ k = 3 ∨ k = 11 ∨ isBin k := by unfold isBin; omega
 rcases hc with rfl | rfl | rfl | rfl | hb
 ·exact .inl ⟨rfl, List.eq_nil_of_length_eq_zero (by rw [hl]; rfl)⟩
 ·exact .inr (.inl ⟨rfl, List.eq_nil_of_length_eq_zero (by rw [hl]; rfl)⟩)
 ·exact .inr (.inr (.inl ⟨rfl, List.length_eq_one_iff.1 (by rw [hl]; rfl)⟩))
 ·exact .inr (.inr (.inr (.inl ⟨rfl, List.length_eq_one_iff.1 (by rw [hl]; rfl)⟩)))
 ·have h2 : ks.length = 2 := by
   rw [hl]
   unfold isBin at hb
   unfold opsN
   repeat' split
   all_goals omega
  match ks, h2 with
  | [a, b], _ => exact .inr (.inr (.inr (.inr ⟨hb, a, b, rfl⟩)))
theorem shB_strip (t : RE) (h : ReOk t) : shB (strip t) = shB t := by
 induction h with
 | @mk k n A c ks node kids ih =>
  have hT : ∀ x ∈ ks, ∀ L, shT L (strip x) = shT L x := fun x hx L => by unfold shT; rw [strip_kd, ih x hx]
  rw [strip_node]
  rcases node_cases node with ⟨rfl, rfl⟩ | ⟨rfl, rfl⟩ | ⟨rfl, a, rfl⟩ | ⟨rfl, a, rfl⟩ | ⟨hb, a, b, rfl⟩
  ·rw [shB_one, shB_one]
  ·rw [shB_two, shB_two]
  ·show shB (.node 3 n none 0 [strip a]) = _
   rw [shB_neg, shB_neg, hT a (by simp)]
  ·show shB (.node 11 n none 0 [strip a]) = _
   rw [shB_not, shB_not, hT a (by simp)]
  ·show shB (.node k n none 0 [strip a, strip b]) = _
   rw [shB_bin k _ _ _ _ _ hb, shB_bin k _ _ _ _ _ hb, hT a (by simp), hT b (by simp)]
end Go.Proofs.YtoemghiejfkpbaaGreatDoor
namespace Go.Proofs.YtoemghiejfkpbaaGreatDoor
open Go.RowKit
set_option linter.unusedVariables false
end Go.Proofs.YtoemghiejfkpbaaGreatDoor
/- rule.Print, walked. -/
namespace Go.Proofs.YtoemghiejfkpbaaGreatDoor
open Go.RowKit
set_option linter.unusedVariables false
def headP (t : Tr) : List UInt8 := [99, 97, 108, 101, 110, 100, 97, 114, 32] ++ t.nm.data.toList ++ [10, 101, 112, 111, 99, 104, 32] ++ Lib.itoa t.ep ++ [10, 99, 121, 99, 108, 101, 32] ++ Lib.itoa t.cy ++ [10, 108, 101, 97, 112, 32] ++ shB t.ex ++ [10]
def monN (m : Mth) : List UInt8 := monL m ++ [10]
def printR (t : Tr) : List UInt8 := headP t ++ t.mo.flatMap monN
def RTof (t : Tr) : RT := ⟨t.nm.data.toList, t.ep, t.cy, [108, 101, 97, 112, 32] ++ shB t.ex, t.mo⟩
theorem rest_mons (t : RT) : ∀ (j k : Nat), k + j = t.mo.length → t.rest (4 + k) = (t.mo.drop k).flatMap monN := by
 intro j
 induction j with
 | zero =>
  intro k hk
  obtain rfl : k = t.mo.length := by omega
  rw [RT.done, List.drop_length]
  rfl
 | succ j ih =>
  intro k hk
  rw [t.step (4 + k) (by omega), show 4 + k + 1 = 4 + (k + 1) from by omega, ih (k + 1) (by omega), List.drop_eq_getElem_cons (show k < t.mo.length by omega), List.flatMap_cons]
  have e : t.line (4 + k) = monL t.mo[k] := by
   unfold RT.line
   rw [if_neg (by omega), if_neg (by omega), if_neg (by omega), if_neg (by omega), show 4 + k - 4 = k from by omega]
   simp [List.getD, List.getElem?_eq_getElem (show k < t.mo.length by omega)]
  rw [e]
  unfold monN
  simp
theorem printR_rest (t : Tr) : printR t = (RTof t).rest 0 := by
 rw [(RTof t).step 0 (by omega), (RTof t).step 1 (by omega), (RTof t).step 2 (by omega), (RTof t).step 3 (by omega), show (3 + 1 : Nat) = 4 + 0 from rfl, rest_mons (RTof t) _ 0 (Nat.zero_add _)]
 unfold printR headP RT.line RTof
 simp
end Go.Proofs.YtoemghiejfkpbaaGreatDoor
namespace Go.Proofs.YtoemghiejfkpbaaGreatDoor
open Go.RowKit
set_option linter.unusedVariables false
theorem str_own' (s : ByteArray) : str s.data.toList = s := by simp [str]
end Go.Proofs.YtoemghiejfkpbaaGreatDoor
/- A rule that was printed is read as it was. -/
namespace Go.Proofs.YtoemghiejfkpbaaGreatDoor
open Go.RowKit Go.Lib
set_option linter.unusedVariables false
def strsData {H : Type} (zs : List (List UInt8)) : DataW H := .agg (zs.map fun z => .lit (.string z))
theorem cells_of_strs {H : Type} {enc : TypeId × Value → H} {P : Program} {w : World} {base : Nat} {sp : Nat → Bool} {held : Bool} {fuel : Nat} {t e : TypeId} {n : Nat} {cs : List Value} {zs : List (List UInt8)} {p : List MemPlace}
  (ht : P.underlying t = some (.array n e)) (he : P.underlying e = some .string) (hce : P.cellsOf e = 1) (hct : P.cellsOf t = n)
  (h : DataW.trod enc P w base sp held fuel t cs = some (strsData zs, p)) : cs = zs.map fun z => Value.string (str z) := by
 cases fuel with
 | zero => simp [DataW.trod] at h
 | succ fuel =>
  simp only [DataW.trod, ht, hce, hct, Nat.mul_one] at h
  split at h
  ·rename_i hl
   obtain ⟨xs, hm, hx⟩ := Option.map_eq_some_iff.1 h
   have hxs : xs.map (·.1) = zs.map fun z => (DataW.lit (.string z) : DataW H) := by
    have := congrArg Prod.fst hx
    simpa [strsData] using this
   have hxl : xs.length = n := by simpa using mapM_length hm
   have hzl : zs.length = n := by
    have := congrArg List.length hxs
    simp at this
    omega
   apply List.ext_getElem?
   intro i
   by_cases hi : i < n
   ·obtain ⟨b, hb, hf⟩ := mapM_at hm i i (by simp [hi])
    obtain ⟨z, hc, rfl, _⟩ := DataW.trod_string he hf
    have h1 : cs[i]? = some (.string z) := by
     have := congrArg (·[0]?) hc
     simpa [List.getElem?_take, List.getElem?_drop] using this
    have h2 : (xs.map (·.1))[i]? = some (DataW.lit (.string z.data.toList) : DataW H) := by simp [hb]
    rw [hxs] at h2
    simp only [List.getElem?_map, Option.map_eq_some_iff, DataW.lit.injEq, Lit.string.injEq] at h2
    obtain ⟨z', hz', rfl⟩ := h2
    simp [h1, hz', str]
   ·rw [List.getElem?_eq_none (by omega), List.getElem?_eq_none (by simp; omega)]
  ·cases h
def levZ : List Int := [0, 7, 7, 6, 4, 4, 5, 5, 5, 3, 3, 2, 1, 0]
def sgnZ : List (List UInt8) := [[], [], [], [], [43], [45], [42], [47], [37], [60], [61], [], [97, 110, 100], [111, 114]]
theorem lev_datum : (Rows.laid_ephemeris_rule_levels : DataW Unit) = Lib.tabData .i64 levZ := by kernel_rfl
theorem sgn_datum : (Rows.laid_ephemeris_rule_signs : DataW Unit) = strsData sgnZ := by kernel_rfl
theorem gLev : Tryz.prog.globalNamed "ephemeris/rule.levels" = some 8 := by kernel_rfl
theorem gLevType : (Tryz.prog.globals[8]?).map (·.type) = some 245 := by kernel_rfl
theorem gSgn : Tryz.prog.globalNamed "ephemeris/rule.signs" = some 7 := by kernel_rfl
theorem gSgnType : (Tryz.prog.globals[7]?).map (·.type) = some 244 := by kernel_rfl
theorem lvs_of {W : World} {rest : List (String × DataW Unit)} (h : laidMet Tryz.prog (("ephemeris/rule.levels", Rows.laid_ephemeris_rule_levels) :: rest) W) : Lvs W := by
 rw [lev_datum] at h
 have ht := Lib.tabIs_of_head gLev gLevType Tryz.underlying245 Tryz.underlying3 (by kernel_rfl) (by kernel_rfl) h
 intro k hk
 have := ht.cell gLev k hk
 rw [this]
 have h2 : ∀ k, k < 14 → levZ.getD k 0 = (lvN k : Int) := by decide
 rw [h2 k hk]
theorem sgs_of {W : World} {rest : List (String × DataW Unit)} (h : laidMet Tryz.prog (("ephemeris/rule.signs", Rows.laid_ephemeris_rule_signs) :: rest) W) : Sgs W := by
 rw [sgn_datum] at h
 obtain ⟨ps, ⟨g', t', cs, fuel, p, q, hg', ht', hvar, hd, _, _⟩, _⟩ := h
 obtain rfl := Option.some.inj (gSgn.symm.trans hg')
 obtain rfl := Option.some.inj (gSgnType.symm.trans ht')
 have hcs := cells_of_strs Tryz.underlying244 Tryz.underlying9 (by kernel_rfl) (by kernel_rfl) hd
 intro k hk
 have := World.var?_cell gSgn hvar k
 rw [this]
 have h2 : ∀ k : Nat, k < 14 → sgnZ[k]? = some (sgn (k : Int)) := by decide
 have h3 : cs.toList[k]? = some (.string (str (sgn (k : Int)))) := by rw [hcs, List.getElem?_map, h2 k hk]; rfl
 simpa using h3
end Go.Proofs.YtoemghiejfkpbaaGreatDoor
namespace Go.Proofs.YtoemghiejfkpbaaGreatDoor
open Go.RowKit
set_option linter.unusedVariables false
theorem sgn_no10 (k : Int) : ∀ b ∈ sgn k, b ≠ 10 := by
 unfold sgn
 repeat' split
 all_goals decide
theorem parB_no10 (L : Nat) (k : Int) (s : List UInt8) (h : ∀ b ∈ s, b ≠ 10) : ∀ b ∈ parB L (k, s), b ≠ 10 := by
 intro b hb
 unfold parB at hb
 split at hb
 ·simp only [List.mem_cons, List.mem_append, List.not_mem_nil, or_false] at hb
  rcases hb with rfl | hb | rfl
  ·decide
  ·exact h b hb
  ·decide
 ·exact h b hb
theorem shB_no10 {t : RE} (h : ReOk t) : ∀ b ∈ shB t, b ≠ 10 := by
 induction h with
 | @mk k n A c ks node kids ih =>
  have hT : ∀ x ∈ ks, ∀ L, ∀ b ∈ shT L x, b ≠ 10 := fun x hx L => parB_no10 L _ _ (ih x hx)
  intro b hb
  rcases node_cases node with ⟨rfl, rfl⟩ | ⟨rfl, rfl⟩ | ⟨rfl, a, rfl⟩ | ⟨rfl, a, rfl⟩ | ⟨hk, a, c2, rfl⟩
  ·rw [shB_one] at hb
   exact itoa_no10 _ b hb
  ·rw [shB_two] at hb
   revert b
   decide
  ·rw [shB_neg] at hb
   rcases List.mem_cons.1 hb with rfl | hb
   ·decide
   ·exact hT a (by simp) _ b hb
  ·rw [shB_not] at hb
   rcases List.mem_append.1 hb with hb | hb
   ·exact (show ∀ b ∈ ([110, 111, 116, 32] : List UInt8), b ≠ 10 by decide) b hb
   ·exact hT a (by simp) _ b hb
  ·rw [shB_bin k n A c a c2 hk] at hb
   rcases List.mem_append.1 hb with hb | hb
   ·exact hT a (by simp) _ b hb
   rcases List.mem_cons.1 hb with rfl | hb
   ·decide
   rcases List.mem_append.1 hb with hb | hb
   ·exact sgn_no10 k b hb
   rcases List.mem_cons.1 hb with rfl | hb
   ·decide
   ·exact hT c2 (by simp) _ b hb
theorem name_low {s : ByteArray} (h : NameOk s) : (∀ b ∈ s.data.toList, isLow b = true) ∧ s.data.toList ≠ [] := by
 have h1 := h.1
 have h2 := h.2.2.2.2.2.2
 refine ⟨fun b hb => ?_, fun e => ?_⟩
 ·obtain ⟨i, hi, rfl⟩ := List.getElem_of_mem hb
  have hi' : i < s.size := by rw [Array.length_toList] at hi; exact hi
  have h3 := h2 i hi'
  rw [Array.getElem_toList]
  have e : s.data[i]'(hi') = s[i] := rfl
  rw [e]
  unfold isLow
  rw [decide_eq_true h3.1, decide_eq_true h3.2]
  rfl
 ·have : s.data.toList.length = s.size := Array.length_toList
  rw [e] at this
  simp at this
  omega
theorem rtok {t : Tr} (h : TrOk t) : RTOk (RTof t) where
 nm := (name_low h.hd.1).1
 nn := (name_low h.hd.1).2
 e1 := by have := h.hd.2.1; show -9999999999 ≤ t.ep; omega
 e2 := by have := h.hd.2.1; show t.ep ≤ 9999999999; omega
 c1 := by have := h.hd.2.2; show -9999999999 ≤ t.cy; omega
 c2 := by have := h.hd.2.2; show t.cy ≤ 9999999999; omega
 lt := fun b hb => by
  rcases List.mem_append.1 (show b ∈ [108, 101, 97, 112, 32] ++ shB t.ex from hb) with hb | hb
  ·exact (show ∀ b ∈ ([108, 101, 97, 112, 32] : List UInt8), b ≠ 10 by decide) b hb
  ·exact shB_no10 h.ex.1 b hb
 ml := h.mo.n2
 mo := fun i hi => by
  have hm := h.mo.each i hi
  have := hm.sh
  have := hm.lo
  refine ⟨(name_low hm.nm).1, (name_low hm.nm).2, ?_, ?_, ?_, ?_⟩ <;> (show _ ≤ _) <;> simp only [RTof] <;> omega
theorem leap_toks {e : RE} (h : ReOk e) : toks ([108, 101, 97, 112, 32] ++ shB e) = [108, 101, 97, 112] :: (prB e ++ []) := by
 have e1 : [108, 101, 97, 112, 32] ++ shB e = [108, 101, 97, 112] ++ (32 :: shB e) := rfl
 rw [e1, lx_word _ _ (by decide) (by decide) (bd_cons 32 _ (by decide) (by decide)), lx_sp]
 have := lx_expr e h [] bd_nil
 rw [List.append_nil] at this
 rw [this]
 rfl
theorem parse_printn (t : Tr) (h : TrOk t) (hl : (printR t).length ≤ 4000) (w : World) (hs : Sgs w) (hv : Lvs w) (hsh : Shp w) :
  Calls Tryz.prog 104 #[.string (str (printR t))] w (PrsN (RTof t) t.ex w) := by
 rw [printR_rest] at hl ⊢
 refine parse_new (RTof t) (rtok h) t.ex (prB t.ex ++ []) (leap_toks h.ex.1) hl ⟨by show NameOk (str t.nm.data.toList); rw [str_own']; exact h.hd.1, h.hd.2⟩ h.ex h.mo w hs hv hsh fun g W S hS hr => ?_
 exact expr_read g S hS t.ex h.ex.1 h.ex.3 [] (good_nil 0) W hr
theorem read_ok {t u : Tr} (h : TrOk t) (hr : ReadAs (RTof t) t.ex u) : TrOk u ∧ printR u = printR t := by
 have e1 : u.nm = t.nm := by rw [hr.nm]; exact str_own' t.nm
 have e2 : u.ep = t.ep := hr.ep
 have e3 : u.cy = t.cy := hr.cy
 have e4 : u.mo = t.mo := hr.mo
 have ok : ReOk u.ex := hr.ex.ok h.ex.1
 refine ⟨⟨by rw [e1, e2, e3]; exact h.hd, ⟨ok, by rw [hr.ex.sz]; exact h.ex.2, by rw [hr.ex.ht]; exact h.ex.3⟩, by rw [e4]; exact h.mo⟩, ?_⟩
 have e5 : shB u.ex = shB t.ex := by rw [← shB_strip u.ex ok, ← shB_strip t.ex h.ex.1, hr.ex]
 unfold printR headP
 rw [e1, e2, e3, e4, e5]
end Go.Proofs.YtoemghiejfkpbaaGreatDoor
