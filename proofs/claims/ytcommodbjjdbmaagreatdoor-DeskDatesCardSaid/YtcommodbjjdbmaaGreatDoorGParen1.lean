/- Paren1, Paren2 -/
import Derived.Lib.Replace
import Derived.Lib.Join
import Derived.Lib.CountLaws
import Derived.Test.YtcommodbjjdbmaaGreatDoorGBack1
import Derived.Test.YtcommodbjjdbmaaGreatDoorGPlainSplit
/- A rule whose leap expression stands in parentheses: read as it was; what it gives. -/
namespace Go.Proofs.YtcommodbjjdbmaaGreatDoor
open Go.RowKit
set_option linter.unusedVariables false

mutual
theorem evalR_strip (y : Int) : ∀ t : RE, evalR y (strip t) = evalR y t
  | .node k n A c ks => by rw [strip, evalR, evalR, evalL_strip y ks]
theorem evalL_strip (y : Int) : ∀ ks : List RE, evalL y (stripL ks) = evalL y ks
  | [] => by rw [stripL]
  | x :: r => by rw [stripL, evalL, evalL, evalR_strip y x, evalL_strip y r]
end
theorem Same.eval {t u : RE} (h : Same t u) (y : Int) : evalR y t = evalR y u := by rw [← evalR_strip y t, ← evalR_strip y u, h]
/-- the printed rule with the fourth line's expression in parentheses -/
def RTp (t : Tr) : RT := ⟨t.nm.data.toList, t.ep, t.cy, [108, 101, 97, 112, 32, 32, 32, 40, 32] ++ shB t.ex ++ [32, 41], t.mo⟩
theorem leap_paren {e : RE} (h : ReOk e) : toks ([108, 101, 97, 112, 32, 32, 32, 40, 32] ++ shB e ++ [32, 41]) = [108, 101, 97, 112] :: ([40] :: (prB e ++ [41] :: [])) := by
  have e1 : [108, 101, 97, 112, 32, 32, 32, 40, 32] ++ shB e ++ [32, 41] = [108, 101, 97, 112] ++ (32 :: (32 :: (32 :: (40 :: (32 :: (shB e ++ [32, 41])))))) := by simp
  rw [e1, lx_word _ _ (by decide) (by decide) (bd_cons 32 _ (by decide) (by decide)), lx_sp, lx_sp, lx_sp, lx_one 40 _ (by decide) (by decide) (by decide), lx_sp, lx_expr e h _ (bd_cons 32 _ (by decide) (by decide)), lx_sp, lx_one 41 _ (by decide) (by decide) (by decide)]
  rfl
theorem rtpok {t : Tr} (h : TrOk t) : RTOk (RTp t) :=
  { rtok h with
    lt := fun b hb => by
      rcases List.mem_append.1 (show b ∈ ([108, 101, 97, 112, 32, 32, 32, 40, 32] ++ shB t.ex) ++ [32, 41] from hb) with hb | hb
      · rcases List.mem_append.1 hb with hb | hb
        · exact (show ∀ b ∈ ([108, 101, 97, 112, 32, 32, 32, 40, 32] : List UInt8), b ≠ 10 by decide) b hb
        · exact shB_no10 h.ex.1 b hb
      · exact (show ∀ b ∈ ([32, 41] : List UInt8), b ≠ 10 by decide) b hb }
theorem parse_paren (t : Tr) (h : TrOk t) (hl : ((RTp t).rest 0).length ≤ 4000) (w : World) (hs : Sgs w) (hv : Lvs w) (hsh : Shp w) :
    Calls Tryz.prog 61 #[.string (str ((RTp t).rest 0))] w (PrsQ (RTp t) t.ex w) := by
  refine parse_rule (RTp t) (rtpok h) t.ex ([40] :: (prB t.ex ++ [41] :: [])) (leap_paren h.ex.1) hl ⟨by show NameOk (str t.nm.data.toList); rw [str_own']; exact h.hd.1, h.hd.2⟩ h.ex h.mo w hs hv hsh fun g W S hS hr => ?_
  have hC := expr_paren g S hS t.ex h.ex.1 h.ex.3 7 0 rfl [] (good_nil 0) W hr
  unfold ExprC at hC
  rw [if_neg (by omega)] at hC
  exact hC
end Go.Proofs.YtcommodbjjdbmaaGreatDoor

/- The pieces of a printed rule: cut into five, the fourth changed, joined again. -/
namespace Go.Proofs.YtcommodbjjdbmaaGreatDoor
open Go.Lib
set_option linter.unusedVariables false

theorem split_head (c : UInt8) (k : Nat) (a r : List UInt8) (ha : ∀ b ∈ a, b ≠ c) : splitB ⟨#[c]⟩ 0 (k + 1) (str (a ++ c :: r)) = str a :: splitB ⟨#[c]⟩ 0 k (str r) := by
  rw [splitB_hit _ _ _ _ a.length (by
    show index (str (a ++ c :: r)).data.toList [c] = _
    rw [str_data]; exact index_at c _ a ha)]
  rw [show (⟨#[c]⟩ : ByteArray).size = 1 from rfl, str_size, ext_str, ext_str, List.take_length, show (a ++ c :: r).drop (a.length + 1) = r from by simp]
  simp
/-- a printed rule in five pieces -/
theorem split_rule (t : RT) (ok : RTOk t) : splitB ⟨#[10]⟩ 0 4 (str (t.rest 0)) = [str (t.line 0), str (t.line 1), str (t.line 2), str (t.line 3), str (t.rest 4)] := by
  rw [t.step 0 (by omega), split_head 10 3 _ _ (ok.no10 0 (by omega)), t.step 1 (by omega), split_head 10 2 _ _ (ok.no10 1 (by omega)), t.step 2 (by omega), split_head 10 1 _ _ (ok.no10 2 (by omega)), t.step 3 (by omega), split_head 10 0 _ _ (ok.no10 3 (by omega)), splitB_zero]
/-- .. joined again -/
theorem join_rule (t : RT) : join [t.line 0, t.line 1, t.line 2, t.line 3, t.rest 4] [10] = t.rest 0 := by
  rw [t.step 0 (by omega), t.step 1 (by omega), t.step 2 (by omega), t.step 3 (by omega)]
  unfold join
  simp [List.intercalate, List.intersperse]
theorem rtp_line (t : Tr) (k : Nat) (hk : k ≠ 3) : (RTp t).line k = (RTof t).line k := by
  unfold RT.line RTp RTof
  simp only
  repeat' split
  all_goals first | rfl | omega
theorem rtp_rest4 (t : Tr) : (RTp t).rest 4 = (RTof t).rest 4 := by
  rw [show (4 : Nat) = 4 + 0 from rfl, rest_mons (RTp t) _ 0 (Nat.zero_add _), rest_mons (RTof t) _ 0 (Nat.zero_add _)]
  rfl
theorem replace_leap (s : List UInt8) : replace ([108, 101, 97, 112, 32] ++ s) [108, 101, 97, 112, 32] [108, 101, 97, 112, 32, 32, 32, 40, 32] 1 = [108, 101, 97, 112, 32, 32, 32, 40, 32] ++ s := by
  have hi : index ([108, 101, 97, 112, 32] ++ s) [108, 101, 97, 112, 32] = ((0 : Nat) : Int) := by
    show index (108 :: ([101, 97, 112, 32] ++ s)) _ = 0
    rw [index, if_pos (by simp [List.isPrefixOf])]
  have hc := count_hit (by decide) hi
  have hn : replaceNum ([108, 101, 97, 112, 32] ++ s) [108, 101, 97, 112, 32] 1 = 0 + 1 := by
    unfold replaceNum
    rw [if_neg (by omega)]
    rfl
  unfold replace
  rw [if_neg (by decide), hn, replaceK_hit _ _ 0 _ 0 hi, replaceK]
  simp
theorem rtp_len (t : Tr) : ((RTp t).rest 0).length = ((RTof t).rest 0).length + 6 := by
  rw [(RTp t).step 0 (by omega), (RTp t).step 1 (by omega), (RTp t).step 2 (by omega), (RTp t).step 3 (by omega), (RTof t).step 0 (by omega), (RTof t).step 1 (by omega), (RTof t).step 2 (by omega), (RTof t).step 3 (by omega), rtp_line t 0 (by omega), rtp_line t 1 (by omega), rtp_line t 2 (by omega), show (3 + 1 : Nat) = 4 from rfl, rtp_rest4]
  simp only [List.length_append, List.length_cons, show (RTp t).line 3 = [108, 101, 97, 112, 32, 32, 32, 40, 32] ++ shB t.ex ++ [32, 41] from rfl, show (RTof t).line 3 = [108, 101, 97, 112, 32] ++ shB t.ex from rfl, List.length_nil]
  omega
theorem paren_line (t : Tr) : str ([108, 101, 97, 112, 32, 32, 32, 40, 32] ++ shB t.ex) ++ (⟨#[32, 41]⟩ : ByteArray) = str ((RTp t).line 3) := by
  rw [show (RTp t).line 3 = ([108, 101, 97, 112, 32, 32, 32, 40, 32] ++ shB t.ex) ++ [32, 41] from rfl, ← str_append]
  rfl
theorem same_fine {t u : RE} (h : Same u t) (ok : ReFine t) : ReFine u := ⟨h.ok ok.ok, by rw [h.sz]; exact ok.sz, by rw [h.ht]; exact ok.ht⟩
end Go.Proofs.YtcommodbjjdbmaaGreatDoor
