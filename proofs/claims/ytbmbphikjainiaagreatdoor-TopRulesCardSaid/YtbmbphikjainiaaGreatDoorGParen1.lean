/- Paren1 -/
import Derived.Test.YtbmbphikjainiaaGreatDoorGBack1
/- A rule whose leap expression stands in parentheses: read as it was; what it gives. -/
namespace Go.Proofs.YtbmbphikjainiaaGreatDoor
open Go.RowKit
set_option linter.unusedVariables false

mutual
theorem evalR_strip (y : Int) : ∀ t : RE, evalR y (strip t) = evalR y t
  | .node k n A c ks => by rw [strip, evalR, evalR, evalL_strip y ks]
theorem evalL_strip (y : Int) : ∀ ks : List RE, evalL y (stripL ks) = evalL y ks
  | [] => by rw [stripL]
  | x :: r => by rw [stripL, evalL, evalL, evalR_strip y x, evalL_strip y r]
end
theorem Same.eval {t u : RE} (h : Same t u) (y : Int) : evalR y t = evalR y u := by rw [← evalR_strip y t, ← evalR_strip y u, h]
/-- the printed rule with the fourth line's expression in parentheses -/
def RTp (t : Tr) : RT := ⟨t.nm.data.toList, t.ep, t.cy, [108, 101, 97, 112, 32, 32, 32, 40, 32] ++ shB t.ex ++ [32, 41], t.mo⟩
theorem leap_paren {e : RE} (h : ReOk e) : toks ([108, 101, 97, 112, 32, 32, 32, 40, 32] ++ shB e ++ [32, 41]) = [108, 101, 97, 112] :: ([40] :: (prB e ++ [41] :: [])) := by
  have e1 : [108, 101, 97, 112, 32, 32, 32, 40, 32] ++ shB e ++ [32, 41] = [108, 101, 97, 112] ++ (32 :: (32 :: (32 :: (40 :: (32 :: (shB e ++ [32, 41])))))) := by simp
  rw [e1, lx_word _ _ (by decide) (by decide) (bd_cons 32 _ (by decide) (by decide)), lx_sp, lx_sp, lx_sp, lx_one 40 _ (by decide) (by decide) (by decide), lx_sp, lx_expr e h _ (bd_cons 32 _ (by decide) (by decide)), lx_sp, lx_one 41 _ (by decide) (by decide) (by decide)]
  rfl
theorem rtpok {t : Tr} (h : TrOk t) : RTOk (RTp t) :=
  { rtok h with
    lt := fun b hb => by
      rcases List.mem_append.1 (show b ∈ ([108, 101, 97, 112, 32, 32, 32, 40, 32] ++ shB t.ex) ++ [32, 41] from hb) with hb | hb
      · rcases List.mem_append.1 hb with hb | hb
        · exact (show ∀ b ∈ ([108, 101, 97, 112, 32, 32, 32, 40, 32] : List UInt8), b ≠ 10 by decide) b hb
        · exact shB_no10 h.ex.1 b hb
      · exact (show ∀ b ∈ ([32, 41] : List UInt8), b ≠ 10 by decide) b hb }
theorem parse_paren (t : Tr) (h : TrOk t) (hl : ((RTp t).rest 0).length ≤ 4000) (w : World) (hs : Sgs w) (hv : Lvs w) (hsh : Shp w) :
    Calls Tryz.prog 13 #[.string (str ((RTp t).rest 0))] w (PrsQ (RTp t) t.ex w) := by
  refine parse_rule (RTp t) (rtpok h) t.ex ([40] :: (prB t.ex ++ [41] :: [])) (leap_paren h.ex.1) hl ⟨by show NameOk (str t.nm.data.toList); rw [str_own']; exact h.hd.1, h.hd.2⟩ h.ex h.mo w hs hv hsh fun g W S hS hr => ?_
  have hC := expr_paren g S hS t.ex h.ex.1 h.ex.3 7 0 rfl [] (good_nil 0) W hr
  unfold ExprC at hC
  rw [if_neg (by omega)] at hC
  exact hC
end Go.Proofs.YtbmbphikjainiaaGreatDoor
