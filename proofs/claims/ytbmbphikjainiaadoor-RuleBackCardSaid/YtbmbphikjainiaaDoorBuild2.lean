/- A builder's contracts that keep the other blocks. -/
import Derived.Shelf.Strings.BuilderK
import Derived.Test.YtbmbphikjainiaaDoorBuild1
import Derived.Test.YtbmbphikjainiaaDoorWords
namespace Go.Proofs.YtbmbphikjainiaaDoor
open Go.RowKit
set_option linter.unusedVariables false

theorem ownF_grow {w w' : World} {base : Nat} {e : TypeId} {s : Nat} {v : Value} {n : Nat} {xs : List Value} (h : w.ownsRowF base e s v n xs) (hb : Below w.heap.size w w') : w'.ownsRowF base e s v n xs := by
  refine ⟨h.1, ?_⟩
  rcases h.2 with hn | ⟨g, cap, cur, fz, hv, hbb, hg, rest⟩
  · exact .inl hn
  · refine .inr ⟨g, cap, cur, fz, hv, hbb, ?_, rest⟩
    have hlt : g < w.heap.size := by
      rcases Nat.lt_or_ge g w.heap.size with hlt | hge
      · exact hlt
      · rw [Array.getElem?_eq_none hge] at hg; cases hg
    rw [hb.block g hlt]; exact hg
set_option maxRecDepth 100000 in
def BldF (b : Nat) (l : List UInt8) (w : World) : Prop := Lib.IsBuilderF 52 5 b b (Lib.byteCells l) w
theorem bldf_of {b : Nat} {l : List UInt8} {w : World} (h : Bld b l w) : BldF b l w := Lib.IsBuilderF.of h
theorem bldf_lt {b : Nat} {l : List UInt8} {w : World} (h : BldF b l w) : b < w.heap.size := by
  rcases h with h | h
  · exact h.lt
  · exact h.lt
theorem bldf_next {b : Nat} {l : List UInt8} {w w' : World} (h : BldF b l w) (hb : Below w.heap.size w w') : BldF b l w' := by
  have hl := bldf_lt h
  rcases h with ⟨_, v, hv, ho, hn⟩ | ⟨_, v, hv, ho, hn⟩
  · exact .inl ⟨Nat.le_refl _, v, (hb.block b hl).trans hv, ownF_grow ho hb, hn⟩
  · exact .inr ⟨Nat.le_refl _, v, (hb.block b hl).trans hv, ownF_grow ho hb, hn⟩
theorem bldf_write {b : Nat} {l : List UInt8} {w : World} (h : BldF b l w) (s : List UInt8) (hlen : l.length + s.length ≤ 1000000) :
    Calls Tryd.prog 15 #[.pointer (some ⟨b, 0, none⟩), .string (str s)] w fun e w' => e = .returned (.tuple #[.int .i64 s.length, .nilIface]) ∧ BldF b (l ++ s) w' ∧ Below b w w' ∧ ∀ g ty cs, Box w g ty cs → g ≠ b → ty ≠ 5 → Box w' g ty cs := by
  refine (Any.Builder_WriteString_k lays166 builderExtra b b (Lib.byteCells l) (str s) w h (by rw [Lib.byteCells_length, str_size]; omega) (Nat.le_of_lt (bldf_lt h))).mono ?_
  rintro e w' ⟨rfl, h1, h2, h3⟩
  refine ⟨by rw [str_size], .inr ?_, h2, fun g ty cs hbx hgb hty => h3 g _ hbx (fun e => hgb (Option.some.inj e)) (fun c fz e => by injection e with _ e2 _; exact hty e2)⟩
  have e : Lib.byteCells (l ++ s) = Lib.byteCells l ++ Lib.strCells (str s) := by
    unfold Lib.byteCells Lib.strCells
    rw [List.map_append]
    simp [str]
  rw [e]
  exact h1
theorem bldf_string {b : Nat} {l : List UInt8} {w : World} (h : BldF b l w) :
    Calls Tryd.prog 18 #[.pointer (some ⟨b, 0, none⟩)] w fun e w' => e = .returned (.string (str l)) ∧ Below b w w' := by
  refine (Any.Builder_String_any_f lays169 builderExtra b b l w h (Nat.le_of_lt (bldf_lt h))).mono ?_
  rintro e w' h
  exact ⟨h.1, h.2.2⟩
end Go.Proofs.YtbmbphikjainiaaDoor
