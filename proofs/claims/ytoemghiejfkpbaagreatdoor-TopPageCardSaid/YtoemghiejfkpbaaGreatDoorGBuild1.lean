/- Build1, SliceFind, Build2 -/
import Derived.Shelf.Strings.Builder1
import Derived.Shelf.Abstract
import Derived.Shelf.Strings.BuilderK
import Derived.Test.YtoemghiejfkpbaaGreatDoorGNumShp
import Derived.Test.YtoemghiejfkpbaaGreatDoorGPlainInt
import Derived.Test.YtoemghiejfkpbaaGreatDoorGFlow
/- strings.Builder at this dump: WriteString and String, off the kit's shelf (laid by hand: one type of the layout stands in no body, so that the kit's command does not find its number). -/
namespace Go.Proofs.YtoemghiejfkpbaaGreatDoor
open Go.Shelf Go.RowKit
def laysB_ren : Go.Shelf.Ren := ⟨fun | 166 => 49 | 169 => 52 | 240 => 77 | 276 => 121 | n => n, fun | 0 => 0 | 3 => 3 | 4 => 4 | 9 => 9 | 20 => 20 | 37 => 101 | 70 => 100 | 72 => 103 | 75 => 105 | 164 => 187 | 5 => 5 | 80 => 110 | 127 => 143 | n => n, fun | n => n⟩
theorem lays166 : Go.Proofs.Lays.n166 Tryz.prog laysB_ren := {
 mixed := by kernel_rfl
 f166 := Tryz.func49.trans (congrArg some (by kernel_rfl))
 f240 := Tryz.func77.trans (congrArg some (by kernel_rfl))
 f276 := Tryz.func121.trans (congrArg some (by kernel_rfl))
 t0 := Tryz.underlying0
 a0 := Tryz.isAgg0
 z0 := Tryz.sizeOf0
 v0 := Tryz.zeroValue0
 t3 := Tryz.underlying3
 a3 := Tryz.isAgg3
 z3 := Tryz.sizeOf3
 v3 := Tryz.zeroValue3
 t4 := Tryz.underlying4
 a4 := Tryz.isAgg4
 z4 := Tryz.sizeOf4
 v4 := Tryz.zeroValue4
 t9 := Tryz.underlying9
 a9 := Tryz.isAgg9
 z9 := Tryz.sizeOf9
 v9 := Tryz.zeroValue9
 t20 := Tryz.underlying20
 a20 := Tryz.isAgg20
 z20 := Tryz.sizeOf20
 v20 := Tryz.zeroValue20
 t37 := Tryz.underlying101
 a37 := Tryz.isAgg101
 z37 := Tryz.sizeOf101
 v37 := Tryz.zeroValue101
 t70 := Tryz.underlying100
 a70 := Tryz.isAgg100
 z70 := Tryz.sizeOf100
 v70 := Tryz.zeroValue100
 t72 := Tryz.underlying103
 a72 := Tryz.isAgg103
 z72 := Tryz.sizeOf103
 v72 := Tryz.zeroValue103
 t75 := Tryz.underlying105
 a75 := Tryz.isAgg105
 z75 := Tryz.sizeOf105
 v75 := Tryz.zeroValue105
 t164 := Tryz.underlying187
 a164 := Tryz.isAgg187
 z164 := Tryz.sizeOf187
 v164 := Tryz.zeroValue187 }
theorem lays169 : Go.Proofs.Lays.n169 Tryz.prog laysB_ren := {
 mixed := by kernel_rfl
 f169 := Tryz.func52.trans (congrArg some (by kernel_rfl))
 t0 := Tryz.underlying0
 a0 := Tryz.isAgg0
 z0 := Tryz.sizeOf0
 v0 := Tryz.zeroValue0
 t3 := Tryz.underlying3
 a3 := Tryz.isAgg3
 z3 := Tryz.sizeOf3
 v3 := Tryz.zeroValue3
 t9 := Tryz.underlying9
 a9 := Tryz.isAgg9
 z9 := Tryz.sizeOf9
 v9 := Tryz.zeroValue9
 t37 := Tryz.underlying101
 a37 := Tryz.isAgg101
 z37 := Tryz.sizeOf101
 v37 := Tryz.zeroValue101
 t70 := Tryz.underlying100
 a70 := Tryz.isAgg100
 z70 := Tryz.sizeOf100
 v70 := Tryz.zeroValue100
 t72 := Tryz.underlying103
 a72 := Tryz.isAgg103
 z72 := Tryz.sizeOf103
 v72 := Tryz.zeroValue103
 t127 := Tryz.underlying143
 a127 := Tryz.isAgg143
 z127 := Tryz.sizeOf143
 v127 := Tryz.zeroValue143 }
theorem builderExtra : Builder.Extra Tryz.prog laysB_ren := {
 sizeBuilder := by kernel_rfl
 liesBuilder := by kernel_rfl
 t5 := Tryz.underlying5
 a5 := Tryz.isAgg5
 z5 := Tryz.sizeOf5
 v5 := Tryz.zeroValue5
 infoByte := by kernel_rfl
 cellsByte := by kernel_rfl
 sizeByte := by kernel_rfl
 neB5 := by decide }
theorem own_grow {w w' : World} {base : Nat} {e : TypeId} {s : Nat} {v : Value} {n : Nat} {xs : List Value} (h : w.ownsRow base e s v n xs) (hb : Below w.heap.size w w') : w'.ownsRow base e s v n xs := by
 refine ⟨h.1, ?_⟩
 rcases h.2 with hn | ⟨g, cap, cur, hv, hbb, hg, rest⟩
 ·exact .inl hn
 ·refine .inr ⟨g, cap, cur, hv, hbb, ?_, rest⟩
  have hlt : g < w.heap.size := by
   rcases Nat.lt_or_ge g w.heap.size with hlt | hge
   ·exact hlt
   ·rw [Array.getElem?_eq_none hge] at hg; cases hg
  rw [hb.block g hlt]; exact hg
set_option maxRecDepth 100000 in
def Bld (b : Nat) (l : List UInt8) (w : World) : Prop := Lib.IsBuilder 103 5 b b (Lib.byteCells l) w
theorem bld_new (w : World) : Bld w.heap.size [] (w.alloc (.cells #[.pointer none, .slice none 0 0] 103)) := Lib.fresh_isBuilder _ _ w
theorem bld_lt {b : Nat} {l : List UInt8} {w : World} (h : Bld b l w) : b < w.heap.size := by
 rcases h with h | h
 ·exact h.lt
 ·exact h.lt
theorem bld_next {b : Nat} {l : List UInt8} {w w' : World} (h : Bld b l w) (hb : Below w.heap.size w w') : Bld b l w' := by
 have hl := bld_lt h
 rcases h with ⟨_, v, hv, ho, hn⟩ | ⟨_, v, hv, ho, hn⟩
 ·exact .inl ⟨Nat.le_refl _, v, (hb.block b hl).trans hv, own_grow ho hb, hn⟩
 ·exact .inr ⟨Nat.le_refl _, v, (hb.block b hl).trans hv, own_grow ho hb, hn⟩
theorem bld_write {b : Nat} {l : List UInt8} {w : World} (h : Bld b l w) (s : List UInt8) (hlen : l.length + s.length ≤ 1000000) :
  Calls Tryz.prog 49 #[.pointer (some ⟨b, 0, none⟩), .string (str s)] w fun e w' => e = .returned (.tuple #[.int .i64 s.length, .nilIface]) ∧ Bld b (l ++ s) w' ∧ Below b w w' := by
 refine (Any.Builder_WriteString lays166 builderExtra b b (Lib.byteCells l) (str s) w h (by rw [Lib.byteCells_length, str_size]; omega) (Nat.le_of_lt (bld_lt h))).mono ?_
 rintro e w' ⟨rfl, h1, h2⟩
 refine ⟨by rw [str_size], .inr ?_, h2⟩
 have e : Lib.byteCells (l ++ s) = Lib.byteCells l ++ Lib.strCells (str s) := by
  unfold Lib.byteCells Lib.strCells
  rw [List.map_append]
  simp [str]
 rw [e]
 exact h1
theorem bld_string {b : Nat} {l : List UInt8} {w : World} (h : Bld b l w) :
  Calls Tryz.prog 52 #[.pointer (some ⟨b, 0, none⟩)] w fun e w' => e = .returned (.string (str l)) ∧ Below b w w' :=
 Any.Builder_String_any lays169 builderExtra b b l w h (Nat.le_of_lt (bld_lt h))
end Go.Proofs.YtoemghiejfkpbaaGreatDoor
/- Contracts of slices.Index, Contains, IndexFunc, ContainsFunc at []int. -/
namespace Go.Proofs.YtoemghiejfkpbaaGreatDoor
open Go.RowKit
set_option linter.unusedVariables false
def IsIdxF (P : Prop) (S : World → Prop) (e : Ending) (w' : World) : Prop := ∃ i : Int, e = .returned (.int .i64 i) ∧ (0 ≤ i ↔ P) ∧ S w'
end Go.Proofs.YtoemghiejfkpbaaGreatDoor
/- A builder's contracts that keep the other blocks. -/
namespace Go.Proofs.YtoemghiejfkpbaaGreatDoor
open Go.RowKit
set_option linter.unusedVariables false
end Go.Proofs.YtoemghiejfkpbaaGreatDoor
