/- Num0, Own, NumShp, Num1 -/
import Derived.Lib.AtoiErrMem
import Derived.Test.YtcommodbjjdbmaaGreatDoorGShelf1
import Derived.Test.YtcommodbjjdbmaaGreatDoorGLaid
import Derived.Test.YtcommodbjjdbmaaGreatDoorGBase
/- Numerals at this dump: strconv.Itoa alone (a part of Num1, for seats without strconv.Atoi, strings.Cut). -/
namespace Go.Proofs.YtcommodbjjdbmaaGreatDoor
open Go.RowKit Go.Sort
set_option linter.unusedVariables false

def str (l : List UInt8) : ByteArray := ⟨l.toArray⟩
theorem str_data (l : List UInt8) : (str l).data.toList = l := by simp [str]
theorem str_toList (l : List UInt8) : (str l).toList = l := by rw [Lib.toList_data, str_data]
theorem str_size (l : List UInt8) : (str l).size = l.length := by simp [str, ByteArray.size]
theorem str_append (a b : List UInt8) : str a ++ str b = str (a ++ b) := by
  apply ByteArray.ext
  rw [ByteArray.data_append]
  simp [str]
theorem itoa_size (n : Int) (h0 : -9223372036854775808 ≤ n) (h1 : n ≤ 9223372036854775807) : (str (Lib.itoa n)).size ≤ 21 := by rw [str_size]; exact Lib.itoa_length_le n h0 h1
theorem itoa_any (n : Int) (w : World) (h0 : -9223372036854775808 ≤ n) (h1 : n ≤ 9223372036854775807) (hp : Pow w) :
    Calls Tryz.prog 12 #[.int .i64 n] w fun e w' => e = .returned (.string (str (Lib.itoa n))) ∧ Below w.heap.size w w' :=
  (strconv_Itoa n h0 h1 w hp.here).mono fun e w' ⟨he, k, os, hw⟩ => ⟨he, by rw [hw]; exact Lib.below_grow _ w (Nat.le_refl _) k os⟩
end Go.Proofs.YtcommodbjjdbmaaGreatDoor

/- Rows of the call's own, kept where other blocks change. -/
namespace Go.Proofs.YtcommodbjjdbmaaGreatDoor
open Go.RowKit
set_option linter.unusedVariables false

section
variable {w w' : World} {base : Nat} {e : TypeId} {s : Nat} {v : Value} {n : Nat} {xs : List Value}
theorem own_heap (h : w.ownsRow base e s v n xs) (hh : ∀ b, v.ownBlock = some b → w'.heap[b]? = w.heap[b]?) : w'.ownsRow base e s v n xs := by
  refine ⟨h.1, ?_⟩
  rcases h.2 with hn | ⟨g, cap, cur, hv, hbb, hg, rest⟩
  · exact .inl hn
  · exact .inr ⟨g, cap, cur, hv, hbb, (hh g (by rw [hv]; rfl)).trans hg, rest⟩
theorem own_lt (h : w.ownsRow base e s v n xs) (b : Nat) (hb : v.ownBlock = some b) : base ≤ b ∧ b < w.heap.size := h.lt b hb
theorem own_next (h : w.ownsRow base e s v n xs) (hb : Below w.heap.size w w') : w'.ownsRow base e s v n xs := own_heap h fun b hv => hb.block b (own_lt h b hv).2
theorem own_set (h : w.ownsRow base e s v n xs) (p : Addr) (x : Value) (hp : p.block < base) : (w.setCell p x).ownsRow base e s v n xs := own_heap h fun b hv => Below.heap_setCell w p x b (by have := (own_lt h b hv).1; omega)
theorem own_lower {base' : Nat} (h : w.ownsRow base e s v n xs) (hb : base' ≤ base) : w.ownsRow base' e s v n xs := by
  refine ⟨h.1, ?_⟩
  rcases h.2 with hn | ⟨g, cap, cur, hv, hbb, rest⟩
  · exact .inl hn
  · exact .inr ⟨g, cap, cur, hv, by omega, rest⟩
/-- what a grown row's value is like -/
theorem own_form (h : w.ownsRow base e s v n xs) : ∃ A c, v = .slice A n c ∧ n ≤ c ∧ c ≤ maxLen := by
  rcases h.2 with ⟨rfl, rfl⟩ | ⟨g, cap, cur, hv, hbb, hg, h1, h2, _⟩
  · exact ⟨none, 0, rfl, by omega, by unfold maxLen; omega⟩
  · exact ⟨_, cap, hv, h1, h2⟩
end
/-- a block that is none of the row that grew -/
theorem Box.grown {w w' : World} {g : Nat} {t : TypeId} {cs : Array Value} {row : Option Nat} (h : Box w g t cs) (hg : w.grownBy w' row) (hne : some g ≠ row) : Box w' g t cs := (hg.block g h.lt hne).trans h
end Go.Proofs.YtcommodbjjdbmaaGreatDoor

/- The library's variable that strings.Index reads. -/
namespace Go.Proofs.YtcommodbjjdbmaaGreatDoor
open Go.RowKit
set_option linter.unusedVariables false

/-- the library's variable that strings.Index reads -/
def Shp (w : World) : Prop := ∃ m, w.cell? ⟨1, 0, none⟩ = some (.int .i64 m)
theorem Shp.next {w w' : World} (h : Shp w) (hb : Below w.heap.size w w') : Shp w' := by
  obtain ⟨m, hm⟩ := h
  exact ⟨m, (hb.cell (p := ⟨1, 0, none⟩) (block_lt_of_cell hm)).trans hm⟩
end Go.Proofs.YtcommodbjjdbmaaGreatDoor

/- Numerals at this dump: strconv.Itoa, strconv.Atoi. -/
namespace Go.Proofs.YtcommodbjjdbmaaGreatDoor
open Go.RowKit Go.Sort
set_option linter.unusedVariables false

/-- a numeral that was written is read -/
theorem atoi_num (n : Int) (w : World) (h : n.natAbs < 100000000000000000) :
    Calls Tryz.prog 39 #[.string (str (Lib.itoa n))] w fun e w' => e = .returned (.tuple #[.int .i64 n, .nilIface]) ∧ Below w.heap.size w w' :=
  (strconv_Atoi (str (Lib.itoa n)) n (by rw [str_size]; have := itoa_len n 17 (by simpa using h) (by omega); omega) (by rw [str_data]; exact atoi_itoa n) w).mono fun e w' ⟨he, t, hw⟩ => ⟨he, by rw [hw]; exact Lib.bytesWorld_below _ _ _⟩
theorem Shp.of {w : World} (h : w.ShapedOpen Tryz.prog) : Shp w := laysM145.s1_3 w h -- 20
theorem cutc_any (s : ByteArray) (c : UInt8) (w : World) (hs : s.size < 4294967281) (h : Shp w) :
    Calls Tryz.prog 20 #[.string s, .string ⟨#[c]⟩] w fun e w' => e = .returned (.tuple #[.string (str (Lib.cut s.data.toList [c]).1), .string (str (Lib.cut s.data.toList [c]).2.1), .bool (Lib.cut s.data.toList [c]).2.2]) ∧ Below w.heap.size w w' := by
  obtain ⟨m, hm⟩ := h
  exact (strings_Cut s ⟨#[c]⟩ m w hs hm).mono fun e w' ⟨he, n, hw⟩ => ⟨he, by rw [hw]; exact below_drewN _ _⟩
end Go.Proofs.YtcommodbjjdbmaaGreatDoor
