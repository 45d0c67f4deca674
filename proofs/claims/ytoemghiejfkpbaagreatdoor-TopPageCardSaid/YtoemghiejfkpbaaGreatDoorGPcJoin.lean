/- PcJoin, CatPlain -/
import Derived.Test.YtoemghiejfkpbaaGreatDoorGSeq1
import Derived.Test.YtoemghiejfkpbaaGreatDoorGCatData
/- Words joined by a text of some bytes: their pieces. -/
namespace Go.Proofs.YtoemghiejfkpbaaGreatDoor
open Go.Lib
set_option linter.unusedVariables false
theorem index_no2 (c : UInt8) (u : List UInt8) : ∀ (l : List UInt8), (∀ b ∈ l, b ≠ c) → index l (c :: u) = -1
 | [], _ => rfl
 | b :: l, h => by
  have hb : (c == b) = false := by rw [beq_eq_false_iff_ne]; exact fun e => h b (List.mem_cons_self ..) e.symm
  have ih := index_no2 c u l fun x hx => h x (List.mem_cons_of_mem _ hx)
  simp [index, List.isPrefixOf, hb, ih]
theorem index_at2 (c : UInt8) (u r : List UInt8) : ∀ (l : List UInt8), (∀ b ∈ l, b ≠ c) → index (l ++ (c :: u ++ r)) (c :: u) = (l.length : Int)
 | [], _ => by
  have : (c :: u).isPrefixOf (c :: (u ++ r)) = true := by simp [List.isPrefixOf]
  show index (c :: (u ++ r)) (c :: u) = 0
  rw [index, if_pos this]
 | b :: l, h => by
  have hb : (c == b) = false := by rw [beq_eq_false_iff_ne]; exact fun e => h b (List.mem_cons_self ..) e.symm
  have ih := index_at2 c u r l fun x hx => h x (List.mem_cons_of_mem _ hx)
  have hne : ¬ ((l.length : Int) = -1) := by omega
  show index (b :: (l ++ (c :: u ++ r))) (c :: u) = _
  have hp : (c :: u).isPrefixOf (b :: (l ++ (c :: u ++ r))) = false := by simp [List.isPrefixOf, hb]
  rw [index, hp, ih]
  simp [hne]
def joinS (s : List UInt8) : List UInt8 → List (List UInt8) → List UInt8
 | a, [] => a
 | a, b :: l => a ++ (s ++ joinS s b l)
theorem pieces_join (c : UInt8) (u : List UInt8) : ∀ (l : List (List UInt8)) (a : List UInt8), (∀ w ∈ a :: l, ∀ b ∈ w, b ≠ c) → Pieces (c :: u) (joinS (c :: u) a l) (a :: l)
 | [], a, h => .last a (index_no2 c u a (h a (List.mem_cons_self ..)))
 | b :: l, a, h => by
  have ha := h a (List.mem_cons_self ..)
  have ih := pieces_join c u l b fun w hw => h w (List.mem_cons_of_mem _ hw)
  have e : joinS (c :: u) a (b :: l) = a ++ ((c :: u) ++ joinS (c :: u) b l) := rfl
  have hd : (a ++ ((c :: u) ++ joinS (c :: u) b l)).drop (a.length + (c :: u).length) = joinS (c :: u) b l := by
   rw [← List.append_assoc, List.drop_append_of_le_length (by simp)]
   simp
  rw [e]
  have h2 := Pieces.cut (sep := c :: u) (a ++ ((c :: u) ++ joinS (c :: u) b l)) a.length (b :: l) (index_at2 c u (joinS (c :: u) b l) a ha) (by simp) (by rw [hd]; exact ih)
  rw [List.take_left] at h2
  exact h2
end Go.Proofs.YtoemghiejfkpbaaGreatDoor
/- The table of package catalog: its pieces. -/
namespace Go.Proofs.YtoemghiejfkpbaaGreatDoor
open Go.Lib
set_option linter.unusedVariables false
def catL : List (List UInt8) := catR.map CatRow.line
def tableL : List UInt8 := joinS [10] (catL.headD []) catL.tail
theorem catR_len : catR.length = 40 := rfl
theorem catL_len : catL.length = 40 := rfl
theorem no10_dec (l : List (List UInt8)) (c : UInt8) (h : l.all (fun w => w.all (fun b => b != c)) = true) : ∀ w ∈ l, ∀ b ∈ w, b ≠ c := fun w hw b hb => by
 have := List.all_eq_true.1 h w hw
 have := List.all_eq_true.1 this b hb
 simpa using this
theorem catL_no10 : ∀ w ∈ catL, ∀ b ∈ w, b ≠ 10 := no10_dec _ _ (by decide +kernel)
theorem table_pieces : Pieces [10] tableL catL := pieces_join 10 [] catL.tail (catL.headD []) catL_no10
theorem table_len : tableL.length ≤ 4000 := by decide +kernel
theorem lit_eq (l r : List UInt8) (h : List.append l r = tableL) : (⟨(List.append l r).toArray⟩ : ByteArray) = str tableL := by rw [h]; rfl
theorem nm_no (r : CatRow) (hr : r ∈ catR) : ∀ b ∈ r.nm, b ≠ 32 := by
 have h : ∀ w ∈ catR.map CatRow.nm, ∀ b ∈ w, b ≠ 32 := no10_dec _ _ (by decide +kernel)
 exact h r.nm (List.mem_map_of_mem hr)
theorem cut_row (r : CatRow) (hr : r ∈ catR) : cut r.line [32] = (r.nm, r.ep ++ 32 :: (r.cy ++ 32 :: (r.lt ++ 32 :: r.xp)), true) := cut_at 32 r.nm _ (nm_no r hr)
theorem line_len (r : CatRow) (hr : r ∈ catR) : r.line.length ≤ 300 := by
 have h : catR.all (fun r => decide (r.line.length ≤ 300)) = true := by decide +kernel
 simpa using List.all_eq_true.1 h r hr
end Go.Proofs.YtoemghiejfkpbaaGreatDoor
