/- Pat0, Pat1, Pat2 -/
import Derived.Test.YtoemghiejfkpbaaGreatDoorGCat1
/- Contracts of pattern.kind and pattern.split, at patterns that are sound. -/
namespace Go.Proofs.YtoemghiejfkpbaaGreatDoor
open Go Go.RowKit
set_option linter.unusedVariables false
def itemK : List (List UInt8 × Nat) := [([121], 1), ([109], 2), ([100], 3), ([110, 97, 109, 101], 4)]
set_option maxRecDepth 100000 in
theorem pcontains_no (s : List UInt8) (c : UInt8) (h : ∀ b ∈ s, b ≠ c) (hs : s.length ≤ 1000) (w : World) (hsh : Shp w) : Calls Tryz.prog 66 #[.string (str s), .string ⟨#[c]⟩] w fun e w' => e = .returned (.bool false) ∧ w' = w := by
 obtain ⟨m, hm⟩ := hsh
 have hcs : (str s).size = s.length := str_size s
 have HI := Lib.hid (strings_Index (str s) ⟨#[c]⟩ m w (by omega) hm)
 rw [str_data, show (⟨#[c]⟩ : ByteArray).data.toList = [c] from rfl, index_no c s h] at HI
 clear hm h
 go_enter Tryz.func66, Tryz.ntmps66
 go_wp2_with (go_at_call 103; refine Calls.mono HI.out ?_; rintro e w' ⟨rfl, rfl⟩)
 go_ret
 exact ⟨rfl, rfl⟩
structure PrOk (x : List UInt8 × List UInt8) : Prop where
 t1 : ∀ b ∈ x.1, b ≠ 123
 t2 : ∀ b ∈ x.1, b ≠ 125
 i1 : ∀ b ∈ x.2, b ≠ 125
 k : ∃ k : Nat, (x.2, k) ∈ itemK
def patT (R : List (List UInt8 × List UInt8)) : List UInt8 := R.flatMap fun x => x.1 ++ 123 :: (x.2 ++ [125])
theorem patT_cons (x : List UInt8 × List UInt8) (R : List (List UInt8 × List UInt8)) : patT (x :: R) = x.1 ++ 123 :: (x.2 ++ 125 :: patT R) := by simp [patT]
def partV (p : Bool × List UInt8) : List Value := [.bool p.1, .string (str p.2)]
def partL (R : List (List UInt8 × List UInt8)) : List (Bool × List UInt8) := R.flatMap fun x => (if x.1 = [] then [] else [(false, x.1)]) ++ [(true, x.2)]
theorem partL_snoc (R : List (List UInt8 × List UInt8)) (x : List UInt8 × List UInt8) : partL (R ++ [x]) = partL R ++ ((if x.1 = [] then [] else [(false, x.1)]) ++ [(true, x.2)]) := by simp [partL]
theorem partL_len (R : List (List UInt8 × List UInt8)) : (partL R).length ≤ 2 * R.length := by
 induction R with
 | nil => simp [partL]
 | cons x R ih =>
  have : partL (x :: R) = ((if x.1 = [] then [] else [(false, x.1)]) ++ [(true, x.2)]) ++ partL R := by simp [partL]
  rw [this, List.length_append, List.length_append, List.length_cons]
  split <;> simp <;> omega
theorem infoPart : (Tryz.prog.info? 83).map (fun i => (i.zero, i.size, i.bytes)) = some (some (.agg #[.bool false, .string ⟨#[]⟩]), 2, 24) := by kernel_rfl
end Go.Proofs.YtoemghiejfkpbaaGreatDoor
/- Contract of pattern.write. -/
namespace Go.Proofs.YtoemghiejfkpbaaGreatDoor
open Go Go.RowKit
set_option linter.unusedVariables false
theorem pflat_len {α : Type} (f : α → List UInt8) (n : Nat) : ∀ (l : List α), (∀ x ∈ l, (f x).length ≤ n) → (l.flatMap f).length ≤ n * l.length
 | [], _ => by simp
 | a :: l, h => by
  have h1 := h a (by simp)
  have ih := pflat_len f n l fun x hx => h x (List.mem_cons_of_mem _ hx)
  rw [List.flatMap_cons, List.length_append, List.length_cons, Nat.mul_add]
  omega
theorem pstr_own (s : ByteArray) : str s.data.toList = s := by
 apply ByteArray.ext
 simp [str]
theorem flat2_at {ps : List (Bool × List UInt8)} {w : World} {gp : Nat} (h : ∀ i x, (ps.flatMap partV)[i]? = some x → w.cell? ⟨gp, i, none⟩ = some x) (j : Nat) (p : Bool × List UInt8) (hp : ps[j]? = some p) :
  w.cell? ⟨gp, j * 2, none⟩ = some (.bool p.1) ∧ w.cell? ⟨gp, j * 2 + 1, none⟩ = some (.string (str p.2)) := by
 have key : ∀ (l : List (Bool × List UInt8)) (j : Nat), l[j]? = some p → (l.flatMap partV)[j * 2]? = some (.bool p.1) ∧ (l.flatMap partV)[j * 2 + 1]? = some (.string (str p.2)) := by
  intro l
  induction l with
  | nil => intro j h; simp at h
  | cons a l ih =>
   intro j h
   cases j with
   | zero => simp at h; subst h; exact ⟨rfl, rfl⟩
   | succ j =>
    have h2 := ih j (by simpa using h)
    rw [List.flatMap_cons, show (j + 1) * 2 = 2 + j * 2 from by omega, show 2 + j * 2 + 1 = 2 + (j * 2 + 1) from by omega]
    have hl : (partV a).length = 2 := rfl
    rw [List.getElem?_append_right (by omega), List.getElem?_append_right (by omega), hl, Nat.add_sub_cancel_left, Nat.add_sub_cancel_left]
    exact h2
 have h2 := key ps j hp
 exact ⟨h _ _ h2.1, h _ _ h2.2⟩
end Go.Proofs.YtoemghiejfkpbaaGreatDoor
/- Contracts of pattern.open and pattern.Write, at sound patterns. -/
namespace Go.Proofs.YtoemghiejfkpbaaGreatDoor
open Go Go.RowKit
set_option linter.unusedVariables false
theorem scripts_any (w : World) : Calls Tryz.prog 38 #[] w fun e w' => e = .returned (.int .i64 13) ∧ w = w' := by
 go_enter Tryz.func38, Tryz.ntmps38
 go_wp2_with fail
 go_ret
 exact ⟨rfl, rfl⟩
end Go.Proofs.YtoemghiejfkpbaaGreatDoor
