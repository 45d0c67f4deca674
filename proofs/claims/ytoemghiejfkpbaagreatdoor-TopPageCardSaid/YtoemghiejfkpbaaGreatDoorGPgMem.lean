/- PgMem -/
import Derived.Deep.AppendSrc
import Derived.Lib.SliceRun
import Derived.Test.YtoemghiejfkpbaaGreatDoorGPgPlain
import Derived.Test.YtoemghiejfkpbaaGreatDoorGPlainInt
/- Tables in memory: rows of texts, rows of such rows; append of one row to another, at any element of one cell. -/
namespace Go.Proofs.YtoemghiejfkpbaaGreatDoor
open Go Go.RowKit Go.Lib
set_option linter.unusedVariables false
abbrev tx (s : ByteArray) : List UInt8 := s.data.toList
structure SR where
 A : Option Addr
 c : Nat
 l : List ByteArray
def srV (r : SR) : Value := .slice r.A r.l.length r.c
def sVs (l : List ByteArray) : List Value := l.map Value.string
theorem sVs_ne (l : List ByteArray) (h : 0 < l.length) : sVs l ≠ [] := by
 cases l with
 | nil => simp at h
 | cons a l => simp [sVs]
theorem sVs_get (l : List ByteArray) (i : Nat) (h : i < l.length) : (sVs l)[i]? = some (.string (l.getD i ⟨#[]⟩)) := by simp [sVs, List.getD, List.getElem?_eq_getElem h]
theorem sVs_one (l : List ByteArray) : ∀ u ∈ sVs l, u.oneCell' = true := fun u hu => by
 obtain ⟨x, _, rfl⟩ := List.mem_map.1 hu; rfl
theorem srV_one (l : List SR) : ∀ u ∈ l.map srV, u.oneCell' = true := fun u hu => by
 obtain ⟨x, _, rfl⟩ := List.mem_map.1 hu; rfl
def sr0 : SR := ⟨none, 0, []⟩
theorem srV_get (l : List SR) (i : Nat) (h : i < l.length) : (l.map srV)[i]? = some (srV (l.getD i sr0)) := by simp [List.getD, List.getElem?_eq_getElem h]
theorem srV_ne (l : List SR) (h : 0 < l.length) : l.map srV ≠ [] := by
 cases l with
 | nil => simp at h
 | cons a l => simp
structure SRIn (w : World) (B : Nat) (r : SR) : Prop where
 row : Row w B r.A (sVs r.l)
 ln : r.l.length ≤ r.c
 cm : r.c ≤ maxLen
 sz : ∀ s ∈ r.l, s.size ≤ maxLen
theorem SRIn.next {w w' : World} {B B' : Nat} {r : SR} (h : SRIn w B r) (hb : Below B w w') (hB : B ≤ B') : SRIn w' B' r := ⟨(h.row.below hb).more hB, h.ln, h.cm, h.sz⟩
structure Tb where
 h : SR
 A : Option Addr
 c : Nat
 rs : List SR
abbrev Tb.cells (t : Tb) : Array Value := #[.slice t.h.A t.h.l.length t.h.c, .slice t.A t.rs.length t.c]
def Tb.val (t : Tb) : Value := .agg t.cells
structure TbIn (w : World) (B : Nat) (t : Tb) : Prop where
 h : SRIn w B t.h
 row : Row w B t.A (t.rs.map srV)
 ln : t.rs.length ≤ t.c
 cm : t.c ≤ maxLen
 rs : ∀ r ∈ t.rs, SRIn w B r
theorem TbIn.next {w w' : World} {B B' : Nat} {t : Tb} (h : TbIn w B t) (hb : Below B w w') (hB : B ≤ B') : TbIn w' B' t := ⟨h.h.next hb hB, (h.row.below hb).more hB, h.ln, h.cm, fun r hr => (h.rs r hr).next hb hB⟩
def SR.tx (r : SR) : List (List UInt8) := r.l.map fun s => s.data.toList
theorem colT_sr (r : SR) (i : Nat) (h : i < r.l.length) : colT r.tx i = tx (r.l.getD i ⟨#[]⟩) := by
 unfold colT SR.tx; simp [List.getD, List.getElem?_eq_getElem h]
theorem getD_sr {l : List SR} {i : Nat} (h : i < l.length) : l.getD i sr0 ∈ l := by
 rw [List.getD_eq_getElem?_getD, List.getElem?_eq_getElem h]
 exact List.getElem_mem h
theorem getD_bs {l : List ByteArray} {i : Nat} (h : i < l.length) : l.getD i ⟨#[]⟩ ∈ l := by
 rw [List.getD_eq_getElem?_getD, List.getElem?_eq_getElem h]
 exact List.getElem_mem h
theorem append_cells {w : World} {base : Nat} {tS tE ty : TypeId} {z : Value} {bytes : Nat} {v : Value} {l1 l2 : List Value} {A2 : Option Addr} {B c2 : Nat}
  (hu : Tryz.prog.underlying tS = some (.slice tE)) (hi : (Tryz.prog.info? tE).map (fun i => (i.zero, i.size, i.bytes)) = some (some z, 1, bytes)) (hz : z.cells.size = 1) (hby : bytes ≤ 64)
  (hown : w.ownsRow base tE 1 v l1.length l1) (hr : Row w B A2 l2) (h2 : ∀ u ∈ l2, u.oneCell' = true) (hl1 : l1.length ≤ 1000000) (hl2 : l2.length ≤ 1000000) (hbase : base ≤ w.heap.size) :
  ∃ v' w', (Builtin.append_ #[tS, tS] ty #[v, .slice A2 l2.length c2]).run Tryz.prog w = .ok v' w' ∧ w'.ownsRow base tE 1 v' (l1 ++ l2).length (l1 ++ l2) ∧ w.grownBy w' v.ownBlock ∧ (v'.ownBlock = v.ownBlock ∨ v'.ownBlock = some w.heap.size) := by
 obtain ⟨i0, hi0, hz0, hz1, hz2⟩ := info_parts hi
 rw [List.length_append]
 cases A2 with
 | some a =>
  have hn : ∀ j u, l2[j]? = some u → w.cell? (a.add j) = some u := newsRow hr
  obtain ⟨v', w', a1, a2, a3, _, a4⟩ := run_append_own_at (P := Tryz.prog) (w := w) base tS ty tE i0 z 1 bytes hu hi0 hz0 hz1 hz2 hz (by decide) v l1.length l1 hown a l2.length c2 l2 (by omega) hn h2 (by simp only [maxLen]; omega) (Nat.le_trans (Nat.mul_le_mul (show l1.length + l2.length ≤ 2000000 by omega) hby) (by decide)) hbase
  exact ⟨v', w', a1, a2, a3, a4⟩
 | none =>
  have h0 : l2 = [] := by
   rcases hr with h | ⟨b, o, h, _⟩
   ·exact h
   ·cases h
  subst h0
  refine ⟨v, w, ?_, by simpa using hown, ⟨rfl, rfl, rfl, Nat.le_refl _, fun _ _ _ => rfl⟩, .inl rfl⟩
  rcases hown.2 with ⟨rfl, h0⟩ | ⟨g, cap, cur, rfl, hbg, hg, hnc, _⟩
  ·simp [Builtin.append_, run_underlying hu, sizeOf, typeInfo, hi0, Builtin.lenOf, Builtin.firstCells]
  ·have := run_append_room_src (P := Tryz.prog) w tS tS ty tE i0 hu hi0 g 0 l1.length cap (.slice none 0 c2) 0 [] (Src.ofNil w hu c2) (by omega) (fun j hj => by simp at hj) (fun j hj => by simp at hj)
   simpa [World.setCells] using this
theorem infoStrs : (Tryz.prog.info? 27).map (fun i => (i.zero, i.size, i.bytes)) = some (some (.slice none 0 0), 1, 24) := by kernel_rfl
theorem infoStr1 : (Tryz.prog.info? 9).map (fun i => (i.zero, i.size, i.bytes)) = some (some (.string ⟨#[]⟩), 1, 16) := by kernel_rfl
theorem append_table {w : World} {g : Nat} {h : SR} {A : Option Addr} {c B : Nat} {rs : List SR} (ty : TypeId) (hg : w.ownsRow g 27 1 (.slice (some ⟨g, 0, none⟩) 1 1) 1 [srV h]) (hr : Row w B A (rs.map srV)) (hl : rs.length ≤ 1000) :
  ∃ A' c' w', (Builtin.append_ #[28, 28] ty #[.slice (some ⟨g, 0, none⟩) 1 1, .slice A rs.length c]).run Tryz.prog w = .ok (.slice A' (rs.length + 1) c') w' ∧ Row w' w'.heap.size A' ((h :: rs).map srV) ∧ Below g w w' := by
 have hgl := (own_lt hg g rfl).2
 obtain ⟨v', w', a1, a2, a3, _⟩ := append_cells (ty := ty) (c2 := c) (l1 := [srV h]) (l2 := rs.map srV) Tryz.underlying28 infoStrs (by rfl) (by omega) hg hr (srV_one rs) (by simp) (by rw [List.length_map]; omega) (by omega)
 rw [List.length_map] at a1
 obtain ⟨A', c', rfl, _, _⟩ := own_form a2
 rw [List.length_append, List.length_map, List.length_cons, List.length_nil, Nat.zero_add, Nat.add_comm] at a1 a2
 refine ⟨A', c', w', a1, Row.of_own a2, a3.os, a3.tape, a3.output, by have := a3.size; omega, fun k hk => a3.block k (by omega) (fun e => by simp [Value.ownBlock] at e; omega)⟩
end Go.Proofs.YtoemghiejfkpbaaGreatDoor
