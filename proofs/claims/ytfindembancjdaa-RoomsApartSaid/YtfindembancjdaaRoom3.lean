/- Rooms in memory; contracts of find and taken. -/
import Derived.Test.YtfindembancjdaaRoom2
import Derived.Test.YtfindembancjdaaOwn
namespace Go.Proofs.Ytfindembancjdaa
open Go.RowKit
set_option linter.unusedVariables false

/-- rooms in memory: where the names, where the bookings lie; the bookings' slices vs hold the lists ls -/
structure Rms (w : World) (base g gB : Nat) (An : Option Addr) (cn : Nat) (nms : List ByteArray) (vs : List Value) (ls : List (List Bk)) : Prop where
  bx : Box w g 111 #[.slice An nms.length cn, .slice (some ⟨gB, 0, none⟩) nms.length nms.length]
  nm : w.ownsRow base 9 1 (.slice An nms.length cn) nms.length (strs nms)
  bk : Box w gB 49 vs.toArray
  lv : vs.length = nms.length
  ll : ls.length = nms.length
  rows : ∀ k, k < nms.length → w.ownsRow base 55 4 (vs.getD k undef) (ls.getD k []).length ((ls.getD k []).flatMap bkF)
  apart : ∀ i j b, i < nms.length → j < nms.length → i ≠ j → (vs.getD i undef).ownBlock = some b → (vs.getD j undef).ownBlock ≠ some b
theorem Rms.next {w w' : World} {base g gB : Nat} {An : Option Addr} {cn : Nat} {nms : List ByteArray} {vs : List Value} {ls : List (List Bk)} (h : Rms w base g gB An cn nms vs ls) (hb : Below w.heap.size w w') : Rms w' base g gB An cn nms vs ls :=
  ⟨h.bx.below hb, own_next h.nm hb, h.bk.below hb, h.lv, h.ll, fun k hk => own_next (h.rows k hk) hb, h.apart⟩

theorem row_ownB {w : World} {base : Nat} {e : TypeId} {s : Nat} {A : Option Addr} {n c : Nat} {xs : List Value} (h : w.ownsRow base e s (.slice A n c) n xs) : Row w w.heap.size A xs := by
  by_cases hn : 0 < n
  · obtain ⟨g, cap, hv, _, hlt⟩ := h.form hn
    have hA : A = some ⟨g, 0, none⟩ := by injection hv
    subst hA
    refine .inr ⟨g, 0, rfl, hlt, fun j v hv => ?_⟩
    have := h.cells (g := g) rfl j v hv
    rw [Nat.zero_add]
    rw [addPlain, Nat.zero_add] at this
    exact this
  · have h0 : n = 0 := by omega
    subst h0
    have := h.1
    exact .inl (List.eq_nil_of_length_eq_zero (by simpa using this))

set_option maxRecDepth 100000 in
theorem find_any {base g gB : Nat} {An : Option Addr} {cn : Nat} {nms : List ByteArray} {vs : List Value} {ls : List (List Bk)} (x : ByteArray) (w : World) (h : Rms w base g gB An cn nms vs ls) (hn : nms.length ≤ 20) :
    Calls Try.prog 55 #[.pointer (some ⟨g, 0, none⟩), .string x] w fun e w' => ∃ i : Int, e = .returned (.int .i64 i) ∧ IdxS nms x i ∧ w = w' := by
  have x0 : w.cell? ⟨g, 0, none⟩ = some (.slice An nms.length cn) := h.bx.cell 0
  have HI := Lib.hid (index_strs An cn nms x w (row_ownB h.nm) (by omega))
  clear h
  go_enter Try.func55, Try.ntmps55
  go_wp2_with fail
  refine HI.out.mono ?_
  rintro e w' ⟨i, rfl, hi, rfl⟩
  have HH := Lib.hid hi
  clear hi
  go_wp2_with fail
  go_ret
  exact ⟨i, rfl, HH.out, rfl⟩

set_option maxHeartbeats 400000 in
set_option maxRecDepth 100000 in
theorem taken_any {base g gB : Nat} {An : Option Addr} {cn : Nat} {nms : List ByteArray} {vs : List Value} {ls : List (List Bk)} (k : Nat) (fr tt : Int) (w : World) (h : Rms w base g gB An cn nms vs ls) (hn : nms.length ≤ 20) (hk : k < nms.length) (hl : (ls.getD k []).length ≤ 1000) :
    Calls Try.prog 57 #[.pointer (some ⟨g, 0, none⟩), .int .i64 (k : Int), .int .i64 fr, .int .i64 tt] w fun e w' => e = .returned (.bool ((ls.getD k []).any (fun x => x.over fr tt))) ∧ Below w.heap.size w w' := by
  have HB := Lib.hid (below_alloc2 w (Obj.cells #[.int .i64 fr] 3) (Obj.cells #[.int .i64 tt] 3))
  have h2 := h.next HB.out
  have y1 := (Box.new w 3 #[.int .i64 fr]).alloc (Obj.cells #[.int .i64 tt] 3)
  have y2 := Box.new (w.alloc (Obj.cells #[.int .i64 fr] 3)) 3 #[.int .i64 tt]
  rw [World.size_alloc] at y2
  obtain ⟨A, c, hv, _, _⟩ := own_form (h.rows k hk)
  have x1 : ((w.alloc (Obj.cells #[.int .i64 fr] 3)).alloc (Obj.cells #[.int .i64 tt] 3)).cell? ⟨g, 1, none⟩ = some (.slice (some ⟨gB, 0, none⟩) nms.length nms.length) := h2.bx.cell 1
  have x2 : ((w.alloc (Obj.cells #[.int .i64 fr] 3)).alloc (Obj.cells #[.int .i64 tt] 3)).cell? ⟨gB, k, none⟩ = some (.slice A (ls.getD k []).length c) := by
    rw [h2.bk.cell k, ← hv]
    have : k < vs.length := by rw [h.lv]; exact hk
    simp [List.getD, List.getElem?_eq_getElem this]
  have hrow := row_ownB (by have := h2.rows k hk; rwa [hv] at this)
  have HC : Hid (Calls Try.prog 86 #[.slice A (ls.getD k []).length c, .func (.func 87) #[] #[.pointer (some ⟨w.heap.size + 1, 0, none⟩), .pointer (some ⟨w.heap.size, 0, none⟩)]] ((w.alloc (Obj.cells #[.int .i64 fr] 3)).alloc (Obj.cells #[.int .i64 tt] 3)) fun e w' => e = .returned (.bool ((ls.getD k []).any (fun x => x.over fr tt))) ∧ Below ((w.alloc (Obj.cells #[.int .i64 fr] 3)).alloc (Obj.cells #[.int .i64 tt] 3)).heap.size ((w.alloc (Obj.cells #[.int .i64 fr] 3)).alloc (Obj.cells #[.int .i64 tt] 3)) w') :=
    containsFunc_bks _ _ (fun x => x.over fr tt) _ A c (ls.getD k []) _ (Below.refl _ _) (by omega) (fun _ _ => rfl) (fun W hW => hrow.next hW)
      (fun W x hW => (taken_one (w.heap.size + 1) w.heap.size fr tt x W ((y2.below hW).cell 0) ((y1.below hW).cell 0)).mono fun e w' ⟨he, hb⟩ => ⟨he, below_then hW hb⟩)
  have k0 : (0 : Int) ≤ (k : Int) := by omega
  have k1 : (k : Int) < (nms.length : Int) := by omega
  clear h h2 y1 y2 hrow hv
  generalize (ls.getD k []).any (fun x => x.over fr tt) = R at *
  generalize (ls.getD k []).length = m at *
  go_enter Try.func57, Try.ntmps57
  go_wp2_with fail
  refine HC.out.mono ?_
  rintro e w1 ⟨rfl, hb1⟩
  replace HB := Lib.hid (below_then HB.out hb1)
  clear x1 x2 hb1 HC
  go_wp2_with fail
  go_ret
  exact ⟨rfl, HB.out⟩
end Go.Proofs.Ytfindembancjdaa
