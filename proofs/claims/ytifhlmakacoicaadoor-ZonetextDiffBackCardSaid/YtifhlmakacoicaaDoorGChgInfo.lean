/- ChgInfo, Ext1 -/
import Derived.Deep.RegionHeld3
import Derived.Deep.AppendLies
import Derived.OwnWalk
import Derived.Lib.SliceRun
import Derived.WalkSpells
import Derived.Test.YtifhlmakacoicaaDoorGOwn
import Derived.Test.YtifhlmakacoicaaDoorGMem
import Derived.Test.YtifhlmakacoicaaDoorGPlainZone
/- The type of a change of a zone. -/
namespace Go.Proofs.YtifhlmakacoicaaDoor
open Go.RowKit
set_option linter.unusedVariables false

theorem chg_info : (Tryd.prog.info? 26).map (fun i => (i.zero, i.size, i.bytes)) = some (some (.agg #[.int .i64 0, .int .i64 0, .string ⟨#[]⟩]), 3, 32) := by kernel_rfl
theorem own_ne {w : World} {base : Nat} {e : TypeId} {s : Nat} {v : Value} {n : Nat} {xs : List Value} (h : w.ownsRow base e s v n xs) : v.ownBlock ≠ some w.heap.size := by
  rcases h.2 with ⟨rfl, _⟩ | ⟨g, cap, cur, rfl, hbb, hg, rest⟩
  · simp [Value.ownBlock]
  · have hlt : g < w.heap.size := by
      rcases Nat.lt_or_ge g w.heap.size with hlt | hge
      · exact hlt
      · rw [Array.getElem?_eq_none hge] at hg; cases hg
    simp [Value.ownBlock]; omega
end Go.Proofs.YtifhlmakacoicaaDoor

/- slices.Clone at []ZoneChange. -/
namespace Go.Proofs.YtifhlmakacoicaaDoor
open Go.RowKit
set_option linter.unusedVariables false

theorem chs_one (l : List Chg) : ∀ u ∈ chCells l, u.oneCell' = true := fun u hu => by
  obtain ⟨x, _, hx⟩ := List.mem_flatMap.1 hu
  simp at hx
  rcases hx with rfl | rfl | rfl <;> rfl
theorem chCells_append (a b : List Chg) : chCells (a ++ b) = chCells a ++ chCells b := by simp [chCells]
def IsClone (chs : List Chg) (w : World) (e : Ending) (w' : World) : Prop := ∃ v, e = .returned v ∧ w'.ownsRow w.heap.size 26 3 v chs.length (chCells chs) ∧ Below w.heap.size w w'
set_option maxHeartbeats 2000000 in
set_option maxRecDepth 100000 in
theorem clone_chs (A : Option Addr) (c : Nat) (chs : List Chg) (w : World) (hr : Row w w.heap.size A (chCells chs)) (hn : chs.length ≤ 1000000) :
    Calls Tryd.prog 52 #[.slice A chs.length c] w (IsClone chs w) := by
  obtain ⟨i0, hi0, hz0, hz1, hz2⟩ := info_parts chg_info
  have hil := Lib.hid (chCells_length chs)
  unfold IsClone
  cases A with
  | none =>
    have h0 : chs = [] := by
      rcases hr with h | ⟨b, o, e, _⟩
      · cases chs with
        | nil => rfl
        | cons x l => simp [chCells] at h
      · cases e
    subst h0
    have hnil : ∀ w, (binOp .eql 22 (.slice none 0 c) (.slice none 0 0)).run Tryd.prog w = .ok (.bool true) w := fun w => Lib.run_eql_slice_nil w 22 _ _ _ _ _ _ Tryd.underlying22
    go_enter Tryd.func52, Tryd.ntmps52
    go_wp2_with fail
    go_ret
    exact ⟨_, rfl, World.ownsRow_nil _ _ _ _, Below.refl _ _⟩
  | some ad =>
    have HN : Hid (∀ j u, (chCells chs)[j]? = some u → (w.alloc (.cells #[] 26)).cell? (ad.add j) = some u) := newsRow (hr.alloc _)
    have HO : Hid ((w.alloc (.cells #[] 26)).ownsRow w.heap.size 26 3 (.slice (some ⟨w.heap.size, 0, none⟩) 0 0) 0 []) := World.ownsRow_made w #[] 0 (Nat.le_refl _) (by unfold maxLen; omega) (by simp)
    clear hr
    have hnil : ∀ w, (binOp .eql 22 (.slice (some ad) chs.length c) (.slice none 0 0)).run Tryd.prog w = .ok (.bool false) w := fun w => Lib.run_eql_slice_nil w 22 _ _ _ _ _ _ Tryd.underlying22
    go_enter Tryd.func52, Tryd.ntmps52
    go_wp2_with (at_builtin; refine wpList_append_own _ rfl (.tmp 5) (.tmp 6) 22 rfl w.heap.size 26 i0 (.agg #[.int .i64 0, .int .i64 0, .string ⟨#[]⟩]) 3 32 Tryd.underlying22 hi0 hz0 hz1 hz2 rfl (by decide) _ 0 [] rfl HO.out ad chs.length c (chCells chs) rfl ?c0 ?c1 ?c2 ?c3 ?c4 ?c5 ?_)
    case c0 => rw [hil.out]
    case c1 => exact HN.out
    case c2 => exact chs_one chs
    case c3 => simp only [maxLen]; omega
    case c4 => omega
    case c5 => simp
    intro v' w3 hown' hgrow _
    have hB : Below w.heap.size w w3 := (below_alloc1 w _).grown hgrow (by simp) (fun k hk => by simp [Value.ownBlock] at hk; omega)
    try simp only [Nat.zero_add, List.nil_append] at hown'
    clear hgrow
    go_wp2_with fail
    go_ret
    exact ⟨v', rfl, hown', hB⟩
end Go.Proofs.YtifhlmakacoicaaDoor
