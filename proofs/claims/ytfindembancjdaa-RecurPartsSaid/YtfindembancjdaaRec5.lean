/- Contract of recur.moment.unit. -/
import Derived.Test.YtfindembancjdaaRec4
namespace Go.Proofs.Ytfindembancjdaa
open Go.RowKit
set_option linter.unusedVariables false

/-- the number of the unit of a moment -/
def Mm.un (m : Mm) (u : Int) : Int := if u = 1 then m.day else if u = 2 then (m.day - 1) / 7 else if u = 3 then m.y * 12 + ((m.k : Int) + 1) else m.y
theorem MmOk.year {m : Mm} (h : MmOk m) : -10956 ≤ m.y ∧ m.y ≤ 10955 := by
  obtain ⟨a, b⟩ := dayOf_in _ _ _ h.v
  rw [h.e] at a b
  have h1 := ny_bounds' m.y (by have := h.d2; omega)
  have h2 := ny_bounds (m.y + 1) (by have := h.d1; omega)
  omega
theorem MmOk.un_in {m : Mm} (h : MmOk m) (u : Int) : -4000000 ≤ m.un u ∧ m.un u ≤ 4000000 := by
  have := h.year
  have := h.d1
  have := h.d2
  have := h.v.1
  unfold Mm.un
  split
  · omega
  · split
    · omega
    · split <;> omega

set_option maxHeartbeats 400000 in
set_option maxRecDepth 100000 in
theorem unit_any (m : Mm) (u : Int) (ok : MmOk m) (w : World) : Calls Try.prog 100 #[m.val, .int .i64 u] w fun e w' => e = .returned (.int .i64 (m.un u)) ∧ Below w.heap.size w w' := by
  have hy := ok.year
  have h1 := ok.d1
  have h2 := ok.d2
  have hk := ok.v.1
  have HB := Lib.hid (below_alloc1 w (Obj.cells m.cells 134))
  unfold Mm.un
  clear ok
  by_cases a1 : u = 1
  · subst a1
    rw [if_pos rfl]
    go_enter Try.func100, Try.ntmps100
    go_wp2_with fail
    go_ret
    exact ⟨rfl, HB.out⟩
  rw [if_neg a1]
  have t1 : (u == 1) = false := by simpa using a1
  by_cases a2 : u = 2
  · subst a2
    rw [if_pos rfl]
    go_enter Try.func100, Try.ntmps100
    go_wp2_with (go_at_call 81; refine (down_pos _ _ _ (by omega) (by omega) (by omega) (by omega)).mono ?_; rintro e w' ⟨rfl, n, rfl⟩)
    go_ret
    exact ⟨rfl, below_drew HB.out _⟩
  rw [if_neg a2]
  have t2 : (u == 2) = false := by simpa using a2
  by_cases a3 : u = 3
  · subst a3
    rw [if_pos rfl]
    go_enter Try.func100, Try.ntmps100
    go_wp2_with fail
    go_ret
    exact ⟨rfl, HB.out⟩
  rw [if_neg a3]
  have t3 : (u == 3) = false := by simpa using a3
  go_enter Try.func100, Try.ntmps100
  go_wp2_with fail
  go_ret
  exact ⟨rfl, HB.out⟩
end Go.Proofs.Ytfindembancjdaa
