/- EraMid -/
import Derived.Test.YtgocinlhkjaokaaGreatDoorGEra1
/- Lemmas for era.Say and era.Find; contract of era.more. -/
namespace Go.Proofs.YtgocinlhkjaokaaGreatDoor
open Go Go.RowKit
set_option linter.unusedVariables false

theorem ReignAt.unique {l : List Rn} {k k' : Nat} {day : Int} (h : ReignAt l k day) (h' : ReignAt l k' day) : k = k' := by
  by_cases h1 : k < k'
  · have := h.hi k' h1 h'.lt; have := h'.lo; omega
  · by_cases h2 : k' < k
    · have := h'.hi k h2 h.lt; have := h.lo; omega
    · omega
theorem RegAt.unique {l : List Rn} {r : CatRow} (hr : r ∈ catR) {mode : Int} {k k' : Nat} {n n' : Int} {m m' : Nat} {d d' day : Int} (h : RegAt l r mode k n m d day) (h' : RegAt l r mode k' n' m' d' day) : k = k' ∧ n = n' ∧ m = m' ∧ d = d' := by
  obtain rfl := h.at_.unique h'.at_
  obtain ⟨y, fy, fm, fd, _, _, _, _, o1, o2, e⟩ := h.ex
  obtain ⟨y', fy', fm', fd', _, _, _, _, o1', o2', e'⟩ := h'.ex
  obtain ⟨rfl, rfl, rfl⟩ := o1.unique (calE_ok hr) o1'
  obtain ⟨rfl, _, _⟩ := o2.unique (calE_ok hr) o2'
  exact ⟨rfl, by omega, rfl, rfl⟩
/-- what Say says -/
def SayP (l : List Rn) (r : CatRow) (mode day : Int) (nm : ByteArray) (n E : Int) : Prop :=
  (E = 0 → ErOk l ∧ ∃ (k m : Nat) (d : Int), RegAt l r mode k n m d day ∧ nm = (l.getD k rn0).nm) ∧
  (ErOk l → ∀ (k : Nat) (n' : Int) (m : Nat) (d : Int), RegAt l r mode k n' m d day → E = 0 ∧ nm = (l.getD k rn0).nm ∧ n = n')
theorem SayP.no {l : List Rn} {r : CatRow} {mode day E : Int} (hE : E ≠ 0) (h : ErOk l → ∀ (k : Nat) (n' : Int) (m : Nat) (d : Int), RegAt l r mode k n' m d day → False) : SayP l r mode day ⟨#[]⟩ 0 E :=
  ⟨fun e => absurd e hE, fun a k n' m d b => absurd (h a k n' m d b) id⟩
theorem fd_in {c : Cal} (ok : CalOk c) {day : Int} {y : Int} {m : Nat} {d : Int} (h1 : -10000 ≤ y) (h2 : y ≤ 10000) (h : IsOn c y m d day) : c.ny (-10000) ≤ day ∧ day < c.ny 10001 := by
  have q := h.year ok
  have q1 := Cal.ny_le ok h1
  have q2 := Cal.ny_le ok (show y + 1 ≤ 10001 by omega)
  omega
theorem more_any (mode : Int) (w : World) (hmode : mode = 1 ∨ mode = 2) : Calls Tryz.prog 12 #[.int .i64 mode] w fun e w' => e = .returned (.int .i64 (moreI mode)) ∧ Below w.heap.size w w' := by
  rcases hmode with rfl | rfl
  · go_enter Tryz.func12, Tryz.ntmps12
    go_wp2_with fail
    go_ret
    exact ⟨rfl, Below.refl _ _⟩
  · go_enter Tryz.func12, Tryz.ntmps12
    go_wp2_with fail
    go_ret
    exact ⟨rfl, Below.refl _ _⟩

end Go.Proofs.YtgocinlhkjaokaaGreatDoor
