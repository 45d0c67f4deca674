/- Contract of line.Date. -/
import Derived.Test.YtlihhlijombepaaDoorLine2
namespace Go.Proofs.YtlihhlijombepaaDoor
open Go.RowKit
set_option linter.unusedVariables false

/-- What Date says of a day: a valid date on it. -/
def IsDate (day : Int) (w : World) (e : Ending) (w' : World) : Prop :=
  ∃ (y : Int) (k : Nat) (d : Int), e = .returned (.tuple #[.agg #[.int .i64 y, .int .i64 ((k : Int) + 1), .int .i64 d], .int .i64 0]) ∧ valid y k d ∧ dayOf y k d = day ∧ Below w.heap.size w w'

theorem cell_lens (wr : World) (g : Nat) (f : Int) (h : wr.heap[g]? = some (.cells #[.int .i64 31, .int .i64 f, .int .i64 31, .int .i64 30, .int .i64 31, .int .i64 30, .int .i64 31, .int .i64 31, .int .i64 30, .int .i64 31, .int .i64 30, .int .i64 31] 187 (0, 0))) (k : Nat) (hk : k < 12) : wr.cell? ⟨g, k, none⟩ = some (.int .i64 (len f k)) := by
  rw [cell_of_row wr g k _ _ _ h]
  match k, hk with
  | 0, _ | 1, _ | 2, _ | 3, _ | 4, _ | 5, _ | 6, _ | 7, _ | 8, _ | 9, _ | 10, _ | 11, _ => rfl

end Go.Proofs.YtlihhlijombepaaDoor
