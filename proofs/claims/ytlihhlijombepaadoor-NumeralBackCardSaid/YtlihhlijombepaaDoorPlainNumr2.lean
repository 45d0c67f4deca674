/- What a script writes: code points of at most three bytes, few; equal texts, equal numbers. -/
import Derived.Test.YtlihhlijombepaaDoorPlainNumr
import Derived.Test.YtlihhlijombepaaDoorPlainUtf
namespace Go.Proofs.YtlihhlijombepaaDoor
open Go.Lib
set_option linter.unusedVariables false

def bmpB (r : Nat) : Bool := decide (r < 55296) || (decide (57343 < r) && decide (r ≤ 65535))
theorem wr_ok : ∀ sc, sc < 13 → ∀ n, n < 1100 → (∀ r ∈ wrR sc n, Bmp r) ∧ (wrR sc n).length ≤ 100 := by
  have h : ((List.range 13).all fun sc => (List.range 1100).all fun n => (wrR sc n).all bmpB && decide ((wrR sc n).length ≤ 100)) = true := by kernel_rfl
  intro sc hs n hn
  rw [List.all_eq_true] at h
  have h1 := h sc (List.mem_range.2 hs)
  rw [List.all_eq_true] at h1
  have h2 := h1 n (List.mem_range.2 hn)
  rw [Bool.and_eq_true, List.all_eq_true, decide_eq_true_eq] at h2
  refine ⟨fun r hr => ?_, h2.2⟩
  have h3 := h2.1 r hr
  unfold bmpB at h3
  rw [Bool.or_eq_true, Bool.and_eq_true, decide_eq_true_eq, decide_eq_true_eq, decide_eq_true_eq] at h3
  exact h3
theorem wr_inj (sc a b : Nat) (hs : sc < 13) (ha : a < 1100) (hb : b < 1100) (ia : inR sc a = true) (ib : inR sc b = true) (h : wrR sc a = wrR sc b) : a = b := by
  have h1 := read_back sc hs a ha ia
  rw [h, read_back sc hs b hb ib] at h1
  have := Option.some.inj h1
  omega
end Go.Proofs.YtlihhlijombepaaDoor
