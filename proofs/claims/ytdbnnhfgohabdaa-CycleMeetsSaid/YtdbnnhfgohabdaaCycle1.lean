/- Contracts of package cycle: Check. -/
import Derived.Test.YtdbnnhfgohabdaaWords
import Derived.Test.YtdbnnhfgohabdaaWhole4
import Derived.Test.YtdbnnhfgohabdaaLine1
import Derived.Test.YtdbnnhfgohabdaaPlainCycle
namespace Go.Proofs.Ytdbnnhfgohabdaa
open Go.RowKit
set_option linter.unusedVariables false

/-- What Check says: 0 just if the set is valid. -/
def IsCheck (P : Prop) (w : World) (e : Ending) (w' : World) : Prop := ∃ E : Int, e = .returned (.int .i64 E) ∧ (E = 0 ↔ P) ∧ Below w.heap.size w w'

set_option maxHeartbeats 1000000 in
set_option maxRecDepth 100000 in
theorem ccheck_any (A A' : Option Addr) (c c' : Nat) (Ls Os : List Int) (w : World) (hL : Row w w.heap.size A (ints Ls)) (hO : Row w w.heap.size A' (ints Os)) (hl : Ls.length ≤ maxLen) (hl' : Os.length ≤ maxLen) :
    Calls Try.prog 73 #[.agg #[.slice A Ls.length c, .slice A' Os.length c']] w (IsCheck (CycOk Ls Os) w) := by
  unfold maxLen at hl hl'
  have hok : Hid (1 ≤ Ls.length ∧ Ls.length ≤ 8 ∧ Os.length = Ls.length ∧ (∀ i, i < Ls.length → cycAt (Ls.getD i 0) (Os.getD i 0) = true) ↔ CycOk Ls Os) := Iff.rfl
  obtain ⟨n, hn⟩ : ∃ n, Ls.length = n := ⟨_, rfl⟩
  obtain ⟨m, hm⟩ : ∃ m, Os.length = m := ⟨_, rfl⟩
  rw [hn, hm] at hok
  rw [hn] at hl
  rw [hm] at hl'
  rw [hn, hm]
  have Hn := Lib.hid hn
  have Hm := Lib.hid hm
  clear hn hm
  have HP : Hid (∀ P, P = CycOk Ls Os → P = CycOk Ls Os) := fun _ h => h
  by_cases h1 : n < 1
  · have t1 : decide ((n : Int) < 1) = true := decide_eq_true (by omega)
    go_enter Try.func73, Try.ntmps73
    go_wp2_with fail
    go_ret
    exact ⟨_, rfl, ⟨fun h => by omega, fun h => by have := hok.out.2 h; omega⟩, below_alloc1 _ _⟩
  · by_cases h2 : 8 < n
    · have t1 : decide ((n : Int) < 1) = false := decide_eq_false (by omega)
      have t2 : decide (8 < (n : Int)) = true := decide_eq_true (by omega)
      go_enter Try.func73, Try.ntmps73
      go_wp2_with fail
      go_ret
      exact ⟨_, rfl, ⟨fun h => by omega, fun h => by have := hok.out.2 h; omega⟩, below_alloc1 _ _⟩
    · have t1 : decide ((n : Int) < 1) = false := decide_eq_false (by omega)
      have t2 : decide (8 < (n : Int)) = false := decide_eq_false (by omega)
      by_cases h3 : m = n
      · subst h3
        have t3 : ((m : Int) != (m : Int)) = false := by simp
        obtain ⟨b, o, rfl, hb, hc⟩ := hL.open_ (ints_ne Ls (by rw [Hn.out]; omega))
        obtain ⟨b', o', rfl, hb', hc'⟩ := hO.open_ (ints_ne Os (by rw [Hm.out]; omega))
        have HC := Lib.hid hc
        have HC' := Lib.hid hc'
        clear hc hc' hL hO
        go_enter Try.func73, Try.ntmps73
        go_wp2_with fail
        generalize hW : w.alloc (Obj.cells #[.slice (some ⟨b, o, none⟩) m c, .slice (some ⟨b', o', none⟩) m c'] 76) = W0
        have hB := below_alloc1 w (Obj.cells #[.slice (some ⟨b, o, none⟩) m c, .slice (some ⟨b', o', none⟩) m c'] 76)
        have hx := Box.new w 76 #[.slice (some ⟨b, o, none⟩) m c, .slice (some ⟨b', o', none⟩) m c']
        rw [hW] at hB hx
        clear hW
        have x0 : W0.cell? ⟨w.heap.size, 0, none⟩ = some (.slice (some ⟨b, o, none⟩) m c) := hx.cell 0
        have x1 : W0.cell? ⟨w.heap.size, 1, none⟩ = some (.slice (some ⟨b', o', none⟩) m c') := hx.cell 1
        have hB' : Hid (Below w.heap.size w W0) := hB
        clear hx
        go_loop [3, 4, 25] (fun _ _ i => ∃ k : Nat, k ≤ m ∧ i = .int .i64 k ∧ Hid (∀ j, j < k → cycAt (Ls.getD j 0) (Os.getD j 0) = true)) (fun _ _ i => m - (intOf i).toNat)
        case atStart => exact ⟨0, by omega, rfl, fun j hj => by omega⟩
        case round =>
          obtain ⟨k, hk, rfl, hall⟩ := hrel
          by_cases hkm : k < m
          · have y0 : W0.cell? ⟨b, o + k, none⟩ = some (.int .i64 (Ls.getD k 0)) := by rw [hB.cell (p := ⟨b, o + k, none⟩) hb]; exact ints_cell HC.out k (by rw [Hn.out]; exact hkm)
            have y1 : W0.cell? ⟨b', o' + k, none⟩ = some (.int .i64 (Os.getD k 0)) := by rw [hB.cell (p := ⟨b', o' + k, none⟩) hb']; exact ints_cell HC'.out k (by rw [Hm.out]; exact hkm)
            have hat : Hid (cycAt (Ls.getD k 0) (Os.getD k 0) = decide (1 ≤ Ls.getD k 0 ∧ Ls.getD k 0 ≤ 1000 ∧ 0 ≤ Os.getD k 0 ∧ Os.getD k 0 < Ls.getD k 0)) := rfl
            generalize hx : Ls.getD k 0 = x at *
            generalize hy : Os.getD k 0 = y at *
            have HX := Lib.hid hx
            have HY := Lib.hid hy
            clear hx hy hB
            have hbad : Hid (¬ (1 ≤ x ∧ x ≤ 1000 ∧ 0 ≤ y ∧ y < x) → ¬ CycOk Ls Os) := fun hn hok' => hn (by
              have := (hok.out.2 hok').2.2.2 k hkm
              rw [HX.out, HY.out, hat.out] at this
              simpa using this)
            by_cases c1 : x < 1
            · have d1 : decide (x < 1) = true := decide_eq_true c1
              go_wp2
              go_ret
              exact ⟨_, rfl, ⟨fun h => by omega, fun h => absurd h (hbad.out (by omega))⟩, hB'.out⟩
            · have d1 : decide (x < 1) = false := decide_eq_false c1
              by_cases c2 : 1000 < x
              · have d2 : decide (1000 < x) = true := decide_eq_true c2
                go_wp2
                go_ret
                exact ⟨_, rfl, ⟨fun h => by omega, fun h => absurd h (hbad.out (by omega))⟩, hB'.out⟩
              · have d2 : decide (1000 < x) = false := decide_eq_false c2
                by_cases c3 : y < 0
                · have d3 : decide (y < 0) = true := decide_eq_true c3
                  go_wp2
                  go_ret
                  exact ⟨_, rfl, ⟨fun h => by omega, fun h => absurd h (hbad.out (by omega))⟩, hB'.out⟩
                · have d3 : decide (y < 0) = false := decide_eq_false c3
                  by_cases c4 : x ≤ y
                  · have d4 : decide (x ≤ y) = true := decide_eq_true c4
                    go_wp2
                    go_ret
                    exact ⟨_, rfl, ⟨fun h => by omega, fun h => absurd h (hbad.out (by omega))⟩, hB'.out⟩
                  · have d4 : decide (x ≤ y) = false := decide_eq_false c4
                    go_wp2
                    go_round
                    case rel => exact ⟨k + 1, by omega, by go_num, fun j hj => by
                      by_cases hjk : j < k
                      · exact hall.out j hjk
                      · obtain rfl : j = k := by omega
                        rw [HX.out, HY.out, hat.out]; simp; omega⟩
                    case measure => simp [intOf]; omega
          · go_wp2
            go_ret
            exact ⟨_, rfl, ⟨fun _ => hok.out.1 ⟨by omega, by omega, by simp, fun i hi => hall.out i (by omega)⟩, fun _ => rfl⟩, hB'.out⟩
      · have t3 : ((m : Int) != (n : Int)) = true := by rw [bne_iff_ne]; omega
        go_enter Try.func73, Try.ntmps73
        go_wp2_with fail
        go_ret
        exact ⟨_, rfl, ⟨fun h => by omega, fun h => by have := hok.out.2 h; omega⟩, below_alloc1 _ _⟩
end Go.Proofs.Ytdbnnhfgohabdaa
