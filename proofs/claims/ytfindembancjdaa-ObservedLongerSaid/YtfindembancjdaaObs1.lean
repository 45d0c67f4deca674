/- Contract of observed.Check at a valid table. -/
import Derived.Test.YtfindembancjdaaMoonPlain
namespace Go.Proofs.Ytfindembancjdaa
open Go.RowKit
set_option linter.unusedVariables false

/-- a table: its numbers, its lists and where they lie -/
structure Tab where
  nm : ByteArray
  first : Int
  ms : List Int
  ss : List Int
  A1 : Option Addr
  c1 : Nat
  A2 : Option Addr
  c2 : Nat
abbrev Tab.cells (t : Tab) : Array Value := #[.string t.nm, .int .i64 t.first, .slice t.A1 t.ms.length t.c1, .slice t.A2 t.ss.length t.c2]
abbrev Tab.val (t : Tab) : Value := .agg t.cells
def TIn (w : World) (t : Tab) : Prop := Row w w.heap.size t.A1 (ints t.ms) ∧ Row w w.heap.size t.A2 (ints t.ss)
theorem TIn.next {w w' : World} {t : Tab} (h : TIn w t) (hb : Below w.heap.size w w') : TIn w' t := ⟨h.1.next hb, h.2.next hb⟩
theorem tcells {W : World} {g : Nat} {t : Tab} (h : Box W g 67 t.cells) : W.cell? ⟨g, 0, none⟩ = some (.string t.nm) ∧ W.cell? ⟨g, 1, none⟩ = some (.int .i64 t.first) ∧ W.cell? ⟨g, 2, none⟩ = some (.slice t.A1 t.ms.length t.c1) ∧ W.cell? ⟨g, 3, none⟩ = some (.slice t.A2 t.ss.length t.c2) :=
  ⟨h.cell 0, h.cell 1, h.cell 2, h.cell 3⟩
/-- the sum of the first k numbers -/
def sumTo (ms : List Int) : Nat → Int
  | 0 => 0
  | k + 1 => sumTo ms k + ms.getD k 0
theorem sumTo_in (ms : List Int) (h : ∀ i, i < ms.length → ms.getD i 0 = 12 ∨ ms.getD i 0 = 13) : ∀ k, k ≤ ms.length → 12 * (k : Int) ≤ sumTo ms k ∧ sumTo ms k ≤ 13 * (k : Int) := by
  intro k
  induction k with
  | zero => intro _; simp [sumTo]
  | succ k ih =>
    intro hk
    have := ih (by omega)
    have := h k (by omega)
    simp only [sumTo]
    omega
/-- a valid table -/
structure TOk (t : Tab) : Prop where
  nm : NameOk t.nm
  fit : t.nm.size ≤ maxLen
  n1 : 1 ≤ t.ms.length
  n2 : t.ms.length ≤ 40
  f1 : -10000 ≤ t.first
  f2 : t.first ≤ 10000 - t.ms.length + 1
  ms : ∀ i, i < t.ms.length → t.ms.getD i 0 = 12 ∨ t.ms.getD i 0 = 13
  len : (t.ss.length : Int) = 1 + sumTo t.ms t.ms.length
  days : ∀ i, i < t.ss.length → IsD (t.ss.getD i 0)
  inc : ∀ i, 0 < i → i < t.ss.length → t.ss.getD (i - 1) 0 < t.ss.getD i 0 ∧ t.ss.getD i 0 ≤ t.ss.getD (i - 1) 0 + 40

set_option maxHeartbeats 2000000 in
set_option maxRecDepth 100000 in
theorem ocheck_yes (t : Tab) (w : World) (ht : TIn w t) (ok : TOk t) : Calls Try.prog 64 #[t.val] w fun e w' => e = .returned (.int .i64 0) ∧ Below w.heap.size w w' := by
  have hx := Box.new w 67 t.cells
  have hB := Lib.hid (below_alloc1 w (Obj.cells t.cells 67))
  have ht1 := Lib.hid (ht.next hB.out)
  have OK := Lib.hid ok
  obtain ⟨k1, k2, k3, k4⟩ : 1 ≤ t.ms.length ∧ t.ms.length ≤ 40 ∧ -10000 ≤ t.first ∧ t.first ≤ 10000 - t.ms.length + 1 := ⟨ok.n1, ok.n2, ok.f1, ok.f2⟩
  have hsum := sumTo_in t.ms ok.ms t.ms.length (Nat.le_refl _)
  have hlen := ok.len
  have hl1 : t.ss.length ≤ 600 := by omega
  have HL := Lib.hid hlen
  clear ok ht hlen hsum
  go_enter Try.func64, Try.ntmps64
  go_wp2_with fail
  generalize w.alloc (Obj.cells t.cells 67) = W0 at *
  obtain ⟨g, hg⟩ : ∃ g, g = w.heap.size := ⟨_, rfl⟩
  rw [← hg] at hx
  rw [← hg]
  clear hg
  refine (isName_any t.nm _ OK.out.fit).mono ?_
  rintro e w' ⟨q, rfl, hq, rfl⟩
  obtain rfl : q = true := hq.2 OK.out.nm
  clear hq
  obtain ⟨x0, x1, x2, x3⟩ := tcells hx
  have t1 : decide ((t.ms.length : Int) < 1) = false := decide_eq_false (by omega)
  have t1' : decide (t.ms.length < 1) = false := decide_eq_false (by omega)
  have t2 : decide ((40 : Int) < (t.ms.length : Int)) = false := decide_eq_false (by omega)
  have t2' : decide (40 < t.ms.length) = false := decide_eq_false (by omega)
  have t3 : decide (t.first < -10000) = false := decide_eq_false (by omega)
  have t4 : decide (10000 - (t.ms.length : Int) + 1 < t.first) = false := decide_eq_false (by omega)
  go_wp2_with fail
  go_loop [4, 6, 36] (fun s _ i => ∃ k : Nat, k ≤ t.ms.length ∧ s = .int .i64 (1 + sumTo t.ms k) ∧ i = .int .i64 (k : Int)) (fun _ _ i => t.ms.length - (intOf i).toNat)
  case atStart => exact ⟨0, by omega, by simp [sumTo], rfl⟩
  case round =>
    obtain ⟨k, hk, rfl, rfl⟩ := hrel
    have hs := sumTo_in t.ms OK.out.ms k hk
    by_cases hlt : k < t.ms.length
    · have hst : Hid (sumTo t.ms (k + 1) = sumTo t.ms k + t.ms.getD k 0) := rfl
      have hv := OK.out.ms k hlt
      obtain ⟨b, o, hA, _, hcs⟩ := ht1.out.1.open_ (ints_ne t.ms (by omega))
      have hc := ints_cell hcs k hlt
      rw [hA] at *
      clear hcs hA
      generalize t.ms.getD k 0 = v at *
      rcases hv with rfl | rfl
      · go_wp2_with fail
        go_round
        case rel => exact ⟨k + 1, by omega, by rw [hst.out]; go_num, by go_num⟩
        case measure => simp [intOf]; omega
      · go_wp2_with fail
        go_round
        case rel => exact ⟨k + 1, by omega, by rw [hst.out]; go_num, by go_num⟩
        case measure => simp [intOf]; omega
    · obtain rfl : k = t.ms.length := by omega
      have t5 : ((t.ss.length : Int) != 1 + sumTo t.ms t.ms.length) = false := by rw [bne_eq_false_iff_eq]; exact HL.out
      clear t1 t2 t1' t2' t3 t4
      go_wp2_with fail
      clear t5
      go_loop [7, 8, 58] (fun _ _ i => ∃ k : Nat, k ≤ t.ss.length ∧ i = .int .i64 (k : Int)) (fun _ _ i => t.ss.length - (intOf i).toNat)
      case atStart => exact ⟨0, by omega, rfl⟩
      case round =>
        obtain ⟨k, hk, rfl⟩ := hrel
        by_cases hlt : k < t.ss.length
        · have hd := OK.out.days k hlt
          have hin := fun h => OK.out.inc k h hlt
          have hd0 := OK.out.days (k - 1) (by omega)
          unfold IsD at hd hd0
          obtain ⟨b, o, hA, _, hcs⟩ := ht1.out.2.open_ (ints_ne t.ss (by omega))
          have hc := ints_cell hcs k hlt
          have hcp := ints_cell hcs (k - 1) (by omega)
          rw [hA] at x3
          rw [hA]
          clear hcs hA
          generalize t.ss.getD (k - 1) 0 = p at *
          generalize t.ss.getD k 0 = v at *
          by_cases h0 : k = 0
          · subst h0
            rw [Nat.add_zero] at hc
            clear hin hcp
            go_wp2_with (go_at_call 38; refine (is_yes _ _ (by omega) (by omega)).mono ?_; rintro e w' ⟨rfl, rfl⟩)
            go_round
            case rel => exact ⟨1, by omega, rfl⟩
            case measure => simp [intOf]; omega
          · have hin' := hin (by omega)
            clear hin
            have k0 : decide (0 < (k : Int)) = true := decide_eq_true (by omega)
            have k1 : (0 : Int) ≤ (k : Int) - 1 := by omega
            have k2 : (1 : Int) ≤ (k : Int) := by omega
            have k3 : ((k : Int) - 1).toNat = k - 1 := by omega
            have t4 : decide (v ≤ p) = false := decide_eq_false (by omega)
            have t5 : decide (p + 40 < v) = false := decide_eq_false (by omega)
            go_wp2_with (go_at_call 38; refine (is_yes _ _ (by omega) (by omega)).mono ?_; rintro e w' ⟨rfl, rfl⟩)
            go_round
            case rel => exact ⟨k + 1, by omega, by go_num⟩
            case measure => simp [intOf]; omega
        · go_wp2_with fail
          go_ret
          exact ⟨rfl, hB.out⟩
end Go.Proofs.Ytfindembancjdaa
