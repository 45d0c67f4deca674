/- Contracts of package arith: check, place, leap, Leap. -/
import Derived.Test.YtfindembancjdaaCal3
import Derived.Test.YtfindembancjdaaSearch1
import Derived.Test.YtfindembancjdaaWhole3
namespace Go.Proofs.Ytfindembancjdaa
open Go.RowKit
set_option linter.unusedVariables false

theorem aisYear_any (n : Int) (w : World) (h1 : -10000 ≤ n) (h2 : n ≤ 10000) : Calls Try.prog 95 #[.int .i64 n] w fun e w' => e = .returned (.bool true) ∧ w = w' := by
  have t1 : decide (-10000 ≤ n) = true := decide_eq_true h1
  have t2 : decide (n ≤ 10000) = true := decide_eq_true h2
  go_enter Try.func95, Try.ntmps95
  go_wp2_with fail
  go_ret
  exact ⟨rfl, rfl⟩

set_option maxRecDepth 100000 in
theorem acheck_yes (c : Cal) (y : Int) (w : World) (hr : CalIn w c) (hf : CalFit c) (ok : CalOk c) (h1 : -10000 ≤ y) (h2 : y ≤ 10000) : Calls Try.prog 73 #[c.val, .int .i64 y] w fun e w' => e = .returned (.int .i64 0) ∧ Below w.heap.size w w' := by
  have HB := Lib.hid (below_alloc1 w (Obj.cells c.cells 82))
  have HC := Lib.hid ((ccheck_any c _ (hr.next HB.out) hf).mono (R' := fun e w' => e = .returned (.int .i64 0) ∧ Below (w.alloc (Obj.cells c.cells 82)).heap.size (w.alloc (Obj.cells c.cells 82)) w') fun e w' ⟨E, he, hE, hb⟩ => ⟨by rw [he, hE.2 ok], hb⟩)
  clear hr hf ok
  go_enter Try.func73, Try.ntmps73
  go_wp2_with fail
  refine HC.out.mono ?_
  rintro e w1 ⟨rfl, hb⟩
  replace HB := Lib.hid (below_then HB.out hb)
  clear hb HC
  go_wp2_with (go_at_call 95; refine (aisYear_any y _ h1 h2).mono ?_; rintro e w' ⟨rfl, rfl⟩)
  go_ret
  exact ⟨rfl, HB.out⟩

/-- the place of a year in its cycle -/
def Cal.pl (c : Cal) (y : Int) : Int := (y - 1) % c.cy + 1
set_option maxRecDepth 100000 in
theorem place_any (c : Cal) (y : Int) (w : World) (hc1 : 1 ≤ c.cy) (hc2 : c.cy ≤ 3000) (h1 : -100000 ≤ y) (h2 : y ≤ 100000) : Calls Try.prog 96 #[c.val, .int .i64 y] w fun e w' => e = .returned (.int .i64 (c.pl y)) ∧ Below w.heap.size w w' := by
  have HB := Lib.hid (below_alloc1 w (Obj.cells c.cells 82))
  unfold Cal.pl
  have b1 := Int.emod_nonneg (y - 1) (show c.cy ≠ 0 by omega)
  have b2 := Int.emod_lt_of_pos (y - 1) (show 0 < c.cy by omega)
  have HM := Lib.hid (fun W => mod_pos (y - 1) c.cy W (by omega) (by omega) (by omega) (by omega))
  generalize (y - 1) % c.cy = q at *
  go_enter Try.func96, Try.ntmps96
  go_wp2_with (go_at_call 82; refine (HM.out _).mono ?_; rintro e w' ⟨rfl, n, rfl⟩)
  go_ret
  exact ⟨rfl, below_drew HB.out _⟩

/-- a number of an increasing list is found -/
theorem found_iff {l : List Int} {lo hi : Int} (h : Inc l lo hi) (x : Int) : (decide (cntL l x < l.length) && (l.getD (cntL l x) 0 == x)) = decide (x ∈ l) := by
  rw [Bool.eq_iff_iff]
  simp only [Bool.and_eq_true, decide_eq_true_eq, beq_iff_eq]
  constructor
  · rintro ⟨h1, h2⟩
    rw [← h2]
    simp [List.getD, List.getElem?_eq_getElem h1]
  · intro hm
    obtain ⟨i, hi, e⟩ := List.getElem_of_mem hm
    have hg : l.getD i 0 = x := by simp [List.getD, List.getElem?_eq_getElem hi, e]
    have : cntL l x = i := cnt_of x l i (by omega) (fun t ht => by rw [← hg]; exact h.lt' t i ht hi) (fun t h1 h2 => by rw [← hg]; exact h.le i t h1 h2)
    rw [this]
    exact ⟨hi, hg⟩

set_option maxHeartbeats 1000000 in
set_option maxRecDepth 100000 in
theorem leap_any (c : Cal) (y : Int) (w : World) (hr : CalIn w c) (hc1 : 1 ≤ c.cy) (hc2 : c.cy ≤ 3000) (hlp : Inc c.lp 1 c.cy) (h1 : -100000 ≤ y) (h2 : y ≤ 100000) : Calls Try.prog 74 #[c.val, .int .i64 y] w fun e w' => e = .returned (.bool (decide (c.pl y ∈ c.lp))) ∧ Below w.heap.size w w' := by
  have HB := Lib.hid (below_alloc1 w (Obj.cells c.cells 82))
  have HX := Lib.hid (Box.new w 82 c.cells)
  have HR := Lib.hid (hr.next HB.out)
  have HFI := Lib.hid (found_iff hlp (c.pl y))
  have hln := hlp.len (by omega)
  have HLE := Lib.hid hlp.le
  have HP := Lib.hid (fun w => place_any c y w hc1 hc2 h1 h2)
  have hcl := cnt_le (c.pl y) c.lp
  obtain ⟨R, hR⟩ : ∃ R, R = decide (c.pl y ∈ c.lp) := ⟨_, rfl⟩
  rw [← hR]
  rw [← hR] at HFI
  clear hR hr hlp
  generalize c.pl y = r at *
  go_enter Try.func74, Try.ntmps74
  go_wp2_with fail
  generalize w.alloc (Obj.cells c.cells 82) = W0 at *
  obtain ⟨g, hg⟩ : ∃ g, g = w.heap.size := ⟨_, rfl⟩
  rw [← hg] at HX
  rw [← hg]
  clear hg
  refine (HP.out _).mono ?_
  rintro e w1 ⟨rfl, hb1⟩
  replace HX := Lib.hid (HX.out.below hb1)
  replace HB := Lib.hid (below_then HB.out hb1)
  replace HR := Lib.hid (HR.out.next hb1)
  clear hb1
  obtain ⟨x0, x1, x2, x3, x4⟩ := ccells HX.out
  go_wp2_with fail
  refine (searchInts_any c.A2 c.c2 c.lp r _ HR.out.r2 (by omega) HLE.out).mono ?_
  rintro e w2 ⟨rfl, hb1⟩
  replace HX := Lib.hid (HX.out.below hb1)
  replace HB := Lib.hid (below_then HB.out hb1)
  replace HR := Lib.hid (HR.out.next hb1)
  clear hb1 x0 x1 x2 x3 x4
  obtain ⟨x0, x1, x2, x3, x4⟩ := ccells HX.out
  have hrow := HR.out.r2
  generalize cntL c.lp r = k at *
  by_cases hlt : k < c.lp.length
  · obtain ⟨b, o, hA, _, hcs⟩ := hrow.open_ (ints_ne c.lp (by omega))
    rw [hA] at x4
    have hc := ints_cell hcs k hlt
    rw [decide_eq_true hlt, Bool.true_and] at HFI
    clear hcs hrow
    generalize c.lp.getD k 0 = z at *
    have t1 : decide ((k : Int) < (c.lp.length : Int)) = true := decide_eq_true (by omega)
    have t2 : decide (k < c.lp.length) = true := decide_eq_true hlt
    have k0 : (0 : Int) ≤ (k : Int) := by omega
    have k1 : (k : Int) < (c.lp.length : Int) := by omega
    go_wp2_with fail
    go_ret
    exact ⟨by rw [← HFI.out]; rfl, HB.out⟩
  · have t1 : decide ((k : Int) < (c.lp.length : Int)) = false := decide_eq_false (by omega)
    have t2 : decide (k < c.lp.length) = false := decide_eq_false hlt
    rw [decide_eq_false hlt, Bool.false_and] at HFI
    go_wp2_with fail
    go_ret
    exact ⟨by rw [← HFI.out]; rfl, HB.out⟩

set_option maxRecDepth 100000 in
theorem Leap_yes (c : Cal) (y : Int) (w : World) (hr : CalIn w c) (hf : CalFit c) (ok : CalOk c) (h1 : -10000 ≤ y) (h2 : y ≤ 10000) : Calls Try.prog 34 #[c.val, .int .i64 y] w fun e w' => e = .returned (.tuple #[.bool (decide (c.pl y ∈ c.lp)), .int .i64 0]) ∧ Below w.heap.size w w' := by
  have HB := Lib.hid (below_alloc1 w (Obj.cells c.cells 82))
  have HX := Lib.hid (Box.new w 82 c.cells)
  have HR := Lib.hid (hr.next HB.out)
  have HC := Lib.hid (fun w hr => acheck_yes c y w hr hf ok h1 h2)
  have HL := Lib.hid (fun w hr => leap_any c y w hr ok.hd.2.2.1 ok.hd.2.2.2 ok.lp (by omega) (by omega))
  clear hr hf ok
  obtain ⟨R, hR⟩ : ∃ R, R = decide (c.pl y ∈ c.lp) := ⟨_, rfl⟩
  rw [← hR]
  rw [← hR] at HL
  clear hR
  go_enter Try.func34, Try.ntmps34
  go_wp2_with fail
  generalize w.alloc (Obj.cells c.cells 82) = W0 at *
  obtain ⟨g, hg⟩ : ∃ g, g = w.heap.size := ⟨_, rfl⟩
  rw [← hg] at HX
  rw [← hg]
  clear hg
  refine (HC.out _ HR.out).mono ?_
  rintro e w1 ⟨rfl, hb1⟩
  replace HX := Lib.hid (HX.out.below hb1)
  replace HB := Lib.hid (below_then HB.out hb1)
  replace HR := Lib.hid (HR.out.next hb1)
  clear hb1 HC
  obtain ⟨x0, x1, x2, x3, x4⟩ := ccells HX.out
  go_wp2_with fail
  refine (HL.out _ HR.out).mono ?_
  rintro e w2 ⟨rfl, hb1⟩
  replace HB := Lib.hid (below_then HB.out hb1)
  clear hb1 HL x0 x1 x2 x3 x4
  go_wp2_with fail
  go_ret2
  exact ⟨rfl, HB.out⟩
end Go.Proofs.Ytfindembancjdaa
