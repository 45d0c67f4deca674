/- Contracts of package lunisolar: before, months, begin. -/
import Derived.Test.YtfindembancjdaaMoon1
import Derived.Deep.RegionHeld3
import Derived.Deep.DeepCutAuto
namespace Go.Proofs.Ytfindembancjdaa
open Go.RowKit
set_option linter.unusedVariables false

/-- a contract that holds behind W0, said of worlds that meet S -/
theorem calls_S {f : FuncId} {args : Array Value} {v : Value} {W0 : World} {S : World → Prop} (HS : ∀ w', Below W0.heap.size W0 w' → S w') (HB : ∀ w', S w' → Below W0.heap.size W0 w')
    (hc : ∀ W, Below W0.heap.size W0 W → Calls Try.prog f args W fun e w' => e = .returned v ∧ Below W.heap.size W w') (W : World) (h : S W) : Calls Try.prog f args W fun e w' => e = .returned v ∧ S w' :=
  (hc W (HB W h)).mono fun _ _ ⟨he, hb⟩ => ⟨he, HS _ (below_then (HB W h) hb)⟩

/-- the number of months before a year -/
def Mo.bf (m : Mo) (y : Int) : Int := Bf m.cy m.lp y

set_option maxHeartbeats 1000000 in
set_option maxRecDepth 100000 in
theorem before_any (m : Mo) (y : Int) (w : World) (hm : MIn w m) (hc1 : 1 ≤ m.cy) (hc2 : m.cy ≤ 100) (hlp : Inc m.lp 1 m.cy) (h1 : -20000 ≤ y) (h2 : y ≤ 20000) :
    Calls Try.prog 80 #[m.val, .int .i64 y] w fun e w' => e = .returned (.int .i64 (m.bf y)) ∧ Below w.heap.size w w' := by
  obtain ⟨b1, b2, b3, b4, b5, b6, b7, b8, b9, b10⟩ := Bf_bound hlp hc1 hc2 y h1 h2
  have hle := Lib.hid hlp.le
  have hdef : Hid (m.bf y = 12 * (y - 1) + (y - 1) / m.cy * m.lp.length + cntL m.lp ((y - 1) % m.cy + 1)) := rfl
  generalize m.bf y = R at *
  have hm' := hm.next (below_alloc1 w (Obj.cells m.cells 36))
  have hB := below_alloc1 w (Obj.cells m.cells 36)
  have hx := Box.new w 36 m.cells
  go_enter Try.func80, Try.ntmps80
  go_wp2_with fail
  generalize w.alloc (Obj.cells m.cells 36) = W0 at *
  obtain ⟨g, hg⟩ : ∃ g, g = w.heap.size := ⟨_, rfl⟩
  rw [← hg] at hx
  rw [← hg]
  have HG := Lib.hid hg
  clear hg
  have x8 : W0.cell? ⟨g, 8, none⟩ = some (.int .i64 m.cy) := hx.cell 8
  have x9 : W0.cell? ⟨g, 9, none⟩ = some (.slice m.A1 m.lp.length m.c1) := hx.cell 9
  have HX := Lib.hid hx
  have HM := Lib.hid hm'
  have HB := Lib.hid hB
  clear hx hm hm' hB hlp b1 b2
  have e1 : IntKind.i64.wrap (y - 1) = y - 1 := intFits _ (by omega) (by omega)
  go_quiet (first | (go_at_call 81; exact Calls.quiet_of (down_pos _ _ _ (by omega) (by omega) (by omega) (by omega))) | (go_at_call 82; exact Calls.quiet_of (mod_pos _ _ _ (by omega) (by omega) (by omega) (by omega))))
  clear x8
  replace x9 : (W0.drewN nq).cell? ⟨g, 9, none⟩ = some (.slice m.A1 m.lp.length m.c1) := x9
  have HM1 : Hid (MIn (W0.drewN nq) m) := HM
  have HB1 : Hid (Below w.heap.size w (W0.drewN nq)) := below_drew HB.out nq
  have hgl : g < (W0.drewN nq).heap.size := HX.out.lt
  clear HX HM HB
  generalize W0.drewN nq = W1 at *
  go_wp2_with fail
  obtain ⟨S, hSd⟩ : ∃ S : World → Prop, S = fun W => W.cell? ⟨g, 9, none⟩ = some (.slice m.A1 m.lp.length m.c1) ∧ Below W1.heap.size W1 W := ⟨_, rfl⟩
  have e2 : IntKind.i64.wrap (12 * (y - 1)) = 12 * (y - 1) := intFits _ (by omega) (by omega)
  have HC : ∀ W, S W → Calls Try.prog 97 #[.slice m.A1 m.lp.length m.c1, .int .i64 ((y - 1) % m.cy + 1)] W fun e w' => e = .returned (.int .i64 (cntL m.lp ((y - 1) % m.cy + 1) : Nat)) ∧ S w' := by
    rw [hSd]
    refine calls_S (W0 := W1) (fun w' hb => ⟨(hb.cell (p := ⟨g, 9, none⟩) hgl).trans x9, hb⟩) (fun w' h => h.2) (fun W hb => ?_)
    exact searchInts_any m.A1 m.c1 m.lp _ W (HM1.out.next hb).1 (by omega) hle.out
  have HC' := Lib.hid HC
  have hS0 : S W1.drew := by rw [hSd]; exact ⟨x9, below_drew (Below.refl _ _) 1⟩
  have hSB : Hid (∀ W, S W → Below w.heap.size w W) := fun W h => by rw [hSd] at h; exact below_then HB1.out h.2
  have hSC : Hid (∀ W, S W → W.cell? ⟨g, 9, none⟩ = some (.slice m.A1 m.lp.length m.c1)) := fun W h => by rw [hSd] at h; exact h.1
  clear HC
  generalize (y - 1) / m.cy = q at *
  generalize (y - 1) % m.cy = r at *
  have e3 : IntKind.i64.wrap (r + 1) = r + 1 := intFits _ (by omega) (by omega)
  have e4 : IntKind.i64.wrap (q * m.lp.length) = q * m.lp.length := intFits _ (by omega) (by omega)
  have e5 : IntKind.i64.wrap (12 * (y - 1) + q * m.lp.length) = 12 * (y - 1) + q * m.lp.length := intFits _ (by omega) (by omega)
  have e6 : IntKind.i64.wrap (12 * (y - 1) + q * m.lp.length + cntL m.lp (r + 1)) = 12 * (y - 1) + q * m.lp.length + cntL m.lp (r + 1) := intFits _ (by omega) (by omega)
  rw [hSd] at hS0 HC'
  clear hSd hSC hSB
  go_region_held3 (fun W => W.cell? ⟨g, 9, none⟩ = some (.slice m.A1 m.lp.length m.c1) ∧ Below W1.heap.size W1 W) (assumption)
    (first | (go_at_call 97; refine (HC'.out _ (by assumption)).mono ?_; rintro e w' ⟨rfl, hs'⟩))
  all_goals (go_wp2_with fail)
  all_goals go_ret
  all_goals exact ⟨by rw [hdef.out]; rfl, below_then HB1.out hs'.2⟩

theorem mcells {W : World} {g : Nat} {m : Mo} (h : Box W g 36 m.cells) : W.cell? ⟨g, 0, none⟩ = some (.string m.nm) ∧ W.cell? ⟨g, 1, none⟩ = some (.int .i64 m.ep) ∧ W.cell? ⟨g, 2, none⟩ = some (.int .i64 m.sn) ∧ W.cell? ⟨g, 3, none⟩ = some (.int .i64 m.sd) ∧ W.cell? ⟨g, 4, none⟩ = some (.int .i64 m.mn) ∧ W.cell? ⟨g, 5, none⟩ = some (.int .i64 m.md) ∧ W.cell? ⟨g, 6, none⟩ = some (.int .i64 m.ln) ∧ W.cell? ⟨g, 7, none⟩ = some (.int .i64 m.ld) ∧ W.cell? ⟨g, 8, none⟩ = some (.int .i64 m.cy) ∧ W.cell? ⟨g, 9, none⟩ = some (.slice m.A1 m.lp.length m.c1) ∧ W.cell? ⟨g, 10, none⟩ = some (.slice m.A2 m.av.length m.c2) :=
  ⟨h.cell 0, h.cell 1, h.cell 2, h.cell 3, h.cell 4, h.cell 5, h.cell 6, h.cell 7, h.cell 8, h.cell 9, h.cell 10⟩

/-- the number of months of a year -/
def Mo.mon (m : Mo) (y : Int) : Int := m.bf (y + 1) - m.bf y

set_option maxHeartbeats 1000000 in
set_option maxRecDepth 100000 in
theorem months_any (m : Mo) (y : Int) (w : World) (hm : MIn w m) (hc1 : 1 ≤ m.cy) (hc2 : m.cy ≤ 100) (hlp : Inc m.lp 1 m.cy) (h1 : -19000 ≤ y) (h2 : y ≤ 19000) :
    Calls Try.prog 42 #[m.val, .int .i64 y] w fun e w' => e = .returned (.int .i64 (m.mon y)) ∧ Below w.heap.size w w' := by
  have b1 := Bf_bound hlp hc1 hc2 y (by omega) (by omega)
  have b2 := Bf_bound hlp hc1 hc2 (y + 1) (by omega) (by omega)
  have e1 : IntKind.i64.wrap (y + 1) = y + 1 := intFits _ (by omega) (by omega)
  have e2 : IntKind.i64.wrap (m.bf (y + 1) - m.bf y) = m.bf (y + 1) - m.bf y := intFits _ (by unfold Mo.bf; omega) (by unfold Mo.bf; omega)
  clear b1 b2
  have hdef : Hid (m.mon y = m.bf (y + 1) - m.bf y) := rfl
  have hm' := hm.next (below_alloc1 w (Obj.cells m.cells 36))
  have hB := below_alloc1 w (Obj.cells m.cells 36)
  have hx := Box.new w 36 m.cells
  go_enter Try.func42, Try.ntmps42
  go_wp2_with fail
  generalize w.alloc (Obj.cells m.cells 36) = W1 at *
  obtain ⟨g, hg⟩ : ∃ g, g = w.heap.size := ⟨_, rfl⟩
  rw [← hg] at hx
  rw [← hg]
  have HG := Lib.hid hg
  clear hg
  have HC : ∀ y', -20000 ≤ y' → y' ≤ 20000 → ∀ W, (Below W1.heap.size W1 W ∧ W.cell? ⟨g, 0, none⟩ = some (.string m.nm) ∧ W.cell? ⟨g, 1, none⟩ = some (.int .i64 m.ep) ∧ W.cell? ⟨g, 2, none⟩ = some (.int .i64 m.sn) ∧ W.cell? ⟨g, 3, none⟩ = some (.int .i64 m.sd) ∧ W.cell? ⟨g, 4, none⟩ = some (.int .i64 m.mn) ∧ W.cell? ⟨g, 5, none⟩ = some (.int .i64 m.md) ∧ W.cell? ⟨g, 6, none⟩ = some (.int .i64 m.ln) ∧ W.cell? ⟨g, 7, none⟩ = some (.int .i64 m.ld) ∧ W.cell? ⟨g, 8, none⟩ = some (.int .i64 m.cy) ∧ W.cell? ⟨g, 9, none⟩ = some (.slice m.A1 m.lp.length m.c1) ∧ W.cell? ⟨g, 10, none⟩ = some (.slice m.A2 m.av.length m.c2)) → Calls Try.prog 80 #[m.val, .int .i64 y'] W fun e w' => e = .returned (.int .i64 (m.bf y')) ∧ (Below W1.heap.size W1 w' ∧ w'.cell? ⟨g, 0, none⟩ = some (.string m.nm) ∧ w'.cell? ⟨g, 1, none⟩ = some (.int .i64 m.ep) ∧ w'.cell? ⟨g, 2, none⟩ = some (.int .i64 m.sn) ∧ w'.cell? ⟨g, 3, none⟩ = some (.int .i64 m.sd) ∧ w'.cell? ⟨g, 4, none⟩ = some (.int .i64 m.mn) ∧ w'.cell? ⟨g, 5, none⟩ = some (.int .i64 m.md) ∧ w'.cell? ⟨g, 6, none⟩ = some (.int .i64 m.ln) ∧ w'.cell? ⟨g, 7, none⟩ = some (.int .i64 m.ld) ∧ w'.cell? ⟨g, 8, none⟩ = some (.int .i64 m.cy) ∧ w'.cell? ⟨g, 9, none⟩ = some (.slice m.A1 m.lp.length m.c1) ∧ w'.cell? ⟨g, 10, none⟩ = some (.slice m.A2 m.av.length m.c2)) := fun y' g1 g2 =>
    calls_S (W0 := W1) (fun w' hb => ⟨hb, mcells (hx.below hb)⟩) (fun w' h => h.1) (fun W hb => before_any m y' W (hm'.next hb) hc1 hc2 hlp g1 g2)
  have HA := Lib.hid (HC (y + 1) (by omega) (by omega))
  have HB := Lib.hid (HC y (by omega) (by omega))
  have hS0 : Below W1.heap.size W1 W1.drew ∧ W1.drew.cell? ⟨g, 0, none⟩ = some (.string m.nm) ∧ W1.drew.cell? ⟨g, 1, none⟩ = some (.int .i64 m.ep) ∧ W1.drew.cell? ⟨g, 2, none⟩ = some (.int .i64 m.sn) ∧ W1.drew.cell? ⟨g, 3, none⟩ = some (.int .i64 m.sd) ∧ W1.drew.cell? ⟨g, 4, none⟩ = some (.int .i64 m.mn) ∧ W1.drew.cell? ⟨g, 5, none⟩ = some (.int .i64 m.md) ∧ W1.drew.cell? ⟨g, 6, none⟩ = some (.int .i64 m.ln) ∧ W1.drew.cell? ⟨g, 7, none⟩ = some (.int .i64 m.ld) ∧ W1.drew.cell? ⟨g, 8, none⟩ = some (.int .i64 m.cy) ∧ W1.drew.cell? ⟨g, 9, none⟩ = some (.slice m.A1 m.lp.length m.c1) ∧ W1.drew.cell? ⟨g, 10, none⟩ = some (.slice m.A2 m.av.length m.c2) := ⟨below_drew (Below.refl _ _) 1, mcells hx⟩
  have HBB := Lib.hid hB
  clear HC hm hm' hB hx hlp
  generalize m.bf (y + 1) = r1 at *
  generalize m.bf y = r2 at *
  go_region_held3 (fun W => Below W1.heap.size W1 W ∧ W.cell? ⟨g, 0, none⟩ = some (.string m.nm) ∧ W.cell? ⟨g, 1, none⟩ = some (.int .i64 m.ep) ∧ W.cell? ⟨g, 2, none⟩ = some (.int .i64 m.sn) ∧ W.cell? ⟨g, 3, none⟩ = some (.int .i64 m.sd) ∧ W.cell? ⟨g, 4, none⟩ = some (.int .i64 m.mn) ∧ W.cell? ⟨g, 5, none⟩ = some (.int .i64 m.md) ∧ W.cell? ⟨g, 6, none⟩ = some (.int .i64 m.ln) ∧ W.cell? ⟨g, 7, none⟩ = some (.int .i64 m.ld) ∧ W.cell? ⟨g, 8, none⟩ = some (.int .i64 m.cy) ∧ W.cell? ⟨g, 9, none⟩ = some (.slice m.A1 m.lp.length m.c1) ∧ W.cell? ⟨g, 10, none⟩ = some (.slice m.A2 m.av.length m.c2)) (assumption)
    (first | (go_at_call 80; ((with_reducible refine (HA.out _ (by assumption)).mono ?_)); rintro e w' ⟨rfl, hs'⟩) | (go_at_call 80; ((with_reducible refine (HB.out _ (by assumption)).mono ?_)); rintro e w' ⟨rfl, hs'⟩))
  all_goals (go_wp2_with fail)
  all_goals go_ret
  all_goals exact ⟨by rw [hdef.out]; rfl, below_then HBB.out hs'.1⟩
end Go.Proofs.Ytfindembancjdaa
