/- The walk of LunisolarBack: it returns true at every input; it writes nothing that was there. -/
import Derived.Test.YtfindembancjdaaMoonPlain
namespace Go.Proofs.Ytfindembancjdaa.lunisolarBack
open Go.RowKit
set_option linter.unusedVariables false

set_option maxHeartbeats 4000000 in
set_option maxRecDepth 100000 in
theorem core (m : Mo) (x : Int) (w : World) (hm : MIn w m) (hf : MFit m) :
    Calls Try.prog 5 #[m.val, .int .i64 x] w fun e w' => e = .returned (.bool true) ∧ Below w.heap.size w w' := by
  have HC := Lib.hid (fun w => cut_any x (-1000000) 2000000 w (by omega) (by omega) (by omega) (by omega))
  have hy1 : -1000000 ≤ -1000000 + x % 2000000 := by omega
  have hy2 : -1000000 + x % 2000000 < 1000000 := by omega
  generalize -1000000 + x % 2000000 = day at *
  have hB1 := below_alloc2 w (Obj.cells m.cells 36) (Obj.cells plainM.cells 36)
  have hx1 := (Box.new w 36 m.cells).alloc (Obj.cells plainM.cells 36)
  have hm1 := hm.next hB1
  go_enter Try.func5, Try.ntmps5
  go_wp2_with fail
  have hW1 : Hid ((w.alloc (Obj.cells m.cells 36)).alloc (Obj.cells plainM.cells 36) = (w.alloc (Obj.cells m.cells 36)).alloc (Obj.cells #[.string ⟨#[112, 108, 97, 105, 110]⟩, .int .i64 1, .int .i64 0, .int .i64 1, .int .i64 59, .int .i64 2, .int .i64 1, .int .i64 1, .int .i64 1, .slice none 0 0, .slice none 0 0] 36)) := rfl
  rw [hW1.out] at hB1 hx1 hm1
  generalize (w.alloc (Obj.cells m.cells 36)).alloc (Obj.cells #[.string ⟨#[112, 108, 97, 105, 110]⟩, .int .i64 1, .int .i64 0, .int .i64 1, .int .i64 59, .int .i64 2, .int .i64 1, .int .i64 1, .int .i64 1, .slice none 0 0, .slice none 0 0] 36) = W1 at *
  clear hW1 hm
  obtain ⟨g, hg⟩ : ∃ g, g = w.heap.size := ⟨_, rfl⟩
  rw [← hg] at hx1
  rw [← hg]
  clear hg
  refine (show Calls Try.prog 20 #[.agg #[.string ⟨#[112, 108, 97, 105, 110]⟩, .int .i64 1, .int .i64 0, .int .i64 1, .int .i64 59, .int .i64 2, .int .i64 1, .int .i64 1, .int .i64 1, .slice none 0 0, .slice none 0 0], .int .i64 30] W1 (IsMD plainM 30 W1) from FromDay_any plainM 30 _ (plain_in _) plain_fit (by omega) (by omega)).mono ?_
  rintro e w1 ⟨hb1, ⟨y, k, _, _, _, k1, k2, k3, k4, rfl⟩ | ⟨E, _, hn, rfl⟩⟩
  case inr => exact absurd plain_day hn
  obtain ⟨rfl, rfl⟩ := plain_from y k k1 k2 k3 k4
  rw [show plainM.beg 1 2 = 30 from by decide]
  clear k1 k2 k3 k4
  replace hm1 := hm1.next hb1
  replace hx1 := hx1.below hb1
  replace hB1 := Lib.hid (below_then hB1 hb1)
  clear hb1
  have ds := date_same
  have dg := date_guard
  go_wp2_with fail
  refine (HC.out _).mono ?_
  rintro e w' ⟨rfl, rfl⟩
  replace hx1 := hx1.alloc (Obj.cells #[.int .i64 1, .int .i64 2, .int .i64 1] 44)
  replace hm1 := hm1.next (below_alloc1 w1 (Obj.cells #[.int .i64 1, .int .i64 2, .int .i64 1] 44))
  replace hB1 := Lib.hid (below_then hB1.out (below_alloc1 w1 (Obj.cells #[.int .i64 1, .int .i64 2, .int .i64 1] 44)))
  generalize w1.alloc (Obj.cells #[.int .i64 1, .int .i64 2, .int .i64 1] 44) = W2 at *
  obtain ⟨x0, x1, x2, x3, x4, x5, x6, x7, x8, x9, x10⟩ := mcells hx1
  clear HC
  go_wp2_with fail
  refine (FromDay_any m day _ hm1 hf (by omega) (by omega)).mono ?_
  rintro e w2 ⟨hb1, ⟨y, k, ok, y1, y2, k1, k2, k3, k4, rfl⟩ | ⟨E, hE, hn, rfl⟩⟩
  case inr =>
    clear x0 x1 x2 x3 x4 x5 x6 x7 x8 x9 x10 hn
    have t1 : (E != 0) = true := by rw [bne_iff_ne]; exact hE
    replace hB1 := Lib.hid (below_then hB1.out hb1)
    clear hb1
    go_wp2_with fail
    go_ret
    exact ⟨rfl, hB1.out.alloc hB1.out.size _⟩
  clear x0 x1 x2 x3 x4 x5 x6 x7 x8 x9 x10
  have st := ok.step y k k1 k2
  have hmo := ok.mon y
  have OK := Lib.hid ok
  have HN := Lib.hid (fun z l => ok.next y k z l day k1 k2 k3 k4)
  have HT := Lib.hid (fun W (hm : MIn W m) => ToDay_yes m y k (day - m.beg y k + 1) W hm hf ok ⟨by omega, by omega⟩ k1 k2 ⟨by omega, by omega⟩ ⟨by omega, by omega⟩ (by omega) (by omega))
  have HV : Hid (m.beg y k + (day - m.beg y k + 1) - 1 = day) := by show _ = _; omega
  rw [HV.out] at HT
  clear HV ok
  have hx2 := hx1.below hb1
  have hgl2 := hx2.lt
  obtain ⟨x0, x1, x2, x3, x4, x5, x6, x7, x8, x9, x10⟩ := mcells hx2
  replace hx1 := (hx1.below hb1).alloc (Obj.cells #[.int .i64 y, .int .i64 k, .int .i64 (day - m.beg y k + 1)] 44)
  have hd1 := Box.new w2 44 #[.int .i64 y, .int .i64 k, .int .i64 (day - m.beg y k + 1)]
  replace hm1 := (hm1.next hb1).next (below_alloc1 w2 (Obj.cells #[.int .i64 y, .int .i64 k, .int .i64 (day - m.beg y k + 1)] 44))
  replace hB1 := Lib.hid (below_then (below_then hB1.out hb1) (below_alloc1 w2 (Obj.cells #[.int .i64 y, .int .i64 k, .int .i64 (day - m.beg y k + 1)] 44)))
  clear hb1
  generalize hbe : m.beg y k = B at *
  have HBE := Lib.hid hbe
  clear hbe
  go_wp2_with fail
  clear x0 x1 x2 x3 x4 x5 x6 x7 x8 x9 x10 hx2 hgl2
  generalize w2.alloc (Obj.cells #[.int .i64 y, .int .i64 k, .int .i64 (day - B + 1)] 44) = W3 at *
  generalize w2.heap.size = gd at *
  refine (HT.out _ hm1).mono ?_
  rintro e w3 ⟨rfl, hb3⟩
  replace hx1 := hx1.below hb3
  replace hd1 := hd1.below hb3
  replace hm1 := hm1.next hb3
  replace hB1 := Lib.hid (below_then hB1.out hb3)
  clear hb3 HT
  obtain ⟨x0, x1, x2, x3, x4, x5, x6, x7, x8, x9, x10⟩ := mcells hx1
  go_wp2_with fail
  refine (FromDay_any m (day + 1) _ hm1 hf (by omega) (by omega)).mono ?_
  rintro e w4 ⟨hb1, ⟨z, l, _, _, _, l1, l2, l3, l4, rfl⟩ | ⟨E, hE, hn, rfl⟩⟩
  case inr =>
    clear x0 x1 x2 x3 x4 x5 x6 x7 x8 x9 x10 hn
    have t1 : (E != 0) = true := by rw [bne_iff_ne]; exact hE
    replace hB1 := Lib.hid (below_then hB1.out hb1)
    clear hb1
    go_wp2_with fail
    go_ret
    exact ⟨rfl, hB1.out.alloc hB1.out.size _⟩
  clear x0 x1 x2 x3 x4 x5 x6 x7 x8 x9 x10
  have hnx := HN.out z l l1 l2 l3 l4
  have hd4 := hd1.below hb1
  have y0 : w4.cell? ⟨gd, 0, none⟩ = some (.int .i64 y) := hd4.cell 0
  have y1' : w4.cell? ⟨gd, 1, none⟩ = some (.int .i64 k) := hd4.cell 1
  have y2' : w4.cell? ⟨gd, 2, none⟩ = some (.int .i64 (day - B + 1)) := hd4.cell 2
  have hgl4 := hd4.lt
  have HBB := Lib.hid (below_then hB1.out hb1)
  have hbnd := OK.out.step z l l1 l2
  have HBE2 : Hid (z = y ∧ l = k → m.beg z l = B) := fun h => by rw [h.1, h.2]; exact HBE.out
  clear hb1 hx1 hm1 HN hd1 hd4 hB1 HBE
  generalize m.beg z l = C at *
  rcases hnx with ⟨rfl, rfl⟩ | ⟨hC, ⟨rfl, rfl⟩ | ⟨rfl, rfl⟩⟩
  · have hCB := HBE2.out ⟨rfl, rfl⟩
    have db : dateB z l (day + 1 - C + 1) z l (day - B + 1 + 1) = true := dateB_yes ⟨rfl, rfl, by omega⟩
    clear hCB
    go_wp2_with fail
    go_ret
    exact ⟨rfl, HBB.out.alloc HBB.out.size _⟩
  · have db : dateB z (k + 1) (day + 1 - C + 1) z k (day - B + 1 + 1) = false := by
      rw [← Bool.not_eq_true, dateB_iff]; omega
    have t1 : (day + 1 - C + 1 == 1) = true := by rw [beq_iff_eq]; omega
    clear hC HBE2
    go_wp2_with fail
    go_ret
    exact ⟨by simp, HBB.out.alloc HBB.out.size _⟩
  · have db : dateB (y + 1) 1 (day + 1 - C + 1) y k (day - B + 1 + 1) = false := by
      rw [← Bool.not_eq_true, dateB_iff]; omega
    have t1 : (day + 1 - C + 1 == 1) = true := by rw [beq_iff_eq]; omega
    have t2 : (y + 1 == y) = false := by rw [beq_eq_false_iff_ne]; omega
    clear hC HBE2
    go_wp2_with fail
    go_ret
    exact ⟨by simp, HBB.out.alloc HBB.out.size _⟩

set_option maxRecDepth 100000 in
theorem walk {H : Type} {enc : TypeId × Value → H} {base : Nat} {W : World} (v0 : Value) (d0 : DataW H) (p0 : List MemPlace) (hv : Value.okWide Try.prog W .any base 36 v0)
    (h0 : DataW.Trod enc Try.prog W 0 (fun _ => true) true 36 v0 d0 p0) (a1 : Int) (w1 : (Lit.int .i64 a1).wf = true) :
    Calls Try.prog 5 #[v0, .int .i64 a1] W fun e W' => e = .returned (.bool true) ∧ Below W.heap.size W W' := by
  obtain ⟨m, rfl, hm, hf⟩ := moon_open hv h0
  exact core m a1 W hm hf
end Go.Proofs.Ytfindembancjdaa.lunisolarBack
