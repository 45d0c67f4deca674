/- The walk of LunisolarAvoids: it returns true at every input; it writes nothing that was there. -/
import Derived.Test.YtfindembancjdaaMoonPlain
namespace Go.Proofs.Ytfindembancjdaa.lunisolarAvoids
open Go.RowKit
set_option linter.unusedVariables false

/-- the rule that the law begins with; its list lies in block g -/
def plainA (g : Nat) : Mo := ⟨⟨#[112, 108, 97, 105, 110]⟩, 1, 0, 1, 59, 2, 1, 1, 1, [], [0], none, 0, some ⟨g, 0, none⟩, 1⟩
theorem plainA_ok0 : MOk (plainA 0) := by
  refine ⟨plain_name, by decide, by decide, ⟨by decide, by decide, by decide, by decide, by decide⟩, ⟨by decide, by decide, by decide, by decide, by decide⟩, ⟨by decide, by decide, by decide, by decide, by decide⟩, by decide, by decide, by decide, by decide, by decide, by decide, by decide, by decide, by decide, ?_, by decide, ?_⟩
  · intro i hi; exact absurd hi (by simp [plainA])
  · intro i hi
    have : i = 0 := by simpa [plainA] using hi
    subst this
    exact ⟨by decide, fun h => by omega⟩
theorem plainA_ok (g : Nat) : MOk (plainA g) := ⟨plainA_ok0.nm, plainA_ok0.e1, plainA_ok0.e2, plainA_ok0.f1, plainA_ok0.f2, plainA_ok0.f3, plainA_ok0.s1, plainA_ok0.s2, plainA_ok0.m1, plainA_ok0.m2, plainA_ok0.l1, plainA_ok0.l2, plainA_ok0.pt, plainA_ok0.c1, plainA_ok0.c2, plainA_ok0.lp, plainA_ok0.al, plainA_ok0.av⟩
theorem plainA_fit (g : Nat) : MFit (plainA g) := ⟨show (plainA 0).nm.size ≤ maxLen by decide, show (plainA 0).lp.length ≤ maxLen by decide, show (plainA 0).av.length ≤ maxLen by decide⟩
theorem plainA_beg (g : Nat) : (plainA g).beg 1 1 = 2 := show (plainA 0).beg 1 1 = 2 by decide
theorem plainA_mon (g : Nat) : 1 ≤ (plainA g).mon 1 := show 1 ≤ (plainA 0).mon 1 by decide
theorem plainA_in (g : Nat) (w : World) (t : TypeId) (h : Box w g t #[.int .i64 0]) : MIn w (plainA g) := ⟨.inl rfl, Row.of_box h⟩
/-- Begin of that rule -/
theorem plainA_begin (g : Nat) (w : World) (t : TypeId) (h : Box w g t #[.int .i64 0]) :
    Calls Try.prog 16 #[.agg #[.string ⟨#[112, 108, 97, 105, 110]⟩, .int .i64 1, .int .i64 0, .int .i64 1, .int .i64 59, .int .i64 2, .int .i64 1, .int .i64 1, .int .i64 1, .slice none 0 0, .slice (some ⟨g, 0, none⟩) 1 1], .int .i64 1, .int .i64 1] w
      fun e w' => e = .returned (.tuple #[.int .i64 2, .int .i64 0]) ∧ Below w.heap.size w w' := by
  refine (show Calls Try.prog 16 #[(plainA g).val, .int .i64 1, .int .i64 1] w _ from Begin_yes (plainA g) 1 1 w (plainA_in g w t h) (plainA_fit g) (plainA_ok g) (by omega) (by omega) (by omega) (plainA_mon g)).mono ?_
  rintro e w' ⟨⟨hd, he⟩ | ⟨hd, he⟩, hb⟩
  · rw [plainA_beg] at he; exact ⟨he, hb⟩
  · rw [plainA_beg] at hd; exact absurd (show IsD 2 by decide) hd

set_option maxHeartbeats 4000000 in
set_option maxRecDepth 100000 in
theorem core (m : Mo) (x z : Int) (w : World) (hm : MIn w m) (hf : MFit m) :
    Calls Try.prog 4 #[m.val, .int .i64 x, .int .i64 z] w fun e w' => e = .returned (.bool true) ∧ Below w.heap.size w w' := by
  have HC := Lib.hid (fun w => cut_any x (-2000) 4000 w (by omega) (by omega) (by omega) (by omega))
  have hy1 : -2000 ≤ -2000 + x % 4000 := by omega
  have hy2 : -2000 + x % 4000 < 2000 := by omega
  generalize -2000 + x % 4000 = y at *
  have hx1 := Box.new w 36 m.cells
  have hm1 := hm.next (below_alloc1 w (Obj.cells m.cells 36))
  have hB1 := below_alloc1 w (Obj.cells m.cells 36)
  go_enter Try.func4, Try.ntmps4
  go_wp2_with fail
  have hb0 := Box.new (w.alloc (Obj.cells m.cells 36)) 3 #[.int .i64 0]
  rw [show (w.alloc (Obj.cells m.cells 36)).heap.size = w.heap.size + 1 from by simp] at hb0
  replace hb0 := hb0.alloc (Obj.cells #[.string ⟨#[112, 108, 97, 105, 110]⟩, .int .i64 1, .int .i64 0, .int .i64 1, .int .i64 59, .int .i64 2, .int .i64 1, .int .i64 1, .int .i64 1, .slice none 0 0, .slice (some ⟨w.heap.size + 1, 0, none⟩) 1 1] 36)
  replace hx1 := (hx1.alloc (Obj.cells #[.int .i64 0] 3)).alloc (Obj.cells #[.string ⟨#[112, 108, 97, 105, 110]⟩, .int .i64 1, .int .i64 0, .int .i64 1, .int .i64 59, .int .i64 2, .int .i64 1, .int .i64 1, .int .i64 1, .slice none 0 0, .slice (some ⟨w.heap.size + 1, 0, none⟩) 1 1] 36)
  have hbb := below_alloc2 (w.alloc (Obj.cells m.cells 36)) (Obj.cells #[.int .i64 0] 3) (Obj.cells #[.string ⟨#[112, 108, 97, 105, 110]⟩, .int .i64 1, .int .i64 0, .int .i64 1, .int .i64 59, .int .i64 2, .int .i64 1, .int .i64 1, .int .i64 1, .slice none 0 0, .slice (some ⟨w.heap.size + 1, 0, none⟩) 1 1] 36)
  replace hm1 := hm1.next hbb
  replace hB1 := below_then hB1 hbb
  clear hbb hm
  generalize ((w.alloc (Obj.cells m.cells 36)).alloc (Obj.cells #[.int .i64 0] 3)).alloc (Obj.cells #[.string ⟨#[112, 108, 97, 105, 110]⟩, .int .i64 1, .int .i64 0, .int .i64 1, .int .i64 59, .int .i64 2, .int .i64 1, .int .i64 1, .int .i64 1, .slice none 0 0, .slice (some ⟨w.heap.size + 1, 0, none⟩) 1 1] 36) = W1 at *
  obtain ⟨g, hg⟩ : ∃ g, g = w.heap.size := ⟨_, rfl⟩
  rw [← hg] at hx1 hb0
  rw [← hg]
  clear hg
  refine (plainA_begin (g + 1) W1 _ hb0).mono ?_
  rintro e w1 ⟨rfl, hb1⟩
  replace hm1 := hm1.next hb1
  replace hx1 := hx1.below hb1
  replace hB1 := Lib.hid (below_then hB1 hb1)
  clear hb1 hb0
  obtain ⟨x0, x1, x2, x3, x4, x5, x6, x7, x8, x9, x10⟩ := mcells hx1
  go_wp2_with fail
  refine (mcheck_any m _ hm1 hf).mono ?_
  rintro e w2 ⟨E, rfl, hE, hb1⟩
  replace hm1 := hm1.next hb1
  replace hx1 := hx1.below hb1
  replace hB1 := Lib.hid (below_then hB1.out hb1)
  clear hb1 x0 x1 x2 x3 x4 x5 x6 x7 x8 x9 x10
  by_cases hE0 : E = 0
  case neg =>
    have t1 : (E != 0) = true := by rw [bne_iff_ne]; exact hE0
    clear hE
    go_wp2_with fail
    go_ret
    exact ⟨rfl, hB1.out⟩
  subst hE0
  have ok := hE.1 rfl
  clear hE
  have OK := Lib.hid ok
  have hmo := ok.mon y
  have hfree := ok.free y
  have hst := fun k h1 h2 => ok.step y k h1 h2
  have HBg := Lib.hid (fun k h1 h2 W (hm : MIn W m) => Begin_yes m y k W hm hf ok (by omega) (by omega) h1 h2)
  have HFr := Lib.hid hfree
  have HSt := Lib.hid hst
  clear ok hfree hst
  obtain ⟨x0, x1, x2, x3, x4, x5, x6, x7, x8, x9, x10⟩ := mcells hx1
  go_wp2_with fail
  refine (HC.out _).mono ?_
  rintro e w' ⟨rfl, rfl⟩
  go_wp2_with fail
  refine (HBg.out 1 (by omega) (by omega) _ hm1).mono ?_
  rintro e w3 ⟨⟨hd, rfl⟩ | ⟨hd, rfl⟩, hb1⟩
  case inr =>
    replace hB1 := Lib.hid (below_then hB1.out hb1)
    clear hb1 x0 x1 x2 x3 x4 x5 x6 x7 x8 x9 x10
    go_wp2_with fail
    go_ret
    exact ⟨rfl, hB1.out⟩
  replace hm1 := hm1.next hb1
  replace hx1 := hx1.below hb1
  replace hB1 := Lib.hid (below_then hB1.out hb1)
  clear hb1 x0 x1 x2 x3 x4 x5 x6 x7 x8 x9 x10 HC
  obtain ⟨d1, d2⟩ := hd
  generalize m.beg y 1 = d at *
  go_wp2_with fail
  refine (Weekday_yes d _ d1 d2).mono ?_
  rintro e w4 ⟨rfl, n4, rfl⟩
  have hx2 : Box (w3.drewN n4) g 36 m.cells := hx1.drewN n4
  replace hm1 : MIn (w3.drewN n4) m := hm1
  replace hB1 : Hid (Below w.heap.size w (w3.drewN n4)) := below_drew hB1.out _
  clear hx1
  generalize w3.drewN n4 = W4 at *
  obtain ⟨x0, x1, x2, x3, x4, x5, x6, x7, x8, x9, x10⟩ := mcells hx2
  go_wp2_with fail
  have hall : Hid (∀ j, j < m.av.length → m.av.getD j 0 ≠ (d - 1) % 7) := fun j hj h => by
    have := avB_iff m.av d j hj h.symm
    rw [HFr.out] at this
    cases this
  have HR := Lib.hid hm1.2
  have hal : m.av.length ≤ 3 := OK.out.al
  go_loop [15, 60] (fun _ i => ∃ k : Nat, k ≤ m.av.length ∧ i = .int .i64 (k : Int)) (fun _ i => m.av.length - (intOf i).toNat)
  case atStart => exact ⟨0, by omega, rfl⟩
  case round =>
    obtain ⟨k, hk, rfl⟩ := hrel
    by_cases hlt : k < m.av.length
    · obtain ⟨b, o, hA, _, hcs⟩ := HR.out.open_ (ints_ne m.av (by omega))
      have hc : W4.cell? ⟨b, o + k, none⟩ = _ := ints_cell hcs k hlt
      have hne := hall.out k hlt
      rw [hA] at *
      clear hcs
      generalize m.av.getD k 0 = v at *
      have t1 : (v == (d - 1) % 7) = false := by rw [beq_eq_false_iff_ne]; exact hne
      clear x0 x1 x2 x3 x4 x5 x6 x7 x8 x9 x10 hA
      go_wp2_with fail
      go_round
      case rel => exact ⟨k + 1, by omega, by go_num⟩
      case measure => simp [intOf]; omega
    · go_wp2_with fail
      refine (Months_yes m y _ hm1 hf OK.out (by omega) (by omega)).mono ?_
      rintro e w5 ⟨rfl, hb1⟩
      clear x0 x1 x2 x3 x4 x5 x6 x7 x8 x9 x10
      replace hm1 := hm1.next hb1
      replace hx2 := hx2.below hb1
      replace hB1 := Lib.hid (below_then hB1.out hb1)
      clear hb1 HR hall HFr
      generalize m.mon y = n at *
      have HC2 := Lib.hid (fun w => cut_any z 1 (n - 1) w (by omega) (by omega) (by omega) (by omega))
      have hk1 : 1 ≤ 1 + z % (n - 1) := by have := Int.emod_nonneg z (show n - 1 ≠ 0 by omega); omega
      have hk2 : 1 + z % (n - 1) ≤ n - 1 := by have := Int.emod_lt_of_pos z (show 0 < n - 1 by omega); omega
      generalize 1 + z % (n - 1) = q at *
      go_wp2_with fail
      refine (HC2.out _).mono ?_
      rintro e w' ⟨rfl, rfl⟩
      have hs := HSt.out q (by omega) (by omega)
      have H1 := Lib.hid (fun W hm => HBg.out q (by omega) (by omega) W hm)
      have H2 := Lib.hid (fun W hm => HBg.out (q + 1) (by omega) (by omega) W hm)
      clear HSt HBg HC2
      generalize m.beg y (q + 1) = e2 at *
      generalize m.beg y q = e1 at *
      obtain ⟨x0, x1, x2, x3, x4, x5, x6, x7, x8, x9, x10⟩ := mcells hx2
      go_wp2_with fail
      refine (H1.out _ hm1).mono ?_
      rintro e w6 ⟨hR, hb1⟩
      clear x0 x1 x2 x3 x4 x5 x6 x7 x8 x9 x10
      replace hm1 := hm1.next hb1
      replace hx2 := hx2.below hb1
      replace hB1 := Lib.hid (below_then hB1.out hb1)
      clear hb1 H1
      obtain ⟨x0, x1, x2, x3, x4, x5, x6, x7, x8, x9, x10⟩ := mcells hx2
      rcases hR with ⟨hd1, rfl⟩ | ⟨_, rfl⟩
      · go_wp2_with fail
        refine (H2.out _ hm1).mono ?_
        rintro e w7 ⟨hR, hb1⟩
        clear x0 x1 x2 x3 x4 x5 x6 x7 x8 x9 x10
        replace hB1 := Lib.hid (below_then hB1.out hb1)
        clear hb1 hx2 hm1
        obtain ⟨i1, i2⟩ := hd1
        rcases hR with ⟨⟨i3, i4⟩, rfl⟩ | ⟨_, rfl⟩
        · go_wp2_with fail
          go_ret
          exact ⟨by simp; omega, hB1.out⟩
        · go_wp2_with fail
          go_ret
          exact ⟨by simp, hB1.out⟩
      · go_wp2_with fail
        refine (H2.out _ hm1).mono ?_
        rintro e w7 ⟨hR, hb1⟩
        clear x0 x1 x2 x3 x4 x5 x6 x7 x8 x9 x10
        replace hB1 := Lib.hid (below_then hB1.out hb1)
        clear hb1 hx2 hm1
        rcases hR with ⟨_, rfl⟩ | ⟨_, rfl⟩
        · go_wp2_with fail
          go_ret
          exact ⟨by simp, hB1.out⟩
        · go_wp2_with fail
          go_ret
          exact ⟨by simp, hB1.out⟩

set_option maxRecDepth 100000 in
theorem walk {H : Type} {enc : TypeId × Value → H} {base : Nat} {W : World} (v0 : Value) (d0 : DataW H) (p0 : List MemPlace) (hv : Value.okWide Try.prog W .any base 36 v0)
    (h0 : DataW.Trod enc Try.prog W 0 (fun _ => true) true 36 v0 d0 p0) (a1 : Int) (w1 : (Lit.int .i64 a1).wf = true) (a2 : Int) (w2 : (Lit.int .i64 a2).wf = true) :
    Calls Try.prog 4 #[v0, .int .i64 a1, .int .i64 a2] W fun e W' => e = .returned (.bool true) ∧ Below W.heap.size W W' := by
  obtain ⟨m, rfl, hm, hf⟩ := moon_open hv h0
  exact core m a1 a2 W hm hf
end Go.Proofs.Ytfindembancjdaa.lunisolarAvoids
