/- The walk of ZoneJumps: it returns true at every input; it writes nothing that was there. -/
import Derived.Test.YtdbnnhfgohabdaaZone4
import Derived.Test.YtdbnnhfgohabdaaZoneArg
import Derived.Test.YtdbnnhfgohabdaaPlainJump
namespace Go.Proofs.Ytdbnnhfgohabdaa.zoneJumps
open Go.RowKit
set_option linter.unusedVariables false

def oneC : List Chg := [⟨0, 3600000, ⟨#[65]⟩⟩]
theorem one_ok : ZoneOk ⟨#[111, 110, 101]⟩ 0 oneC := by
  refine ⟨⟨by decide, by decide, by rw [ByteArray.toList_eq]; decide, by rw [ByteArray.toList_eq]; decide, by rw [ByteArray.toList_eq]; decide, by rw [ByteArray.toList_eq]; decide, ?_⟩, ⟨by decide, by decide, by decide⟩, by decide, fun i hi => ?_⟩
  · intro k hk
    match k, hk with
    | 0, _ | 1, _ | 2, _ => decide +revert
  · match i, hi with
    | 0, _ =>
      refine ⟨⟨by decide, by decide⟩, ⟨by decide, by decide, by decide⟩, ⟨?_, by decide, by decide⟩, fun h => by omega⟩
      intro k hk
      match k, hk with
      | 0, _ => decide +revert
theorem one_inst : instL (0 * 86400000 + 0) 0 oneC (oneC.length + 1) = [] := by decide

set_option maxHeartbeats 2000000 in
set_option maxRecDepth 100000 in
theorem core (nm : ByteArray) (first : Int) (A : Option Addr) (c : Nat) (chs : List Chg) (kk : Int) (w : World) (hz : ZIn w nm A chs) :
    Calls Try.prog 11 #[.agg #[.string nm, .int .i64 first, .slice A chs.length c], .int .i64 kk] w fun e w' => e = .returned (.bool true) ∧ Below w.heap.size w w' := by
  have HG := Lib.hid (fun A c w hz => zone_gap ⟨#[111, 110, 101]⟩ 0 A c oneC 0 0 w hz one_ok (by omega) (by omega) (by omega) (by omega) one_inst)
  go_enter Try.func11, Try.ntmps11
  go_wp2_with fail
  have q1 : Box (((w.alloc (Obj.cells #[.string nm, .int .i64 first, .slice A chs.length c] 57)).alloc (Obj.cells #[.int .i64 0, .int .i64 3600000, .string ⟨#[65]⟩] 64)).alloc (Obj.cells #[.string ⟨#[111, 110, 101]⟩, .int .i64 0, .slice (some ⟨w.heap.size + 1, 0, none⟩) 1 1] 57)) (w.heap.size + 1) 64 #[.int .i64 0, .int .i64 3600000, .string ⟨#[65]⟩] :=
    (show Box _ (w.heap.size + 1) _ _ from heap_alloc2_new _ _ _).alloc _
  refine (HG.out _ 1 _ ⟨Row.of_box q1, by decide, by decide, fun x hx => ?_⟩).mono ?_
  · simp [oneC] at hx
    subst hx
    exact ⟨by decide, by decide, by decide, by decide, by decide⟩
  rintro e w1 ⟨rfl, hb1⟩
  have hB := below_then (below_alloc3 w _ _ _) hb1
  have hx := (((Box.new w 57 #[.string nm, .int .i64 first, .slice A chs.length c]).alloc _).alloc _).below hb1
  replace hz := (((hz.alloc _).alloc _).alloc _).next hb1
  clear hb1 q1 HG
  have x0 : w1.cell? ⟨w.heap.size, 0, none⟩ = some (.string nm) := hx.cell 0
  have x1 : w1.cell? ⟨w.heap.size, 1, none⟩ = some (.int .i64 first) := hx.cell 1
  have x2 : w1.cell? ⟨w.heap.size, 2, none⟩ = some (.slice A chs.length c) := hx.cell 2
  go_wp2_with fail
  refine (hz.check first c).mono ?_
  rintro e w2 ⟨E, rfl, hE, hb2⟩
  replace hB := below_then hB hb2
  replace hx := hx.below hb2
  replace hz := hz.next hb2
  clear hb2 x0 x1 x2
  have x0 : w2.cell? ⟨w.heap.size, 0, none⟩ = some (.string nm) := hx.cell 0
  have x1 : w2.cell? ⟨w.heap.size, 1, none⟩ = some (.int .i64 first) := hx.cell 1
  have x2 : w2.cell? ⟨w.heap.size, 2, none⟩ = some (.slice A chs.length c) := hx.cell 2
  by_cases hok : ZoneOk nm first chs
  case neg =>
    have h0 : ¬ E = 0 := fun h => hok (hE.1 h)
    have t1 : (E != 0) = true := by rw [bne_iff_ne]; exact h0
    clear h0 hE
    go_wp2_with fail
    go_ret
    exact ⟨rfl, hB⟩
  obtain rfl : E = 0 := hE.2 hok
  clear hE
  have h200 := hok.2.2.1
  by_cases hn0 : chs.length = 0
  · have t1 : ((chs.length : Int) == 0) = true := beq_iff_eq.2 (by omega)
    clear hn0
    go_wp2_with fail
    go_ret
    exact ⟨rfl, hB⟩
  have t1 : ((chs.length : Int) == 0) = false := beq_eq_false_iff_ne.2 (by omega)
  go_wp2_with fail
  refine (lawmod_any _ _ _ (by omega) (by omega)).mono ?_
  rintro e w' ⟨rfl, rfl⟩
  clear t1
  have r1 := Int.emod_nonneg kk (show (chs.length : Int) ≠ 0 by omega)
  have r2 := Int.emod_lt_of_pos kk (show 0 < (chs.length : Int) by omega)
  obtain ⟨k, hk⟩ := Int.eq_ofNat_of_zero_le r1
  rw [hk] at r2 ⊢
  clear r1 hk
  have hkn : k < chs.length := by omega
  obtain ⟨b, o, rfl, hb, hc⟩ := hz.row.open_ (chCells_ne chs (by omega))
  obtain ⟨y0, y1, y2⟩ := ch_cells hc k hkn
  have hprev : 0 < k → w2.cell? ⟨b, o + (k - 1) * 3, none⟩ = some (.int .i64 (chs.getD (k - 1) chg0).a) := fun h => (ch_cells hc (k - 1) (by omega)).1
  have hnext : k + 1 < chs.length → w2.cell? ⟨b, o + (k + 1) * 3, none⟩ = some (.int .i64 (chs.getD (k + 1) chg0).a) := fun h => (ch_cells hc (k + 1) h).1
  -- plain facts
  have hsort : Sorted chs := fun i h1 h2 => (hok.2.2.2 i h2).2.2.2 h1
  have ho : ∀ i, i ≤ chs.length → -64800000 ≤ offI first chs i ∧ offI first chs i ≤ 64800000 ∧ offI first chs i % 1000 = 0 := fun i hi => off_in hok i hi
  have HJ := Lib.hid (fun hp hn ha ha' lo j hj hlo => jump_list first chs hsort k hkn ho hp hn ha ha' lo j hj hlo)
  have HPa : Hid (0 < k → (chs.getD (k - 1) chg0).a < (chs.getD k chg0).a) := fun h => hsort k h hkn
  have HNa : Hid (k + 1 < chs.length → (chs.getD k chg0).a < (chs.getD (k + 1) chg0).a) := fun h => by have := hsort (k + 1) (by omega) h; simpa using this
  have hci := (hok.2.2.2 k hkn).1
  have HPi : Hid (0 < k → InstOk (chs.getD (k - 1) chg0).a) := fun h => (hok.2.2.2 (k - 1) (by omega)).1
  have HNi : Hid (k + 1 < chs.length → InstOk (chs.getD (k + 1) chg0).a) := fun h => (hok.2.2.2 (k + 1) h).1
  have HOff : Hid (∀ t, (k = 0 ∨ (chs.getD (k - 1) chg0).a ≤ t) → t < (chs.getD k chg0).a → offAt first chs t = offI first chs k) := fun t h1 h2 => by
    unfold offAt
    rw [seg_eq hsort k (by omega) t ⟨h1, .inr h2⟩]
  obtain ⟨bf1, bf2, _⟩ := ho k (by omega)
  obtain ⟨co1, co2, _⟩ := ho (k + 1) (by omega)
  have HCo : Hid (offI first chs (k + 1) = (chs.getD k chg0).o) := rfl
  rw [HCo.out] at HJ co1 co2
  have HOf := Lib.hid (fun t w hz ht => zoneOffset_yes nm first (some ⟨b, o, none⟩) c chs t w hz hok ht)
  have HIn := Lib.hid (fun day ms w hz d1 d2 m1 m2 => zinst_yes nm first (some ⟨b, o, none⟩) c chs day ms w hz hok d1 d2 m1 m2)
  clear hsort ho hok hc HCo
  generalize (chs.getD (k - 1) chg0).a = pa at *
  generalize (chs.getD (k + 1) chg0).a = na at *
  generalize (chs.getD k chg0).a = ca at *
  generalize (chs.getD k chg0).o = co at *
  generalize (chs.getD k chg0).l = cl at *
  generalize offI first chs k = bf at *
  obtain ⟨ci1, ci2⟩ := hci
  have HPr := Lib.hid hprev
  have HNx := Lib.hid hnext
  clear hprev hnext hn0
  have kz : (0 : Int) ≤ (k : Int) := by omega
  go_wp2_with fail
  -- the world with the change's box
  have hbl : b < w2.heap.size := hb
  have hxl := hx.lt
  obtain ⟨W2, hW2⟩ : ∃ W2, W2 = w2.alloc (Obj.cells #[.int .i64 ca, .int .i64 co, .string cl] 64) := ⟨_, rfl⟩
  have hB2 : Below w.heap.size w W2 := by rw [hW2]; exact hB.alloc hB.size _
  have hx2 : Box W2 w.heap.size 57 #[.string nm, .int .i64 first, .slice (some ⟨b, o, none⟩) chs.length c] := by rw [hW2]; exact hx.alloc _
  have hc2 : Box W2 w2.heap.size 64 #[.int .i64 ca, .int .i64 co, .string cl] := by rw [hW2]; exact Box.new _ _ _
  have hz2 : ZIn W2 nm (some ⟨b, o, none⟩) chs := by rw [hW2]; exact hz.alloc _
  have HPr2 : Hid (0 < k → W2.cell? ⟨b, o + (k - 1) * 3, none⟩ = some (.int .i64 pa)) := fun h => by rw [hW2, World.cell?_alloc_lt _ _ _ hbl]; exact HPr.out h
  have HNx2 : Hid (k + 1 < chs.length → W2.cell? ⟨b, o + (k + 1) * 3, none⟩ = some (.int .i64 na)) := fun h => by rw [hW2, World.cell?_alloc_lt _ _ _ hbl]; exact HNx.out h
  rw [← hW2]
  clear hW2 hx hz hB x0 x1 x2 y0 y1 y2 HPr HNx
  obtain ⟨gc, hgc⟩ : ∃ gc, w2.heap.size = gc := ⟨_, rfl⟩
  rw [hgc] at hc2 ⊢
  clear hgc hbl hb hxl
  have x2 : W2.cell? ⟨w.heap.size, 2, none⟩ = some (.slice (some ⟨b, o, none⟩) chs.length c) := hx2.cell 2
  have z0 : W2.cell? ⟨gc, 0, none⟩ = some (.int .i64 ca) := hc2.cell 0
  by_cases a1 : ca < -259200000000000
  · have b1 : decide (ca < -259200000000000) = true := decide_eq_true a1
    go_quiet (fail)
    go_wp2_with fail
    go_ret
    exact ⟨rfl, below_drew hB2 _⟩
  have b1 : decide (ca < -259200000000000) = false := decide_eq_false a1
  by_cases a2 : 259200000000000 < ca
  · have b2 : decide (259200000000000 < ca) = true := decide_eq_true a2
    go_quiet (fail)
    go_wp2_with fail
    go_ret
    exact ⟨rfl, below_drew hB2 _⟩
  have b2 : decide (259200000000000 < ca) = false := decide_eq_false a2
  by_cases k0 : k = 0
  · subst k0
    have b3 : decide ((0 : Int) < 0) = false := by decide
    by_cases n1 : 0 + 1 < chs.length
    · have yn := HNx2.out n1
      have bn : decide ((1 : Int) < (chs.length : Int)) = true := decide_eq_true (by omega)
      have hna := HNa.out n1
      have hni := HNi.out n1
      obtain ⟨ni1, ni2⟩ := hni
      have wn : IntKind.i64.wrap (na - ca) = na - ca := IntWalk.i64_in _ (by omega)
      have nk1 : (1 : Int) < (chs.length : Int) := by omega
      rw [show (0 + 1) * 3 = 3 from rfl] at yn
      by_cases n2 : na - ca < 345600000
      · have bn2 : decide (na - ca < 345600000) = true := decide_eq_true n2
        go_quiet (fail)
        go_wp2_with fail
        go_ret
        exact ⟨rfl, below_drew hB2 _⟩
      · have bn2 : decide (na - ca < 345600000) = false := decide_eq_false n2
        have Hp : Hid (0 = 0 ∨ 345600000 ≤ ca - pa) := .inl rfl
        have Hn : Hid (0 + 1 = chs.length ∨ 345600000 ≤ na - ca) := .inr (by omega)
        have Hbf := Lib.hid (HOff.out (ca - 1) (.inl rfl) (by omega))
        have Hjl := Lib.hid (HJ.out Hp.out Hn.out (by omega) (by omega))
        have x0 : W2.cell? ⟨w.heap.size, 0, none⟩ = some (.string nm) := hx2.cell 0
        have x1 : W2.cell? ⟨w.heap.size, 1, none⟩ = some (.int .i64 first) := hx2.cell 1
        clear HPa HNa HPi HNi HPr2 HNx2 HJ HOff
        go_quiet (fail)
        clear b1 b2 b3
        clear yn bn wn bn2
        go_wp2_with fail
        refine (HOf.out (ca - 1) _ (hz2.drewN nq) ⟨by omega, by omega⟩).mono ?_
        rw [Hbf.out]
        rintro e w3 ⟨l, rfl, hb3⟩
        replace hB2 := below_then (below_drew hB2 nq) hb3
        replace hx2 := (hx2.drewN nq).below hb3
        replace hc2 := (hc2.drewN nq).below hb3
        replace hz2 := (hz2.drewN nq).next hb3
        clear hb3 x0 x1 x2 z0 HOf Hbf
        have x0 : w3.cell? ⟨w.heap.size, 0, none⟩ = some (.string nm) := hx2.cell 0
        have x1 : w3.cell? ⟨w.heap.size, 1, none⟩ = some (.int .i64 first) := hx2.cell 1
        have x2 : w3.cell? ⟨w.heap.size, 2, none⟩ = some (.slice (some ⟨b, o, none⟩) chs.length c) := hx2.cell 2
        have z0 : w3.cell? ⟨gc, 0, none⟩ = some (.int .i64 ca) := hc2.cell 0
        have z1 : w3.cell? ⟨gc, 1, none⟩ = some (.int .i64 co) := hc2.cell 1
        have j4 := (tdiv2_facts (co - bf)).2.2.2
        have Hj := Lib.hid (Hjl.out (ca + bf + (co - bf).tdiv 2) (co - bf) rfl rfl)
        clear Hjl
        go_wp2_with fail
        generalize (co - bf).tdiv 2 = j2 at *
        refine (split_yes _ _ (by omega) (by omega)).mono ?_
        rintro e w4 ⟨rfl, n4, rfl⟩
        go_wp2_with fail
        refine (HIn.out _ _ _ (hz2.drewN n4) (by omega) (by omega) (by omega) (by omega)).mono ?_
        rw [show (ca + bf + j2) / 86400000 * 86400000 + (ca + bf + j2) % 86400000 = ca + bf + j2 from by omega]
        rintro e w5 ⟨P, cp, rfl, hP, hb5⟩
        replace hB2 := below_then (below_drew hB2 n4) hb5
        obtain ⟨g1, g2, g3⟩ := Hj.out
        clear hb5 x0 x1 x2 z0 z1 HIn Hj
        rcases Int.lt_trichotomy (co - bf) 0 with hs | hs | hs
        · obtain ⟨x, y, e1, e2, e3, e4, e5, e6⟩ := g2 hs
          rw [e1] at hP ⊢
          obtain ⟨bp, op, rfl, hbp, hcp⟩ := hP.open_ (by simp [ints])
          have v0 : w5.cell? ⟨bp, op, none⟩ = some (.int .i64 x) := by simpa using hcp 0 (.int .i64 x) rfl
          have v1 : w5.cell? ⟨bp, op + 1, none⟩ = some (.int .i64 y) := hcp 1 (.int .i64 y) rfl
          have s1 : decide (0 < co - bf) = false := decide_eq_false (by omega)
          have s2 : decide (co - bf < 0) = true := decide_eq_true hs
          have w1' : IntKind.i64.wrap (y - x) = y - x := IntWalk.i64_in _ (by omega)
          have w2' : IntKind.i64.wrap (-(co - bf)) = -(co - bf) := IntWalk.i64_in _ (by omega)
          have s3 : (y - x == -(co - bf)) = true := beq_iff_eq.2 e2
          clear e1 e2 g1 g2 g3 hcp hP
          go_wp2_with fail
          go_quiet (fail)
          go_wp2_with fail
          go_ret
          exact ⟨rfl, below_drew hB2 _⟩
        · obtain ⟨x, e1⟩ := g3 hs
          rw [e1] at hP ⊢
          have s1 : decide (0 < co - bf) = false := decide_eq_false (by omega)
          have s2 : decide (co - bf < 0) = false := decide_eq_false (by omega)
          have i1 : co ≤ bf := by omega
          have i2 : bf ≤ co := by omega
          clear e1 g1 g2 g3 hs hP
          go_wp2_with fail
          go_ret
          exact ⟨rfl, hB2⟩
        · have e1 := g1 hs
          rw [e1] at hP ⊢
          have s1 : decide (0 < co - bf) = true := decide_eq_true hs
          clear e1 g1 g2 g3 hP
          go_wp2_with fail
          go_ret
          exact ⟨rfl, hB2⟩
    · have bn : decide ((1 : Int) < (chs.length : Int)) = false := decide_eq_false (by omega)
      have Hp : Hid (0 = 0 ∨ 345600000 ≤ ca - pa) := .inl rfl
      have Hn : Hid (0 + 1 = chs.length ∨ 345600000 ≤ na - ca) := .inl (by omega)
      have Hbf := Lib.hid (HOff.out (ca - 1) (.inl rfl) (by omega))
      have Hjl := Lib.hid (HJ.out Hp.out Hn.out (by omega) (by omega))
      have x0 : W2.cell? ⟨w.heap.size, 0, none⟩ = some (.string nm) := hx2.cell 0
      have x1 : W2.cell? ⟨w.heap.size, 1, none⟩ = some (.int .i64 first) := hx2.cell 1
      clear HPa HNa HPi HNi HPr2 HNx2 HJ HOff
      go_quiet (fail)
      clear b1 b2 b3
      clear bn
      go_wp2_with fail
      refine (HOf.out (ca - 1) _ (hz2.drewN nq) ⟨by omega, by omega⟩).mono ?_
      rw [Hbf.out]
      rintro e w3 ⟨l, rfl, hb3⟩
      replace hB2 := below_then (below_drew hB2 nq) hb3
      replace hx2 := (hx2.drewN nq).below hb3
      replace hc2 := (hc2.drewN nq).below hb3
      replace hz2 := (hz2.drewN nq).next hb3
      clear hb3 x0 x1 x2 z0 HOf Hbf
      have x0 : w3.cell? ⟨w.heap.size, 0, none⟩ = some (.string nm) := hx2.cell 0
      have x1 : w3.cell? ⟨w.heap.size, 1, none⟩ = some (.int .i64 first) := hx2.cell 1
      have x2 : w3.cell? ⟨w.heap.size, 2, none⟩ = some (.slice (some ⟨b, o, none⟩) chs.length c) := hx2.cell 2
      have z0 : w3.cell? ⟨gc, 0, none⟩ = some (.int .i64 ca) := hc2.cell 0
      have z1 : w3.cell? ⟨gc, 1, none⟩ = some (.int .i64 co) := hc2.cell 1
      have j4 := (tdiv2_facts (co - bf)).2.2.2
      have Hj := Lib.hid (Hjl.out (ca + bf + (co - bf).tdiv 2) (co - bf) rfl rfl)
      clear Hjl
      go_wp2_with fail
      generalize (co - bf).tdiv 2 = j2 at *
      refine (split_yes _ _ (by omega) (by omega)).mono ?_
      rintro e w4 ⟨rfl, n4, rfl⟩
      go_wp2_with fail
      refine (HIn.out _ _ _ (hz2.drewN n4) (by omega) (by omega) (by omega) (by omega)).mono ?_
      rw [show (ca + bf + j2) / 86400000 * 86400000 + (ca + bf + j2) % 86400000 = ca + bf + j2 from by omega]
      rintro e w5 ⟨P, cp, rfl, hP, hb5⟩
      replace hB2 := below_then (below_drew hB2 n4) hb5
      obtain ⟨g1, g2, g3⟩ := Hj.out
      clear hb5 x0 x1 x2 z0 z1 HIn Hj
      rcases Int.lt_trichotomy (co - bf) 0 with hs | hs | hs
      · obtain ⟨x, y, e1, e2, e3, e4, e5, e6⟩ := g2 hs
        rw [e1] at hP ⊢
        obtain ⟨bp, op, rfl, hbp, hcp⟩ := hP.open_ (by simp [ints])
        have v0 : w5.cell? ⟨bp, op, none⟩ = some (.int .i64 x) := by simpa using hcp 0 (.int .i64 x) rfl
        have v1 : w5.cell? ⟨bp, op + 1, none⟩ = some (.int .i64 y) := hcp 1 (.int .i64 y) rfl
        have s1 : decide (0 < co - bf) = false := decide_eq_false (by omega)
        have s2 : decide (co - bf < 0) = true := decide_eq_true hs
        have w1' : IntKind.i64.wrap (y - x) = y - x := IntWalk.i64_in _ (by omega)
        have w2' : IntKind.i64.wrap (-(co - bf)) = -(co - bf) := IntWalk.i64_in _ (by omega)
        have s3 : (y - x == -(co - bf)) = true := beq_iff_eq.2 e2
        clear e1 e2 g1 g2 g3 hcp hP
        go_wp2_with fail
        go_quiet (fail)
        go_wp2_with fail
        go_ret
        exact ⟨rfl, below_drew hB2 _⟩
      · obtain ⟨x, e1⟩ := g3 hs
        rw [e1] at hP ⊢
        have s1 : decide (0 < co - bf) = false := decide_eq_false (by omega)
        have s2 : decide (co - bf < 0) = false := decide_eq_false (by omega)
        have i1 : co ≤ bf := by omega
        have i2 : bf ≤ co := by omega
        clear e1 g1 g2 g3 hs hP
        go_wp2_with fail
        go_ret
        exact ⟨rfl, hB2⟩
      · have e1 := g1 hs
        rw [e1] at hP ⊢
        have s1 : decide (0 < co - bf) = true := decide_eq_true hs
        clear e1 g1 g2 g3 hP
        go_wp2_with fail
        go_ret
        exact ⟨rfl, hB2⟩
  · obtain ⟨m, rfl⟩ : ∃ m, k = m + 1 := ⟨k - 1, by omega⟩
    have b3 : decide ((0 : Int) < (m : Int) + 1) = true := decide_eq_true (by omega)
    have yp := HPr2.out (by omega)
    rw [Nat.add_sub_cancel] at yp
    have hpa := HPa.out (by omega)
    have hpi := HPi.out (by omega)
    obtain ⟨pi1, pi2⟩ := hpi
    have wp : IntKind.i64.wrap (ca - pa) = ca - pa := IntWalk.i64_in _ (by omega)
    have wm : IntKind.i64.wrap (m : Int) = (m : Int) := IntWalk.i64_in _ (by omega)
    have m0 : (0 : Int) ≤ (m : Int) := by omega
    have m1 : (m : Int) < (chs.length : Int) := by omega
    clear k0
    by_cases p2 : ca - pa < 345600000
    · have bp2 : decide (ca - pa < 345600000) = true := decide_eq_true p2
      go_quiet (fail)
      go_wp2_with fail
      go_ret
      exact ⟨rfl, below_drew hB2 _⟩
    · have bp2 : decide (ca - pa < 345600000) = false := decide_eq_false p2
      by_cases n1 : m + 1 + 1 < chs.length
      · have yn := HNx2.out n1
        have bn : decide ((m : Int) + 1 + 1 < (chs.length : Int)) = true := decide_eq_true (by omega)
        have hna := HNa.out n1
        have hni := HNi.out n1
        obtain ⟨ni1, ni2⟩ := hni
        have wn : IntKind.i64.wrap (na - ca) = na - ca := IntWalk.i64_in _ (by omega)
        have wk : IntKind.i64.wrap ((m : Int) + 1 + 1) = (m : Int) + 1 + 1 := IntWalk.i64_in _ (by omega)
        have nk0 : (0 : Int) ≤ (m : Int) + 1 + 1 := by omega
        have nk1 : (m : Int) + 1 + 1 < (chs.length : Int) := by omega
        have nk2 : ((m : Int) + 1 + 1).toNat = m + 1 + 1 := by omega
        by_cases n2 : na - ca < 345600000
        · have bn2 : decide (na - ca < 345600000) = true := decide_eq_true n2
          go_quiet (fail)
          go_wp2_with fail
          go_ret
          exact ⟨rfl, below_drew hB2 _⟩
        · have bn2 : decide (na - ca < 345600000) = false := decide_eq_false n2
          have Hp : Hid (m + 1 = 0 ∨ 345600000 ≤ ca - pa) := .inr (by omega)
          have Hn : Hid (m + 1 + 1 = chs.length ∨ 345600000 ≤ na - ca) := .inr (by omega)
          have Hbf := Lib.hid (HOff.out (ca - 1) (.inr (by omega)) (by omega))
          have Hjl := Lib.hid (HJ.out Hp.out Hn.out (by omega) (by omega))
          have x0 : W2.cell? ⟨w.heap.size, 0, none⟩ = some (.string nm) := hx2.cell 0
          have x1 : W2.cell? ⟨w.heap.size, 1, none⟩ = some (.int .i64 first) := hx2.cell 1
          clear HPa HNa HPi HNi HPr2 HNx2 HJ HOff
          go_quiet (fail)
          clear b1 b2 b3 yp wp wm bp2
          clear yn bn wn wk nk2 bn2
          go_wp2_with fail
          refine (HOf.out (ca - 1) _ (hz2.drewN nq) ⟨by omega, by omega⟩).mono ?_
          rw [Hbf.out]
          rintro e w3 ⟨l, rfl, hb3⟩
          replace hB2 := below_then (below_drew hB2 nq) hb3
          replace hx2 := (hx2.drewN nq).below hb3
          replace hc2 := (hc2.drewN nq).below hb3
          replace hz2 := (hz2.drewN nq).next hb3
          clear hb3 x0 x1 x2 z0 HOf Hbf
          have x0 : w3.cell? ⟨w.heap.size, 0, none⟩ = some (.string nm) := hx2.cell 0
          have x1 : w3.cell? ⟨w.heap.size, 1, none⟩ = some (.int .i64 first) := hx2.cell 1
          have x2 : w3.cell? ⟨w.heap.size, 2, none⟩ = some (.slice (some ⟨b, o, none⟩) chs.length c) := hx2.cell 2
          have z0 : w3.cell? ⟨gc, 0, none⟩ = some (.int .i64 ca) := hc2.cell 0
          have z1 : w3.cell? ⟨gc, 1, none⟩ = some (.int .i64 co) := hc2.cell 1
          have j4 := (tdiv2_facts (co - bf)).2.2.2
          have Hj := Lib.hid (Hjl.out (ca + bf + (co - bf).tdiv 2) (co - bf) rfl rfl)
          clear Hjl
          go_wp2_with fail
          generalize (co - bf).tdiv 2 = j2 at *
          refine (split_yes _ _ (by omega) (by omega)).mono ?_
          rintro e w4 ⟨rfl, n4, rfl⟩
          go_wp2_with fail
          refine (HIn.out _ _ _ (hz2.drewN n4) (by omega) (by omega) (by omega) (by omega)).mono ?_
          rw [show (ca + bf + j2) / 86400000 * 86400000 + (ca + bf + j2) % 86400000 = ca + bf + j2 from by omega]
          rintro e w5 ⟨P, cp, rfl, hP, hb5⟩
          replace hB2 := below_then (below_drew hB2 n4) hb5
          obtain ⟨g1, g2, g3⟩ := Hj.out
          clear hb5 x0 x1 x2 z0 z1 HIn Hj
          rcases Int.lt_trichotomy (co - bf) 0 with hs | hs | hs
          · obtain ⟨x, y, e1, e2, e3, e4, e5, e6⟩ := g2 hs
            rw [e1] at hP ⊢
            obtain ⟨bp, op, rfl, hbp, hcp⟩ := hP.open_ (by simp [ints])
            have v0 : w5.cell? ⟨bp, op, none⟩ = some (.int .i64 x) := by simpa using hcp 0 (.int .i64 x) rfl
            have v1 : w5.cell? ⟨bp, op + 1, none⟩ = some (.int .i64 y) := hcp 1 (.int .i64 y) rfl
            have s1 : decide (0 < co - bf) = false := decide_eq_false (by omega)
            have s2 : decide (co - bf < 0) = true := decide_eq_true hs
            have w1' : IntKind.i64.wrap (y - x) = y - x := IntWalk.i64_in _ (by omega)
            have w2' : IntKind.i64.wrap (-(co - bf)) = -(co - bf) := IntWalk.i64_in _ (by omega)
            have s3 : (y - x == -(co - bf)) = true := beq_iff_eq.2 e2
            clear e1 e2 g1 g2 g3 hcp hP
            go_wp2_with fail
            go_quiet (fail)
            go_wp2_with fail
            go_ret
            exact ⟨rfl, below_drew hB2 _⟩
          · obtain ⟨x, e1⟩ := g3 hs
            rw [e1] at hP ⊢
            have s1 : decide (0 < co - bf) = false := decide_eq_false (by omega)
            have s2 : decide (co - bf < 0) = false := decide_eq_false (by omega)
            have i1 : co ≤ bf := by omega
            have i2 : bf ≤ co := by omega
            clear e1 g1 g2 g3 hs hP
            go_wp2_with fail
            go_ret
            exact ⟨rfl, hB2⟩
          · have e1 := g1 hs
            rw [e1] at hP ⊢
            have s1 : decide (0 < co - bf) = true := decide_eq_true hs
            clear e1 g1 g2 g3 hP
            go_wp2_with fail
            go_ret
            exact ⟨rfl, hB2⟩
      · have bn : decide ((m : Int) + 1 + 1 < (chs.length : Int)) = false := decide_eq_false (by omega)
        have wk : IntKind.i64.wrap ((m : Int) + 1 + 1) = (m : Int) + 1 + 1 := IntWalk.i64_in _ (by omega)
        have Hp : Hid (m + 1 = 0 ∨ 345600000 ≤ ca - pa) := .inr (by omega)
        have Hn : Hid (m + 1 + 1 = chs.length ∨ 345600000 ≤ na - ca) := .inl (by omega)
        have Hbf := Lib.hid (HOff.out (ca - 1) (.inr (by omega)) (by omega))
        have Hjl := Lib.hid (HJ.out Hp.out Hn.out (by omega) (by omega))
        have x0 : W2.cell? ⟨w.heap.size, 0, none⟩ = some (.string nm) := hx2.cell 0
        have x1 : W2.cell? ⟨w.heap.size, 1, none⟩ = some (.int .i64 first) := hx2.cell 1
        clear HPa HNa HPi HNi HPr2 HNx2 HJ HOff
        go_quiet (fail)
        clear b1 b2 b3 yp wp wm bp2
        clear bn wk
        go_wp2_with fail
        refine (HOf.out (ca - 1) _ (hz2.drewN nq) ⟨by omega, by omega⟩).mono ?_
        rw [Hbf.out]
        rintro e w3 ⟨l, rfl, hb3⟩
        replace hB2 := below_then (below_drew hB2 nq) hb3
        replace hx2 := (hx2.drewN nq).below hb3
        replace hc2 := (hc2.drewN nq).below hb3
        replace hz2 := (hz2.drewN nq).next hb3
        clear hb3 x0 x1 x2 z0 HOf Hbf
        have x0 : w3.cell? ⟨w.heap.size, 0, none⟩ = some (.string nm) := hx2.cell 0
        have x1 : w3.cell? ⟨w.heap.size, 1, none⟩ = some (.int .i64 first) := hx2.cell 1
        have x2 : w3.cell? ⟨w.heap.size, 2, none⟩ = some (.slice (some ⟨b, o, none⟩) chs.length c) := hx2.cell 2
        have z0 : w3.cell? ⟨gc, 0, none⟩ = some (.int .i64 ca) := hc2.cell 0
        have z1 : w3.cell? ⟨gc, 1, none⟩ = some (.int .i64 co) := hc2.cell 1
        have j4 := (tdiv2_facts (co - bf)).2.2.2
        have Hj := Lib.hid (Hjl.out (ca + bf + (co - bf).tdiv 2) (co - bf) rfl rfl)
        clear Hjl
        go_wp2_with fail
        generalize (co - bf).tdiv 2 = j2 at *
        refine (split_yes _ _ (by omega) (by omega)).mono ?_
        rintro e w4 ⟨rfl, n4, rfl⟩
        go_wp2_with fail
        refine (HIn.out _ _ _ (hz2.drewN n4) (by omega) (by omega) (by omega) (by omega)).mono ?_
        rw [show (ca + bf + j2) / 86400000 * 86400000 + (ca + bf + j2) % 86400000 = ca + bf + j2 from by omega]
        rintro e w5 ⟨P, cp, rfl, hP, hb5⟩
        replace hB2 := below_then (below_drew hB2 n4) hb5
        obtain ⟨g1, g2, g3⟩ := Hj.out
        clear hb5 x0 x1 x2 z0 z1 HIn Hj
        rcases Int.lt_trichotomy (co - bf) 0 with hs | hs | hs
        · obtain ⟨x, y, e1, e2, e3, e4, e5, e6⟩ := g2 hs
          rw [e1] at hP ⊢
          obtain ⟨bp, op, rfl, hbp, hcp⟩ := hP.open_ (by simp [ints])
          have v0 : w5.cell? ⟨bp, op, none⟩ = some (.int .i64 x) := by simpa using hcp 0 (.int .i64 x) rfl
          have v1 : w5.cell? ⟨bp, op + 1, none⟩ = some (.int .i64 y) := hcp 1 (.int .i64 y) rfl
          have s1 : decide (0 < co - bf) = false := decide_eq_false (by omega)
          have s2 : decide (co - bf < 0) = true := decide_eq_true hs
          have w1' : IntKind.i64.wrap (y - x) = y - x := IntWalk.i64_in _ (by omega)
          have w2' : IntKind.i64.wrap (-(co - bf)) = -(co - bf) := IntWalk.i64_in _ (by omega)
          have s3 : (y - x == -(co - bf)) = true := beq_iff_eq.2 e2
          clear e1 e2 g1 g2 g3 hcp hP
          go_wp2_with fail
          go_quiet (fail)
          go_wp2_with fail
          go_ret
          exact ⟨rfl, below_drew hB2 _⟩
        · obtain ⟨x, e1⟩ := g3 hs
          rw [e1] at hP ⊢
          have s1 : decide (0 < co - bf) = false := decide_eq_false (by omega)
          have s2 : decide (co - bf < 0) = false := decide_eq_false (by omega)
          have i1 : co ≤ bf := by omega
          have i2 : bf ≤ co := by omega
          clear e1 g1 g2 g3 hs hP
          go_wp2_with fail
          go_ret
          exact ⟨rfl, hB2⟩
        · have e1 := g1 hs
          rw [e1] at hP ⊢
          have s1 : decide (0 < co - bf) = true := decide_eq_true hs
          clear e1 g1 g2 g3 hP
          go_wp2_with fail
          go_ret
          exact ⟨rfl, hB2⟩

set_option maxRecDepth 100000 in
theorem walk {H : Type} {enc : TypeId × Value → H} {base : Nat} {W : World} (v0 : Value) (d0 : DataW H) (p0 : List MemPlace) (hv : Value.okWide Try.prog W .any base 57 v0)
    (h0 : DataW.Trod enc Try.prog W 0 (fun _ => true) true 57 v0 d0 p0) (a1 : Int) (w1 : (Lit.int .i64 a1).wf = true) :
    Calls Try.prog 11 #[v0, .int .i64 a1] W fun e W' => e = .returned (.bool true) ∧ Below W.heap.size W W' := by
  obtain ⟨nm, first, A, chs, c, rfl, hz⟩ := zone_open hv h0
  exact core nm first A c chs a1 W hz
end Go.Proofs.Ytdbnnhfgohabdaa.zoneJumps
