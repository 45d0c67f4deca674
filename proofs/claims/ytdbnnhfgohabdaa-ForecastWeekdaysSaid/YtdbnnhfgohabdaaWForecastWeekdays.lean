/- The walk of ForecastWeekdays: it returns true at every input; it writes nothing that was there. -/
import Derived.Test.YtdbnnhfgohabdaaFore3
import Derived.Deep.DeepCutAuto
namespace Go.Proofs.Ytdbnnhfgohabdaa.forecastWeekdays
open Go.RowKit
set_option linter.unusedVariables false

def oneR : List ZR := [⟨3, 5, 6, 0, 3600000, ⟨#[83]⟩⟩]
theorem one_ok : ForeOk oneR := by
  refine ⟨⟨by decide, by decide⟩, fun i hi => ?_⟩
  match i, hi with
  | 0, _ =>
    refine ⟨⟨by decide, by decide, by decide, by decide, by decide, by decide, by decide, by decide⟩, ⟨by decide, by decide, by decide⟩, ⟨?_, by decide, by decide⟩, fun h => by omega⟩
    intro k hk
    match k, hk with
    | 0, _ => decide +revert
theorem one_chs : chCells (foreChs 0 2024 oneR oneR.length) = [.int .i64 63847526400000, .int .i64 3600000, .string ⟨#[83]⟩] := by
  have h : foreDay 2024 2 5 6 = 738976 := by decide
  have h1 : chCells (foreChs 0 2024 oneR oneR.length) = [.int .i64 (foreDay 2024 2 5 6 * 86400000 + 0 - 0), .int .i64 3600000, .string ⟨#[83]⟩] := rfl
  rw [h1, h]
  rfl

set_option maxHeartbeats 8000000 in
set_option maxRecDepth 100000 in
/-- the loop and what follows it -/
theorem core (A : Option Addr) (c : Nat) (rs : List ZR) (before year : Int) (w : World) (hA : RIn w A rs) (hbf : -9223372036854775808 ≤ before ∧ before ≤ 9223372036854775807) :
    Calls Try.prog 12 #[.slice A rs.length c, .int .i64 before, .int .i64 year] w fun e w' => e = .returned (.bool true) ∧ Below w.heap.size w w' := by
  have H0 := Lib.hid (fun A w hA => year_yes A 1 oneR 0 2024 w hA one_ok ⟨by decide, by decide, by decide⟩ (by omega) (by omega))
  rw [show IsYear 0 2024 oneR = fun w e w' => ∃ (A : Option Addr) (c : Nat), e = .returned (.tuple #[.slice A 1 c, .int .i64 0]) ∧ w'.ownsRow w.heap.size 64 3 (.slice A 1 c) 1 [.int .i64 63847526400000, .int .i64 3600000, .string ⟨#[83]⟩] ∧ Below w.heap.size w w' from by funext w e w'; unfold IsYear; rw [one_chs]; rfl] at H0
  have HC := Lib.hid (fun w => cut_any year (-3000) 6000 w (by omega) (by omega) (by omega) (by omega))
  have hy1 : -3000 ≤ -3000 + year % 6000 := by omega
  have hy2 : -3000 + year % 6000 ≤ 3000 := by omega
  generalize -3000 + year % 6000 = y at *
  go_enter Try.func12, Try.ntmps12
  go_wp2_with fail
  have q1 := Box.new w 71 #[.int .i64 3, .int .i64 5, .int .i64 6, .int .i64 0, .int .i64 3600000, .string ⟨#[83]⟩]
  refine (H0.out _ _ ⟨Row.of_box q1, by decide, fun x hx => ?_⟩).mono ?_
  · simp [oneR] at hx
    subst hx
    exact ⟨by decide, by decide, by decide, by decide, by decide, by decide, by decide, by decide, by decide, by decide, by decide⟩
  rintro e w1 ⟨A1, c1, rfl, hown1, hb1⟩
  have hB := Lib.hid (below_next (Below.refl _ _) hb1)
  replace hA := (hA.alloc _).next hb1
  clear hb1 q1 H0
  obtain ⟨g1, cap1, hv1, _, hl1⟩ := hown1.form (by omega)
  obtain rfl : A1 = some ⟨g1, 0, none⟩ := by injection hv1
  have z0 : w1.cell? ⟨g1, 0, none⟩ = some (.int .i64 63847526400000) := (hown1.cells (g := g1) rfl 0 _ rfl).trans rfl
  clear hown1 hv1
  go_wp2_with fail
  refine (HC.out _).mono ?_
  rintro e w' ⟨rfl, rfl⟩
  clear z0 hl1 HC
  go_wp2_with fail
  by_cases hok : ForeOk rs ∧ OffOk before
  case neg =>
    refine (year_no A c rs before y _ hA hok (by omega) (by omega)).mono ?_
    rintro e w2 ⟨E, hE0, rfl, hb2⟩
    have t1 : (E != 0) = true := by rw [bne_iff_ne]; exact hE0
    go_wp2_with fail
    go_ret
    exact ⟨rfl, below_then hB.out hb2⟩
  refine (year_yes A c rs before y _ hA hok.1 hok.2 (by omega) (by omega)).mono ?_
  rintro e w2 ⟨A2, c2, rfl, hown2, hb2⟩
  replace hB := Lib.hid (below_then hB.out hb2)
  replace hA := hA.next hb2
  clear hb2
  obtain ⟨hok, hbo⟩ := hok
  have hpos := hok.1.1
  have hl := hok.1.2
  have hR := Row.of_ownS hown2
  clear hown2
  obtain ⟨b, o, rfl, hb, hc⟩ := hA.row.open_ (flat_ne zrF_len (by omega) rs (by omega))
  obtain ⟨b2, o2, rfl, hb2, hc2⟩ := hR.open_ (chCells_ne _ (by rw [foreChs_len]; omega))
  have HC1 := Lib.hid hc
  have HC2 := Lib.hid hc2
  have HO := Lib.hid hok.2
  have HBo : Hid (∀ k, k ≤ rs.length → OffOk (befI before rs k)) := by
    intro k hk
    unfold befI
    split
    · exact hbo
    · exact (hok.2 (k - 1) (by omega)).2.1
  have HCell : Hid (∀ (wr : World) (k : Nat), Below w2.heap.size w2 wr → k < rs.length → wr.cell? ⟨b2, o2 + k * 3, none⟩ = some (.int .i64 (chgI before y rs k).a) ∧ wr.cell? ⟨b2, o2 + k * 3 + 1, none⟩ = some (.int .i64 (rs.getD k zr0).o) ∧ wr.cell? ⟨b2, o2 + k * 3 + 2, none⟩ = some (.string (rs.getD k zr0).l)) := by
    intro wr k hbr hk
    have := ch_cells (w := wr) (b := b2) (o := o2) (l := foreChs before y rs rs.length) (fun j v hv => (hbr.cell (p := ⟨b2, o2 + j, none⟩) hb2).trans (hc2 j v hv)) k (by rw [foreChs_len]; exact hk)
    rw [foreChs_get _ _ _ _ _ hk] at this
    exact this
  clear hA hR hc hc2 hok hbo hbf HC2
  go_wp2_with fail
  go_loopw [1, 12, 13, 14, 15, 16, 17, 18, 19, 20, 21, 22, 57] (fun bf _ _ _ _ _ _ _ _ _ _ _ i wr => ∃ k : Nat, k ≤ rs.length ∧ i = .int .i64 k ∧ bf = .int .i64 (befI before rs k) ∧ Below w2.heap.size w2 wr) (fun _ _ _ _ _ _ _ _ _ _ _ _ i _ => rs.length - (intOf i).toNat)
  case atStart => exact ⟨0, by omega, rfl, rfl, Below.refl _ _⟩
  case round =>
    obtain ⟨k, hk, rfl, rfl, hbr⟩ := hrel
    have hzr := hbr.size
    by_cases hlt : k < rs.length
    · have hc' : ∀ j v, (rs.flatMap zrF)[j]? = some v → wr.cell? ⟨b, o + j, none⟩ = some v := fun j v hv => (hbr.cell (p := ⟨b, o + j, none⟩) hb).trans (HC1.out j v hv)
      obtain ⟨y0, y1, y2, y3, y4, y5⟩ := zr_cells hc' k hlt
      obtain ⟨x0, x1, x2⟩ := HCell.out wr k hbr hlt
      have hbl : b < wr.heap.size := by omega
      have hbl2 : b2 < wr.heap.size := by omega
      obtain ⟨⟨n1, n2, n3, n4, n5, n6, n7, n8⟩, ho, _, _⟩ := HO.out k hlt
      have HF := foreDay_is y ((rs.getD k zr0).m - 1).toNat (rs.getD k zr0).wk (rs.getD k zr0).wd (by omega) n3 n4 n5 n6
      have HN : Hid (befI before rs (k + 1) = (rs.getD k zr0).o) := rfl
      have hca : (chgI before y rs k).a = foreDay y ((rs.getD k zr0).m - 1).toNat (rs.getD k zr0).wk (rs.getD k zr0).wd * 86400000 + (rs.getD k zr0).ms - befI before rs k := rfl
      have hbo := HBo.out k hk
      have f1 : -4000000 ≤ foreDay y ((rs.getD k zr0).m - 1).toNat (rs.getD k zr0).wk (rs.getD k zr0).wd := by have := HF.low; unfold ny at this; omega
      have f2 : foreDay y ((rs.getD k zr0).m - 1).toNat (rs.getD k zr0).wk (rs.getD k zr0).wd ≤ 3000000 := by have := HF.high; unfold ny at this; omega
      obtain ⟨kk, hkk⟩ : ∃ kk : Nat, ((rs.getD k zr0).m - 1).toNat = kk := ⟨_, rfl⟩
      have hmm : (rs.getD k zr0).m = (kk : Int) + 1 := by omega
      rw [hkk] at HF hca f1 f2
      have HZR0 : Hid (∀ wr, Below w2.heap.size w2 wr → wr.cell? ⟨b, o + k * 6, none⟩ = some (.int .i64 (rs.getD k zr0).m) ∧ wr.cell? ⟨b, o + k * 6 + 1, none⟩ = some (.int .i64 (rs.getD k zr0).wk) ∧ wr.cell? ⟨b, o + k * 6 + 2, none⟩ = some (.int .i64 (rs.getD k zr0).wd) ∧ wr.cell? ⟨b, o + k * 6 + 3, none⟩ = some (.int .i64 (rs.getD k zr0).ms) ∧ wr.cell? ⟨b, o + k * 6 + 4, none⟩ = some (.int .i64 (rs.getD k zr0).o) ∧ wr.cell? ⟨b, o + k * 6 + 5, none⟩ = some (.string (rs.getD k zr0).l)) := fun wr hbr => zr_cells (fun j v hv => (hbr.cell (p := ⟨b, o + j, none⟩) hb).trans (HC1.out j v hv)) k hlt
      rw [hmm] at HZR0
      have HZR := HZR0
      clear hc' hkk HZR0
      generalize foreDay y kk (rs.getD k zr0).wk (rs.getD k zr0).wd = FD at *
      rw [hmm] at y0 n1 n2
      clear hmm
      generalize (rs.getD k zr0).wk = ck at *
      generalize (rs.getD k zr0).wd = cd at *
      generalize (rs.getD k zr0).ms = cs at *
      generalize (rs.getD k zr0).o = co at *
      generalize (rs.getD k zr0).l = cl at *
      generalize befI before rs k = bf at *
      generalize (chgI before y rs k).a = ca at *
      obtain ⟨_, b2', b3⟩ := hbo
      obtain ⟨_, o2', o3⟩ := ho
      have HS := Lib.hid (fun w => split_yes (ca + bf) w (by omega) (by omega))
      rw [show (ca + bf) / 86400000 = FD from by omega, show (ca + bf) % 86400000 = cs from by omega] at HS
      have ca1 : -1000000000000000 ≤ ca := by omega
      have ca2 : ca ≤ 1000000000000000 := by omega
      have HD1 := Lib.hid (fun w => date_any FD w (by omega) (by omega))
      have HD2 := Lib.hid (fun w => date_any (FD + 7) w (by omega) (by omega))
      have HW := Lib.hid (fun w => Weekday_yes FD w (by omega) (by omega))
      rw [HF.wd] at HW
      have HFd := Lib.hid HF.date
      have HFn := Lib.hid HF.next
      clear HF hca
      go_wp2_with fail
      refine (HS.out _).mono ?_
      rintro e w3 ⟨rfl, n3', rfl⟩
      have hbr3 := below_drew (hbr.alloc hzr (Obj.cells #[.int .i64 ca, .int .i64 co, .string cl] 64)) n3'
      have hx3 := (Box.new wr 64 #[.int .i64 ca, .int .i64 co, .string cl]).drewN n3'
      generalize (wr.alloc (Obj.cells #[.int .i64 ca, .int .i64 co, .string cl] 64)).drewN n3' = w3 at *
      obtain ⟨g, hg⟩ : ∃ g, g = wr.heap.size := ⟨_, rfl⟩
      rw [← hg] at hx3
      rw [← hg]
      clear hg x0 x1 x2 y0 y1 y2 y3 y4 y5 hbl hbl2 hzr hbr
      go_wp2_with fail
      refine (HD1.out _).mono ?_
      rintro e w4 ⟨yy, k4, d4, rfl, hv4, hd4, hb4⟩
      obtain ⟨rfl, rfl, hw4, hd41, hd42⟩ := HFd.out yy k4 d4 hv4 hd4
      clear hv4 hd4
      replace hx3 := hx3.below hb4
      replace hbr3 := below_then hbr3 hb4
      clear hb4
      go_wp2_with fail
      refine (HW.out _).mono ?_
      rintro e w5 ⟨rfl, n5', rfl⟩
      replace hbr3 := below_drew (hbr3.alloc hbr3.size (Obj.cells #[.int .i64 yy, .int .i64 ((k4 : Int) + 1), .int .i64 d4] 36)) n5'
      replace hx3 := (hx3.alloc (Obj.cells #[.int .i64 yy, .int .i64 ((k4 : Int) + 1), .int .i64 d4] 36)).drewN n5'
      have hx5 := (Box.new w4 36 #[.int .i64 yy, .int .i64 ((k4 : Int) + 1), .int .i64 d4]).drewN n5'
      generalize (w4.alloc (Obj.cells #[.int .i64 yy, .int .i64 ((k4 : Int) + 1), .int .i64 d4] 36)).drewN n5' = w5 at *
      obtain ⟨g5, hg⟩ : ∃ g, g = w4.heap.size := ⟨_, rfl⟩
      rw [← hg] at hx5
      rw [← hg]
      clear hg
      have hzr5 := hbr3.size
      obtain ⟨y0, y1, y2, y3, y4, y5⟩ := HZR.out w5 hbr3
      have hbl : b < w5.heap.size := by omega
      have i0 : (0 : Int) ≤ (k : Int) := by omega
      have i1 : (k : Int) < (rs.length : Int) := by omega
      have m0 : w5.cell? ⟨g5, 0, none⟩ = some (.int .i64 yy) := hx5.cell 0
      have m1 : w5.cell? ⟨g5, 1, none⟩ = some (.int .i64 ((k4 : Int) + 1)) := hx5.cell 1
      have m2 : w5.cell? ⟨g5, 2, none⟩ = some (.int .i64 d4) := hx5.cell 2
      have ml := hx5.lt
      have t1 : (cd != cd) = false := by simp
      have t2 : (((k4 : Int) + 1) != ((k4 : Int) + 1)) = false := by simp
      have t3 : (yy != yy) = false := by simp
      have t4 : (cs != cs) = false := by simp
      go_wp2_with fail
      go_quiet (fail)
      clear t1 t2 t3 t4
      go_wp2_with fail
      refine (HD2.out _).mono ?_
      rintro e w6 ⟨y6, k6, d6, rfl, hv6, hd6, hb6⟩
      have hb6' : Below w5.heap.size w5 w6 := ⟨hb6.os, hb6.tape, hb6.output, hb6.size, hb6.block⟩
      have hne : ck = 5 → k6 ≠ k4 := fun h => HFn.out h _ _ _ hv6 hd6
      clear hv6 hd6 y0 y1 y2 y3 y4 y5 m0 m1 m2 ml hbl hb6
      replace hx3 := (hx3.below hb6').alloc (Obj.cells #[.int .i64 y6, .int .i64 ((k6 : Int) + 1), .int .i64 d6] 36)
      replace hx5 := (hx5.below hb6').alloc (Obj.cells #[.int .i64 y6, .int .i64 ((k6 : Int) + 1), .int .i64 d6] 36)
      have hx6 := Box.new w6 36 #[.int .i64 y6, .int .i64 ((k6 : Int) + 1), .int .i64 d6]
      have hbr6 := (below_then hbr3 hb6').alloc (below_then hbr3 hb6').size (Obj.cells #[.int .i64 y6, .int .i64 ((k6 : Int) + 1), .int .i64 d6] 36)
      clear hbr3 hb6'
      go_upto_region 18 with fail
      generalize w6.alloc (Obj.cells #[.int .i64 y6, .int .i64 ((k6 : Int) + 1), .int .i64 d6] 36) = w7 at *
      obtain ⟨g6, hg⟩ : ∃ g, g = w6.heap.size := ⟨_, rfl⟩
      rw [← hg] at hx6
      rw [← hg]
      clear hg
      have hzr6 := hbr6.size
      obtain ⟨y0, y1, y2, y3, y4, y5⟩ := HZR.out w7 hbr6
      have hbl : b < w7.heap.size := by omega
      have m1 : w7.cell? ⟨g5, 1, none⟩ = some (.int .i64 ((k4 : Int) + 1)) := hx5.cell 1
      have m2 : w7.cell? ⟨g5, 2, none⟩ = some (.int .i64 d4) := hx5.cell 2
      have ml := hx5.lt
      have m3 : w7.cell? ⟨g6, 1, none⟩ = some (.int .i64 ((k6 : Int) + 1)) := hx6.cell 1
      have ml' := hx6.lt
      have m4 : w7.cell? ⟨g, 1, none⟩ = some (.int .i64 co) := hx3.cell 1
      have ml'' := hx3.lt
      have HB7 := Lib.hid hbr6
      clear hx3 hx5 hx6 hbr6
      have hwd : IntKind.i64.wrap (d4 + 6) = d4 + 6 := IntWalk.i64_in _ (by omega)
      by_cases h5 : ck < 5
      · have e1 : decide (ck < 5) = true := decide_eq_true h5
        have e2 : ((d4 + 6).tdiv 7 != ck) = false := by rw [Int.tdiv_eq_ediv_of_nonneg (by omega), hw4 h5]; simp
        have e3 : (ck == 5) = false := by rw [beq_eq_false_iff_ne]; omega
        have e4 : ((d4 + 6) / 7 != ck) = false := by rw [hw4 h5]; simp
        clear hw4 hne
        go_quiet (fail)
        clear hwd e1 e2 e3 e4
        go_wp2_with fail
        go_roundw
        case rel => exact ⟨k + 1, by omega, by go_num, by rw [HN.out], below_drew HB7.out _⟩
        case measure => simp [intOf]; omega
      · obtain rfl : ck = 5 := by omega
        have hne' := hne rfl
        have e1 : decide ((5 : Int) < 5) = false := by decide
        have e2 : ((5 : Int) == 5) = true := rfl
        have e3 : (((k6 : Int) + 1) == ((k4 : Int) + 1)) = false := by rw [beq_eq_false_iff_ne]; omega
        have e4 : (k6 == k4) = false := by rw [beq_eq_false_iff_ne]; omega
        have e5 : ((k6 : Int) == (k4 : Int)) = false := by rw [beq_eq_false_iff_ne]; omega
        clear hw4 hne
        go_quiet (fail)
        clear hwd e1 e2 e3 e4 e5
        go_wp2_with fail
        go_roundw
        case rel => exact ⟨k + 1, by omega, by go_num, by rw [HN.out], below_drew HB7.out _⟩
        case measure => simp [intOf]; omega
    · obtain rfl : k = rs.length := by omega
      go_wp2_with fail
      go_ret
      exact ⟨by simp, below_then hB.out hbr⟩

set_option maxRecDepth 100000 in
theorem walk {H : Type} {enc : TypeId × Value → H} {base : Nat} {W : World} (v0 : Value) (d0 : DataW H) (p0 : List MemPlace) (hv : Value.okWide Try.prog W .any base 69 v0) (h0 : DataW.Trod enc Try.prog W 0 (fun _ => true) true 69 v0 d0 p0) (a1 : Int) (w1 : (Lit.int .i64 a1).wf = true) (a2 : Int) (w2 : (Lit.int .i64 a2).wf = true) :
    Calls Try.prog 12 #[v0, .int .i64 a1, .int .i64 a2] W fun e w' => e = .returned (.bool true) ∧ Below W.heap.size W w' := by
  obtain ⟨A, rs, c, rfl, hin⟩ := rules_open hv h0
  exact core A c rs a1 a2 W hin (bounds_i64 w1)
end Go.Proofs.Ytdbnnhfgohabdaa.forecastWeekdays
