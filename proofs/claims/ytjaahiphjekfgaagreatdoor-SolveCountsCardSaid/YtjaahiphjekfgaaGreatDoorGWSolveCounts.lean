/- WSolveCounts -/
import Derived.Test.YtjaahiphjekfgaaGreatDoorGSv16
import Derived.Test.YtjaahiphjekfgaaGreatDoorGFeArg
import Derived.Test.YtjaahiphjekfgaaGreatDoorGBack1
import Derived.Test.YtjaahiphjekfgaaGreatDoorGLine1
/- The walk of SolveCounts: it returns true at every input; it writes nothing that was there. -/
namespace Go.Proofs.YtjaahiphjekfgaaGreatDoor.solveCounts
open Go Go.RowKit
attribute [local go_sem] Oper.semAt_some
set_option linter.unusedVariables false

theorem daysF_sorted (t : FE) (a : Int) (n : Nat) : (daysF t a n).Pairwise (· < ·) := by
  unfold daysF
  apply List.Pairwise.filter
  rw [List.pairwise_map]
  exact List.Pairwise.imp (fun h => by omega) List.pairwise_lt_range
theorem sorted_at {l : List Int} (h : l.Pairwise (· < ·)) {i j : Nat} (hij : i < j) (hj : j < l.length) : l.getD i 0 < l.getD j 0 := by
  have := List.pairwise_iff_getElem.1 h i j (by omega) hj hij
  simpa [List.getD_eq_getElem?_getD, List.getElem?_eq_getElem hj, List.getElem?_eq_getElem (show i < l.length by omega)] using this
/-- a member is at the first place that is not before it -/
theorem found_at {l : List Int} (h : l.Pairwise (· < ·)) {k : Nat} {d : Int} (h1 : ∀ i, i < k → l.getD i 0 < d) (h2 : k < l.length → d ≤ l.getD k 0) : d ∈ l ↔ k < l.length ∧ l.getD k 0 = d := by
  constructor
  · intro hm
    obtain ⟨i, hi, he⟩ := List.getElem_of_mem hm
    have hg : l.getD i 0 = d := by rw [List.getD_eq_getElem?_getD, List.getElem?_eq_getElem hi]; exact he
    have hik : ¬ i < k := fun hlt => by have := h1 i hlt; omega
    by_cases e : i = k
    · subst e; exact ⟨hi, hg⟩
    · have := sorted_at h (show k < i by omega) hi
      have := h2 (by omega)
      omega
  · rintro ⟨hk, he⟩
    rw [List.getD_eq_getElem?_getD, List.getElem?_eq_getElem hk] at he
    rw [← show l[k] = d from he]
    exact List.getElem_mem hk

set_option maxRecDepth 100000 in
set_option maxHeartbeats 4000000 in
theorem core (t : FE) (fr0 a0 b0 : Int) (w : World) (hv : Env w) (ht : FeIn w w.heap.size t) :
    Calls Tryz.prog 5 #[feV t, .int .i64 fr0, .int .i64 a0, .int .i64 b0] w fun e w' => e = .returned (.bool true) ∧ Below w.heap.size w w' := by
  have HSo := Lib.hid (fun W (h : Below w.heap.size w W) => solves_any W (hv.next h))
  have HCut1 := Lib.hid (fun W => cut_any fr0 (-1000000) 2000000 W (by omega) (by omega) (by omega) (by omega))
  have HCut2 := Lib.hid (fun W => cut_any a0 0 200 W (by omega) (by omega) (by omega) (by omega))
  have HCut3 := Lib.hid (fun W => cut_any b0 1 200 W (by omega) (by omega) (by omega) (by omega))
  have q1 := Int.emod_nonneg fr0 (show (2000000 : Int) ≠ 0 by omega)
  have q2 := Int.emod_lt_of_pos fr0 (show (0 : Int) < 2000000 by omega)
  have q3 := Int.emod_nonneg a0 (show (200 : Int) ≠ 0 by omega)
  have q4 := Int.emod_lt_of_pos a0 (show (0 : Int) < 200 by omega)
  have q5 := Int.emod_nonneg b0 (show (200 : Int) ≠ 0 by omega)
  have q6 := Int.emod_lt_of_pos b0 (show (0 : Int) < 200 by omega)
  obtain ⟨fr, hfr⟩ : ∃ fr, fr = -1000000 + fr0 % 2000000 := ⟨_, rfl⟩
  obtain ⟨p, hp⟩ : ∃ p, p = 0 + a0 % 200 := ⟨_, rfl⟩
  obtain ⟨q, hq⟩ : ∃ q, q = 1 + b0 % 200 := ⟨_, rfl⟩
  rw [← hfr] at HCut1
  rw [← hp] at HCut2
  rw [← hq] at HCut3
  have hd1 : -1000000 ≤ fr ∧ fr ≤ 1000000 := by omega
  have hd2 : 0 ≤ p ∧ p ≤ 200 := by omega
  have hd3 : 1 ≤ q ∧ q ≤ 200 := by omega
  have HC1 := Lib.hid (fun W (h : Below w.heap.size w W) => count_any t fr (fr + p) W (hv.next h) (ht.next h h.size))
  have HC2 := Lib.hid (fun W (h : Below w.heap.size w W) => count_any t (fr + p + 1) (fr + p + q) W (hv.next h) (ht.next h h.size))
  have HBt := Lib.hid (fun W (h : Below w.heap.size w W) => between_any t fr (fr + p + q) W (hv.next h) (ht.next h h.size))
  have HHs := Lib.hid (fun d W (h : Below w.heap.size w W) => has_any t d W (hv.next h) (ht.next h h.size))
  have HSp : Hid ((daysF t fr (fr + p + q - fr + 1).toNat).length = (daysF t fr (fr + p - fr + 1).toNat).length + (daysF t (fr + p + 1) (fr + p + q - (fr + p + 1) + 1).toNat).length) := by
    unfold Hid
    rw [show (fr + p + q - fr + 1).toNat = (fr + p - fr + 1).toNat + (fr + p + q - (fr + p + 1) + 1).toNat from by omega, daysF_add, List.length_append, show fr + ((fr + p - fr + 1).toNat : Int) = fr + p + 1 from by omega]
  have HMem := Lib.hid (fun d => daysF_mem t fr (fr + p + q - fr + 1).toNat d)
  have HSort := Lib.hid (daysF_sorted t fr (fr + p + q - fr + 1).toNat)
  have hlx := daysF_len t fr (fr + p - fr + 1).toNat
  have hly := daysF_len t (fr + p + 1) (fr + p + q - (fr + p + 1) + 1).toNat
  have HGo : Hid (FeGood t → BetGood t (fr + p + 1) (fr + p + q) ∧ BetGood t fr (fr + p + q)) := fun h => ⟨⟨h, ⟨by omega, by omega⟩, ⟨by omega, by omega⟩, by omega, by omega⟩, h, ⟨by omega, by omega⟩, ⟨by omega, by omega⟩, by omega, by omega⟩
  unfold CountQ at HC1 HC2
  unfold BetQ at HBt
  unfold HasQ at HHs
  obtain ⟨N, hN⟩ : ∃ N : Nat, N = (fr + p + q - fr + 1).toNat := ⟨_, rfl⟩
  rw [← hN] at HSp HMem HSort HBt
  have hN1 : (N : Int) ≤ p + q + 1 ∧ p + q + 1 ≤ N := by omega
  clear q1 q2 q3 q4 q5 q6 hfr hp hq hv ht hN
  generalize daysF t fr N = al at *
  generalize (daysF t fr (fr + p - fr + 1).toNat).length = lx at *
  generalize (daysF t (fr + p + 1) (fr + p + q - (fr + p + 1) + 1).toNat).length = ly at *
  obtain ⟨t0, ht0⟩ : ∃ t0, t0 = t := ⟨_, rfl⟩
  obtain ⟨k, a, b, nm, A, c, ks⟩ := t
  rw [← ht0] at HC1 HC2 HBt HHs HMem HGo ⊢
  have hft : feV t0 = .agg #[.int .i64 k, .int .i64 a, .int .i64 b, .string nm, .slice A ks.length c] := by rw [ht0]; rfl
  rw [hft] at HC1 HC2 HBt HHs ⊢
  have HB := Lib.hid (below_alloc1 w (Obj.cells #[.int .i64 k, .int .i64 a, .int .i64 b, .string nm, .slice A ks.length c] 24))
  have HX := Lib.hid (Box.new w 24 #[.int .i64 k, .int .i64 a, .int .i64 b, .string nm, .slice A ks.length c])
  clear ht0 hft
  go_enter Tryz.func5, Tryz.ntmps5
  go_upto_region 1 with fail
  generalize w.alloc (Obj.cells #[.int .i64 k, .int .i64 a, .int .i64 b, .string nm, .slice A ks.length c] 24) = W2 at *
  obtain ⟨g0, hg0⟩ : ∃ g0, g0 = w.heap.size := ⟨_, rfl⟩
  rw [← hg0] at HX ⊢
  have HG := Lib.hid hg0
  clear hg0
  go_wp2_with fail
  refine (HSo.out W2 HB.out).mono ?_
  rintro e w3 ⟨rfl, hb3⟩
  have HB3 := Lib.hid (below_then HB.out hb3)
  have HX3 := Lib.hid (HX.out.below hb3)
  clear hb3 HB HX HSo
  obtain ⟨x0, x1, x2, x3, x4⟩ := fecells HX3.out
  have ew1 : IntKind.i64.wrap (fr + p) = fr + p := intFits _ (by omega) (by omega)
  have ew2 : IntKind.i64.wrap (fr + p + 1) = fr + p + 1 := intFits _ (by omega) (by omega)
  have ew3 : IntKind.i64.wrap (fr + p + q) = fr + p + q := intFits _ (by omega) (by omega)
  go_wp2_with (go_at_call 9; first | (refine (HCut1.out _).mono ?_; rintro e w' ⟨rfl, rfl⟩; clear HCut1) | (refine (HCut2.out _).mono ?_; rintro e w' ⟨rfl, rfl⟩; clear HCut2) | (refine (HCut3.out _).mono ?_; rintro e w' ⟨rfl, rfl⟩; clear HCut3))
  refine (HC1.out w3 HB3.out).mono ?_
  rintro e w4 ⟨hb4, hc⟩
  have HB4 := Lib.hid (below_then HB3.out hb4)
  have HX4 := Lib.hid (HX3.out.below hb4)
  clear hb4 HB3 HX3 HC1 x0 x1 x2 x3 x4
  rcases hc with ⟨E, hE, rfl, _⟩ | ⟨rfl, hg⟩
  · have t1 : (E != 0) = true := by rw [bne_iff_ne]; exact hE
    clear hE
    go_wp2_with fail
    go_ret
    exact ⟨rfl, HB4.out⟩
  have HGd := Lib.hid hg.1
  clear hg
  obtain ⟨x0, x1, x2, x3, x4⟩ := fecells HX4.out
  go_wp2_with fail
  refine (HC2.out w4 HB4.out).mono ?_
  rintro e w5 ⟨hb5, hc⟩
  have HB5 := Lib.hid (below_then HB4.out hb5)
  have HX5 := Lib.hid (HX4.out.below hb5)
  clear hb5 HB4 HX4 HC2 x0 x1 x2 x3 x4
  rcases hc with ⟨E, hE, rfl, hno⟩ | ⟨rfl, _⟩
  · exact absurd (HGo.out HGd.out).1 hno
  obtain ⟨x0, x1, x2, x3, x4⟩ := fecells HX5.out
  go_wp2_with fail
  refine (HBt.out w5 HB5.out).mono ?_
  rintro e w6 ⟨hb6, hc⟩
  have HB6 := Lib.hid (below_then HB5.out hb6)
  have HX6 := Lib.hid (HX5.out.below hb6)
  clear hb6 HB5 HX5 HBt x0 x1 x2 x3 x4
  rcases hc with ⟨E, hE, rfl, hno⟩ | ⟨A9, l, c9, rfl, _, hl, hown⟩
  · exact absurd (HGo.out HGd.out).2 hno
  have HRow := Lib.hid (row_own hown)
  have HLe := Lib.hid hl
  have HLs : Hid (l = lx + ly) := by unfold Hid; rw [hl]; exact HSp.out
  have hl4 : l ≤ 1000 := by have := HLs.out; omega
  have t9 : ((l : Int) != (lx : Int) + (ly : Int)) = false := by rw [bne_eq_false_iff_eq]; have := HLs.out; omega
  have t9' : (l != lx + ly) = false := by rw [bne_eq_false_iff_eq]; exact HLs.out
  have ew4 : IntKind.i64.wrap ((lx : Int) + (ly : Int)) = (lx : Int) + (ly : Int) := intFits _ (by omega) (by omega)
  clear hl hown HSp HGo
  go_wp2_with fail
  clear t9 t9' ew4 hlx hly
  go_loopw [15, 16, 17, 18] (fun s15 s16 _ _ wr => ∃ (d : Int) (kk : Nat), s15 = .int .i64 (kk : Int) ∧ s16 = .int .i64 d ∧ fr ≤ d ∧ d ≤ fr + p + q + 7 ∧ kk ≤ l ∧ Hid (∀ i, i < kk → al.getD i 0 < d) ∧ Hid (Box wr g0 24 #[.int .i64 k, .int .i64 a, .int .i64 b, .string nm, .slice A ks.length c]) ∧ Hid (Below w6.heap.size w6 wr)) (fun _ s16 _ _ _ => (fr + p + q + 1 - intOf s16).toNat)
  case atStart => exact ⟨fr, 0, rfl, rfl, by omega, by omega, by omega, (fun i hi => by omega), HX6, Below.refl _ _⟩
  case round =>
    obtain ⟨d, kk, rfl, rfl, hd4, hd5, hkk, hlow, hX, hbr⟩ := hrel
    clear HX6
    have HBw := Lib.hid (below_then HB6.out hbr.out)
    by_cases hle : d ≤ fr + p + q
    case neg =>
      have t1 : decide (d ≤ fr + p + q) = false := decide_eq_false hle
      have t1' : decide (fr + p + q < d) = true := decide_eq_true (by omega)
      clear hle
      go_wp2_with fail
      go_ret
      exact ⟨rfl, HBw.out⟩
    have t1 : decide (d ≤ fr + p + q) = true := decide_eq_true hle
    obtain ⟨x0, x1, x2, x3, x4⟩ := fecells hX.out
    have hdd : DayIn d := ⟨by omega, by omega⟩
    have HDd := Lib.hid hdd
    clear hdd
    go_wp2_with fail
    refine (HHs.out d wr HBw.out).mono ?_
    rintro e w7 ⟨is, E, rfl, hE, hm, _, hb7⟩
    have hE0 : E = 0 := hE.2 ⟨HGd.out, HDd.out⟩
    have HIs := Lib.hid (hm hE0)
    have HB7 := Lib.hid (below_then hbr.out hb7)
    have HX7 := Lib.hid (hX.out.below hb7)
    subst hE0
    clear hb7 hE hm hX hbr HBw x0 x1 x2 x3 x4
    go_wp2_with fail
    go_loopw [15] (fun s15 wq => ∃ kk : Nat, s15 = .int .i64 (kk : Int) ∧ kk ≤ l ∧ wq = w7 ∧ Hid (∀ i, i < kk → al.getD i 0 < d)) (fun s15 _ => l - (intOf s15).toNat)
    case atStart => exact ⟨kk, rfl, hkk, rfl, hlow⟩
    case round =>
      obtain ⟨kj, rfl, hkj, rfl, hlj⟩ := hrel
      by_cases hkl : kj < l
      case neg =>
        have hke : l ≤ kj := by omega
        have hF : is = false := by
          rw [Bool.eq_false_iff]
          intro hi
          have h1 := (HMem.out d).2 ⟨hd4, by omega, HIs.out.1 hi⟩
          have h2 := (found_at HSort.out hlj.out (fun h => by have := HLe.out; omega)).1 h1
          have := HLe.out
          omega
        subst hF
        have t2 : decide ((kj : Int) < (l : Int)) = false := decide_eq_false (by omega)
        have ew5 : IntKind.i64.wrap (d + 7) = d + 7 := intFits _ (by omega) (by omega)
        have HL2 : Hid (∀ i, i < kj → al.getD i 0 < d + 7) := fun i hi => by have := hlj.out i hi; omega
        clear hlj hlow
        go_wp2_with fail
        go_roundw
        case rel => exact ⟨d + 7, kj, rfl, rfl, by omega, by omega, by omega, HL2, HX7, HB7⟩
        case measure => simp [intOf]; omega
      obtain ⟨bA, oA, rfl, hbA, hcA⟩ := HRow.out.open_ (ints_ne al (by have := HLe.out; omega))
      have hcell := (HB7.out.cell (p := ⟨bA, oA + kj, none⟩) hbA).trans (ints_cell hcA kj (by have := HLe.out; omega))
      have hlal : kj < al.length := by have := HLe.out; omega
      obtain ⟨v, hv⟩ : ∃ v, v = al.getD kj 0 := ⟨_, rfl⟩
      rw [← hv] at hcell
      have HVe := Lib.hid hv
      have t2 : decide ((kj : Int) < (l : Int)) = true := decide_eq_true (by omega)
      have HAl := Lib.hid hlal
      clear hv hcA hbA hlal
      by_cases hvd : v < d
      · have t3 : decide (v < d) = true := decide_eq_true hvd
        have ew6 : IntKind.i64.wrap ((kj : Int) + 1) = ((kj + 1 : Nat) : Int) := by rw [intFits _ (by omega) (by omega)]; omega
        have HL2 : Hid (∀ i, i < kj + 1 → al.getD i 0 < d) := fun i hi => by
          by_cases e : i = kj
          · rw [e, ← HVe.out]; exact hvd
          · exact hlj.out i (by omega)
        clear hlj hlow
        go_wp2_with fail
        go_roundw
        case rel => exact ⟨kj + 1, by go_num, by omega, by first | rfl | trivial, HL2⟩
        case measure => simp [intOf]; omega
      · have t3 : decide (v < d) = false := decide_eq_false hvd
        have hS : is = (v == d) := by
          rw [Bool.eq_iff_iff, HIs.out, beq_iff_eq]
          have h3 := found_at HSort.out hlj.out (fun _ => by rw [← HVe.out]; omega)
          constructor
          · intro hm
            have := h3.1 ((HMem.out d).2 ⟨hd4, by omega, hm⟩)
            rw [HVe.out]; exact this.2
          · intro he
            exact ((HMem.out d).1 (h3.2 ⟨HAl.out, by rw [← HVe.out]; exact he⟩)).2.2
        have ew5 : IntKind.i64.wrap (d + 7) = d + 7 := intFits _ (by omega) (by omega)
        have HL2 : Hid (∀ i, i < kj → al.getD i 0 < d + 7) := fun i hi => by have := hlj.out i hi; omega
        have t4 : (is != (v == d)) = false := by rw [hS]; cases (v == d) <;> rfl
        obtain ⟨X, hX⟩ : ∃ X, X = (v == d) := ⟨_, rfl⟩
        clear hlj hlow
        cases is with
        | true =>
          have t5 : (v == d) = true := hS.symm
          clear hS hX
          go_wp2_with fail
          go_roundw
          case rel => exact ⟨d + 7, kj, rfl, rfl, by omega, by omega, by omega, HL2, HX7, HB7⟩
          case measure => simp [intOf]; omega
        | false =>
          have t5 : (v == d) = false := hS.symm
          clear hS hX
          go_wp2_with fail
          go_roundw
          case rel => exact ⟨d + 7, kj, rfl, rfl, by omega, by omega, by omega, HL2, HX7, HB7⟩
          case measure => simp [intOf]; omega

set_option maxRecDepth 100000 in
theorem walk {H : Type} {enc : TypeId × Value → H} {base : Nat} {W : World} (v0 : Value) (d0 : DataW H) (p0 : List MemPlace) (hv0 : Value.okWide Tryz.prog W .any base 24 v0) (h0 : DataW.Trod enc Tryz.prog W 0 (fun _ => true) true 24 v0 d0 p0)
    (a1 : Int) (w1 : (Lit.int .i64 a1).wf = true) (a2 : Int) (w2 : (Lit.int .i64 a2).wf = true) (a3 : Int) (w3 : (Lit.int .i64 a3).wf = true)
    (hL : laidMet Tryz.prog Rows.solveCountsRow.laid W) (hsh : W.ShapedOpen Tryz.prog) :
    Calls Tryz.prog 5 #[v0, .int .i64 a1, .int .i64 a2, .int .i64 a3] W fun e w' => e = .returned (.bool true) ∧ Below W.heap.size W w' := by
  obtain ⟨t, rfl, ht⟩ := fe_open hv0 h0
  exact core t a1 a2 a3 W ⟨sgs_of hL.tail.tail.tail.tail.tail.tail.tail, lvs_of hL.tail.tail.tail.tail.tail.tail, Shp.of hsh⟩ ht
end Go.Proofs.YtjaahiphjekfgaaGreatDoor.solveCounts
