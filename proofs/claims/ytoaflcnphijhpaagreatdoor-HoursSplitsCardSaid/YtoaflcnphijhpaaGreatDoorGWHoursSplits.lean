/- WHoursSplits -/
import Derived.Test.YtoaflcnphijhpaaGreatDoorGHr1
import Derived.Test.YtoaflcnphijhpaaGreatDoorGBack1
/- The walk of HoursSplits: it returns true at every input; it writes nothing that was there. -/
namespace Go.Proofs.YtoaflcnphijhpaaGreatDoor.hoursSplits
open Go Go.RowKit
attribute [local go_sem] Oper.semAt_some
set_option linter.unusedVariables false

def wkA (gs : List Nat) : List Value := (gs.map fun g => Value.slice (some ⟨g, 0, none⟩) 1 1) ++ (List.replicate (7 - gs.length) (Value.slice none 0 0) ++ [Value.slice none 0 0])
theorem wkA_len (gs : List Nat) (h : gs.length ≤ 7) : (wkA gs).length = 8 := by unfold wkA; simp; omega
theorem wkA_set (gs : List Nat) (g : Nat) (h : gs.length < 7) : (wkA gs).set gs.length (.slice (some ⟨g, 0, none⟩) 1 1) = wkA (gs ++ [g]) := by
  unfold wkA
  obtain ⟨k, hk⟩ : ∃ k, 7 - gs.length = k + 1 := ⟨6 - gs.length, by omega⟩
  have hk2 : 7 - (gs ++ [g]).length = k := by simp; omega
  rw [hk, hk2, List.replicate_succ, List.set_append]
  simp
theorem wkA_at (gs : List Nat) (h : gs.length < 7) : (wkA gs)[gs.length]? = some (.slice none 0 0) := by
  unfold wkA
  obtain ⟨k, hk⟩ : ∃ k, 7 - gs.length = k + 1 := ⟨6 - gs.length, by omega⟩
  rw [hk, List.replicate_succ, List.getElem?_append_right (by simp)]
  simp
theorem day_cnt (A : Nat → Nat) : cntW (OpenAt (allHr A ⟨0, 86400000⟩) 0 []) 0 5 = 5 := cntW_all 5 fun t a b => (all_open A _ t).2 ⟨by unfold DayIn; omega, by show 0 ≤ t % 86400000; omega, by show t % 86400000 < 86400000; omega⟩
set_option maxRecDepth 100000 in
set_option maxHeartbeats 4000000 in
theorem core (h : Hr) (z : Zn) (a0 b0 c0 : Int) (w : World) (hv : Env w) (hin : HrIn w w.heap.size h) (zin : ZnIn w w.heap.size z) :
    Calls Tryz.prog 6 #[hrV h, znV z, .int .i64 a0, .int .i64 b0, .int .i64 c0] w fun e w' => e = .returned (.bool true) ∧ Below w.heap.size w w' := by
  have HCut1 := Lib.hid (fun W => cut_any a0 (-86400000000) 172800000000 W (by omega) (by omega) (by omega) (by omega))
  have HCut2 := Lib.hid (fun W => cut_any b0 0 259200000 W (by omega) (by omega) (by omega) (by omega))
  have HCut3 := Lib.hid (fun W => cut_any c0 0 259200000 W (by omega) (by omega) (by omega) (by omega))
  have q1 := Int.emod_nonneg a0 (show (172800000000 : Int) ≠ 0 by omega)
  have q2 := Int.emod_lt_of_pos a0 (show (0 : Int) < 172800000000 by omega)
  have q3 := Int.emod_nonneg b0 (show (259200000 : Int) ≠ 0 by omega)
  have q4 := Int.emod_lt_of_pos b0 (show (0 : Int) < 259200000 by omega)
  have q5 := Int.emod_nonneg c0 (show (259200000 : Int) ≠ 0 by omega)
  have q6 := Int.emod_lt_of_pos c0 (show (0 : Int) < 259200000 by omega)
  obtain ⟨a, ha⟩ : ∃ d, d = -86400000000 + a0 % 172800000000 := ⟨_, rfl⟩
  obtain ⟨db, hdb⟩ : ∃ d, d = 0 + b0 % 259200000 := ⟨_, rfl⟩
  obtain ⟨dc, hdc⟩ : ∃ d, d = 0 + c0 % 259200000 := ⟨_, rfl⟩
  rw [← ha] at HCut1
  rw [← hdb] at HCut2
  rw [← hdc] at HCut3
  have hb1 : -86400000000 ≤ a ∧ a ≤ 86400000000 := by omega
  have hb2 : 0 ≤ db ∧ db ≤ 259200000 := by omega
  have hb3 : 0 ≤ dc ∧ dc ≤ 259200000 := by omega
  have HTo := Lib.hid (fun x y W (hb : Below w.heap.size w W) a b c d => htotal_any h z x y W (hv.next hb) (hin.next hb hb.size) (zin.next hb hb.size) a b c d)
  have HC1 := Lib.hid (fun (A : Nat → Nat) W (hb : Below w.heap.size w W) (hx : ∀ i, i < 7 → Box W (A i) 49 #[.int .i64 0, .int .i64 86400000]) => htotal_any (allHr A ⟨0, 86400000⟩) znA 0 5 W (hv.next hb) (all_in (s := ⟨0, 86400000⟩) ⟨by decide, by decide, by decide⟩ hx) (znA_in _ _) (by decide) (by decide) (by decide) (by decide))
  unfold TotQ at HTo HC1
  have HC2 : Hid (∀ (A : Nat → Nat) W, Below w.heap.size w W → (∀ i, i < 7 → Box W (A i) 49 #[.int .i64 0, .int .i64 86400000]) → Calls Tryz.prog 23 #[.agg #[.slice (some ⟨A 0, 0, none⟩) 1 1, .slice (some ⟨A 1, 0, none⟩) 1 1, .slice (some ⟨A 2, 0, none⟩) 1 1, .slice (some ⟨A 3, 0, none⟩) 1 1, .slice (some ⟨A 4, 0, none⟩) 1 1, .slice (some ⟨A 5, 0, none⟩) 1 1, .slice (some ⟨A 6, 0, none⟩) 1 1, .slice none 0 0], .agg #[.string ⟨#[97]⟩, .int .i64 0, .slice none 0 0], .int .i64 0, .int .i64 5] W fun e w' => e = .returned (.tuple #[.int .i64 5, .int .i64 0]) ∧ Below W.heap.size W w') := fun A W hb hx => (HC1.out A W hb hx).mono fun e w' ⟨n, E, he, h1, h2, _, h3⟩ => by
    have hE : E = 0 := h1.2 ⟨all_ok _ ⟨by decide, by decide, by decide⟩, znA_ok⟩
    have hn : n = 5 := by
      rw [h2 hE]
      have := day_cnt A
      exact congrArg Int.ofNat this
    rw [he, hE, hn]
    exact ⟨rfl, h3⟩
  clear HC1 q1 q2 q3 q4 q5 q6 ha hdb hdc hv hin zin
  have HB := Lib.hid (below_alloc2 w (Obj.cells #[wdV h.w0, wdV h.w1, wdV h.w2, wdV h.w3, wdV h.w4, wdV h.w5, wdV h.w6, .slice h.A h.ex.length h.c] 44) (Obj.cells #[.string z.nm, .int .i64 z.first, .slice z.A z.chs.length z.c] 47))
  have hx2 := (Box.new w 44 #[wdV h.w0, wdV h.w1, wdV h.w2, wdV h.w3, wdV h.w4, wdV h.w5, wdV h.w6, .slice h.A h.ex.length h.c]).alloc (Obj.cells #[.string z.nm, .int .i64 z.first, .slice z.A z.chs.length z.c] 47)
  have hz2 := Box.new (w.alloc (Obj.cells #[wdV h.w0, wdV h.w1, wdV h.w2, wdV h.w3, wdV h.w4, wdV h.w5, wdV h.w6, .slice h.A h.ex.length h.c] 44)) 47 #[.string z.nm, .int .i64 z.first, .slice z.A z.chs.length z.c]
  simp only [World.size_alloc] at hx2 hz2
  have HX := Lib.hid hx2
  have HZ := Lib.hid hz2
  have HZv : Hid (znV z = .agg #[.string z.nm, .int .i64 z.first, .slice z.A z.chs.length z.c]) := rfl
  clear hx2 hz2
  rw [HZv.out] at HTo ⊢
  unfold hrV at *
  go_enter Tryz.func6, Tryz.ntmps6
  go_upto_region 1 with fail
  generalize wdV h.w0 = v0 at *
  generalize wdV h.w1 = v1 at *
  generalize wdV h.w2 = v2 at *
  generalize wdV h.w3 = v3 at *
  generalize wdV h.w4 = v4 at *
  generalize wdV h.w5 = v5 at *
  generalize wdV h.w6 = v6 at *
  have hs2 : ((w.alloc (Obj.cells #[v0, v1, v2, v3, v4, v5, v6, .slice h.A h.ex.length h.c] 44)).alloc (Obj.cells #[.string z.nm, .int .i64 z.first, .slice z.A z.chs.length z.c] 47)).heap.size = w.heap.size + 1 + 1 := by rw [World.size_alloc, World.size_alloc]
  generalize (w.alloc (Obj.cells #[v0, v1, v2, v3, v4, v5, v6, .slice h.A h.ex.length h.c] 44)).alloc (Obj.cells #[.string z.nm, .int .i64 z.first, .slice z.A z.chs.length z.c] 47) = W2 at *
  go_wp2_with fail
  have hk2 := Box.new W2 44 (wkA []).toArray
  rw [hs2] at hk2
  have HK2 := Lib.hid hk2
  have HB3 := Lib.hid (below_then HB.out (below_alloc1 W2 (Obj.cells (wkA []).toArray 44)))
  have HX3 := Lib.hid (HX.out.alloc (Obj.cells (wkA []).toArray 44))
  have HZ3 := Lib.hid (HZ.out.alloc (Obj.cells (wkA []).toArray 44))
  have hg3 : w.heap.size < w.heap.size + 1 + 1 := by omega
  clear hk2 HB HX HZ hs2
  change Code.wp _ _ _ _ (W2.alloc (Obj.cells (wkA []).toArray 44))
  generalize W2.alloc (Obj.cells (wkA []).toArray 44) = w3 at *
  obtain ⟨gb, hgb⟩ : ∃ gb, gb = w.heap.size + 1 + 1 := ⟨_, rfl⟩
  rw [← hgb] at HK2 ⊢
  obtain ⟨g0, hg0⟩ : ∃ g0, g0 = w.heap.size := ⟨_, rfl⟩
  rw [← hg0] at HX3 HZ3 ⊢
  have hgg : g0 + 1 < gb := by omega
  have hgw : w.heap.size ≤ gb := by omega
  have HG0 := Lib.hid hg0
  clear hgb hg0 hg3
  go_loopw [12, 20] (fun _ i wr => ∃ gs : List Nat, gs.length ≤ 7 ∧ i = .int .i64 (gs.length : Int) ∧ Hid (Box wr gb 44 (wkA gs).toArray) ∧ Hid (∀ i, i < gs.length → gb < gs.getD i 0 ∧ Box wr (gs.getD i 0) 49 #[.int .i64 0, .int .i64 86400000]) ∧ Hid (Box wr g0 44 #[v0, v1, v2, v3, v4, v5, v6, .slice h.A h.ex.length h.c]) ∧ Hid (Box wr (g0 + 1) 47 #[.string z.nm, .int .i64 z.first, .slice z.A z.chs.length z.c]) ∧ Hid (Below w.heap.size w wr)) (fun _ i _ => 7 - (intOf i).toNat)
  case atStart => exact ⟨[], by simp, rfl, HK2, fun i hi => absurd hi (Nat.not_lt_zero i), HX3, HZ3, HB3⟩
  case round =>
    obtain ⟨gs, hk, rfl, hT, hS, hx, hz, hbr⟩ := hrel
    clear HK2 HX3 HZ3 HB3
    by_cases hlt : gs.length < 7
    · have c0 : wr.cell? ⟨gb, gs.length, none⟩ = some (.slice none 0 0) := (hT.out.cell _).trans (by simpa using wkA_at gs hlt)
      have cf : wr.frozen? ⟨gb, gs.length, none⟩ = false := hT.out.free _
      have cl := hT.out.lt
      obtain ⟨k, hkk⟩ : ∃ k, k = gs.length := ⟨_, rfl⟩
      have HKk := Lib.hid hkk
      rw [← hkk] at c0 cf hk hlt ⊢
      clear hkk
      have hk7 : (k : Int) < 7 := by omega
      have hset := (hT.out.set_ k (.slice (some ⟨wr.heap.size, 0, none⟩) 1 1)).alloc (Obj.cells #[.int .i64 0, .int .i64 86400000] 49)
      have hcs : (wkA gs).toArray.setIfInBounds k (.slice (some ⟨wr.heap.size, 0, none⟩) 1 1) = (wkA (gs ++ [wr.heap.size])).toArray := by
        rw [List.setIfInBounds_toArray, HKk.out, wkA_set gs _ (by rw [← HKk.out]; exact hlt)]
      rw [hcs] at hset
      have HT4 := Lib.hid hset
      have hnew := Box.new (wr.setCell ⟨gb, k, none⟩ (.slice (some ⟨wr.heap.size, 0, none⟩) 1 1)) 49 #[.int .i64 0, .int .i64 86400000]
      have hsz : (wr.setCell ⟨gb, k, none⟩ (.slice (some ⟨wr.heap.size, 0, none⟩) 1 1)).heap.size = wr.heap.size := by simp
      rw [hsz] at hnew
      have HS4 : Hid (∀ i, i < (gs ++ [wr.heap.size]).length → gb < (gs ++ [wr.heap.size]).getD i 0 ∧ Box ((wr.setCell ⟨gb, k, none⟩ (.slice (some ⟨wr.heap.size, 0, none⟩) 1 1)).alloc (Obj.cells #[.int .i64 0, .int .i64 86400000] 49)) ((gs ++ [wr.heap.size]).getD i 0) 49 #[.int .i64 0, .int .i64 86400000]) := fun i hi => by
        rw [List.length_append, List.length_singleton] at hi
        have hkl := HKk.out
        by_cases hij : i < gs.length
        · have e : (gs ++ [wr.heap.size]).getD i 0 = gs.getD i 0 := by simp [List.getD_eq_getElem?_getD, List.getElem?_append_left hij]
          rw [e]
          obtain ⟨h1, h2⟩ := hS.out i hij
          exact ⟨h1, (h2.far (p := ⟨gb, k, none⟩) (by show gs.getD i 0 ≠ gb; omega) _).alloc _⟩
        · obtain rfl : i = gs.length := by omega
          have e : (gs ++ [wr.heap.size]).getD gs.length 0 = wr.heap.size := by simp [List.getD_eq_getElem?_getD]
          rw [e]
          exact ⟨cl, hnew⟩
      have HX4 := Lib.hid ((hx.out.far (p := ⟨gb, k, none⟩) (by show g0 ≠ gb; omega) (.slice (some ⟨wr.heap.size, 0, none⟩) 1 1)).alloc (Obj.cells #[.int .i64 0, .int .i64 86400000] 49))
      have HZ4 := Lib.hid ((hz.out.far (p := ⟨gb, k, none⟩) (by show g0 + 1 ≠ gb; omega) (.slice (some ⟨wr.heap.size, 0, none⟩) 1 1)).alloc (Obj.cells #[.int .i64 0, .int .i64 86400000] 49))
      have HB4 : Hid (Below w.heap.size w ((wr.setCell ⟨gb, k, none⟩ (.slice (some ⟨wr.heap.size, 0, none⟩) 1 1)).alloc (Obj.cells #[.int .i64 0, .int .i64 86400000] 49))) := (hbr.out.setCell (p := ⟨gb, k, none⟩) hgw _).alloc (by rw [hsz]; exact hbr.out.size) _
      have HL4 : Hid ((gs ++ [wr.heap.size]).length = k + 1) := by unfold Hid; rw [List.length_append, HKk.out]; rfl
      clear hset hcs hnew hsz
      go_wp2_with fail
      go_roundw
      case rel => exact ⟨gs ++ [wr.heap.size], by rw [HL4.out]; omega, by rw [HL4.out]; go_num, HT4, HS4, HX4, HZ4, HB4⟩
      case measure => simp [intOf]; omega
    obtain ⟨a0, a1, a2, a3, a4, a5, a6, rfl⟩ : ∃ a0 a1 a2 a3 a4 a5 a6, gs = [a0, a1, a2, a3, a4, a5, a6] := by
      match gs, hk, hlt with
      | [a0, a1, a2, a3, a4, a5, a6], _, _ => exact ⟨a0, a1, a2, a3, a4, a5, a6, rfl⟩
      | [], _, h | [_], _, h | [_, _], _, h | [_, _, _], _, h | [_, _, _, _], _, h | [_, _, _, _, _], _, h | [_, _, _, _, _, _], _, h => exact absurd (by simp) h
      | _ :: _ :: _ :: _ :: _ :: _ :: _ :: _ :: _, h, _ => simp at h
    have hbx : Box wr gb 44 #[.slice (some ⟨a0, 0, none⟩) 1 1, .slice (some ⟨a1, 0, none⟩) 1 1, .slice (some ⟨a2, 0, none⟩) 1 1, .slice (some ⟨a3, 0, none⟩) 1 1, .slice (some ⟨a4, 0, none⟩) 1 1, .slice (some ⟨a5, 0, none⟩) 1 1, .slice (some ⟨a6, 0, none⟩) 1 1, .slice none 0 0] := hT.out
    have HC3 : Hid (Calls Tryz.prog 23 #[.agg #[.slice (some ⟨a0, 0, none⟩) 1 1, .slice (some ⟨a1, 0, none⟩) 1 1, .slice (some ⟨a2, 0, none⟩) 1 1, .slice (some ⟨a3, 0, none⟩) 1 1, .slice (some ⟨a4, 0, none⟩) 1 1, .slice (some ⟨a5, 0, none⟩) 1 1, .slice (some ⟨a6, 0, none⟩) 1 1, .slice none 0 0], .agg #[.string ⟨#[97]⟩, .int .i64 0, .slice none 0 0], .int .i64 0, .int .i64 5] wr fun e w' => e = .returned (.tuple #[.int .i64 5, .int .i64 0]) ∧ Below wr.heap.size wr w') := HC2.out (fun i => [a0, a1, a2, a3, a4, a5, a6].getD i 0) wr hbr.out (fun i hi => (hS.out i hi).2)
    obtain ⟨x0, x1, x2, x3, x4, x5, x6, x7⟩ := hrcells hbx
    have e7 : (([a0, a1, a2, a3, a4, a5, a6].length : Nat) : Int) = 7 := rfl
    rw [e7]
    clear e7 hbx hT hS HC2 hk hlt
    go_wp2_with fail
    refine HC3.out.mono ?_
    rintro e w4 ⟨rfl, hb4⟩
    have HB4 := Lib.hid (below_then hbr.out hb4)
    have HX4 := Lib.hid (hx.out.below hb4)
    have HZ4 := Lib.hid (hz.out.below hb4)
    clear hb4 hbr hx hz HC3 x0 x1 x2 x3 x4 x5 x6 x7
    have ew1 : IntKind.i64.wrap (a + db) = a + db := intFits _ (by omega) (by omega)
    have ew2 : IntKind.i64.wrap (a + db + dc) = a + db + dc := intFits _ (by omega) (by omega)
    have ew3 : IntKind.i64.wrap (a + db - a) = a + db - a := intFits _ (by omega) (by omega)
    obtain ⟨x0, x1, x2, x3, x4, x5, x6, x7⟩ := hrcells HX4.out
    obtain ⟨z0, z1, z2⟩ := zncells HZ4.out
    have HT4 := Lib.hid (HTo.out a (a + db) w4 HB4.out (by omega) (by omega) (by omega) (by omega))
    go_wp2_with (go_at_call 14; first | (with_reducible refine (HCut1.out _).mono ?_; rintro e w' ⟨rfl, rfl⟩; clear HCut1) | (with_reducible refine (HCut2.out _).mono ?_; rintro e w' ⟨rfl, rfl⟩; clear HCut2) | (with_reducible refine (HCut3.out _).mono ?_; rintro e w' ⟨rfl, rfl⟩; clear HCut3))
    refine HT4.out.mono ?_
    rintro e w5 ⟨n1, E1, rfl, hE, h0, _, hb5⟩
    have HB5 := Lib.hid (below_then HB4.out hb5)
    have HX5 := Lib.hid (HX4.out.below hb5)
    have HZ5 := Lib.hid (HZ4.out.below hb5)
    have HE := Lib.hid hE
    have H0 := Lib.hid h0
    clear hE h0 hb5 HB4 HX4 HZ4 HT4 x0 x1 x2 x3 x4 x5 x6 x7 z0 z1 z2
    by_cases hE0 : E1 = 0
    case neg =>
      have t1 : (E1 != 0) = true := by rw [bne_iff_ne]; exact hE0
      clear hE0
      go_wp2_with fail
      go_ret
      exact ⟨rfl, HB5.out⟩
    have HOk := Lib.hid (HE.out.1 hE0)
    have HN1 := Lib.hid (H0.out hE0)
    subst hE0
    clear HE H0
    obtain ⟨x0, x1, x2, x3, x4, x5, x6, x7⟩ := hrcells HX5.out
    obtain ⟨z0, z1, z2⟩ := zncells HZ5.out
    have HT5 := Lib.hid (HTo.out (a + db) (a + db + dc) w5 HB5.out (by omega) (by omega) (by omega) (by omega))
    go_wp2_with fail
    refine HT5.out.mono ?_
    rintro e w6 ⟨n2, E2, rfl, hE, h0, _, hb6⟩
    have HB6 := Lib.hid (below_then HB5.out hb6)
    have HX6 := Lib.hid (HX5.out.below hb6)
    have HZ6 := Lib.hid (HZ5.out.below hb6)
    have HN2 := Lib.hid (h0 (hE.2 HOk.out))
    clear hE h0 hb6 HB5 HX5 HZ5 HT5 x0 x1 x2 x3 x4 x5 x6 x7 z0 z1 z2
    obtain ⟨x0, x1, x2, x3, x4, x5, x6, x7⟩ := hrcells HX6.out
    obtain ⟨z0, z1, z2⟩ := zncells HZ6.out
    have HT6 := Lib.hid (HTo.out a (a + db + dc) w6 HB6.out (by omega) (by omega) (by omega) (by omega))
    go_wp2_with fail
    refine HT6.out.mono ?_
    rintro e w7 ⟨n3, E3, rfl, hE, h0, _, hb7⟩
    have HB7 := Lib.hid (below_then HB6.out hb7)
    have hE3 : E3 = 0 := hE.2 HOk.out
    have hn3 := h0 hE3
    have hn1 := HN1.out
    have hn2 := HN2.out
    rw [show (a + db - a).toNat = db.toNat from by omega] at hn1
    rw [show (a + db + dc - (a + db)).toNat = dc.toNat from by omega] at hn2
    rw [show (a + db + dc - a).toNat = db.toNat + dc.toNat from by omega, cntW_add, show a + (db.toNat : Int) = a + db from by omega] at hn3
    have hle := cntW_le (OpenAt h z.first z.chs) a db.toNat
    have hle2 := cntW_le (OpenAt h z.first z.chs) (a + db) dc.toNat
    have hs : n3 = n1 + n2 := by omega
    have hn0 : 0 ≤ n1 ∧ n1 ≤ a + db - a ∧ 0 ≤ n2 ∧ n2 ≤ 300000000 := by omega
    subst hE3
    clear hE h0 hb7 hn1 hn2 hn3 hle hle2 HN1 HN2 HB6 HX6 HZ6 HT6 HTo x0 x1 x2 x3 x4 x5 x6 x7 z0 z1 z2
    obtain ⟨hn0, hn1, hn2, hn3⟩ := hn0
    have ew4 : IntKind.i64.wrap (n1 + n2) = n1 + n2 := intFits _ (by omega) (by omega)
    have t1 : (n3 == n1 + n2) = true := by rw [beq_iff_eq]; exact hs
    have t2 : decide (0 ≤ n1) = true := decide_eq_true hn0
    have t3 : decide (n1 ≤ a + db - a) = true := decide_eq_true hn1
    clear hs
    go_wp2_with fail
    go_ret
    exact ⟨rfl, HB7.out⟩

set_option maxRecDepth 100000 in
theorem walk {H : Type} {enc : TypeId × Value → H} {base : Nat} {W : World} (v0 : Value) (d0 : DataW H) (p0 : List MemPlace) (hv0 : Value.okWide Tryz.prog W .any base 44 v0) (h0 : DataW.Trod enc Tryz.prog W 0 (fun _ => true) true 44 v0 d0 p0)
    (v1 : Value) (d1 : DataW H) (p1 : List MemPlace) (hv1 : Value.okWide Tryz.prog W .any base 47 v1) (h1 : DataW.Trod enc Tryz.prog W 0 (fun _ => true) true 47 v1 d1 p1)
    (a2 : Int) (w2 : (Lit.int .i64 a2).wf = true) (a3 : Int) (w3 : (Lit.int .i64 a3).wf = true) (a4 : Int) (w4 : (Lit.int .i64 a4).wf = true)
    (hL : laidMet Tryz.prog Rows.hoursSplitsRow.laid W) (hsh : W.ShapedOpen Tryz.prog) :
    Calls Tryz.prog 6 #[v0, v1, .int .i64 a2, .int .i64 a3, .int .i64 a4] W fun e w' => e = .returned (.bool true) ∧ Below W.heap.size W w' := by
  obtain ⟨h, rfl, hh⟩ := hr_open hv0 h0
  obtain ⟨z, rfl, hz⟩ := zn_open hv1 h1
  exact core h z a2 a3 a4 W ⟨sgs_of hL.tail.tail.tail.tail.tail.tail.tail, lvs_of hL.tail.tail.tail.tail.tail.tail, Shp.of hsh⟩ hh hz
end Go.Proofs.YtoaflcnphijhpaaGreatDoor.hoursSplits
