/- Sv16, Sv19, Sv17, Sv18 -/
import Derived.Test.YtabidjmmgnkhkaaGreatDoorGSv7
import Derived.Test.YtabidjmmgnkhkaaGreatDoorGFe1
/- Contracts of solve.check, Has, First and Next. -/
namespace Go.Proofs.YtabidjmmgnkhkaaGreatDoor
open Go Go.RowKit
attribute [local go_sem] Oper.semAt_some
set_option linter.unusedVariables false
def ChkQ (t : FE) (ds : List Int) (w : World) (e : Ending) (w' : World) : Prop := ∃ E : Int, e = .returned (.int .i64 E) ∧ (E = 0 ↔ FeGood t ∧ ∀ d ∈ ds, DayIn d) ∧ Below w.heap.size w w'
set_option maxHeartbeats 2000000 in
set_option maxRecDepth 100000 in
theorem check_any (t : FE) (ds : List Int) (b0 o0 cp : Nat) (w : World) (hv : Env w) (hin : FeIn w w.heap.size t) (hb0 : b0 < w.heap.size) (hc0 : ∀ j, j < ds.length → w.cell? ⟨b0, o0 + j, none⟩ = some (.int .i64 (ds.getD j 0))) (hl : ds.length ≤ 100) :
  Calls Tryz.prog 44 #[feV t, .slice (some ⟨b0, o0, none⟩) ds.length cp] w (ChkQ t ds w) := by
 obtain ⟨k, a, b, nm, A, c, ks⟩ := t
 show Calls Tryz.prog 44 #[.agg #[.int .i64 k, .int .i64 a, .int .i64 b, .string nm, .slice A ks.length c], .slice (some ⟨b0, o0, none⟩) ds.length cp] w _
 have hba := below_alloc1 w (Obj.cells #[.int .i64 k, .int .i64 a, .int .i64 b, .string nm, .slice A ks.length c] 57)
 have HX := Lib.hid (Box.new w 57 #[.int .i64 k, .int .i64 a, .int .i64 b, .string nm, .slice A ks.length c])
 have HCk := Lib.hid (fcheck_any (.node k a b nm A c ks) (w.alloc (Obj.cells #[.int .i64 k, .int .i64 a, .int .i64 b, .string nm, .slice A ks.length c] 57)) (hv.next hba) (hin.next hba hba.size))
 have HB := Lib.hid hba
 have HC0 := Lib.hid hc0
 have HD := Lib.hid (fun n W => isDay_any n W)
 unfold FCheckQ at HCk
 obtain ⟨G, hG⟩ : ∃ G : Prop, G = FeGood (.node k a b nm A c ks) := ⟨_, rfl⟩
 rw [← hG] at HCk
 have HGe := Lib.hid hG
 clear hba hv hin hc0 hG
 go_enter Tryz.func44, Tryz.ntmps44
 go_upto_region 1 with fail
 generalize w.alloc (Obj.cells #[.int .i64 k, .int .i64 a, .int .i64 b, .string nm, .slice A ks.length c] 57) = W1 at *
 obtain ⟨x0, x1, x2, x3, x4⟩ := fecells HX.out
 go_wp2_with fail
 refine HCk.out.mono ?_
 rintro e w2 ⟨E, rfl, hE, hb2⟩
 have HB2 := Lib.hid (below_then HB.out hb2)
 have HE := Lib.hid hE
 clear hb2 hE HCk HB x0 x1 x2 x3 x4 HX
 by_cases hE0 : E = 0
 case neg =>
  have t1 : (E != 0) = true := by rw [bne_iff_ne]; exact hE0
  have HR : Hid (E = 0 ↔ FeGood (.node k a b nm A c ks) ∧ ∀ d ∈ ds, DayIn d) := ⟨fun h => absurd h hE0, fun h => HE.out.2 (by rw [HGe.out]; exact h.1)⟩
  clear hE0 HE
  go_wp2_with fail
  go_ret
  exact ⟨E, rfl, HR.out, HB2.out⟩
 subst hE0
 have HGd := Lib.hid (HE.out.1 rfl)
 clear HE
 go_wp2_with fail
 go_loopw [7, 15] (fun _ i wr => ∃ j : Nat, j ≤ ds.length ∧ i = .int .i64 (j : Int) ∧ wr = w2 ∧ Hid (∀ i, i < j → DayIn (ds.getD i 0))) (fun _ i _ => ds.length - (intOf i).toNat)
 case atStart => exact ⟨0, by omega, rfl, rfl, fun i hi => by omega⟩
 case round =>
  obtain ⟨j, hj, rfl, rfl, hall⟩ := hrel
  by_cases hlt : j < ds.length
  case neg =>
   have hje : ds.length ≤ j := by omega
   have HR : Hid (FeGood (.node k a b nm A c ks) ∧ ∀ d ∈ ds, DayIn d) := ⟨by rw [← HGe.out]; exact HGd.out, fun d hd => by
    obtain ⟨i, hi, rfl⟩ := List.getElem_of_mem hd
    have := hall.out i (by omega)
    simpa [List.getD, hi] using this⟩
   go_wp2_with fail
   go_ret
   exact ⟨0, rfl, ⟨fun _ => HR.out, fun _ => rfl⟩, HB2.out⟩
  have hcell := (HB2.out.cell (p := ⟨b0, o0 + j, none⟩) hb0).trans (HC0.out j hlt)
  have hmem : ds.getD j 0 ∈ ds := by
   rw [List.getD_eq_getElem?_getD, List.getElem?_eq_getElem hlt]
   exact List.getElem_mem hlt
  have HMm := Lib.hid hmem
  obtain ⟨d, hd⟩ : ∃ d, d = ds.getD j 0 := ⟨_, rfl⟩
  rw [← hd] at hcell HMm
  have HDe := Lib.hid hd
  have HD1 := Lib.hid (fun W => HD.out d W)
  clear hmem hd
  by_cases hdd : -4000000 ≤ d ∧ d ≤ 4000000
  ·rw [decide_eq_true hdd] at HD1
   have HAll : Hid (∀ i, i < j + 1 → DayIn (ds.getD i 0)) := fun i hi => by
    by_cases e : i = j
    ·rw [e, ← HDe.out]; exact hdd
    ·exact hall.out i (by omega)
   clear hdd hall
   go_wp2_with (go_at_call 53; refine (HD1.out _).mono ?_; rintro e w' ⟨rfl, rfl⟩)
   go_roundw
   case rel => exact ⟨j + 1, by omega, by go_num, by first | rfl | trivial, HAll⟩
   case measure => simp [intOf]; omega
  ·rw [decide_eq_false hdd] at HD1
   have HR : Hid (¬ (FeGood (.node k a b nm A c ks) ∧ ∀ d ∈ ds, DayIn d)) := fun h => hdd (h.2 d HMm.out)
   clear hdd hall
   go_wp2_with (go_at_call 53; refine (HD1.out _).mono ?_; rintro e w' ⟨rfl, rfl⟩)
   go_ret
   exact ⟨3, rfl, ⟨fun h => by omega, fun h => absurd h HR.out⟩, HB2.out⟩
theorem one_at (day : Int) (g1 : Nat) (W : World) (hc : W.cell? ⟨g1, 0, none⟩ = some (.int .i64 day)) : ∀ j, j < [day].length → W.cell? ⟨g1, 0 + j, none⟩ = some (.int .i64 ([day].getD j 0)) := by
 intro j hj
 obtain rfl : j = 0 := by simpa using hj
 exact hc
def HasQ (t : FE) (day : Int) (w : World) (e : Ending) (w' : World) : Prop := ∃ (is : Bool) (E : Int), e = .returned (.tuple #[.bool is, .int .i64 E]) ∧ (E = 0 ↔ FeGood t ∧ DayIn day) ∧ (E = 0 → (is = true ↔ memF t day)) ∧ (E ≠ 0 → is = false) ∧ Below w.heap.size w w'
set_option maxHeartbeats 2000000 in
set_option maxRecDepth 100000 in
theorem has_any (t : FE) (day : Int) (w : World) (hv : Env w) (hin : FeIn w w.heap.size t) : Calls Tryz.prog 22 #[feV t, .int .i64 day] w (HasQ t day w) := by
 have HV := Lib.hid (fun W (h : Below w.heap.size w W) => hv.next h)
 have HIn := Lib.hid (fun W (h : Below w.heap.size w W) => hin.next h h.size)
 clear hv hin
 obtain ⟨t0, ht0⟩ : ∃ t0, t0 = t := ⟨_, rfl⟩
 obtain ⟨k, a, b, nm, A, c, ks⟩ := t
 have HCk := Lib.hid (fun g1 W (h : Below w.heap.size w W) (hg : g1 < W.heap.size) (hc : W.cell? ⟨g1, 0, none⟩ = some (.int .i64 day)) => check_any (.node k a b nm A c ks) [day] g1 0 1 W (HV.out W h) (HIn.out W h) hg (one_at day g1 W hc) (by simp))
 have HOp := Lib.hid (fun (hok : FeOk (.node k a b nm A c ks)) W (h : Below w.heap.size w W) => open_any W (HV.out W h) (.node k a b nm A c ks) (HIn.out W h) hok W (Below.refl _ _))
 have HSt := Lib.hid (fun (hg : FeGood (.node k a b nm A c ks)) (hd : DayIn day) (T : ST) (p : Nat → Prop) W (h : StAt W p T (.node k a b nm A c ks)) => set_any h hg.ok W day day 1 (Below.refl _ _) (by omega) (by have := hg.ht; have := hd.1; omega) (by have := hg.ht; have := hd.2; omega) (by omega) (by have := hg.ht; omega))
 rw [← ht0] at HCk HOp HSt ⊢
 have HT0 := Lib.hid ht0
 have hfe : feV t0 = .agg #[.int .i64 k, .int .i64 a, .int .i64 b, .string nm, .slice A ks.length c] := by rw [ht0]; rfl
 rw [hfe] at HCk HOp ⊢
 have HB := Lib.hid (below_alloc2 w (Obj.cells #[.int .i64 k, .int .i64 a, .int .i64 b, .string nm, .slice A ks.length c] 57) (Obj.cells #[.int .i64 day] 3))
 have HX := Lib.hid ((Box.new w 57 #[.int .i64 k, .int .i64 a, .int .i64 b, .string nm, .slice A ks.length c]).alloc (Obj.cells #[.int .i64 day] 3))
 have hY := Box.new (w.alloc (Obj.cells #[.int .i64 k, .int .i64 a, .int .i64 b, .string nm, .slice A ks.length c] 57)) 3 #[.int .i64 day]
 rw [World.size_alloc] at hY
 have HY := Lib.hid hY
 have xb := Box.new w 57 #[.int .i64 k, .int .i64 a, .int .i64 b, .string nm, .slice A ks.length c]
 obtain ⟨x0, x1, x2, x3, x4⟩ := fecells xb
 unfold ChkQ at HCk
 unfold OpenQ at HOp
 unfold SetQ at HSt
 clear ht0 hfe hY
 go_enter Tryz.func22, Tryz.ntmps22
 go_wp2_with fail
 clear x0 x1 x2 x3 x4 xb
 generalize (w.alloc (Obj.cells #[.int .i64 k, .int .i64 a, .int .i64 b, .string nm, .slice A ks.length c] 57)).alloc (Obj.cells #[.int .i64 day] 3) = W2 at *
 refine (HCk.out _ W2 HB.out HY.out.lt (HY.out.cell 0)).mono ?_
 rintro e w3 ⟨E, rfl, hE, hb3⟩
 have HB3 := Lib.hid (below_then HB.out hb3)
 have HX3 := Lib.hid (HX.out.below hb3)
 have HE := Lib.hid hE
 clear hb3 hE HCk HB HX HY
 by_cases hE0 : E = 0
 case neg =>
  have t1 : (E != 0) = true := by rw [bne_iff_ne]; exact hE0
  have HR : Hid ((E = 0 ↔ FeGood t0 ∧ DayIn day) ∧ E ≠ 0) := ⟨⟨fun h => absurd h hE0, fun h => HE.out.2 ⟨h.1, fun d hd => by rw [List.mem_singleton] at hd; rw [hd]; exact h.2⟩⟩, hE0⟩
  clear hE0 HE
  go_wp2_with fail
  go_ret2
  exact ⟨false, E, rfl, HR.out.1, fun h => absurd h HR.out.2, fun _ => rfl, HB3.out⟩
 subst hE0
 have HGd := Lib.hid (HE.out.1 rfl)
 have hok := HGd.out.1.ok
 have HOk := Lib.hid hok
 clear HE hok
 obtain ⟨x0, x1, x2, x3, x4⟩ := fecells HX3.out
 go_wp2_with fail
 refine (HOp.out HOk.out w3 HB3.out).mono ?_
 rintro e w4 ⟨T, rfl, hT, hb4⟩
 have HB4 := Lib.hid (below_then HB3.out hb4)
 have HS4 := Lib.hid (HSt.out HGd.out.1 (HGd.out.2 day (by simp)) T _ w4 hT)
 clear hT hb4 HOp HSt HX3 x0 x1 x2 x3 x4
 go_wp2_with fail
 refine HS4.out.mono ?_
 rintro e w5 ⟨gs, rfl, hbs, _, hb5⟩
 have HB5 := Lib.hid (below_then HB4.out hb5)
 obtain ⟨L, hL, hLc, hLm⟩ := hbs.list
 obtain ⟨x, hx⟩ : ∃ x, L[0]? = some x := ⟨_, List.getElem?_eq_getElem (by omega)⟩
 have hcx : w5.cell? ⟨gs, 0, none⟩ = some (.bool x) := hLc 0 x hx
 have hxm : x = true ↔ memF t0 day := by
  have := hLm 0 (by omega)
  rw [List.getD_eq_getElem?_getD, hx] at this
  simpa using this
 have HXm := Lib.hid hxm
 have HR : Hid (FeGood t0 ∧ DayIn day) := ⟨HGd.out.1, HGd.out.2 day (by simp)⟩
 clear hb5 HB4 HS4 hLc hLm hx hxm hbs
 go_wp2_with fail
 go_ret2
 exact ⟨x, 0, rfl, ⟨fun _ => HR.out, fun _ => rfl⟩, fun _ => HXm.out, fun h => absurd rfl h, HB5.out⟩
end Go.Proofs.YtabidjmmgnkhkaaGreatDoor
/- Contracts of solve.Between and Count. -/
namespace Go.Proofs.YtabidjmmgnkhkaaGreatDoor
open Go Go.RowKit
attribute [local go_sem] Oper.semAt_some
set_option linter.unusedVariables false
open Classical in
noncomputable def daysF (t : FE) (a : Int) (n : Nat) : List Int := ((List.range n).map fun (i : Nat) => a + (i : Int)).filter fun d => decide (memF t d)
open Classical in
theorem daysF_add (t : FE) (a : Int) (n m : Nat) : daysF t a (n + m) = daysF t a n ++ daysF t (a + n) m := by
 unfold daysF
 rw [List.range_add, List.map_append, List.filter_append, List.map_map]
 congr 2
 apply List.map_congr_left
 intro i _
 simp [Int.add_assoc]
open Classical in
theorem daysF_one (t : FE) (a : Int) : daysF t a 1 = if memF t a then [a] else [] := by
 unfold daysF
 by_cases h : memF t a <;> simp [h]
theorem daysF_yes {t : FE} {a : Int} {n : Nat} (h : memF t (a + n)) : daysF t a (n + 1) = daysF t a n ++ [a + (n : Int)] := by rw [daysF_add, daysF_one, if_pos h]
theorem daysF_no {t : FE} {a : Int} {n : Nat} (h : ¬ memF t (a + n)) : daysF t a (n + 1) = daysF t a n := by rw [daysF_add, daysF_one, if_neg h, List.append_nil]
theorem daysF_len (t : FE) (a : Int) (n : Nat) : (daysF t a n).length ≤ n := by
 unfold daysF
 refine Nat.le_trans (List.length_filter_le _ _) ?_
 simp
theorem daysF_mem (t : FE) (a : Int) (n : Nat) (d : Int) : d ∈ daysF t a n ↔ a ≤ d ∧ d < a + n ∧ memF t d := by
 unfold daysF
 simp only [List.mem_filter, List.mem_map, List.mem_range, decide_eq_true_eq]
 constructor
 ·rintro ⟨⟨i, hi, rfl⟩, h⟩
  exact ⟨by omega, by omega, h⟩
 ·rintro ⟨h1, h2, h3⟩
  exact ⟨⟨(d - a).toNat, by omega, by omega⟩, h3⟩
def BetGood (t : FE) (a b : Int) : Prop := FeGood t ∧ DayIn a ∧ DayIn b ∧ a ≤ b ∧ b - a ≤ 3000
def BetQ (t : FE) (a b : Int) (w : World) (e : Ending) (w' : World) : Prop := Below w.heap.size w w' ∧ ((∃ E : Int, E ≠ 0 ∧ e = .returned (.tuple #[.slice none 0 0, .int .i64 E]) ∧ ¬ BetGood t a b) ∨
 (∃ (A : Option Addr) (l c : Nat), e = .returned (.tuple #[.slice A l c, .int .i64 0]) ∧ BetGood t a b ∧ l = (daysF t a (b - a + 1).toNat).length ∧ w'.ownsRow w.heap.size 3 1 (.slice A l c) l (ints (daysF t a (b - a + 1).toNat))))
theorem BetQ.no {t : FE} {a b : Int} {w w' : World} {E : Int} (h : ¬ BetGood t a b) (hE : E ≠ 0) (hb : Below w.heap.size w w') : BetQ t a b w (.returned (.tuple #[.slice none 0 0, .int .i64 E])) w' := ⟨hb, .inl ⟨E, hE, rfl, h⟩⟩
theorem two_at (a b : Int) (g1 : Nat) (W : World) (h0 : W.cell? ⟨g1, 0, none⟩ = some (.int .i64 a)) (h1 : W.cell? ⟨g1, 1, none⟩ = some (.int .i64 b)) : ∀ j, j < [a, b].length → W.cell? ⟨g1, 0 + j, none⟩ = some (.int .i64 ([a, b].getD j 0)) := by
 intro j hj
 have : j = 0 ∨ j = 1 := by simp at hj; omega
 rcases this with rfl | rfl
 ·exact h0
 ·exact h1
theorem one_intS (x : Int) : ∀ u ∈ [Value.int .i64 x], u.oneCell' = true := fun u hu => by simp at hu; subst hu; rfl
set_option maxHeartbeats 2000000 in
set_option maxRecDepth 100000 in
theorem between_any (t : FE) (lo hi : Int) (w : World) (hv : Env w) (hin : FeIn w w.heap.size t) : Calls Tryz.prog 20 #[feV t, .int .i64 lo, .int .i64 hi] w (BetQ t lo hi w) := by
 obtain ⟨i0, hi0, hz0, hz1, hz2⟩ := info_parts infoInt2
 have HV := Lib.hid (fun W (h : Below w.heap.size w W) => hv.next h)
 have HIn := Lib.hid (fun W (h : Below w.heap.size w W) => hin.next h h.size)
 clear hv hin
 obtain ⟨t0, ht0⟩ : ∃ t0, t0 = t := ⟨_, rfl⟩
 obtain ⟨k, a, b, nm, A, c, ks⟩ := t
 have HCk := Lib.hid (fun g1 W (h : Below w.heap.size w W) (hg : g1 < W.heap.size) (h0 : W.cell? ⟨g1, 0, none⟩ = some (.int .i64 lo)) (h1 : W.cell? ⟨g1, 1, none⟩ = some (.int .i64 hi)) => check_any (.node k a b nm A c ks) [lo, hi] g1 0 2 W (HV.out W h) (HIn.out W h) hg (two_at lo hi g1 W h0 h1) (by simp))
 have HOp := Lib.hid (fun (hok : FeOk (.node k a b nm A c ks)) W (h : Below w.heap.size w W) => open_any W (HV.out W h) (.node k a b nm A c ks) (HIn.out W h) hok W (Below.refl _ _))
 have HSt := Lib.hid (fun (hg : FeGood (.node k a b nm A c ks)) (h1 : DayIn lo) (h2 : DayIn hi) (n : Nat) (hn : hi = lo + n - 1) (hn1 : 1 ≤ n) (hn2 : n ≤ 3001) (T : ST) (p : Nat → Prop) W (h : StAt W p T (.node k a b nm A c ks)) => set_any h hg.ok W lo hi n (Below.refl _ _) hn (by have := hg.ht; have := h1.1; omega) (by have := hg.ht; have := h2.2; omega) hn1 (by have := hg.ht; omega))
 rw [← ht0] at HCk HOp HSt ⊢
 have HT0 := Lib.hid ht0
 have hfe : feV t0 = .agg #[.int .i64 k, .int .i64 a, .int .i64 b, .string nm, .slice A ks.length c] := by rw [ht0]; rfl
 rw [hfe] at HCk HOp ⊢
 have HB := Lib.hid (below_alloc2 w (Obj.cells #[.int .i64 k, .int .i64 a, .int .i64 b, .string nm, .slice A ks.length c] 57) (Obj.cells #[.int .i64 lo, .int .i64 hi] 3))
 have HX := Lib.hid ((Box.new w 57 #[.int .i64 k, .int .i64 a, .int .i64 b, .string nm, .slice A ks.length c]).alloc (Obj.cells #[.int .i64 lo, .int .i64 hi] 3))
 have hY := Box.new (w.alloc (Obj.cells #[.int .i64 k, .int .i64 a, .int .i64 b, .string nm, .slice A ks.length c] 57)) 3 #[.int .i64 lo, .int .i64 hi]
 rw [World.size_alloc] at hY
 have HY := Lib.hid hY
 have xb := Box.new w 57 #[.int .i64 k, .int .i64 a, .int .i64 b, .string nm, .slice A ks.length c]
 obtain ⟨x0, x1, x2, x3, x4⟩ := fecells xb
 unfold ChkQ at HCk
 unfold OpenQ at HOp
 unfold SetQ at HSt
 clear ht0 hfe hY
 go_enter Tryz.func20, Tryz.ntmps20
 go_wp2_with fail
 clear x0 x1 x2 x3 x4 xb
 generalize (w.alloc (Obj.cells #[.int .i64 k, .int .i64 a, .int .i64 b, .string nm, .slice A ks.length c] 57)).alloc (Obj.cells #[.int .i64 lo, .int .i64 hi] 3) = W2 at *
 refine (HCk.out _ W2 HB.out HY.out.lt (HY.out.cell 0) (HY.out.cell 1)).mono ?_
 rintro e w3 ⟨E, rfl, hE, hb3⟩
 have HB3 := Lib.hid (below_then HB.out hb3)
 have HX3 := Lib.hid (HX.out.below hb3)
 have HE := Lib.hid hE
 clear hb3 hE HCk HB HX HY
 by_cases hE0 : E = 0
 case neg =>
  have t1 : (E != 0) = true := by rw [bne_iff_ne]; exact hE0
  have HR : Hid (E ≠ 0 ∧ ¬ BetGood t0 lo hi) := ⟨hE0, fun h => hE0 (HE.out.2 ⟨h.1, fun d hd => by
   simp only [List.mem_cons, List.not_mem_nil, or_false] at hd
   rcases hd with rfl | rfl
   ·exact h.2.1
   ·exact h.2.2.1⟩)⟩
  clear hE0 HE
  go_wp2_with fail
  go_ret2
  exact BetQ.no HR.out.2 HR.out.1 HB3.out
 subst hE0
 have HGd := Lib.hid (HE.out.1 rfl)
 have hd1 : DayIn lo := HGd.out.2 lo (by simp)
 have hd2 : DayIn hi := HGd.out.2 hi (by simp)
 have HDs := Lib.hid (And.intro hd1 hd2)
 unfold DayIn at hd1 hd2
 clear HE
 by_cases hgt : hi < lo
 ·have t2 : decide (hi < lo) = true := decide_eq_true hgt
  have HR : Hid (¬ BetGood t0 lo hi) := fun h => by have := h.2.2.2.1; omega
  go_wp2_with fail
  go_ret2
  exact BetQ.no HR.out (by omega) HB3.out
 have t2 : decide (hi < lo) = false := decide_eq_false hgt
 have ew : IntKind.i64.wrap (hi - lo) = hi - lo := intFits _ (by omega) (by omega)
 by_cases hlg : 3000 < hi - lo
 ·have t3 : decide (3000 < hi - lo) = true := decide_eq_true hlg
  have HR : Hid (¬ BetGood t0 lo hi) := fun h => by have := h.2.2.2.2; omega
  go_wp2_with fail
  go_ret2
  exact BetQ.no HR.out (by omega) HB3.out
 have t3 : decide (3000 < hi - lo) = false := decide_eq_false hlg
 have HOk := Lib.hid HGd.out.1.ok
 obtain ⟨n, hn⟩ : ∃ n : Nat, n = (hi - lo + 1).toNat := ⟨_, rfl⟩
 have hnn : (n : Int) ≤ hi - lo + 1 ∧ hi - lo + 1 ≤ n := by omega
 have hn1 : 1 ≤ n ∧ n ≤ 3001 := by omega
 have HNe := Lib.hid hn
 have HGB : Hid (BetGood t0 lo hi) := ⟨HGd.out.1, HDs.out.1, HDs.out.2, by omega, by omega⟩
 clear hn hgt hlg
 obtain ⟨x0, x1, x2, x3, x4⟩ := fecells HX3.out
 go_wp2_with fail
 refine (HOp.out HOk.out w3 HB3.out).mono ?_
 rintro e w4 ⟨T, rfl, hT, hb4⟩
 have HB4 := Lib.hid (below_then HB3.out hb4)
 have HS4 := Lib.hid (HSt.out HGd.out.1 HDs.out.1 HDs.out.2 n (by omega) (by omega) (by omega) T _ w4 hT)
 clear hT hb4 HOp HSt HX3 x0 x1 x2 x3 x4
 go_wp2_with fail
 refine HS4.out.mono ?_
 rintro e w5 ⟨gs, rfl, hbs, hgs, hb5⟩
 have HB5 := Lib.hid (below_then HB4.out hb5)
 obtain ⟨L, hL, hLc, hLm⟩ := hbs.list
 have HL := Lib.hid (And.intro hLc hLm)
 have hgl : gs < w5.heap.size := by obtain ⟨_, q, _⟩ := hbs; exact q.lt
 clear hb5 HB4 HS4 hLc hLm hbs t2 t3 ew
 go_wp2_with fail
 go_loopw [9, 10, 11, 33] (fun s9 _ _ i wr => ∃ j : Nat, j ≤ n ∧ i = .int .i64 (j : Int) ∧ Hid (wr.ownsRow w5.heap.size 3 1 s9 (daysF t0 lo j).length (ints (daysF t0 lo j))) ∧ Hid (Below w5.heap.size w5 wr)) (fun _ _ _ i _ => n - (intOf i).toNat)
 case atStart => exact ⟨0, by omega, rfl, World.ownsRow_nil _ _ _ _, Below.refl _ _⟩
 case round =>
  obtain ⟨j, hj, rfl, hown, hbr⟩ := hrel
  have hln := daysF_len t0 lo j
  by_cases hlt : j < n
  case neg =>
   have hje : n ≤ j := by omega
   have hjn : j = n := by omega
   obtain ⟨A9, c9, rfl, _⟩ := own_form hown.out
   have HO : Hid (wr.ownsRow w.heap.size 3 1 (.slice A9 (daysF t0 lo j).length c9) (daysF t0 lo j).length (ints (daysF t0 lo j))) := own_lower hown.out HB5.out.size
   have HJ : Hid (j = (hi - lo + 1).toNat) := by unfold Hid; rw [hjn]; exact HNe.out
   have HBw := Lib.hid (below_then HB5.out hbr.out)
   clear hjn hown hbr
   go_wp2_with fail
   go_ret2
   refine ⟨HBw.out, .inr ⟨A9, _, c9, rfl, HGB.out, by rw [HJ.out], ?_⟩⟩
   rw [← HJ.out]
   exact HO.out
  obtain ⟨x, hx⟩ : ∃ x, L[j]? = some x := ⟨_, List.getElem?_eq_getElem (by omega)⟩
  have hcx := (hbr.out.cell (p := ⟨gs, j, none⟩) hgl).trans (HL.out.1 j x hx)
  have hxm : x = true ↔ memF t0 (lo + (j : Int)) := by
   have := HL.out.2 j hlt
   rwa [List.getD_eq_getElem?_getD, hx] at this
  have HXm := Lib.hid hxm
  have ew3 : IntKind.i64.wrap (lo + (j : Int)) = lo + (j : Int) := intFits _ (by omega) (by omega)
  have hszr := hbr.out.size
  clear hx hxm
  cases x with
  | false =>
   have hno : ¬ memF t0 (lo + (j : Int)) := fun h => by have := HXm.out.2 h; cases this
   have HO : Hid (wr.ownsRow w5.heap.size 3 1 u9 (daysF t0 lo (j + 1)).length (ints (daysF t0 lo (j + 1)))) := by unfold Hid; rw [daysF_no hno]; exact hown.out
   clear hno HXm hown
   go_wp2_with fail
   go_roundw
   case rel => exact ⟨j + 1, by omega, by go_num, HO, hbr⟩
   case measure => simp [intOf]; omega
  | true =>
   have HYs := Lib.hid (daysF_yes (HXm.out.1 rfl))
   have hown' := hown.out
   obtain ⟨l9, hl9⟩ : ∃ l9, l9 = (daysF t0 lo j).length := ⟨_, rfl⟩
   go_wp2_with (at_builtin; refine wpList_append_own _ rfl (.tmp 39) (.tmp 43) 67 rfl w5.heap.size 3 i0 (.int .i64 0) 1 8 Tryz.underlying67 hi0 hz0 hz1 hz2 rfl (by decide) u9 (daysF t0 lo j).length _ rfl (hown'.alloc _) ⟨wr.heap.size, 0, none⟩ 1 1 [.int .i64 (lo + (j : Int))] rfl rfl (cell_one_new _ _ _) (one_intS _) ?c3 ?c4 ?c5 ?_)
   case c3 => first | omega | (simp only [maxLen]; omega) | (simp; omega)
   case c4 => first | omega | (simp only [maxLen]; omega) | (simp; omega)
   case c5 => first | omega | (simp only [World.size_alloc]; omega) | (simp; omega)
   intro v' w6 hown6 hgrow _
   have HO : Hid (w6.ownsRow w5.heap.size 3 1 v' (daysF t0 lo (j + 1)).length (ints (daysF t0 lo (j + 1)))) := by
    unfold Hid
    rw [HYs.out, List.length_append]
    have e : ints (daysF t0 lo j ++ [lo + (j : Int)]) = ints (daysF t0 lo j) ++ [.int .i64 (lo + (j : Int))] := by simp [ints]
    rw [e]
    exact hown6
   have HB6 : Hid (Below w5.heap.size w5 w6) := (hbr.out.alloc hszr _).grown hgrow (by simp only [World.size_alloc]; omega) (fun k hk => (own_lt hown' k hk).1)
   clear hown6 hgrow hown' hown hbr HYs HXm hl9
   go_wp2_with fail
   go_roundw
   case rel => exact ⟨j + 1, by omega, by go_num, HO, HB6⟩
   case measure => simp [intOf]; omega
end Go.Proofs.YtabidjmmgnkhkaaGreatDoor
/- Contracts of solve.Tree.First and Next. -/
namespace Go.Proofs.YtabidjmmgnkhkaaGreatDoor
open Go Go.RowKit
attribute [local go_sem] Oper.semAt_some
set_option linter.unusedVariables false
def FirstQ (t : FE) (low high : Int) (w : World) (e : Ending) (w' : World) : Prop := ∃ (d : Int) (is : Bool), e = .returned (.tuple #[.int .i64 d, .bool is]) ∧ (is = true → low ≤ d ∧ d ≤ high ∧ memF t d ∧ ∀ x, low ≤ x → x < d → ¬ memF t x) ∧ (is = false → d = 0 ∧ ∀ x, low ≤ x → x ≤ high → ¬ memF t x) ∧ Below w.heap.size w w'
theorem FirstQ.yes {t : FE} {low high d : Int} {w w' : World} (h : low ≤ d ∧ d ≤ high ∧ memF t d ∧ ∀ x, low ≤ x → x < d → ¬ memF t x) (hb : Below w.heap.size w w') : FirstQ t low high w (.returned (.tuple #[.int .i64 d, .bool true])) w' := ⟨d, true, rfl, fun _ => h, fun h => (by cases h), hb⟩
theorem FirstQ.no {t : FE} {low high : Int} {w w' : World} (h : ∀ x, low ≤ x → x ≤ high → ¬ memF t x) (hb : Below w.heap.size w w') : FirstQ t low high w (.returned (.tuple #[.int .i64 0, .bool false])) w' := ⟨0, false, rfl, fun h => (by cases h), fun _ => ⟨rfl, h⟩, hb⟩
set_option maxHeartbeats 4000000 in
set_option maxRecDepth 100000 in
theorem first_any {p : Nat → Prop} {T : ST} {t : FE} (w : World) (h : StAt w p T t) (hok : FeOk t) (hht : fht t ≤ 10) (low high : Int) (hlo : -4000000 ≤ low) (hhi : high ≤ 4000000) (hlo2 : low ≤ 4000000) (hhi2 : -4000000 ≤ high) :
  Calls Tryz.prog 46 #[.agg (stF T).toArray, .int .i64 low, .int .i64 high] w (FirstQ t low high w) := by
 have HSet0 := (fun W (hW : Below w.heap.size w W) (lo hi : Int) (n : Nat) (h1 : hi = lo + n - 1) (h2 : -4000000 ≤ lo) (h3 : hi ≤ 4000000) (h4 : 1 ≤ n) (h5 : n ≤ 2000) => set_any h hok W lo hi n hW h1 (by omega) (by omega) h4 (by omega))
 unfold SetQ at HSet0
 obtain ⟨k3, a3, b3, nm3, A3, c3, cal3, B3, d3, ks3⟩ := T
 have HSet : Hid (∀ W (hW : Below w.heap.size w W) (lo hi : Int) (n : Nat) (h1 : hi = lo + n - 1) (h2 : -4000000 ≤ lo) (h3 : hi ≤ 4000000) (h4 : 1 ≤ n) (h5 : n ≤ 2000), Calls Tryz.prog 47 #[.agg #[.int .i64 k3, .int .i64 a3, .int .i64 b3, .string nm3, .slice A3 ks3.length c3, .string cal3.nm, .int .i64 cal3.ep, .int .i64 cal3.cy, .slice cal3.A1 cal3.mo.length cal3.c1, .slice cal3.A2 cal3.lp.length cal3.c2, .slice B3 ks3.length d3], .int .i64 lo, .int .i64 hi] W fun e w' => ∃ gs, e = .returned (.slice (some ⟨gs, 0, none⟩) n n) ∧ BoolsAt w' gs lo n (memF t) ∧ W.heap.size ≤ gs ∧ Below W.heap.size W w') := HSet0
 show Calls Tryz.prog 46 #[.agg #[.int .i64 k3, .int .i64 a3, .int .i64 b3, .string nm3, .slice A3 ks3.length c3, .string cal3.nm, .int .i64 cal3.ep, .int .i64 cal3.cy, .slice cal3.A1 cal3.mo.length cal3.c1, .slice cal3.A2 cal3.lp.length cal3.c2, .slice B3 ks3.length d3], .int .i64 low, .int .i64 high] w _
 have HB := Lib.hid (below_alloc1 w (Obj.cells #[.int .i64 k3, .int .i64 a3, .int .i64 b3, .string nm3, .slice A3 ks3.length c3, .string cal3.nm, .int .i64 cal3.ep, .int .i64 cal3.cy, .slice cal3.A1 cal3.mo.length cal3.c1, .slice cal3.A2 cal3.lp.length cal3.c2, .slice B3 ks3.length d3] 105))
 have HX := Lib.hid (Box.new w 105 #[.int .i64 k3, .int .i64 a3, .int .i64 b3, .string nm3, .slice A3 ks3.length c3, .string cal3.nm, .int .i64 cal3.ep, .int .i64 cal3.cy, .slice cal3.A1 cal3.mo.length cal3.c1, .slice cal3.A2 cal3.lp.length cal3.c2, .slice B3 ks3.length d3])
 have HN := Lib.hid (show -4000000 ≤ low ∧ high ≤ 4000000 ∧ low ≤ 4000000 ∧ -4000000 ≤ high from ⟨hlo, hhi, hlo2, hhi2⟩)
 clear h hok hht HSet0
 go_enter Tryz.func46, Tryz.ntmps46
 go_upto_region 1 with fail
 generalize w.alloc (Obj.cells #[.int .i64 k3, .int .i64 a3, .int .i64 b3, .string nm3, .slice A3 ks3.length c3, .string cal3.nm, .int .i64 cal3.ep, .int .i64 cal3.cy, .slice cal3.A1 cal3.mo.length cal3.c1, .slice cal3.A2 cal3.lp.length cal3.c2, .slice B3 ks3.length d3] 105) = W1 at *
 obtain ⟨g, hg⟩ : ∃ g, g = w.heap.size := ⟨_, rfl⟩
 rw [← hg] at HX ⊢
 clear hg
 go_wp2_with fail
 go_loopw [1, 8, 9, 10, 11] (fun s1 s8 _ _ _ wr => ∃ l sz : Int, s1 = .int .i64 l ∧ s8 = .int .i64 sz ∧ low ≤ l ∧ l ≤ 4000001 ∧ 16 ≤ sz ∧ sz ≤ 1024 ∧ Hid (∀ x, low ≤ x → x < l → ¬ memF t x) ∧ Hid (Box wr g 105 #[.int .i64 k3, .int .i64 a3, .int .i64 b3, .string nm3, .slice A3 ks3.length c3, .string cal3.nm, .int .i64 cal3.ep, .int .i64 cal3.cy, .slice cal3.A1 cal3.mo.length cal3.c1, .slice cal3.A2 cal3.lp.length cal3.c2, .slice B3 ks3.length d3]) ∧ Hid (Below w.heap.size w wr)) (fun s1 _ _ _ _ _ => (high + 1 - intOf s1).toNat)
 case atStart => exact ⟨low, 16, rfl, rfl, by omega, by omega, by omega, by omega, fun x h1 h2 => by omega, HX, HB⟩
 case round =>
  obtain ⟨l, sz, rfl, rfl, hl1, hl2, hz1, hz2, hno, hx, hbr⟩ := hrel
  clear HX HB
  have hnn := HN.out
  by_cases hle : l ≤ high
  case neg =>
   have t1 : decide (l ≤ high) = false := decide_eq_false hle
   have t1' : decide (high < l) = true := decide_eq_true (by omega)
   have HR : Hid (∀ x, low ≤ x → x ≤ high → ¬ memF t x) := fun x h1 h2 => hno.out x h1 (by omega)
   clear hle
   go_wp2_with fail
   go_ret2
   exact FirstQ.no HR.out hbr.out
  have t1 : decide (l ≤ high) = true := decide_eq_true hle
  obtain ⟨z0, z1, z2, z3, z4⟩ := tcells0 hx.out
  obtain ⟨z5, z6, z7, z8, z9, z10⟩ := tcells1 hx.out
  have ew1 : IntKind.i64.wrap (l + sz) = l + sz := intFits _ (by omega) (by omega)
  have ew2 : IntKind.i64.wrap (l + sz - 1) = l + sz - 1 := intFits _ (by omega) (by omega)
  go_upto_region 5 with fail
  obtain ⟨en, hen⟩ : ∃ en, en = min high (l + sz - 1) := ⟨_, rfl⟩
  rw [← hen]
  have he1 : en ≤ high ∧ en ≤ l + sz - 1 ∧ l ≤ en := by omega
  obtain ⟨n, hn⟩ : ∃ n : Nat, (n : Int) = en - l + 1 := ⟨(en - l + 1).toNat, by omega⟩
  have HS2 := Lib.hid (HSet.out wr hbr.out l en n (by omega) (by omega) (by omega) (by omega) (by omega))
  have hnb : n ≤ 1024 := by omega
  have HEn := Lib.hid hen
  have hn1 : (n : Int) ≤ en - l + 1 ∧ en - l + 1 ≤ n := by omega
  clear hen hn ew1 ew2
  go_wp2_with fail
  refine HS2.out.mono ?_
  rintro e w2 ⟨gq, rfl, hbs, _, hb2⟩
  have HB2 := Lib.hid (below_then hbr.out hb2)
  have HX2 := Lib.hid (hx.out.below hb2)
  obtain ⟨L, hL, hLc, hLm⟩ := hbs.list
  have HL := Lib.hid (And.intro hLc hLm)
  clear hbs hb2 hLc hLm HS2 hbr hx z0 z1 z2 z3 z4 z5 z6 z7 z8 z9 z10
  go_wp2_with fail
  go_loopw [10, 11, 29] (fun _ _ i wq => ∃ j : Nat, j ≤ n ∧ i = .int .i64 (j : Int) ∧ wq = w2 ∧ Hid (∀ x, l ≤ x → x < l + (j : Int) → ¬ memF t x)) (fun _ _ i _ => n - (intOf i).toNat)
  case atStart => exact ⟨0, by omega, rfl, rfl, fun x h1 h2 => by omega⟩
  case round =>
   obtain ⟨j, hj, rfl, rfl, hnj⟩ := hrel
   by_cases hjt : j < n
   case neg =>
    have hje : n ≤ j := by omega
    have ew3 : IntKind.i64.wrap (en + 1) = en + 1 := intFits _ (by omega) (by omega)
    have ew4 : IntKind.i64.wrap (2 * sz) = 2 * sz := intFits _ (by omega) (by omega)
    have HR : Hid (∀ x, low ≤ x → x < en + 1 → ¬ memF t x) := fun x h1 h2 => by
     by_cases hxl : x < l
     ·exact hno.out x h1 hxl
     ·exact hnj.out x (by omega) (by omega)
    have hm1 : 16 ≤ min (2 * sz) 1024 ∧ min (2 * sz) 1024 ≤ 1024 := by omega
    clear hjt hnj
    go_wp2_with fail
    go_roundw
    case rel => exact ⟨en + 1, min (2 * sz) 1024, rfl, rfl, by omega, by omega, hm1.1, hm1.2, HR, HX2, HB2⟩
    case measure => simp [intOf]; omega
   obtain ⟨x, hx⟩ : ∃ x, L[j]? = some x := ⟨_, List.getElem?_eq_getElem (by omega)⟩
   have hcx := HL.out.1 j x hx
   have hxm : x = true ↔ memF t (l + (j : Int)) := by
    have := HL.out.2 j hjt
    rwa [List.getD_eq_getElem?_getD, hx] at this
   have HXm := Lib.hid hxm
   have ew3 : IntKind.i64.wrap (l + (j : Int)) = l + (j : Int) := intFits _ (by omega) (by omega)
   clear hx hxm
   cases x with
   | false =>
    have HR : Hid (∀ x, l ≤ x → x < l + ((j + 1 : Nat) : Int) → ¬ memF t x) := fun x h1 h2 h3 => by
     by_cases e : x = l + (j : Int)
     ·rw [e] at h3; have := HXm.out.2 h3; cases this
     ·exact hnj.out x h1 (by omega) h3
    clear HXm hnj
    go_wp2_with fail
    go_roundw
    case rel => exact ⟨j + 1, by omega, by go_num, by first | rfl | trivial, HR⟩
    case measure => simp [intOf]; omega
   | true =>
    have HR : Hid (low ≤ l + (j : Int) ∧ l + (j : Int) ≤ high ∧ memF t (l + (j : Int)) ∧ ∀ x, low ≤ x → x < l + (j : Int) → ¬ memF t x) := ⟨by omega, by omega, HXm.out.1 rfl, fun x h1 h2 => by
     by_cases hxl : x < l
     ·exact hno.out x h1 hxl
     ·exact hnj.out x (by omega) h2⟩
    clear HXm hnj
    go_wp2_with fail
    go_ret2
    exact FirstQ.yes HR.out HB2.out
def NextQ (t : FE) (day : Int) (w : World) (e : Ending) (w' : World) : Prop := ∃ (d E : Int), e = .returned (.tuple #[.int .i64 d, .int .i64 E]) ∧ Below w.heap.size w w' ∧ (¬ (FeGood t ∧ DayIn day) → E ≠ 0) ∧ (FeGood t ∧ DayIn day → (E = 0 ∧ day ≤ d ∧ d ≤ day + 3000 ∧ memF t d ∧ ∀ x, day ≤ x → x < d → ¬ memF t x) ∨ (E = 6 ∧ d = 0 ∧ ∀ x, day ≤ x → x ≤ day + 3000 → ¬ memF t x))
set_option maxHeartbeats 2000000 in
set_option maxRecDepth 100000 in
theorem next_any (t : FE) (day : Int) (w : World) (hv : Env w) (hin : FeIn w w.heap.size t) : Calls Tryz.prog 18 #[feV t, .int .i64 day] w (NextQ t day w) := by
 have HV := Lib.hid (fun W (h : Below w.heap.size w W) => hv.next h)
 have HIn := Lib.hid (fun W (h : Below w.heap.size w W) => hin.next h h.size)
 clear hv hin
 obtain ⟨t0, ht0⟩ : ∃ t0, t0 = t := ⟨_, rfl⟩
 obtain ⟨k, a, b, nm, A, c, ks⟩ := t
 have HCk := Lib.hid (fun g1 W (h : Below w.heap.size w W) (hg : g1 < W.heap.size) (hc : W.cell? ⟨g1, 0, none⟩ = some (.int .i64 day)) => check_any (.node k a b nm A c ks) [day] g1 0 1 W (HV.out W h) (HIn.out W h) hg (one_at day g1 W hc) (by simp))
 have HOp := Lib.hid (fun (hok : FeOk (.node k a b nm A c ks)) W (h : Below w.heap.size w W) => open_any W (HV.out W h) (.node k a b nm A c ks) (HIn.out W h) hok W (Below.refl _ _))
 have HSt := Lib.hid (fun (hg : FeGood (.node k a b nm A c ks)) (hd : DayIn day) (hi : Int) (h1 : -4000000 ≤ hi) (h2 : hi ≤ 4000000) (T : ST) (p : Nat → Prop) W (h : StAt W p T (.node k a b nm A c ks)) => first_any W h hg.ok hg.ht day hi hd.1 h2 hd.2 h1)
 rw [← ht0] at HCk HOp HSt ⊢
 have HT0 := Lib.hid ht0
 have hfe : feV t0 = .agg #[.int .i64 k, .int .i64 a, .int .i64 b, .string nm, .slice A ks.length c] := by rw [ht0]; rfl
 rw [hfe] at HCk HOp ⊢
 have HB := Lib.hid (below_alloc2 w (Obj.cells #[.int .i64 k, .int .i64 a, .int .i64 b, .string nm, .slice A ks.length c] 57) (Obj.cells #[.int .i64 day] 3))
 have HX := Lib.hid ((Box.new w 57 #[.int .i64 k, .int .i64 a, .int .i64 b, .string nm, .slice A ks.length c]).alloc (Obj.cells #[.int .i64 day] 3))
 have hY := Box.new (w.alloc (Obj.cells #[.int .i64 k, .int .i64 a, .int .i64 b, .string nm, .slice A ks.length c] 57)) 3 #[.int .i64 day]
 rw [World.size_alloc] at hY
 have HY := Lib.hid hY
 have xb := Box.new w 57 #[.int .i64 k, .int .i64 a, .int .i64 b, .string nm, .slice A ks.length c]
 obtain ⟨x0, x1, x2, x3, x4⟩ := fecells xb
 unfold ChkQ at HCk
 unfold OpenQ at HOp
 unfold FirstQ at HSt
 clear ht0 hfe hY
 go_enter Tryz.func18, Tryz.ntmps18
 go_wp2_with fail
 clear x0 x1 x2 x3 x4 xb
 generalize (w.alloc (Obj.cells #[.int .i64 k, .int .i64 a, .int .i64 b, .string nm, .slice A ks.length c] 57)).alloc (Obj.cells #[.int .i64 day] 3) = W2 at *
 refine (HCk.out _ W2 HB.out HY.out.lt (HY.out.cell 0)).mono ?_
 rintro e w3 ⟨E, rfl, hE, hb3⟩
 have HB3 := Lib.hid (below_then HB.out hb3)
 have HX3 := Lib.hid (HX.out.below hb3)
 have HE := Lib.hid hE
 clear hb3 hE HCk HB HX HY
 by_cases hE0 : E = 0
 case neg =>
  have t1 : (E != 0) = true := by rw [bne_iff_ne]; exact hE0
  have HR : Hid (E ≠ 0 ∧ ¬ (FeGood t0 ∧ DayIn day)) := ⟨hE0, fun h => hE0 (HE.out.2 ⟨h.1, fun d hd => by rw [List.mem_singleton] at hd; rw [hd]; exact h.2⟩)⟩
  clear hE0 HE
  go_wp2_with fail
  go_ret2
  exact ⟨0, E, rfl, HB3.out, fun _ => HR.out.1, fun h => absurd h HR.out.2⟩
 subst hE0
 have HGd := Lib.hid (HE.out.1 rfl)
 have hday := HGd.out.2 day (by simp)
 have HDay := Lib.hid hday
 have HOk := Lib.hid HGd.out.1.ok
 have hd1 : -4000000 ≤ day ∧ day ≤ 4000000 := hday
 have ew : IntKind.i64.wrap (day + 3000) = day + 3000 := intFits _ (by omega) (by omega)
 clear HE hday
 obtain ⟨x0, x1, x2, x3, x4⟩ := fecells HX3.out
 go_wp2_with fail
 refine (HOp.out HOk.out w3 HB3.out).mono ?_
 rintro e w4 ⟨T, rfl, hT, hb4⟩
 have HB4 := Lib.hid (below_then HB3.out hb4)
 have HS4 := Lib.hid (HSt.out HGd.out.1 HDay.out (min (day + 3000) 4000000) (by omega) (by omega) T _ w4 hT)
 have HMb : Hid (∀ x, x ≤ 4000000 → x ≤ day + 3000 → x ≤ min (day + 3000) 4000000) := fun x h1 h2 => by omega
 have HMc : Hid (min (day + 3000) 4000000 ≤ day + 3000) := by unfold Hid; omega
 clear hT hb4 HOp HSt HX3 x0 x1 x2 x3 x4
 go_wp2_with fail
 refine HS4.out.mono ?_
 rintro e w5 ⟨d, is, rfl, hy, hn, hb5⟩
 have HB5 := Lib.hid (below_then HB4.out hb5)
 have HY := Lib.hid hy
 have HN := Lib.hid hn
 clear hb5 HB4 HS4 hy hn
 cases is with
 | true =>
  have HR : Hid (day ≤ d ∧ d ≤ day + 3000 ∧ memF t0 d ∧ ∀ x, day ≤ x → x < d → ¬ memF t0 x) := by
   obtain ⟨q1, q2, q3, q4⟩ := HY.out rfl
   exact ⟨q1, Int.le_trans q2 HMc.out, q3, q4⟩
  clear HY HN
  go_wp2_with fail
  go_ret2
  exact ⟨d, 0, rfl, HB5.out, fun h => absurd ⟨HGd.out.1, HDay.out⟩ h, fun _ => .inl ⟨rfl, HR.out⟩⟩
 | false =>
  have HR : Hid (∀ x, day ≤ x → x ≤ day + 3000 → ¬ memF t0 x) := fun x h1 h2 h3 => (HN.out rfl).2 x h1 (HMb.out x (memF_day h3).2 h2) h3
  clear HY HN
  go_wp2_with fail
  go_ret2
  exact ⟨0, 6, rfl, HB5.out, fun h => absurd ⟨HGd.out.1, HDay.out⟩ h, fun _ => .inr ⟨rfl, rfl, HR.out⟩⟩
end Go.Proofs.YtabidjmmgnkhkaaGreatDoor
/- Contracts of tenth, solves and map3 of the laws. -/
namespace Go.Proofs.YtabidjmmgnkhkaaGreatDoor
open Go Go.RowKit
attribute [local go_sem] Oper.semAt_some
set_option linter.unusedVariables false
set_option linter.unusedSimpArgs false
def fe10 : FE := .node 4 10 0 ⟨#[]⟩ none 0 []
theorem fe10_ok : FeOk fe10 := .mk ⟨by omega, by omega, rfl, fun h => (by cases h), fun h => (by cases h), fun _ => rfl, fun _ => (by show (1 ≤ (10 : Int) ∧ (10 : Int) ≤ 100000) ∧ (0 ≤ (0 : Int) ∧ (0 : Int) ≤ 10 - 1); omega), fun h => (by cases h)⟩ (fun x hx => by cases hx)
theorem fe10_good : FeGood fe10 := ⟨fe10_ok, by simp [fe10, fsz, fszL], by simp [fe10, fht, fhtL], by simp [fe10, fdh, fdhL, isDp]⟩
theorem fe10_in (w : World) (B : Nat) : FeIn w B fe10 := .mk ⟨by decide, by decide⟩ ⟨by decide, by decide⟩ ⟨by decide, by decide⟩ (by decide) (by decide) (.inl rfl) (fun x hx => by cases hx)
theorem fe10_mem (d : Int) : memF fe10 d ↔ DayIn d ∧ d % 10 = 0 := by
 unfold fe10
 rw [memF]
 show DayIn d ∧ (d - 0) % 10 = 0 ↔ _
 rw [Int.sub_zero]
end Go.Proofs.YtabidjmmgnkhkaaGreatDoor
