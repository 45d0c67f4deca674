/- WEndlessEvery -/
import Derived.Test.YtabkggckafnlkaaGreatDoorGIt1
import Derived.Test.YtabkggckafnlkaaGreatDoorGSv17
import Derived.Test.YtabkggckafnlkaaGreatDoorGFeArgZ
import Derived.Test.YtabkggckafnlkaaGreatDoorGLaid
/- The walk of EndlessEvery: it returns true at every input; it writes nothing that was there. -/
namespace Go.Proofs.YtabkggckafnlkaaGreatDoor.endlessEvery
open Go Go.RowKit Go.Shelf
set_option linter.unusedVariables false

theorem ten_good (A : Option Addr) (c : Nat) : FeGood (.node 4 10 0 ⟨#[]⟩ A c []) := ⟨.mk ⟨by omega, by omega, rfl, fun h => (by cases h), fun h => (by cases h), fun _ => rfl, fun _ => (by show (1 ≤ (10 : Int) ∧ (10 : Int) ≤ 100000) ∧ (0 ≤ (0 : Int) ∧ (0 : Int) ≤ 10 - 1); omega), fun h => (by cases h)⟩ (fun x hx => by cases hx), by simp [fsz, fszL], by simp [fht, fhtL], by simp [fdh, fdhL, isDp]⟩
theorem ten_mem (A : Option Addr) (c : Nat) (d : Int) : memF (.node 4 10 0 ⟨#[]⟩ A c []) d ↔ DayIn d ∧ d % 10 = 0 := by
  rw [memF]
  show DayIn d ∧ (d - 0) % 10 = 0 ↔ _
  rw [Int.sub_zero]
theorem ten_next (A : Option Addr) (c : Nat) (day d : Int) (h1 : 1 ≤ day) (h2 : day ≤ 1000) (h3 : day ≤ d) (h4 : d < day + 10) (h5 : d % 10 = 0) : NextYes (.node 4 10 0 ⟨#[]⟩ A c []) day d := by
  refine ⟨⟨ten_good A c, by unfold DayIn; omega⟩, h3, by omega, (ten_mem A c d).2 ⟨by unfold DayIn; omega, h5⟩, fun x hx1 hx2 hm => ?_⟩
  have := ((ten_mem A c x).1 hm).2
  omega
theorem daysL_step {t : FE} {day d : Int} {xs : List Int} (h : DaysL t day xs) (hy : NextYes t day d) : ∃ r, xs = d :: r ∧ DaysL t (d + 1) r := by
  cases h with
  | stop _ hn => exact absurd hn hy.not
  | more _ d' r hy' hr =>
    obtain rfl := hy.one hy'
    exact ⟨r, rfl, hr⟩
theorem ten_list (A : Option Addr) (c : Nat) (xs : List Int) (h : DaysL (.node 4 10 0 ⟨#[]⟩ A c []) 1 xs) : (evyL 2 0 xs).take 2 = [10, 30] := by
  obtain ⟨r1, rfl, h1⟩ := daysL_step h (ten_next A c 1 10 (by omega) (by omega) (by omega) (by omega) rfl)
  obtain ⟨r2, rfl, h2⟩ := daysL_step h1 (ten_next A c 11 20 (by omega) (by omega) (by omega) (by omega) rfl)
  obtain ⟨r3, rfl, h3⟩ := daysL_step h2 (ten_next A c 21 30 (by omega) (by omega) (by omega) (by omega) rfl)
  simp [evyL]
theorem row_take {w : World} {B : Nat} {A : Option Addr} {l : List Int} (h : Row w B A (ints l)) (q : Nat) : Row w B A (ints (l.take q)) := by
  rcases h with e | ⟨b, o, e, hb, hc⟩
  · left
    have : l = [] := by simpa [ints] using e
    rw [this]
    simp [ints]
  · refine .inr ⟨b, o, e, hb, fun j v hv => hc j v ?_⟩
    unfold ints at hv ⊢
    rw [List.map_take, List.getElem?_take] at hv
    split at hv
    · exact hv
    · cases hv
theorem take_l (k c m gf : Nat) (lbf : Array Value) (hk : 1 ≤ k) (hk2 : k ≤ 100) (hm : m ≤ 19) (xs l : List Int) (hl : xs.take k = l) (W0 : World) (eg : ∀ args w, (callFunc gf args).run Tryz.prog w = .ok (.enter gf args) w)
    (hit : ItAt W0 c m gf lbf xs) (W : World) (hW : Below W0.heap.size W0 W) :
    Calls Tryz.prog 4 #[.func (.func gf) #[] lbf, .int .i64 (k : Int)] W fun e W' => ∃ A cc, e = .returned (.slice A l.length cc) ∧ l.length ≤ cc ∧ cc ≤ maxLen ∧ Row W' W'.heap.size A (ints l) ∧ Below W.heap.size W W' := by
  refine (take_any k c gf lbf hk hk2 xs W0 eg (fun n V hn hV => hit n V (by omega) hV) W hW).mono ?_
  rintro e W' ⟨A, cc, he, ho, hb⟩
  rw [hl] at he ho
  obtain ⟨A', c', e1, q1, q2⟩ := own_form ho
  have e2 : cc = c' := by injection e1
  rw [← e2] at q1 q2
  exact ⟨A, cc, he, q1, q2, Row.of_own ho, hb⟩
theorem DaysI (gd gt : Nat) (w : World) : daysF gd gt = .func (.func 13) #[] #[.pointer (some ⟨gd, 0, none⟩), .pointer (some ⟨gt, 0, none⟩)] := rfl
set_option maxHeartbeats 4000000 in
set_option maxRecDepth 100000 in
theorem core (t : FE) (a b c : Int) (w : World) (hin : FeIn w w.heap.size t) (hsz : FeSz t) (hv : Env w) :
    Calls Tryz.prog 3 #[feV t, .int .i64 a, .int .i64 b, .int .i64 c] w fun e w' => e = .returned (.bool true) ∧ Below w.heap.size w w' := by
  have HC1 := Lib.hid (fun w => cut_any a 1 700000 w (by omega) (by omega) (by omega) (by omega))
  have HC2 := Lib.hid (fun w => cut_any b 1 4 w (by omega) (by omega) (by omega) (by omega))
  have HC3 := Lib.hid (fun w => cut_any c 1 4 w (by omega) (by omega) (by omega) (by omega))
  obtain ⟨fr, hfr, hf1, hf2⟩ : ∃ fr : Int, 1 + a % 700000 = fr ∧ 1 ≤ fr ∧ fr ≤ 700000 := ⟨_, rfl, by omega, by omega⟩
  obtain ⟨n, hn, hn1, hn4⟩ : ∃ n : Nat, 1 + b % 4 = (n : Int) ∧ 1 ≤ n ∧ n ≤ 4 := ⟨(1 + b % 4).toNat, by omega, by omega, by omega⟩
  obtain ⟨m, hm, hm1, hm4⟩ : ∃ m : Nat, 1 + c % 4 = (m : Int) ∧ 1 ≤ m ∧ m ≤ 4 := ⟨(1 + c % 4).toNat, by omega, by omega, by omega⟩
  rw [hfr] at HC1
  rw [hn] at HC2
  rw [hm] at HC3
  clear hfr hn hm
  obtain ⟨t0, ht0⟩ : ∃ t0, t0 = t := ⟨_, rfl⟩
  have HDf := Lib.hid (fun W (h : Below w.heap.size w W) => Days_any t fr W (by omega) (hin.next h h.size) hsz (hv.next h))
  obtain ⟨k, a0, b0, nm, A, c0, ks⟩ := t
  rw [← ht0] at HDf
  have hfe : feV t0 = .agg #[.int .i64 k, .int .i64 a0, .int .i64 b0, .string nm, .slice A ks.length c0] := by rw [ht0]; rfl
  rw [hfe] at HDf
  have HT0 := Lib.hid ht0
  have HX := Lib.hid (Box.new w 24 #[.int .i64 k, .int .i64 a0, .int .i64 b0, .string nm, .slice A ks.length c0])
  have HB := Lib.hid (below_alloc1 w (Obj.cells #[.int .i64 k, .int .i64 a0, .int .i64 b0, .string nm, .slice A ks.length c0] 24))
  have HTn := Lib.hid (fun W => tenth_any W)
  have HD1 : Hid (∀ W, Below w.heap.size w W → Calls Tryz.prog 6 #[.agg #[.int .i64 4, .int .i64 10, .int .i64 0, .string ⟨#[]⟩, .slice none 0 0], .int .i64 1] W fun e w' => ∃ gd gt xs, e = .returned (.func (.func 13) #[] #[.pointer (some ⟨gd, 0, none⟩), .pointer (some ⟨gt, 0, none⟩)]) ∧ (evyL 2 0 xs).take 2 = [10, 30] ∧ ItAt w' 0 3 13 #[.pointer (some ⟨gd, 0, none⟩), .pointer (some ⟨gt, 0, none⟩)] xs ∧ Below W.heap.size W w') := fun W h =>
    (Days_any fe10 1 W (by omega) (fe10_in W _) (.mk (by simp) (fun x hx => by cases hx)) (hv.next h)).mono fun e w' ⟨gd, gt, t', xs, he, hl, hit, hb, k, a, b, nm, A, c, ks, A', c', ks', e1, e2, e3⟩ => by
      refine ⟨gd, gt, xs, he, ?_, hit, hb⟩
      unfold fe10 at e1
      injection e1 with q1 q2 q3 q4 q5 q6 q7
      rw [← q7] at e3
      rw [e2, ← q1, ← q2, ← q3, ← q4, List.eq_nil_of_length_eq_zero e3] at hl
      exact ten_list A' c' xs hl
  clear hin hsz hv ht0 hfe
  show Calls Tryz.prog 3 #[.agg #[.int .i64 k, .int .i64 a0, .int .i64 b0, .string nm, .slice A ks.length c0], .int .i64 a, .int .i64 b, .int .i64 c] w _
  go_enter Tryz.func3, Tryz.ntmps3
  go_upto_region 1 with fail
  generalize w.alloc (Obj.cells #[.int .i64 k, .int .i64 a0, .int .i64 b0, .string nm, .slice A ks.length c0] 24) = W0 at *
  obtain ⟨g, hg⟩ : ∃ g, g = w.heap.size := ⟨_, rfl⟩
  have hgl : g < W0.heap.size := by rw [hg]; exact HX.out.lt
  rw [← hg] at HX ⊢
  clear hg
  go_upto_region 2 with (first
    | (go_at_call 7; refine (HTn.out _).mono ?_; rintro e w1 ⟨rfl, hb1⟩; have HB1 := Lib.hid hb1; clear hb1 HTn)
    | (go_at_call 6; refine (HD1.out _ (below_then HB.out HB1.out)).mono ?_; rintro e w2 ⟨gd, gt, xs, rfl, htn, hit, hb2⟩; have HB2 := Lib.hid (below_then HB1.out hb2); have HI2 := Lib.hid hit; have HTl := Lib.hid htn; clear hit htn hb2 HD1)
    | (go_at_call 5; refine (Every_any 2 0 3 13 _ (by omega) (by omega) xs w2 (enters_of Tryz.func13 (by kernel_rfl) rfl) HI2.out w2 (Below.refl _ _)).mono ?_; rintro e w3 ⟨gn, gs, rfl, hit, hb3⟩; have HB3 := Lib.hid (below_then HB2.out hb3); have HI3 := Lib.hid hit; clear hit hb3 HI2)
    | (go_at_call 4; refine (take_l 2 4 9 11 _ (by omega) (by omega) (by omega) (evyL 2 0 xs) [10, 30] HTl.out w3 (enters_of Tryz.func11 (by kernel_rfl) rfl) HI3.out w3 (Below.refl _ _)).mono ?_; rintro e w4 ⟨A4, c4, rfl, _, _, hr4, hb4⟩; have HB4 := Lib.hid (below_then HB3.out hb4); have HR4 := Lib.hid hr4; clear hr4 hb4 HI3))
  obtain ⟨bA, oA, rfl, _, hcs⟩ := HR4.out.open_ (by simp [ints])
  have c1 := hcs 1 _ rfl
  clear hcs HR4 HTl HB1 HB2 HB3
  have x4 := HX.out.below HB4.out
  have HX4 := Lib.hid x4
  clear x4
  go_upto_region 5 with (go_at_call 8; first | (refine (HC1.out _).mono ?_; rintro e w5 ⟨rfl, rfl⟩; clear HC1) | (refine (HC2.out _).mono ?_; rintro e w5 ⟨rfl, rfl⟩; clear HC2) | (refine (HC3.out _).mono ?_; rintro e w5 ⟨rfl, rfl⟩; clear HC3))
  obtain ⟨z0, z1, z2, z3, z4⟩ := fecells HX4.out
  clear c1
  go_upto_region 6 with (go_at_call 6; refine (HDf.out _ (below_then HB.out HB4.out)).mono ?_; rintro e w5 ⟨gd, gt, t', D, rfl, _, hit, hb5, _⟩; have HB5 := Lib.hid (below_then HB4.out hb5); have HIt := Lib.hid hit; clear hit hb5 HDf)
  unfold daysF
  clear z0 z1 z2 z3 z4 HX4 HB4
  have e16 : IntKind.i64.wrap ((n : Int) * (m : Int)) = ((n * m : Nat) : Int) := by
    have h1 : (n : Int) * (m : Int) = ((n * m : Nat) : Int) := by simp
    have h2 : n * m ≤ 4 * 4 := Nat.mul_le_mul hn4 hm4
    rw [h1]
    exact intFits _ (by omega) (by omega)
  have h16 : n * m ≤ 16 := Nat.le_trans (Nat.mul_le_mul hn4 hm4) (by omega)
  have h1m : 1 ≤ n * m := Nat.mul_pos (by omega) (by omega)
  obtain ⟨L, hL⟩ : ∃ L, L = (evyL m 0 (evyL n 0 D)).take 4 := ⟨_, rfl⟩
  have hL2 : L = (evyL (n * m) 0 D).take 4 := by rw [hL, evyL_two n m hn1 hm1]
  obtain ⟨L3, hL3⟩ : ∃ L3, L3 = D.take 3 := ⟨_, rfl⟩
  obtain ⟨L5, hL5⟩ : ∃ L5, L5 = D.take 5 := ⟨_, rfl⟩
  have hl3 : L3 = L5.take (min 3 L5.length) := by
    rw [hL3, hL5, List.take_take, List.length_take]
    by_cases h : D.length ≤ 3
    · rw [List.take_of_length_le h, List.take_of_length_le (by omega)]
    · congr 1
      omega
  have hl5 : L5.length ≤ 5 := by rw [hL5, List.length_take]; omega
  have hlL : L.length ≤ 4 := by rw [hL, List.length_take]; omega
  have HL := Lib.hid hL.symm
  have HL2 := Lib.hid hL2.symm
  have HL3 := Lib.hid hL3.symm
  have HL5 := Lib.hid hL5.symm
  have Hl3 := Lib.hid hl3
  clear hL hL2 hL3 hL5 hl3
  go_upto_region 7 with (first
    | (go_at_call 5; first
      | (refine (Every_any n 0 3 13 _ hn1 (by omega) D w5 (enters_of Tryz.func13 (by kernel_rfl) rfl) HIt.out w5 (Below.refl _ _)).mono ?_; rintro e w6 ⟨gn6, gs6, rfl, hit, hb6⟩; have HB6 := Lib.hid hb6; have HI6 := Lib.hid hit; clear hit hb6)
      | (refine (Every_any m 4 9 11 _ hm1 (by omega) (evyL n 0 D) w6 (enters_of Tryz.func11 (by kernel_rfl) rfl) HI6.out w6 (Below.refl _ _)).mono ?_; rintro e w7 ⟨gn7, gs7, rfl, hit, hb7⟩; have HB7 := Lib.hid (below_then HB6.out hb7); have HI7 := Lib.hid hit; clear hit hb7 HI6))
    | (go_at_call 4; refine (take_l 4 8 15 11 _ (by omega) (by omega) (by omega) (evyL m 0 (evyL n 0 D)) L HL.out w7 (enters_of Tryz.func11 (by kernel_rfl) rfl) HI7.out w7 (Below.refl _ _)).mono ?_; rintro e w8 ⟨A8, c8, rfl, hc8, hm8, hr8, hb8⟩; have HB8 := Lib.hid (below_then HB7.out hb8); have HR8 := Lib.hid hr8; clear hr8 hb8 HI7))
  clear HB6 HB7
  go_upto_region 8 with (first
    | (go_at_call 5; refine (Every_any (n * m) 0 3 13 _ h1m (by omega) D w5 (enters_of Tryz.func13 (by kernel_rfl) rfl) HIt.out w8 HB8.out).mono ?_; rintro e w9 ⟨gn9, gs9, rfl, hit, hb9⟩; have HR9 := Lib.hid (HR8.out.next hb9); have HB9 := Lib.hid (below_then HB8.out hb9); have HI9 := Lib.hid hit; clear hit hb9)
    | (go_at_call 4; refine (take_l 4 4 9 11 _ (by omega) (by omega) (by omega) (evyL (n * m) 0 D) L HL2.out w9 (enters_of Tryz.func11 (by kernel_rfl) rfl) HI9.out w9 (Below.refl _ _)).mono ?_; rintro e w10 ⟨A10, c10, rfl, hc10, hm10, hr10, hb10⟩; have HB10 := Lib.hid (below_then HB9.out hb10); have HR10 := Lib.hid hr10; have HS10 := Lib.hid (HR9.out.next hb10); clear hr10 hb10 HI9 HR9))
  clear HB8 HB9 HR8
  go_upto_region 9 with (go_at_call 4; refine (take_l 3 0 3 13 _ (by omega) (by omega) (by omega) D L3 HL3.out w5 (enters_of Tryz.func13 (by kernel_rfl) rfl) HIt.out w10 HB10.out).mono ?_; rintro e w11 ⟨A11, c11, rfl, hc11, hm11, hr11, hb11⟩; have HB11 := Lib.hid (below_then HB10.out hb11); have HR11 := Lib.hid (HR10.out.next hb11); have HS11 := Lib.hid (HS10.out.next hb11); have HT11 := Lib.hid hr11; clear hr11 hb11)
  clear HB10 HR10 HS10
  go_upto_region 10 with (go_at_call 4; refine (take_l 5 0 3 13 _ (by omega) (by omega) (by omega) D L5 HL5.out w5 (enters_of Tryz.func13 (by kernel_rfl) rfl) HIt.out w11 HB11.out).mono ?_; rintro e w12 ⟨A12, c12, rfl, hc12, hm12, hr12, hb12⟩; have HB12 := Lib.hid (below_then HB11.out hb12); have HR12 := Lib.hid (HR11.out.next hb12); have HS12 := Lib.hid (HS11.out.next hb12); have HT12 := Lib.hid (HT11.out.next hb12); have HU12 := Lib.hid (row_take hr12 (min 3 L5.length)); clear hr12 hb12)
  clear HB11 HR11 HS11 HT11
  rw [← Hl3.out] at HU12
  have hq : L3.length = min 3 L5.length := by
    have := congrArg List.length Hl3.out
    rw [List.length_take] at this
    omega
  have hqz : min (3 : Int) (L5.length : Int) = (L3.length : Int) := by omega
  have hq2 : L3.length ≤ 3 := by omega
  have hq5 : (L3.length : Int) ≤ (c12 : Int) := by omega
  unfold maxLen at hm8 hm10 hm11 hm12
  have HE1 := Lib.hid (equal_ints A8 A10 c8 c10 L w12 HS12.out HR12.out (by unfold maxLen; omega))
  have HE2 := Lib.hid (fun W (h : Below w12.heap.size w12 W) => equal_ints A11 A12 c11 c12 L3 W (HT12.out.next h) (HU12.out.next h) (by unfold maxLen; omega))
  have HBF := Lib.hid (below_then HB5.out HB12.out)
  clear hq HB12 HR12 HS12 HT12 HU12 HL HL2 HL3 HL5 Hl3 HIt
  go_wp2_with (go_at_call 9; first | (refine HE1.out.mono ?_; rintro e w13 ⟨rfl, hb13⟩; have HB13 := Lib.hid hb13; clear hb13 HE1) | (refine (HE2.out _ HB13.out).mono ?_; rintro e w14 ⟨rfl, hb14⟩; have HB14 := Lib.hid (below_then HB13.out hb14); clear hb14 HE2))
  go_ret
  exact ⟨rfl, below_then HB.out (below_then HBF.out HB14.out)⟩
set_option maxRecDepth 100000 in
theorem walk {H : Type} {enc : TypeId × Value → H} {base : Nat} {W : World} (v0 : Value) (d0 : DataW H) (p0 : List MemPlace) (hv0 : Value.okWide Tryz.prog W .any base 24 v0) (h0 : DataW.Trod enc Tryz.prog W 0 (fun _ => true) true 24 v0 d0 p0)
    (hz : ∀ n ∈ d0.weights Tryz.prog 24, n ≤ reachBytes) (a1 : Int) (w1 : (Lit.int .i64 a1).wf = true) (a2 : Int) (w2 : (Lit.int .i64 a2).wf = true) (a3 : Int) (w3 : (Lit.int .i64 a3).wf = true)
    (hL : laidMet Tryz.prog Rows.endlessEveryRow.laid W) (hsh : W.ShapedOpen Tryz.prog) :
    Calls Tryz.prog 3 #[v0, .int .i64 a1, .int .i64 a2, .int .i64 a3] W fun e w' => e = .returned (.bool true) ∧ Below W.heap.size W w' := by
  obtain ⟨t, rfl, hin, hsz⟩ := fe_openZ hv0 h0 hz
  exact core t a1 a2 a3 W hin hsz ⟨sgs_of hL.tail.tail.tail.tail.tail.tail.tail, lvs_of hL.tail.tail.tail.tail.tail.tail, Shp.of hsh⟩
end Go.Proofs.YtabkggckafnlkaaGreatDoor.endlessEvery
