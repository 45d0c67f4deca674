/- WSolveShifts -/
import Derived.Test.YtjaahiphjekfgaaGreatDoorGSv16
import Derived.Test.YtjaahiphjekfgaaGreatDoorGFeArg
import Derived.Test.YtjaahiphjekfgaaGreatDoorGBack1
import Derived.Test.YtjaahiphjekfgaaGreatDoorGLine1
/- The walk of SolveShifts: it returns true at every input; it writes nothing that was there. -/
namespace Go.Proofs.YtjaahiphjekfgaaGreatDoor.solveShifts
open Go Go.RowKit
attribute [local go_sem] Oper.semAt_some
set_option linter.unusedVariables false

/-- a shifted set -/
def feSh (n : Int) (A : Option Addr) (c : Nat) (t : FE) : FE := .node 7 n 0 ⟨#[]⟩ A c [t]
theorem sh_mem (n : Int) (A : Option Addr) (c : Nat) (t : FE) (day : Int) : memF (feSh n A c t) day ↔ DayIn day ∧ memF t (day - n) := by
  unfold feSh
  rw [memF]
  show DayIn day ∧ memL [t] 0 (day - n) ↔ _
  have e : memL [t] 0 (day - n) ↔ memF t (day - n) := memL_get [t] 0 (day - n) (by simp)
  rw [e]
theorem sh_good {n m : Int} {A B C : Option Addr} {c d e : Nat} {t : FE} (h : FeGood (feSh m B d (feSh n A c t))) (h1 : -400 ≤ n + m) (h2 : n + m ≤ 400) : FeGood (feSh (n + m) C e t) := by
  obtain ⟨ok, sz, ht, dh⟩ := h
  unfold feSh at *
  have h3 : FeOk (.node 7 n 0 ⟨#[]⟩ A c [t]) := by cases ok with | mk n k => exact k _ (by simp)
  have h4 : FeOk t := by cases h3 with | mk n k => exact k _ (by simp)
  simp only [fsz, fszL, fht, fhtL, fdh, fdhL, isDp] at sz ht dh
  refine ⟨.mk ⟨by omega, by omega, rfl, fun h => (by cases h), fun _ => rfl, fun _ => rfl, fun _ => (by show -400 ≤ n + m ∧ n + m ≤ 400; omega), fun h => (by cases h)⟩ (fun x hx => by rw [List.mem_singleton] at hx; rw [hx]; exact h4), ?_, ?_, ?_⟩
  · simp only [fsz, fszL]; omega
  · simp only [fht, fhtL]; omega
  · simp [fdh, fdhL, isDp] at dh ⊢; omega

set_option maxRecDepth 100000 in
theorem shift_any (t : FE) (n : Int) (w : World) (ht : FeIn w w.heap.size t) (hn1 : -9223372036854775808 ≤ n) (hn2 : n ≤ 9223372036854775807) :
    Calls Tryz.prog 13 #[feV t, .int .i64 n] w fun e w' => ∃ (A : Option Addr) (c : Nat), e = .returned (.agg #[.int .i64 7, .int .i64 n, .int .i64 0, .string ⟨#[]⟩, .slice A 1 c]) ∧ FeIn w' w'.heap.size (feSh n A c t) ∧ Below w.heap.size w w' := by
  obtain ⟨t0, ht0⟩ : ∃ t0, t0 = t := ⟨_, rfl⟩
  obtain ⟨k, a, b, nm, A, c, ks⟩ := t
  rw [← ht0] at ht ⊢
  have hft : feV t0 = .agg #[.int .i64 k, .int .i64 a, .int .i64 b, .string nm, .slice A ks.length c] := by rw [ht0]; rfl
  have hct : feF t0 = [.int .i64 k, .int .i64 a, .int .i64 b, .string nm, .slice A ks.length c] := by rw [ht0]; rfl
  rw [hft]
  have HF := Lib.hid hct
  have HIn := Lib.hid ht
  clear ht0 hft hct ht
  go_enter Tryz.func13, Tryz.ntmps13
  have hb := below_alloc3 w (Obj.cells #[.int .i64 k, .int .i64 a, .int .i64 b, .string nm, .slice A ks.length c] 24) (Obj.cells #[.int .i64 7, .int .i64 n, .int .i64 0, .string ⟨#[]⟩, .slice (some ⟨w.heap.size + 1 + 1, 0, none⟩) 1 1] 24) (Obj.cells #[.int .i64 k, .int .i64 a, .int .i64 b, .string nm, .slice A ks.length c] 24)
  have hr := (Box.new (w.alloc (Obj.cells #[.int .i64 k, .int .i64 a, .int .i64 b, .string nm, .slice A ks.length c] 24)) 24 #[.int .i64 7, .int .i64 n, .int .i64 0, .string ⟨#[]⟩, .slice (some ⟨w.heap.size + 1 + 1, 0, none⟩) 1 1]).alloc (Obj.cells #[.int .i64 k, .int .i64 a, .int .i64 b, .string nm, .slice A ks.length c] 24)
  have hk := Box.new ((w.alloc (Obj.cells #[.int .i64 k, .int .i64 a, .int .i64 b, .string nm, .slice A ks.length c] 24)).alloc (Obj.cells #[.int .i64 7, .int .i64 n, .int .i64 0, .string ⟨#[]⟩, .slice (some ⟨w.heap.size + 1 + 1, 0, none⟩) 1 1] 24)) 24 #[.int .i64 k, .int .i64 a, .int .i64 b, .string nm, .slice A ks.length c]
  simp only [World.size_alloc] at hr hk
  have HB := Lib.hid hb
  have HR := Lib.hid hr
  have HK := Lib.hid hk
  clear hb hr hk
  go_wp2_with fail
  generalize ((w.alloc (Obj.cells #[.int .i64 k, .int .i64 a, .int .i64 b, .string nm, .slice A ks.length c] 24)).alloc (Obj.cells #[.int .i64 7, .int .i64 n, .int .i64 0, .string ⟨#[]⟩, .slice (some ⟨w.heap.size + 1 + 1, 0, none⟩) 1 1] 24)).alloc (Obj.cells #[.int .i64 k, .int .i64 a, .int .i64 b, .string nm, .slice A ks.length c] 24) = W3 at *
  obtain ⟨r0, r1, r2, r3, r4⟩ := fecells HR.out
  refine bodyPost_ret (v := .agg #[.int .i64 7, .int .i64 n, .int .i64 0, .string ⟨#[]⟩, .slice (some ⟨w.heap.size + 1 + 1, 0, none⟩) 1 1]) (by simp [results, Tryz.results13, go_sem, r0, r1, r2, r3, r4]) rfl ?_
  refine ⟨some ⟨w.heap.size + 1 + 1, 0, none⟩, 1, rfl, .mk ⟨by omega, by omega⟩ ⟨hn1, hn2⟩ ⟨by omega, by omega⟩ (by decide) (by simp [maxLen]) ?_ ?_, HB.out⟩
  · have h := Row.of_box HK.out
    have e : [t0].flatMap feF = (#[.int .i64 k, .int .i64 a, .int .i64 b, .string nm, .slice A ks.length c] : Array Value).toList := by simp [HF.out]
    rw [e]
    exact h
  · intro x hx
    rw [List.mem_singleton] at hx
    rw [hx]
    exact HIn.out.next HB.out HB.out.size

theorem last_and (x y z : Bool) (h1 : x = z) (h2 : y = z) : (x == z) = true ∧ (y == z) = true := by
  subst h1 h2
  exact ⟨beq_self_eq_true _, beq_self_eq_true _⟩
set_option maxRecDepth 100000 in
set_option maxHeartbeats 4000000 in
theorem core (t : FE) (day0 a0 b0 : Int) (w : World) (hv : Env w) (ht : FeIn w w.heap.size t) :
    Calls Tryz.prog 4 #[feV t, .int .i64 day0, .int .i64 a0, .int .i64 b0] w fun e w' => e = .returned (.bool true) ∧ Below w.heap.size w w' := by
  have HV := Lib.hid (fun W (h : Below w.heap.size w W) => hv.next h)
  have HIt := Lib.hid (fun W (h : Below w.heap.size w W) => ht.next h h.size)
  have HSo := Lib.hid (fun W (h : Below w.heap.size w W) => solves_any W (hv.next h))
  have HCut1 := Lib.hid (fun W => cut_any day0 (-1000000) 2000000 W (by omega) (by omega) (by omega) (by omega))
  have HCut2 := Lib.hid (fun W => cut_any a0 (-200) 401 W (by omega) (by omega) (by omega) (by omega))
  have HCut3 := Lib.hid (fun W => cut_any b0 (-200) 401 W (by omega) (by omega) (by omega) (by omega))
  have q1 := Int.emod_nonneg day0 (show (2000000 : Int) ≠ 0 by omega)
  have q2 := Int.emod_lt_of_pos day0 (show (0 : Int) < 2000000 by omega)
  have q3 := Int.emod_nonneg a0 (show (401 : Int) ≠ 0 by omega)
  have q4 := Int.emod_lt_of_pos a0 (show (0 : Int) < 401 by omega)
  have q5 := Int.emod_nonneg b0 (show (401 : Int) ≠ 0 by omega)
  have q6 := Int.emod_lt_of_pos b0 (show (0 : Int) < 401 by omega)
  obtain ⟨day, hday⟩ : ∃ day, day = -1000000 + day0 % 2000000 := ⟨_, rfl⟩
  obtain ⟨n, hn⟩ : ∃ n, n = -200 + a0 % 401 := ⟨_, rfl⟩
  obtain ⟨m, hm⟩ : ∃ m, m = -200 + b0 % 401 := ⟨_, rfl⟩
  rw [← hday] at HCut1
  rw [← hn] at HCut2
  rw [← hm] at HCut3
  have HDay : Hid (DayIn day ∧ DayIn (day + n) ∧ DayIn (day + n + m)) := ⟨⟨by omega, by omega⟩, ⟨by omega, by omega⟩, by omega, by omega⟩
  have hd1 : -1000000 ≤ day ∧ day ≤ 1000000 := by omega
  have hd2 : -200 ≤ n ∧ n ≤ 200 := by omega
  have hd3 : -200 ≤ m ∧ m ≤ 200 := by omega
  have HHt := Lib.hid (fun W (h : Below w.heap.size w W) => has_any t day W (hv.next h) (ht.next h h.size))
  have HSh := Lib.hid (fun (x : FE) (k : Int) (h1 : -1000 ≤ k) (h2 : k ≤ 1000) W (h : FeIn W W.heap.size x) => shift_any x k W h (by omega) (by omega))
  unfold HasQ at HHt
  clear q1 q2 q3 q4 q5 q6 hday hn hm hv ht
  obtain ⟨t0, ht0⟩ : ∃ t0, t0 = t := ⟨_, rfl⟩
  obtain ⟨k, a, b, nm, A, c, ks⟩ := t
  rw [← ht0] at HHt HIt ⊢
  have hft : feV t0 = .agg #[.int .i64 k, .int .i64 a, .int .i64 b, .string nm, .slice A ks.length c] := by rw [ht0]; rfl
  rw [hft] at HHt ⊢
  have HFv := Lib.hid hft
  have HB := Lib.hid (below_alloc1 w (Obj.cells #[.int .i64 k, .int .i64 a, .int .i64 b, .string nm, .slice A ks.length c] 24))
  have HX := Lib.hid (Box.new w 24 #[.int .i64 k, .int .i64 a, .int .i64 b, .string nm, .slice A ks.length c])
  clear ht0 hft
  go_enter Tryz.func4, Tryz.ntmps4
  go_upto_region 1 with fail
  generalize w.alloc (Obj.cells #[.int .i64 k, .int .i64 a, .int .i64 b, .string nm, .slice A ks.length c] 24) = W2 at *
  obtain ⟨g0, hg0⟩ : ∃ g0, g0 = w.heap.size := ⟨_, rfl⟩
  rw [← hg0] at HX ⊢
  have HG := Lib.hid hg0
  clear hg0
  go_wp2_with fail
  refine (HSo.out W2 HB.out).mono ?_
  rintro e w3 ⟨rfl, hb3⟩
  have HB3 := Lib.hid (below_then HB.out hb3)
  have HX3 := Lib.hid (HX.out.below hb3)
  clear hb3 HB HX HSo
  obtain ⟨x0, x1, x2, x3, x4⟩ := fecells HX3.out
  go_wp2_with (go_at_call 9; first | (refine (HCut1.out _).mono ?_; rintro e w' ⟨rfl, rfl⟩; clear HCut1) | (refine (HCut2.out _).mono ?_; rintro e w' ⟨rfl, rfl⟩; clear HCut2) | (refine (HCut3.out _).mono ?_; rintro e w' ⟨rfl, rfl⟩; clear HCut3))
  refine (HHt.out w3 HB3.out).mono ?_
  rintro e w4 ⟨ta, E, rfl, hE, hm, _, hb4⟩
  have HB4 := Lib.hid (below_then HB3.out hb4)
  have HX4 := Lib.hid (HX3.out.below hb4)
  have HE := Lib.hid (And.intro hE hm)
  clear hb4 hE hm HB3 HX3 HHt x0 x1 x2 x3 x4
  obtain ⟨x0, x1, x2, x3, x4⟩ := fecells HX4.out
  have HS1 := Lib.hid (HSh.out t0 n (by omega) (by omega) w4 (HIt.out _ HB4.out))
  rw [HFv.out] at HS1
  go_wp2_with fail
  refine HS1.out.mono ?_
  rintro e w5 ⟨A5, c5, rfl, hin5, hb5⟩
  have HB5 := Lib.hid (below_then HB4.out hb5)
  have HX5 := Lib.hid (HX4.out.below hb5)
  have HS2 := Lib.hid (HSh.out (feSh n A5 c5 t0) m (by omega) (by omega) w5 hin5)
  clear hb5 hin5 HB4 HX4 HS1 x0 x1 x2 x3 x4
  go_wp2_with fail
  refine HS2.out.mono ?_
  rintro e w6 ⟨A6, c6, rfl, hin6, hb6⟩
  have hb7 := below_alloc1 w6 (Obj.cells #[.int .i64 7, .int .i64 m, .int .i64 0, .string ⟨#[]⟩, .slice A6 1 c6] 24)
  have HB7 := Lib.hid (below_then (below_then HB5.out hb6) hb7)
  have HX7 := Lib.hid ((HX5.out.below hb6).below hb7)
  have HY7 := Lib.hid (Box.new w6 24 #[.int .i64 7, .int .i64 m, .int .i64 0, .string ⟨#[]⟩, .slice A6 1 c6])
  have HIn7 := Lib.hid (hin6.next hb7 hb7.size)
  clear hb6 hb7 hin6 HB5 HX5 HS2
  by_cases hE0 : E = 0
  case neg =>
    have t1 : (E != 0) = true := by rw [bne_iff_ne]; exact hE0
    clear hE0 HE
    go_wp2_with fail
    go_ret
    exact ⟨rfl, HB7.out⟩
  subst hE0
  have HMa := Lib.hid (HE.out.2 rfl)
  clear HE
  go_upto_region 7 with fail
  generalize w6.alloc (Obj.cells #[.int .i64 7, .int .i64 m, .int .i64 0, .string ⟨#[]⟩, .slice A6 1 c6] 24) = w7 at *
  generalize w6.heap.size = g7 at *
  have HCk := Lib.hid (fcheck_any _ w7 (HV.out _ HB7.out) HIn7.out)
  have HHa := Lib.hid (fun W (hW : Below w7.heap.size w7 W) => has_any _ (day + n + m) W (HV.out _ (below_then HB7.out hW)) (HIn7.out.next hW hW.size))
  have HMm := Lib.hid (sh_mem m A6 c6 (feSh n A5 c5 t0) (day + n + m))
  have HMn := Lib.hid (sh_mem n A5 c5 t0 (day + n))
  have HGo := Lib.hid (fun (h : FeGood (feSh m A6 c6 (feSh n A5 c5 t0))) C e => sh_good (C := C) (e := e) h (by omega) (by omega))
  have hfx : feV (feSh m A6 c6 (feSh n A5 c5 t0)) = .agg #[.int .i64 7, .int .i64 m, .int .i64 0, .string ⟨#[]⟩, .slice A6 1 c6] := rfl
  rw [hfx] at HCk HHa
  generalize feSh m A6 c6 (feSh n A5 c5 t0) = XX at *
  unfold FCheckQ at HCk
  unfold HasQ at HHa
  clear hfx HIn7
  obtain ⟨x0, x1, x2, x3, x4⟩ := fecells HY7.out
  go_wp2_with fail
  refine HCk.out.mono ?_
  rintro e w8 ⟨E, rfl, hE, hb8⟩
  have HB8 := Lib.hid (below_then HB7.out hb8)
  have HX8 := Lib.hid (HX7.out.below hb8)
  have HY8 := Lib.hid (HY7.out.below hb8)
  have HH8 := Lib.hid (HHa.out w8 hb8)
  have HE := Lib.hid hE
  clear hb8 hE HB7 HX7 HY7 HCk HHa x0 x1 x2 x3 x4
  by_cases hE0 : E = 0
  case neg =>
    have t3 : (E != 0) = true := by rw [bne_iff_ne]; exact hE0
    clear hE0 HE
    go_wp2_with fail
    go_ret
    exact ⟨rfl, HB8.out⟩
  subst hE0
  have HGd := Lib.hid (HE.out.1 rfl)
  have ew1 : IntKind.i64.wrap (day + n) = day + n := intFits _ (by omega) (by omega)
  have ew2 : IntKind.i64.wrap (day + n + m) = day + n + m := intFits _ (by omega) (by omega)
  have ew3 : IntKind.i64.wrap (n + m) = n + m := intFits _ (by omega) (by omega)
  clear HE
  obtain ⟨x0, x1, x2, x3, x4⟩ := fecells HY8.out
  go_wp2_with fail
  refine HH8.out.mono ?_
  rintro e w9 ⟨tx, F, rfl, hF, hm, _, hb9⟩
  have HB9 := Lib.hid (below_then HB8.out hb9)
  have HX9 := Lib.hid (HX8.out.below hb9)
  have hF0 : F = 0 := hF.2 ⟨HGd.out, HDay.out.2.2⟩
  have htx : tx = ta := by
    rw [Bool.eq_iff_iff, hm hF0, HMm.out, HMa.out, show day + n + m - m = day + n from by omega, HMn.out, show day + n - n = day from by omega]
    exact ⟨fun h => h.2.2, fun h => ⟨HDay.out.2.2, HDay.out.2.1, h⟩⟩
  subst hF0 htx
  clear hb9 hF hm HB8 HX8 HY8 HH8 x0 x1 x2 x3 x4
  obtain ⟨x0, x1, x2, x3, x4⟩ := fecells HX9.out
  have HS3 := Lib.hid (HSh.out t0 (n + m) (by omega) (by omega) w9 (HIt.out _ HB9.out))
  rw [HFv.out] at HS3
  go_wp2_with fail
  refine HS3.out.mono ?_
  rintro e w10 ⟨A9, c9, rfl, hin9, hb10⟩
  have HB10 := Lib.hid (below_then HB9.out hb10)
  have HH10 := Lib.hid (has_any _ (day + n + m) w10 (HV.out _ HB10.out) hin9)
  have HM9 := Lib.hid (sh_mem (n + m) A9 c9 t0 (day + n + m))
  have HG9 := Lib.hid (HGo.out HGd.out A9 c9)
  have hfx : feV (feSh (n + m) A9 c9 t0) = .agg #[.int .i64 7, .int .i64 (n + m), .int .i64 0, .string ⟨#[]⟩, .slice A9 1 c9] := rfl
  rw [hfx] at HH10
  unfold HasQ at HH10
  clear hfx hin9 hb10 HB9 HX9 HS3 x0 x1 x2 x3 x4
  go_wp2_with fail
  refine HH10.out.mono ?_
  rintro e w11 ⟨ty, F, rfl, hF, hm, _, hb11⟩
  have HB11 := Lib.hid (below_then HB10.out hb11)
  have hF0 : F = 0 := hF.2 ⟨HG9.out, HDay.out.2.2⟩
  have hty : ty = tx := by
    rw [Bool.eq_iff_iff, hm hF0, HM9.out, HMa.out, show day + n + m - (n + m) = day from by omega]
    exact ⟨fun h => h.2, fun h => ⟨HDay.out.2.2, h⟩⟩
  subst hF0 hty
  have t5 : (ty == ty) = true := beq_self_eq_true _
  clear hb11 hF hm HB10 HH10
  go_wp2_with fail
  go_ret
  exact ⟨rfl, HB11.out⟩

set_option maxRecDepth 100000 in
theorem walk {H : Type} {enc : TypeId × Value → H} {base : Nat} {W : World} (v0 : Value) (d0 : DataW H) (p0 : List MemPlace) (hv0 : Value.okWide Tryz.prog W .any base 24 v0) (h0 : DataW.Trod enc Tryz.prog W 0 (fun _ => true) true 24 v0 d0 p0)
    (a1 : Int) (w1 : (Lit.int .i64 a1).wf = true) (a2 : Int) (w2 : (Lit.int .i64 a2).wf = true) (a3 : Int) (w3 : (Lit.int .i64 a3).wf = true)
    (hL : laidMet Tryz.prog Rows.solveShiftsRow.laid W) (hsh : W.ShapedOpen Tryz.prog) :
    Calls Tryz.prog 4 #[v0, .int .i64 a1, .int .i64 a2, .int .i64 a3] W fun e w' => e = .returned (.bool true) ∧ Below W.heap.size W w' := by
  obtain ⟨t, rfl, ht⟩ := fe_open hv0 h0
  exact core t a1 a2 a3 W ⟨sgs_of hL.tail.tail.tail.tail.tail.tail.tail, lvs_of hL.tail.tail.tail.tail.tail.tail, Shp.of hsh⟩ ht
end Go.Proofs.YtjaahiphjekfgaaGreatDoor.solveShifts
