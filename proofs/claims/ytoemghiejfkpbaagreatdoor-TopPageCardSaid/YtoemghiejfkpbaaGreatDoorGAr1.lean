/- Ar1, Ar2, Ar3, Ar4 -/
import Derived.Deep.DeepCutAuto
import Derived.Test.YtoemghiejfkpbaaGreatDoorGPlainCal
/- Contracts of package arith: length, newYear. -/
namespace Go.Proofs.YtoemghiejfkpbaaGreatDoor
open Go.RowKit
set_option linter.unusedVariables false
theorem prodAbs (a b A B : Int) (h1 : -A ≤ a) (h2 : a ≤ A) (h3 : -B ≤ b) (h4 : b ≤ B) : -(A * B) ≤ a * b ∧ a * b ≤ A * B := by
 have hA : (a.natAbs : Int) ≤ A := by omega
 have hB : (b.natAbs : Int) ≤ B := by omega
 have h : ((a * b).natAbs : Int) ≤ A * B := by
  rw [Int.natAbs_mul, Int.natCast_mul]
  exact Int.mul_le_mul hA hB (by omega) (by omega)
 omega
set_option maxHeartbeats 1000000 in
set_option maxRecDepth 100000 in
theorem alength_any (c : Cal) (y : Int) (m : Nat) (hm : m < c.mo.length) (w : World) (hr : CalIn w c) (ok : CalOk c) (h1 : -100000 ≤ y) (h2 : y ≤ 100000) :
  Calls Tryz.prog 46 #[c.val, .int .i64 y, .int .i64 ((m : Int) + 1)] w fun e w' => e = .returned (.int .i64 (c.mlen y m)) ∧ Below w.heap.size w w' := by
 have HB := Lib.hid (below_alloc1 w (Obj.cells c.cells 43))
 have HX := Lib.hid (Box.new w 43 c.cells)
 have HR := Lib.hid (hr.next HB.out)
 have HL := Lib.hid (fun W (h : CalIn W c) => leap_any c y W h ok.hd.2.2.1 ok.hd.2.2.2 ok.lp h1 h2)
 have hD : Hid (c.mlen y m = if decide (c.pl y ∈ c.lp) = true then (c.mo.getD m mth0).lo else (c.mo.getD m mth0).sh) := rfl
 obtain ⟨b, o, hA, hbl, hcs0⟩ := (hr.next HB.out).r1.open_ (flat_ne mthF_len (by omega) c.mo (by omega))
 have hc0 := flat_cell mthF_len mth0 hcs0 m 0 hm (by omega) _ rfl
 have hc1 := flat_cell mthF_len mth0 hcs0 m 1 hm (by omega) _ rfl
 have hc2 := flat_cell mthF_len mth0 hcs0 m 2 hm (by omega) _ rfl
 rw [Nat.add_zero] at hc0
 have m0 : (0 : Int) ≤ (m : Int) := by omega
 have m1 : (m : Int) < (c.mo.length : Int) := by omega
 have m2 := ok.mo.n2
 have x3 : (w.alloc (Obj.cells c.cells 43)).cell? ⟨w.heap.size, 3, none⟩ = some (.slice (some ⟨b, o, none⟩) c.mo.length c.c1) := by rw [← hA]; exact (ccells HX.out).2.2.2.1
 have e1 : (m : Int) + 1 - 1 = m := by omega
 clear hr ok hcs0 h1 h2 hA
 generalize c.mo.getD m mth0 = z at *
 generalize c.mlen y m = R at *
 generalize decide (c.pl y ∈ c.lp) = lb at *
 go_enter Tryz.func46, Tryz.ntmps46
 go_wp2_with fail
 have HZ := Lib.hid (Box.new (w.alloc (Obj.cells c.cells 43)) 92 #[.string z.nm, .int .i64 z.sh, .int .i64 z.lo])
 rw [World.size_alloc] at HZ
 have HB2 := Lib.hid (HB.out.alloc (by rw [World.size_alloc]; omega) (Obj.cells #[.string z.nm, .int .i64 z.sh, .int .i64 z.lo] 92))
 have HL2 := Lib.hid (HL.out ((w.alloc (Obj.cells c.cells 43)).alloc (Obj.cells #[.string z.nm, .int .i64 z.sh, .int .i64 z.lo] 92)) (HR.out.next (below_alloc1 _ _)))
 refine HL2.out.mono ?_
 rintro e w2 ⟨rfl, hb⟩
 have HZ2 := HZ.out.below hb
 have HB3 := Lib.hid (HB2.out.trans (hb.mono (by simp only [World.size_alloc]; omega)))
 have z1 : w2.cell? ⟨w.heap.size + 1, 1, none⟩ = some (.int .i64 z.sh) := HZ2.cell 1
 have z2 : w2.cell? ⟨w.heap.size + 1, 2, none⟩ = some (.int .i64 z.lo) := HZ2.cell 2
 clear hb HB HX HR HL HZ HB2 HL2 HZ2 x3 hc0 hc1 hc2
 have HD := hD.out
 clear hD
 cases lb
 ·go_wp2_with fail
  go_ret
  exact ⟨by rw [HD]; rfl, HB3.out⟩
 ·go_wp2_with fail
  go_ret
  exact ⟨by rw [HD]; rfl, HB3.out⟩
set_option maxHeartbeats 4000000 in
set_option maxRecDepth 100000 in
theorem newYear_any (c : Cal) (y : Int) (w : World) (hr : CalIn w c) (ok : CalOk c) (h1 : -100000 ≤ y) (h2 : y ≤ 100000) :
  Calls Tryz.prog 75 #[c.val, .int .i64 y] w fun e w' => e = .returned (.int .i64 (c.ny y)) ∧ Below w.heap.size w w' := by
 have HB := Lib.hid (below_alloc1 w (Obj.cells c.cells 43))
 have HX := Lib.hid (Box.new w 43 c.cells)
 have HR := Lib.hid (hr.next HB.out)
 have hc := ok.hd.2.2
 have hep := ok.hd.2.1
 have HLn := Lib.hid (fun W (h : CalIn W c) => clengths_any c W h ok.mo)
 obtain ⟨⟨s1, s2⟩, l1, l2⟩ := Cal.sums_pos ok
 have hn := ok.lp.len (by omega)
 have HLE := Lib.hid ok.lp.le
 have HDn := Lib.hid (fun W => down_pos (y - 1) c.cy W (by omega) (by omega) (by omega) (by omega))
 have HMd := Lib.hid (fun W => mod_pos (y - 1) c.cy W (by omega) (by omega) (by omega) (by omega))
 have r0 := Int.emod_nonneg (y - 1) (show c.cy ≠ 0 by omega)
 have r1 := Int.emod_lt_of_pos (y - 1) (show 0 < c.cy by omega)
 have q0 : -100002 ≤ (y - 1) / c.cy ∧ (y - 1) / c.cy ≤ 100002 := by
  have e := Int.mul_ediv_add_emod (y - 1) c.cy
  have a1 : (-100002) ≤ (y - 1) / c.cy := (Int.le_ediv_iff_mul_le (show 0 < c.cy by omega)).2 (by omega)
  have a2 : (y - 1) / c.cy < 100002 := (Int.ediv_lt_iff_lt_mul (show 0 < c.cy by omega)).2 (by omega)
  omega
 have hk := cnt_le ((y - 1) % c.cy + 1) c.lp
 have HSI := Lib.hid (fun W (h : CalIn W c) => searchInts_any c.A2 c.c2 c.lp ((y - 1) % c.cy + 1) W h.r2 (by omega) HLE.out)
 have hD : Hid (c.ny y = c.ep + (y - 1) / c.cy * (c.cy * sumS c.mo + c.lp.length * (sumL c.mo - sumS c.mo)) + (y - 1) % c.cy * sumS c.mo + cntL c.lp ((y - 1) % c.cy + 1) * (sumL c.mo - sumS c.mo)) := rfl
 have hy1 : -100001 ≤ y - 1 := by omega
 have hy2 : y - 1 ≤ 99999 := by omega
 clear hr ok
 generalize c.ny y = R at *
 generalize cntL c.lp ((y - 1) % c.cy + 1) = k at *
 generalize (y - 1) / c.cy = q at *
 generalize (y - 1) % c.cy = r at *
 generalize sumS c.mo = S at *
 generalize sumL c.mo = L at *
 have p1 := prod_in c.cy S 3000 8000 (by omega) (by omega) (by omega) (by omega)
 have p2 := prodAbs (c.lp.length : Int) (L - S) 3000 8000 (by omega) (by omega) (by omega) (by omega)
 have p4 := prodAbs q (c.cy * S + (c.lp.length : Int) * (L - S)) 100002 48000000 (by omega) (by omega) (by omega) (by omega)
 have p6 := prod_in r S 3000 8000 (by omega) (by omega) (by omega) (by omega)
 have p8 := prodAbs (k : Int) (L - S) 3000 8000 (by omega) (by omega) (by omega) (by omega)
 have ew : IntKind.i64.wrap (y - 1) = y - 1 := intFits _ (by omega) (by omega)
 go_enter Tryz.func75, Tryz.ntmps75
 go_wp2_with fail
 generalize w.alloc (Obj.cells c.cells 43) = W0 at *
 generalize hg : w.heap.size = g at *
 have HG := Lib.hid hg
 clear hg
 refine (HLn.out _ HR.out).mono ?_
 rintro e w1 ⟨rfl, hb⟩
 have HX1 := Lib.hid (HX.out.below hb)
 have HB1 := Lib.hid (show Below g w w1 from HB.out.trans (hb.mono (by have := HX.out.lt; omega)))
 have HR1 := Lib.hid (HR.out.next hb)
 clear hb HX HB HR HLn
 obtain ⟨x0, x1, x2, x3, x4⟩ := ccells HX1.out
 have xl := HX1.out.lt
 go_wp2_with fail
 go_quiet (first
  | ((go_at_call 54; exact Calls.quiet_of (HMd.out _)))
  | ((go_at_call 118; exact Calls.quiet_of (HDn.out _))))
 have HX2 := Lib.hid (HX1.out.drewN nq)
 have HB2 := Lib.hid (below_drew HB1.out nq)
 have HR2 : Hid (CalIn (w1.drewN nq) c) := ⟨HR1.out.r1, HR1.out.r2⟩
 clear x0 x1 x2 x3 x4 xl HX1 HB1 HR1 HMd HDn
 generalize w1.drewN nq = w2 at *
 obtain ⟨x0, x1, x2, x3, x4⟩ := ccells HX2.out
 have xl := HX2.out.lt
 have HS2 := Lib.hid (HSI.out w2 HR2.out)
 clear HSI
 go_wp2_with fail
 refine HS2.out.mono ?_
 rintro e w3 ⟨rfl, hb⟩
 have HX3 := Lib.hid (HX2.out.below hb)
 have HB3 := Lib.hid (HB2.out.trans (hb.mono (by omega)))
 clear hb x0 x1 x2 x3 x4 xl HS2 HX2 HB2 HR2 HLE
 obtain ⟨x0, x1, x2, x3, x4⟩ := ccells HX3.out
 have xl := HX3.out.lt
 go_wp2_with fail
 go_ret
 exact ⟨by rw [hD.out]; rfl, by rw [HG.out]; exact HB3.out⟩
end Go.Proofs.YtoemghiejfkpbaaGreatDoor
/- Contract of arith.fromDay. -/
namespace Go.Proofs.YtoemghiejfkpbaaGreatDoor
open Go.RowKit
set_option linter.unusedVariables false
theorem isYear_any (n : Int) (w : World) : Calls Tryz.prog 73 #[.int .i64 n] w fun e w' => e = .returned (.bool (decide (-10000 ≤ n ∧ n ≤ 10000))) ∧ w = w' := by
 by_cases h1 : -10000 ≤ n
 ·by_cases h2 : n ≤ 10000
  ·rw [decide_eq_true ⟨h1, h2⟩]; exact aisYear_any n w h1 h2
  ·rw [decide_eq_false (fun h => h2 h.2)]
   have t1 : decide (-10000 ≤ n) = true := decide_eq_true h1
   have t2 : decide (n ≤ 10000) = false := decide_eq_false h2
   go_enter Tryz.func73, Tryz.ntmps73
   go_wp2_with fail
   go_ret
   exact ⟨rfl, rfl⟩
 ·rw [decide_eq_false (fun h => h1 h.1)]
  have t1 : decide (-10000 ≤ n) = false := decide_eq_false h1
  go_enter Tryz.func73, Tryz.ntmps73
  go_wp2_with fail
  go_ret
  exact ⟨rfl, rfl⟩
theorem isDay_any (n : Int) (w : World) : Calls Tryz.prog 19 #[.int .i64 n] w fun e w' => e = .returned (.bool (decide (-4000000 ≤ n ∧ n ≤ 4000000))) ∧ w = w' := by
 by_cases h1 : -4000000 ≤ n
 ·by_cases h2 : n ≤ 4000000
  ·rw [decide_eq_true ⟨h1, h2⟩]
   have t1 : decide (-4000000 ≤ n) = true := decide_eq_true h1
   have t2 : decide (n ≤ 4000000) = true := decide_eq_true h2
   go_enter Tryz.func19, Tryz.ntmps19
   go_wp2_with fail
   go_ret
   exact ⟨rfl, rfl⟩
  ·rw [decide_eq_false (fun h => h2 h.2)]
   have t1 : decide (-4000000 ≤ n) = true := decide_eq_true h1
   have t2 : decide (n ≤ 4000000) = false := decide_eq_false h2
   go_enter Tryz.func19, Tryz.ntmps19
   go_wp2_with fail
   go_ret
   exact ⟨rfl, rfl⟩
 ·rw [decide_eq_false (fun h => h1 h.1)]
  have t1 : decide (-4000000 ≤ n) = false := decide_eq_false h1
  go_enter Tryz.func19, Tryz.ntmps19
  go_wp2_with fail
  go_ret
  exact ⟨rfl, rfl⟩
set_option maxHeartbeats 1000000 in
set_option maxRecDepth 100000 in
theorem fromDay_one (c : Cal) (gc gl gd : Nat) (low day : Int) (i : Nat) (W : World) (hx : Box W gc 43 c.cells) (hl : Box W gl 3 #[.int .i64 low]) (hd : Box W gd 3 #[.int .i64 day]) (hr : CalIn W c) (ok : CalOk c) (h1 : -10001 ≤ low) (h2 : low ≤ 0) (hi : i ≤ 20004) :
  Calls Tryz.prog 120 #[.int .i64 (i : Int), .pointer (some ⟨gc, 0, none⟩), .pointer (some ⟨gl, 0, none⟩), .pointer (some ⟨gd, 0, none⟩)] W fun e w' => e = .returned (.bool (decide (day < c.ny (low + (i : Int))))) ∧ Below W.heap.size W w' := by
 have HN := Lib.hid (fun w (hb : Below W.heap.size W w) => newYear_any c (low + (i : Int)) w (hr.next hb) ok (by omega) (by omega))
 have z0 : ∀ w, Below W.heap.size W w → w.cell? ⟨gc, 0, none⟩ = some (.string c.nm) := fun w hb => (hx.below hb).cell 0
 have z1 : ∀ w, Below W.heap.size W w → w.cell? ⟨gc, 1, none⟩ = some (.int .i64 c.ep) := fun w hb => (hx.below hb).cell 1
 have z2 : ∀ w, Below W.heap.size W w → w.cell? ⟨gc, 2, none⟩ = some (.int .i64 c.cy) := fun w hb => (hx.below hb).cell 2
 have z3 : ∀ w, Below W.heap.size W w → w.cell? ⟨gc, 3, none⟩ = some (.slice c.A1 c.mo.length c.c1) := fun w hb => (hx.below hb).cell 3
 have z4 : ∀ w, Below W.heap.size W w → w.cell? ⟨gc, 4, none⟩ = some (.slice c.A2 c.lp.length c.c2) := fun w hb => (hx.below hb).cell 4
 have y0 : ∀ w, Below W.heap.size W w → w.cell? ⟨gl, 0, none⟩ = some (.int .i64 low) := fun w hb => (hl.below hb).cell 0
 have y1 : ∀ w, Below W.heap.size W w → w.cell? ⟨gd, 0, none⟩ = some (.int .i64 day) := fun w hb => (hd.below hb).cell 0
 have ew : IntKind.i64.wrap (low + (i : Int)) = low + (i : Int) := intFits _ (by omega) (by omega)
 clear hx hl hd hr ok
 generalize c.ny (low + (i : Int)) = R at *
 go_enter Tryz.func120, Tryz.ntmps120
 go_upto_region 1 with fail
 refine flow_begin (tellOf [(4, det (.int .i64 R))]) (by kernel_rfl) (by kernel_rfl) ?_
 repeat (first | (refine flow_val (v := ?_) (by rfl) (by rfl) (fun w hb => ?_) ?_; rotate_left; (· ((go_simp) <;> ((repeat' apply And.intro) <;> with_reducible rfl))); try simp only [Act.put, List.setIfInBounds_toArray, List.set_cons_zero, List.set_cons_succ, Nat.reduceAdd]) | (refine flow_skip (by rfl) (by rfl) ?_; try simp only [Act.put, List.setIfInBounds_toArray, List.set_cons_zero, List.set_cons_succ, Nat.reduceAdd]))
 refine flow_call (f := ?_) (args := ?_) [] (by kernel_rfl) (by rfl) (by rfl) (fun w hb => ?_) (fun w hb hu => ?_) ?_; rotate_left 2; (· ((go_simp) <;> ((repeat' apply And.intro) <;> with_reducible rfl)))
 ·exact HN.out w hb
 try simp only [Act.put, List.setIfInBounds_toArray, List.set_cons_zero, List.set_cons_succ, Nat.reduceAdd]
 repeat (first | (refine flow_val (v := ?_) (by rfl) (by rfl) (fun w hb => ?_) ?_; rotate_left; (· ((go_simp) <;> ((repeat' apply And.intro) <;> with_reducible rfl))); try simp only [Act.put, List.setIfInBounds_toArray, List.set_cons_zero, List.set_cons_succ, Nat.reduceAdd]) | (refine flow_skip (by rfl) (by rfl) ?_; try simp only [Act.put, List.setIfInBounds_toArray, List.set_cons_zero, List.set_cons_succ, Nat.reduceAdd]))
 refine flow_nil fun w1 hb1 _ => ?_
 clear z0 z1 z2 z3 z4 y0 y1
 go_wp2_with fail
 go_ret
 exact ⟨rfl, hb1⟩
theorem first_of (p : Nat → Bool) : ∀ n, (∀ a b, a ≤ b → b < n → p a = true → p b = true) → ∃ K, K ≤ n ∧ (∀ t, t < K → p t = false) ∧ (∀ t, K ≤ t → t < n → p t = true) := by
 intro n
 induction n with
 | zero => intro _; exact ⟨0, Nat.le_refl _, fun t h => by omega, fun t _ h => by omega⟩
 | succ n ih =>
  intro hm
  obtain ⟨K, h1, h2, h3⟩ := ih fun a b hab hb h => hm a b hab (by omega) h
  by_cases hK : K < n
  ·exact ⟨K, by omega, h2, fun t ht hn => hm K t ht hn (h3 K (Nat.le_refl _) hK)⟩
  ·obtain rfl : K = n := by omega
   cases hp : p K with
   | true => exact ⟨K, by omega, h2, fun t ht hn => by rw [show t = K from by omega]; exact hp⟩
   | false => exact ⟨K + 1, by omega, fun t ht => by
     by_cases e : t = K
     ·rw [e]; exact hp
     ·exact h2 t (by omega), fun t h1 h2 => by omega⟩
def IsFD (c : Cal) (day : Int) (w : World) (e : Ending) (w' : World) : Prop :=
 Below w.heap.size w w' ∧ ((∃ (y : Int) (m : Nat) (d : Int), -10000 ≤ y ∧ y ≤ 10000 ∧ IsOn c y m d day ∧ e = .returned (.tuple #[.agg #[.int .i64 y, .int .i64 ((m : Int) + 1), .int .i64 (d + 1)], .int .i64 0])) ∨
  (¬ (-4000000 ≤ day ∧ day ≤ 4000000 ∧ c.ny (-10000) ≤ day ∧ day < c.ny 10001) ∧ e = .returned (.tuple #[.agg #[.int .i64 0, .int .i64 0, .int .i64 0], .int .i64 3])))
set_option maxHeartbeats 4000000 in
set_option maxRecDepth 100000 in
theorem fromDay_any (c : Cal) (day : Int) (w : World) (hr : CalIn w c) (ok : CalOk c) :
  Calls Tryz.prog 76 #[c.val, .int .i64 day] w (IsFD c day w) := by
 have hW : ((w.alloc (Obj.cells c.cells 43)).alloc (Obj.cells #[.int .i64 day] 3)).heap.size = w.heap.size + 2 := by simp
 have hW' : (w.alloc (Obj.cells c.cells 43)).heap.size = w.heap.size + 1 := by simp
 have hm1 := ((hr.next (below_alloc1 w (Obj.cells c.cells 43))).next (below_alloc1 _ (Obj.cells #[.int .i64 day] 3))).next (below_alloc1 _ (Obj.cells #[.int .i64 0, .int .i64 0, .int .i64 0] 48))
 have hB1 := below_alloc3 w (Obj.cells c.cells 43) (Obj.cells #[.int .i64 day] 3) (Obj.cells #[.int .i64 0, .int .i64 0, .int .i64 0] 48)
 have hx1 := ((Box.new w 43 c.cells).alloc (Obj.cells #[.int .i64 day] 3)).alloc (Obj.cells #[.int .i64 0, .int .i64 0, .int .i64 0] 48)
 have hd1 := (Box.new (w.alloc (Obj.cells c.cells 43)) 3 #[.int .i64 day]).alloc (Obj.cells #[.int .i64 0, .int .i64 0, .int .i64 0] 48)
 have hr1 := Box.new ((w.alloc (Obj.cells c.cells 43)).alloc (Obj.cells #[.int .i64 day] 3)) 48 #[.int .i64 0, .int .i64 0, .int .i64 0]
 rw [hW'] at hd1
 rw [hW] at hr1
 clear hW hW' hr
 have OK := Lib.hid ok
 clear ok
 go_enter Tryz.func76, Tryz.ntmps76
 go_wp2_with fail
 generalize ((w.alloc (Obj.cells c.cells 43)).alloc (Obj.cells #[.int .i64 day] 3)).alloc (Obj.cells #[.int .i64 0, .int .i64 0, .int .i64 0] 48) = W1 at *
 generalize hg : w.heap.size = g at *
 have HG := Lib.hid hg
 clear hg
 have HB1 := Lib.hid hB1
 clear hB1
 refine (isDay_any day _).mono ?_
 rintro e w' ⟨rfl, rfl⟩
 have y0 : W1.cell? ⟨g + 1, 0, none⟩ = some (.int .i64 day) := hd1.cell 0
 have r0 : W1.cell? ⟨g + 1 + 1, 0, none⟩ = some (.int .i64 0) := hr1.cell 0
 have r1 : W1.cell? ⟨g + 1 + 1, 1, none⟩ = some (.int .i64 0) := hr1.cell 1
 have r2 : W1.cell? ⟨g + 1 + 1, 2, none⟩ = some (.int .i64 0) := hr1.cell 2
 have rf : ∀ i, W1.frozen? ⟨g + 1 + 1, i, none⟩ = false := fun i => hr1.free i
 clear y0
 by_cases hday : -4000000 ≤ day ∧ day ≤ 4000000
 case neg =>
  rw [decide_eq_false hday]
  go_wp2_with fail
  refine bodyPost_ret (v := .tuple #[.agg #[.int .i64 0, .int .i64 0, .int .i64 0], .int .i64 3]) (by simp [results, Tryz.results76, go_sem, r0, r1, r2]) rfl ?_
  exact ⟨by rw [HG.out]; exact ((HB1.out.setCell (p := ⟨g + 1 + 1, 0, none⟩) (show g ≤ g + 1 + 1 by omega) _).setCell (p := ⟨g + 1 + 1, 1, none⟩) (show g ≤ g + 1 + 1 by omega) _).setCell (p := ⟨g + 1 + 1, 2, none⟩) (show g ≤ g + 1 + 1 by omega) _, .inr ⟨fun h => hday ⟨h.1, h.2.1⟩, rfl⟩⟩
 rw [decide_eq_true hday]
 have hgl := hr1.lt
 clear r0 r1 r2 rf
 go_upto_region 4 with fail
 have HX2 := Lib.hid (hx1.alloc (Obj.cells #[.int .i64 (-10001)] 3))
 have HD2 := Lib.hid (hd1.alloc (Obj.cells #[.int .i64 (-10001)] 3))
 have HR2 := Lib.hid (hr1.alloc (Obj.cells #[.int .i64 (-10001)] 3))
 have HM2 := Lib.hid (hm1.next (below_alloc1 W1 (Obj.cells #[.int .i64 (-10001)] 3)))
 have HB2 := Lib.hid (HB1.out.alloc (by omega) (Obj.cells #[.int .i64 (-10001)] 3))
 have HL2 := Lib.hid (Box.new W1 3 #[.int .i64 (-10001)])
 clear hx1 hd1 hr1 hm1 HB1
 generalize W1.alloc (Obj.cells #[.int .i64 (-10001)] 3) = W2 at *
 generalize W1.heap.size = gl at *
 obtain ⟨K, hK, hK1, hK2⟩ := first_of (fun i => decide (day < c.ny (-10001 + (i : Int)))) 20004 fun a b hab hb h => by
  have h' : day < c.ny (-10001 + (a : Int)) := of_decide_eq_true h
  have := Cal.ny_le OK.out (show -10001 + (a : Int) ≤ -10001 + (b : Int) by omega)
  exact decide_eq_true (by omega)
 have HSe : Hid (∀ W, Below W2.heap.size W2 W → Calls Tryz.prog 119 #[.int .i64 20004, .func (.func 120) #[] #[.pointer (some ⟨g, 0, none⟩), .pointer (some ⟨gl, 0, none⟩), .pointer (some ⟨g + 1, 0, none⟩)]] W
   fun e w' => e = .returned (.int .i64 (K : Int)) ∧ Below W.heap.size W w') := fun W hW => by
  refine (search_any 120 _ 20004 (fun i => decide (day < c.ny (-10001 + (i : Int)))) (fun W' => Below W.heap.size W W') W (Below.refl _ _) (by omega) (fun _ _ => rfl) (fun W' i hW' hi => ?_) (fun a b hab hb h => ?_)).mono ?_
  ·have hWW := below_then hW hW'
   exact (fromDay_one c g gl (g + 1) (-10001) day i W' (HX2.out.below hWW) (HL2.out.below hWW) (HD2.out.below hWW) (HM2.out.next hWW) OK.out (by omega) (by omega) (by omega)).mono fun e w' ⟨he, hb⟩ => ⟨he, below_then hW' hb⟩
  ·have h' : day < c.ny (-10001 + (a : Int)) := of_decide_eq_true h
   have := Cal.ny_le OK.out (show -10001 + (a : Int) ≤ -10001 + (b : Int) by omega)
   exact decide_eq_true (by omega)
  ·rintro e w' ⟨k, rfl, hk, h1, h2, hb⟩
   have : k = K := by
    by_cases h3 : k < K
    ·have a := hK1 k h3
     have b : decide (day < c.ny (-10001 + (k : Int))) = true := h2 k (Nat.le_refl _) (by omega)
     rw [a] at b; cases b
    ·by_cases h4 : K < k
     ·have a : decide (day < c.ny (-10001 + (K : Int))) = false := h1 K h4
      have b := hK2 K (Nat.le_refl _) (by omega)
      rw [a] at b; cases b
     ·omega
   subst this
   exact ⟨rfl, hb⟩
 have z : ∀ w, Below W2.heap.size W2 w → w.cell? ⟨gl, 0, none⟩ = some (.int .i64 (-10001)) := fun w hb => (HL2.out.below hb).cell 0
 have e1 : IntKind.i64.wrap (-10001 + (K : Int)) = -10001 + (K : Int) := intFits _ (by omega) (by omega)
 have e2 : IntKind.i64.wrap (-10001 + (K : Int) - 1) = -10001 + (K : Int) - 1 := intFits _ (by omega) (by omega)
 refine flow_begin (tellOf [(2, det (.int .i64 (K : Int)))]) (by kernel_rfl) (by kernel_rfl) ?_
 repeat (first | (refine flow_val (v := ?_) (by rfl) (by rfl) (fun w hb => ?_) ?_; rotate_left; (· ((go_simp) <;> ((repeat' apply And.intro) <;> with_reducible rfl))); try simp only [Act.put, List.setIfInBounds_toArray, List.set_cons_zero, List.set_cons_succ, Nat.reduceAdd]) | (refine flow_skip (by rfl) (by rfl) ?_; try simp only [Act.put, List.setIfInBounds_toArray, List.set_cons_zero, List.set_cons_succ, Nat.reduceAdd]))
 refine flow_call (f := ?_) (args := ?_) [] (by kernel_rfl) (by rfl) (by rfl) (fun w hb => ?_) (fun w hb hu => ?_) ?_; rotate_left 2; (· ((go_simp) <;> ((repeat' apply And.intro) <;> with_reducible rfl)))
 ·exact HSe.out w hb
 try simp only [Act.put, List.setIfInBounds_toArray, List.set_cons_zero, List.set_cons_succ, Nat.reduceAdd]
 repeat (first | (refine flow_val (v := ?_) (by rfl) (by rfl) (fun w hb => ?_) ?_; rotate_left; (· ((go_simp) <;> ((repeat' apply And.intro) <;> with_reducible rfl))); try simp only [Act.put, List.setIfInBounds_toArray, List.set_cons_zero, List.set_cons_succ, Nat.reduceAdd]) | (refine flow_skip (by rfl) (by rfl) ?_; try simp only [Act.put, List.setIfInBounds_toArray, List.set_cons_zero, List.set_cons_succ, Nat.reduceAdd]))
 refine flow_nil fun w3 hb3 _ => ?_
 have HX3 := Lib.hid (HX2.out.below hb3)
 have HD3 := Lib.hid (HD2.out.below hb3)
 have HR3 := Lib.hid (HR2.out.below hb3)
 have HM3 := Lib.hid (HM2.out.next hb3)
 have HB3 := Lib.hid (HB2.out.trans (hb3.mono (by have := HX2.out.lt; omega)))
 have hlow : Hid (K ≤ 1 → day < c.ny (-10000)) := fun h => by
  have h1 : day < c.ny (-10001 + ((1 : Nat) : Int)) := of_decide_eq_true (hK2 1 h (by omega))
  exact h1
 have hhigh : Hid (20003 ≤ K → c.ny 10001 ≤ day) := fun h => by
  have h1 : ¬ day < c.ny (-10001 + ((20002 : Nat) : Int)) := of_decide_eq_false (hK1 20002 (by omega))
  rw [show (-10001 : Int) + ((20002 : Nat) : Int) = 10001 from rfl] at h1
  omega
 have here1 : Hid (2 ≤ K → c.ny (-10001 + (K : Int) - 1) ≤ day) := fun h => by
  have h1 : ¬ day < c.ny (-10001 + ((K - 1 : Nat) : Int)) := of_decide_eq_false (hK1 (K - 1) (by omega))
  rw [show -10001 + ((K - 1 : Nat) : Int) = -10001 + (K : Int) - 1 from by omega] at h1
  omega
 have here2 : Hid (K < 20004 → day < c.ny (-10001 + (K : Int) - 1 + 1)) := fun h => by
  have h1 : day < c.ny (-10001 + (K : Int)) := of_decide_eq_true (hK2 K (Nat.le_refl _) h)
  rw [show -10001 + (K : Int) - 1 + 1 = -10001 + (K : Int) from by omega]
  exact h1
 clear hb3 HX2 HD2 HR2 HM2 HB2 HL2 HSe z e1 e2 hK1 hK2
 obtain ⟨Y, hY⟩ : ∃ Y : Int, Y = -10001 + (K : Int) - 1 := ⟨_, rfl⟩
 rw [← hY] at here1 here2
 rw [← hY]
 have HY := Lib.hid hY
 clear hY
 go_wp2_with fail
 refine (isYear_any Y _).mono ?_
 rintro e w' ⟨rfl, rfl⟩
 have r0 : w3.cell? ⟨g + 1 + 1, 0, none⟩ = some (.int .i64 0) := HR3.out.cell 0
 have r1 : w3.cell? ⟨g + 1 + 1, 1, none⟩ = some (.int .i64 0) := HR3.out.cell 1
 have r2 : w3.cell? ⟨g + 1 + 1, 2, none⟩ = some (.int .i64 0) := HR3.out.cell 2
 have rf : ∀ i, w3.frozen? ⟨g + 1 + 1, i, none⟩ = false := fun i => HR3.out.free i
 by_cases hy : -10000 ≤ Y ∧ Y ≤ 10000
 case neg =>
  rw [decide_eq_false hy]
  have hno : ¬ (c.ny (-10000) ≤ day ∧ day < c.ny 10001) := fun h => by
   have := HY.out
   by_cases h1 : K ≤ 1
   ·have := hlow.out h1; omega
   ·have := hhigh.out (by omega); omega
  go_wp2_with fail
  refine bodyPost_ret (v := .tuple #[.agg #[.int .i64 0, .int .i64 0, .int .i64 0], .int .i64 3]) (by simp [results, Tryz.results76, go_sem, r0, r1, r2]) rfl ?_
  exact ⟨by rw [HG.out]; exact ((HB3.out.setCell (p := ⟨g + 1 + 1, 0, none⟩) (show g ≤ g + 1 + 1 by omega) _).setCell (p := ⟨g + 1 + 1, 1, none⟩) (show g ≤ g + 1 + 1 by omega) _).setCell (p := ⟨g + 1 + 1, 2, none⟩) (show g ≤ g + 1 + 1 by omega) _, .inr ⟨fun h => hno h.2.2, rfl⟩⟩
 rw [decide_eq_true hy]
 obtain ⟨hy1, hy2⟩ := hy
 have in1 := here1.out (by have := HY.out; omega)
 have in2 := Lib.hid (here2.out (by have := HY.out; omega))
 clear here1 here2 hlow hhigh HY r0 r1 r2 rf
 have HNy := Lib.hid (fun w (hb : Below w3.heap.size w3 w) => newYear_any c Y w (HM3.out.next hb) OK.out (by omega) (by omega))
 have hnb := Cal.ny_in OK.out Y (by omega) (by omega)
 have HStep := Lib.hid (Cal.ny_step OK.out Y)
 have HLen := Lib.hid (fun (m : Nat) (hm : m < c.mo.length) w (hb : Below w3.heap.size w3 w) => alength_any c Y m hm w (HM3.out.next hb) OK.out (by omega) (by omega))
 have HPs := Lib.hid (fun m hm => c.pre_succ Y m hm)
 have HMl := Lib.hid (fun m hm => Cal.mlen_in OK.out Y m hm)
 have HP0 := Lib.hid (c.pre_zero Y)
 have HPA := Lib.hid (c.pre_all Y)
 have hmo := OK.out.mo.n1
 have hmo2 := OK.out.mo.n2
 have HON : Hid (∀ m d, m < c.mo.length → 0 ≤ d → d < c.mlen Y m → day = c.ny Y + c.pre Y m + d → IsOn c Y m d day) := fun m d a b e f => ⟨a, b, e, f⟩
 generalize c.ny Y = N at *
 have z0 : ∀ w, Below w3.heap.size w3 w → w.cell? ⟨g, 0, none⟩ = some (.string c.nm) := fun w hb => (HX3.out.below hb).cell 0
 have z1 : ∀ w, Below w3.heap.size w3 w → w.cell? ⟨g, 1, none⟩ = some (.int .i64 c.ep) := fun w hb => (HX3.out.below hb).cell 1
 have z2 : ∀ w, Below w3.heap.size w3 w → w.cell? ⟨g, 2, none⟩ = some (.int .i64 c.cy) := fun w hb => (HX3.out.below hb).cell 2
 have z3 : ∀ w, Below w3.heap.size w3 w → w.cell? ⟨g, 3, none⟩ = some (.slice c.A1 c.mo.length c.c1) := fun w hb => (HX3.out.below hb).cell 3
 have z4 : ∀ w, Below w3.heap.size w3 w → w.cell? ⟨g, 4, none⟩ = some (.slice c.A2 c.lp.length c.c2) := fun w hb => (HX3.out.below hb).cell 4
 have y1 : ∀ w, Below w3.heap.size w3 w → w.cell? ⟨g + 1, 0, none⟩ = some (.int .i64 day) := fun w hb => (HD3.out.below hb).cell 0
 have e1 : IntKind.i64.wrap (day - N) = day - N := intFits _ (by omega) (by omega)
 go_upto_region 7 with fail
 refine flow_begin (tellOf [(3, det (.int .i64 N))]) (by kernel_rfl) (by kernel_rfl) ?_
 repeat (first | (refine flow_val (v := ?_) (by rfl) (by rfl) (fun w hb => ?_) ?_; rotate_left; (· ((go_simp) <;> ((repeat' apply And.intro) <;> with_reducible rfl))); try simp only [Act.put, List.setIfInBounds_toArray, List.set_cons_zero, List.set_cons_succ, Nat.reduceAdd]) | (refine flow_skip (by rfl) (by rfl) ?_; try simp only [Act.put, List.setIfInBounds_toArray, List.set_cons_zero, List.set_cons_succ, Nat.reduceAdd]))
 refine flow_call (f := ?_) (args := ?_) [] (by kernel_rfl) (by rfl) (by rfl) (fun w hb => ?_) (fun w hb hu => ?_) ?_; rotate_left 2; (· ((go_simp) <;> ((repeat' apply And.intro) <;> with_reducible rfl)))
 ·exact HNy.out w hb
 try simp only [Act.put, List.setIfInBounds_toArray, List.set_cons_zero, List.set_cons_succ, Nat.reduceAdd]
 repeat (first | (refine flow_val (v := ?_) (by rfl) (by rfl) (fun w hb => ?_) ?_; rotate_left; (· ((go_simp) <;> ((repeat' apply And.intro) <;> with_reducible rfl))); try simp only [Act.put, List.setIfInBounds_toArray, List.set_cons_zero, List.set_cons_succ, Nat.reduceAdd]) | (refine flow_skip (by rfl) (by rfl) ?_; try simp only [Act.put, List.setIfInBounds_toArray, List.set_cons_zero, List.set_cons_succ, Nat.reduceAdd]))
 refine flow_nil fun w4 hb4 _ => ?_
 have HB4 := Lib.hid hb4
 clear hb4 z0 z1 z2 z3 z4 y1 e1 HNy
 have hN1 : Hid (day < N + c.ylen Y) := by unfold Hid; rw [← HStep.out]; exact in2.out
 clear HStep in2
 have hd0 : 0 ≤ day - N - c.pre Y 0 := by rw [HP0.out]; omega
 have hd1 : day - N = day - N - c.pre Y 0 := by rw [HP0.out]; omega
 go_wp2_with fail
 go_loopw [8, 9] (fun d mm wr => ∃ m : Nat, m < c.mo.length ∧ mm = .int .i64 ((m : Int) + 1) ∧ d = .int .i64 (day - N - c.pre Y m) ∧ 0 ≤ day - N - c.pre Y m ∧ Hid (Below w3.heap.size w3 wr)) (fun _ mm _ => c.mo.length + 1 - (intOf mm).toNat)
 case atStart => exact ⟨0, hmo, rfl, by rw [← hd1], hd0, HB4⟩
 case round =>
  clear HB4 hd0 hd1
  obtain ⟨m, hm, rfl, rfl, hd0, hbr⟩ := hrel
  have hml := HMl.out m hm
  have HL1 := Lib.hid (fun w hb => HLen.out m hm w hb)
  have HPm := Lib.hid (HPs.out m hm)
  have HONm := Lib.hid (HON.out m (day - N - c.pre Y m) hm hd0)
  have HXr := Lib.hid (HX3.out.below hbr.out)
  have HRr := Lib.hid (HR3.out.below hbr.out)
  have hD : Hid (day = N + c.pre Y m + (day - N - c.pre Y m)) := by unfold Hid; omega
  have hDle : day - N - c.pre Y m ≤ 1000000000 := by
   have := Cal.pre_mono OK.out Y m 0 (by omega)
   rw [c.pre_zero, Nat.zero_add] at this
   omega
  generalize c.mlen Y m = L at *
  generalize hDD : day - N - c.pre Y m = D at *
  have HDD := Lib.hid hDD
  clear hDD
  obtain ⟨x0, x1, x2, x3, x4⟩ := ccells HXr.out
  have xl := HXr.out.lt
  go_wp2_with fail
  refine (HL1.out wr hbr.out).mono ?_
  rintro e w5 ⟨rfl, hb5⟩
  have HXs := Lib.hid (HXr.out.below hb5)
  have HRs := Lib.hid (HRr.out.below hb5)
  have hbs := Lib.hid (below_then hbr.out hb5)
  clear hb5 x0 x1 x2 x3 x4 xl HXr HRr hbr
  by_cases hlt : L ≤ D
  ·have t1 : decide (L ≤ D) = true := decide_eq_true hlt
   obtain ⟨x0, x1, x2, x3, x4⟩ := ccells HXs.out
   have xl := HXs.out.lt
   go_wp2_with fail
   refine (HL1.out w5 hbs.out).mono ?_
   rintro e w6 ⟨rfl, hb6⟩
   have hbt := Lib.hid (below_then hbs.out hb6)
   have hm1 : m + 1 < c.mo.length := by
    by_cases h : m + 1 < c.mo.length
    ·exact h
    ·have e : m + 1 = c.mo.length := by omega
     have a := HPm.out
     rw [e, HPA.out] at a
     have := hN1.out
     have := HDD.out
     omega
   clear hb6 x0 x1 x2 x3 x4 xl HXs HRs hbs
   go_wp2_with fail
   go_roundw
   case rel => exact ⟨m + 1, hm1, by go_num, by rw [HPm.out]; congr 1; have := HDD.out; omega, by rw [HPm.out]; have := HDD.out; omega, hbt⟩
   case measure => simp [intOf]; omega
  ·have t1 : decide (L ≤ D) = false := decide_eq_false hlt
   have HO := Lib.hid (HONm.out (by omega) hD.out)
   have r0 : w5.cell? ⟨g + 1 + 1, 0, none⟩ = some (.int .i64 0) := HRs.out.cell 0
   have r1 : w5.cell? ⟨g + 1 + 1, 1, none⟩ = some (.int .i64 0) := HRs.out.cell 1
   have r2 : w5.cell? ⟨g + 1 + 1, 2, none⟩ = some (.int .i64 0) := HRs.out.cell 2
   have rf : ∀ i, w5.frozen? ⟨g + 1 + 1, i, none⟩ = false := fun i => HRs.out.free i
   have hBf : Below g w w5 := HB3.out.trans (hbs.out.mono (by have := HX3.out.lt; omega))
   have HBf := Lib.hid hBf
   clear hBf HXs HRs hbs HONm HPm HL1 hD HDD
   go_wp2_with fail
   refine bodyPost_ret (v := .tuple #[.agg #[.int .i64 Y, .int .i64 ((m : Int) + 1), .int .i64 (D + 1)], .int .i64 0]) (by simp [results, Tryz.results76, go_sem, r0, r1, r2]) rfl ?_
   exact ⟨by rw [HG.out]; exact ((HBf.out.setCell (p := ⟨g + 1 + 1, 0, none⟩) (show g ≤ g + 1 + 1 by omega) _).setCell (p := ⟨g + 1 + 1, 1, none⟩) (show g ≤ g + 1 + 1 by omega) _).setCell (p := ⟨g + 1 + 1, 2, none⟩) (show g ≤ g + 1 + 1 by omega) _, .inl ⟨Y, m, D, hy1, hy2, HO.out, rfl⟩⟩
end Go.Proofs.YtoemghiejfkpbaaGreatDoor
/- Contracts of package arith: check, Month, NewYear, FromDay. -/
namespace Go.Proofs.YtoemghiejfkpbaaGreatDoor
open Go.RowKit
set_option linter.unusedVariables false
structure CalV (w : World) (c : Cal) : Prop where
 r : CalIn w c
 f : CalFit c
 ok : CalOk c
theorem CalV.next {w w' : World} {c : Cal} (h : CalV w c) (hb : Below w.heap.size w w') : CalV w' c := ⟨h.r.next hb, h.f, h.ok⟩
theorem ccheck_ok (c : Cal) (w : World) (h : CalV w c) : Calls Tryz.prog 72 #[c.val] w fun e w' => e = .returned (.int .i64 0) ∧ Below w.heap.size w w' :=
 (ccheck_any c w h.r h.f).mono fun e w' ⟨E, he, hE, hb⟩ => ⟨by rw [he, hE.2 h.ok], hb⟩
set_option maxRecDepth 100000 in
theorem acheck_v (c : Cal) (y : Int) (w : World) (h : CalV w c) : Calls Tryz.prog 45 #[c.val, .int .i64 y] w fun e w' => e = .returned (.int .i64 (if -10000 ≤ y ∧ y ≤ 10000 then 0 else 3)) ∧ Below w.heap.size w w' := by
 have HB := Lib.hid (below_alloc1 w (Obj.cells c.cells 43))
 have HC := Lib.hid (ccheck_ok c _ (h.next HB.out))
 clear h
 by_cases hy : -10000 ≤ y ∧ y ≤ 10000
 ·rw [if_pos hy]
  have HY := Lib.hid (fun W => isYear_any y W)
  rw [decide_eq_true hy] at HY
  clear hy
  go_enter Tryz.func45, Tryz.ntmps45
  go_wp2_with fail
  refine HC.out.mono ?_
  rintro e w1 ⟨rfl, hb⟩
  replace HB := Lib.hid (below_then HB.out hb)
  clear hb HC
  go_wp2_with (go_at_call 73; refine (HY.out _).mono ?_; rintro e w' ⟨rfl, rfl⟩)
  go_ret
  exact ⟨rfl, HB.out⟩
 ·rw [if_neg hy]
  have HY := Lib.hid (fun W => isYear_any y W)
  rw [decide_eq_false hy] at HY
  clear hy
  go_enter Tryz.func45, Tryz.ntmps45
  go_wp2_with fail
  refine HC.out.mono ?_
  rintro e w1 ⟨rfl, hb⟩
  replace HB := Lib.hid (below_then HB.out hb)
  clear hb HC
  go_wp2_with (go_at_call 73; refine (HY.out _).mono ?_; rintro e w' ⟨rfl, rfl⟩)
  go_ret
  exact ⟨rfl, HB.out⟩
set_option maxHeartbeats 1000000 in
set_option maxRecDepth 100000 in
theorem FromDay_any (c : Cal) (day : Int) (w : World) (h : CalV w c) : Calls Tryz.prog 48 #[c.val, .int .i64 day] w (IsFD c day w) := by
 have HB := Lib.hid (below_alloc2 w (Obj.cells c.cells 43) (Obj.cells #[.int .i64 0, .int .i64 0, .int .i64 0] 48))
 have HX := Lib.hid ((Box.new w 43 c.cells).alloc (Obj.cells #[.int .i64 0, .int .i64 0, .int .i64 0] 48))
 have HD := Lib.hid (Box.new (w.alloc (Obj.cells c.cells 43)) 48 #[.int .i64 0, .int .i64 0, .int .i64 0])
 simp only [World.size_alloc] at HD
 have HV := Lib.hid (h.next HB.out)
 have HC := Lib.hid (fun w (h : CalV w c) => ccheck_ok c w h)
 have HF := Lib.hid (fun w (h : CalV w c) => fromDay_any c day w h.r h.ok)
 unfold IsFD at *
 clear h
 go_enter Tryz.func48, Tryz.ntmps48
 go_wp2_with fail
 generalize (w.alloc (Obj.cells c.cells 43)).alloc (Obj.cells #[.int .i64 0, .int .i64 0, .int .i64 0] 48) = W0 at *
 generalize hg : w.heap.size = g at *
 have HG := Lib.hid hg
 clear hg
 refine (HC.out _ HV.out).mono ?_
 rintro e w1 ⟨rfl, hb1⟩
 replace HB := Lib.hid (show Below g w w1 from HB.out.trans (hb1.mono (by have := HX.out.lt; omega)))
 replace HX := Lib.hid (HX.out.below hb1)
 replace HD := Lib.hid (HD.out.below hb1)
 replace HV := Lib.hid (HV.out.next hb1)
 clear hb1 HC
 obtain ⟨x0, x1, x2, x3, x4⟩ := ccells HX.out
 go_wp2_with fail
 refine (HF.out _ HV.out).mono ?_
 rintro e w2 ⟨hb, hc⟩
 have HB2 := Lib.hid (show Below g w w2 from HB.out.trans (hb.mono (by have := HX.out.lt; omega)))
 have HD2 := Lib.hid (HD.out.below hb)
 clear hb HB HF HV x0 x1 x2 x3 x4
 have r0 : w2.cell? ⟨g + 1, 0, none⟩ = some (.int .i64 0) := HD2.out.cell 0
 have r1 : w2.cell? ⟨g + 1, 1, none⟩ = some (.int .i64 0) := HD2.out.cell 1
 have r2 : w2.cell? ⟨g + 1, 2, none⟩ = some (.int .i64 0) := HD2.out.cell 2
 have rf : ∀ i, w2.frozen? ⟨g + 1, i, none⟩ = false := fun i => HD2.out.free i
 have hgl := HD2.out.lt
 rcases hc with ⟨y, m, d, h1, h2, h3, rfl⟩ | ⟨h1, rfl⟩
 ·have HH := Lib.hid (show -10000 ≤ y ∧ y ≤ 10000 ∧ IsOn c y m d day from ⟨h1, h2, h3⟩)
  clear h1 h2 h3
  go_wp2_with fail
  refine bodyPost_ret (v := .tuple #[.agg #[.int .i64 y, .int .i64 ((m : Int) + 1), .int .i64 (d + 1)], .int .i64 0]) (by simp [results, Tryz.results48, go_sem, r0, r1, r2]) rfl ?_
  exact ⟨by rw [HG.out]; exact ((HB2.out.setCell (p := ⟨g + 1, 0, none⟩) (show g ≤ g + 1 by omega) _).setCell (p := ⟨g + 1, 1, none⟩) (show g ≤ g + 1 by omega) _).setCell (p := ⟨g + 1, 2, none⟩) (show g ≤ g + 1 by omega) _, .inl ⟨y, m, d, HH.out.1, HH.out.2.1, HH.out.2.2, rfl⟩⟩
 ·have HH := Lib.hid h1
  clear h1
  go_wp2_with fail
  refine bodyPost_ret (v := .tuple #[.agg #[.int .i64 0, .int .i64 0, .int .i64 0], .int .i64 3]) (by simp [results, Tryz.results48, go_sem, r0, r1, r2]) rfl ?_
  exact ⟨by rw [HG.out]; exact ((HB2.out.setCell (p := ⟨g + 1, 0, none⟩) (show g ≤ g + 1 by omega) _).setCell (p := ⟨g + 1, 1, none⟩) (show g ≤ g + 1 by omega) _).setCell (p := ⟨g + 1, 2, none⟩) (show g ≤ g + 1 by omega) _, .inr ⟨HH.out, rfl⟩⟩
end Go.Proofs.YtoemghiejfkpbaaGreatDoor
/- Contracts of arith.toDay and arith.ToDay. -/
namespace Go.Proofs.YtoemghiejfkpbaaGreatDoor
open Go.RowKit
set_option linter.unusedVariables false
abbrev dateC (y m d : Int) : Array Value := #[.int .i64 y, .int .i64 m, .int .i64 d]
def dayR (n : Int) : Value := if -4000000 ≤ n ∧ n ≤ 4000000 then .tuple #[.int .i64 n, .int .i64 0] else .tuple #[.int .i64 0, .int .i64 3]
set_option maxHeartbeats 4000000 in
set_option maxRecDepth 100000 in
theorem toDay_any (c : Cal) (y : Int) (m : Nat) (d : Int) (w : World) (hv : CalV w c) (hm : m < c.mo.length) (h1 : -10100 ≤ y) (h2 : y ≤ 10100) (h3 : -1000 ≤ d) (h4 : d ≤ 1000) :
  Calls Tryz.prog 47 #[c.val, .agg (dateC y ((m : Int) + 1) d)] w fun e w' => e = .returned (dayR (c.ny y + c.pre y m + (d - 1))) ∧ Below w.heap.size w w' := by
 have HB := Lib.hid (below_alloc2 w (Obj.cells c.cells 43) (Obj.cells (dateC y ((m : Int) + 1) d) 48))
 have HX := Lib.hid ((Box.new w 43 c.cells).alloc (Obj.cells (dateC y ((m : Int) + 1) d) 48))
 have HD := Lib.hid (Box.new (w.alloc (Obj.cells c.cells 43)) 48 (dateC y ((m : Int) + 1) d))
 have HV := Lib.hid (hv.next HB.out)
 simp only [World.size_alloc] at HD
 have hnb := Cal.ny_in hv.ok y (by omega) (by omega)
 have HPs := Lib.hid (fun j (hj : j < c.mo.length) => c.pre_succ y j hj)
 have HMl := Lib.hid (fun j hj => Cal.mlen_in hv.ok y j hj)
 have HP0 := Lib.hid (c.pre_zero y)
 have HPb := Lib.hid (fun j (hj : j ≤ c.mo.length) => Cal.pre_mono hv.ok y j 0 (by omega))
 have hn2 := hv.ok.mo.n2
 have HNy := Lib.hid (fun w (hv : CalV w c) => newYear_any c y w hv.r hv.ok (by omega) (by omega))
 have HLen := Lib.hid (fun j (hj : j < c.mo.length) w (hv : CalV w c) => alength_any c y j hj w hv.r hv.ok (by omega) (by omega))
 clear hv
 generalize c.ny y = N at *
 go_enter Tryz.func47, Tryz.ntmps47
 go_upto_region 1 with fail
 generalize (w.alloc (Obj.cells c.cells 43)).alloc (Obj.cells (dateC y ((m : Int) + 1) d) 48) = W0 at *
 generalize hg : w.heap.size = g at *
 have HG := Lib.hid hg
 clear hg
 have z0 : ∀ w, Below W0.heap.size W0 w → w.cell? ⟨g, 0, none⟩ = some (.string c.nm) := fun w hb => (HX.out.below hb).cell 0
 have z1 : ∀ w, Below W0.heap.size W0 w → w.cell? ⟨g, 1, none⟩ = some (.int .i64 c.ep) := fun w hb => (HX.out.below hb).cell 1
 have z2 : ∀ w, Below W0.heap.size W0 w → w.cell? ⟨g, 2, none⟩ = some (.int .i64 c.cy) := fun w hb => (HX.out.below hb).cell 2
 have z3 : ∀ w, Below W0.heap.size W0 w → w.cell? ⟨g, 3, none⟩ = some (.slice c.A1 c.mo.length c.c1) := fun w hb => (HX.out.below hb).cell 3
 have z4 : ∀ w, Below W0.heap.size W0 w → w.cell? ⟨g, 4, none⟩ = some (.slice c.A2 c.lp.length c.c2) := fun w hb => (HX.out.below hb).cell 4
 have y0 : ∀ w, Below W0.heap.size W0 w → w.cell? ⟨g + 1, 0, none⟩ = some (.int .i64 y) := fun w hb => (HD.out.below hb).cell 0
 have y2 : ∀ w, Below W0.heap.size W0 w → w.cell? ⟨g + 1, 2, none⟩ = some (.int .i64 d) := fun w hb => (HD.out.below hb).cell 2
 have e1 : IntKind.i64.wrap (N + d) = N + d := intFits _ (by omega) (by omega)
 have e2 : IntKind.i64.wrap (N + d - 1) = N + d - 1 := intFits _ (by omega) (by omega)
 refine flow_begin (tellOf [(3, det (.int .i64 N))]) (by kernel_rfl) (by kernel_rfl) ?_
 repeat (first | (refine flow_val (v := ?_) (by rfl) (by rfl) (fun w hb => ?_) ?_; rotate_left; (· ((go_simp) <;> ((repeat' apply And.intro) <;> with_reducible rfl))); try simp only [Act.put, List.setIfInBounds_toArray, List.set_cons_zero, List.set_cons_succ, Nat.reduceAdd]) | (refine flow_skip (by rfl) (by rfl) ?_; try simp only [Act.put, List.setIfInBounds_toArray, List.set_cons_zero, List.set_cons_succ, Nat.reduceAdd]))
 refine flow_call (f := ?_) (args := ?_) [] (by kernel_rfl) (by rfl) (by rfl) (fun w hb => ?_) (fun w hb hu => ?_) ?_; rotate_left 2; (· ((go_simp) <;> ((repeat' apply And.intro) <;> with_reducible rfl)))
 ·exact HNy.out w (HV.out.next hb)
 try simp only [Act.put, List.setIfInBounds_toArray, List.set_cons_zero, List.set_cons_succ, Nat.reduceAdd]
 repeat (first | (refine flow_val (v := ?_) (by rfl) (by rfl) (fun w hb => ?_) ?_; rotate_left; (· ((go_simp) <;> ((repeat' apply And.intro) <;> with_reducible rfl))); try simp only [Act.put, List.setIfInBounds_toArray, List.set_cons_zero, List.set_cons_succ, Nat.reduceAdd]) | (refine flow_skip (by rfl) (by rfl) ?_; try simp only [Act.put, List.setIfInBounds_toArray, List.set_cons_zero, List.set_cons_succ, Nat.reduceAdd]))
 refine flow_nil fun w1 hb1 _ => ?_
 have HB1 := Lib.hid hb1
 clear hb1 z0 z1 z2 z3 z4 y0 y2 e1 e2 HNy
 have hd0 : N + d - 1 = N + d - 1 + c.pre y 0 := by rw [HP0.out]; omega
 go_wp2_with fail
 go_loopw [6, 7] (fun dv mm wr => ∃ j : Nat, j ≤ m ∧ mm = .int .i64 ((j : Int) + 1) ∧ dv = .int .i64 (N + d - 1 + c.pre y j) ∧ Hid (Below W0.heap.size W0 wr)) (fun _ mm _ => m + 1 - (intOf mm).toNat)
 case atStart => exact ⟨0, by omega, rfl, by rw [← hd0], HB1⟩
 case round =>
  clear HB1 hd0
  obtain ⟨j, hj, rfl, rfl, hbr⟩ := hrel
  have hpb := HPb.out j (by omega)
  rw [HP0.out] at hpb
  rw [Nat.zero_add] at hpb
  have HXr := Lib.hid (HX.out.below hbr.out)
  have HDr := Lib.hid (HD.out.below hbr.out)
  obtain ⟨x0, x1, x2, x3, x4⟩ := ccells HXr.out
  have y0 : wr.cell? ⟨g + 1, 0, none⟩ = some (.int .i64 y) := HDr.out.cell 0
  have y1 : wr.cell? ⟨g + 1, 1, none⟩ = some (.int .i64 ((m : Int) + 1)) := HDr.out.cell 1
  by_cases hlt : j < m
  ·have t1 : decide ((j : Int) + 1 < (m : Int) + 1) = true := decide_eq_true (by omega)
   have hml := HMl.out j (by omega)
   have HL1 := Lib.hid (HLen.out j (by omega))
   have HPm := Lib.hid (HPs.out j (by omega))
   generalize c.mlen y j = L at *
   generalize hDD : N + d - 1 + c.pre y j = D at *
   have HDD := Lib.hid hDD
   have hD1 : -1000000000 ≤ D ∧ D ≤ 1000000000 := by omega
   clear hDD hpb
   go_wp2_with fail
   refine (HL1.out wr (HV.out.next hbr.out)).mono ?_
   rintro e w5 ⟨rfl, hb5⟩
   have hbs := Lib.hid (below_then hbr.out hb5)
   clear hb5 x0 x1 x2 x3 x4 y0 y1 HXr HDr hbr HL1
   go_wp2_with fail
   go_roundw
   case rel => exact ⟨j + 1, by omega, by go_num, by rw [HPm.out]; congr 1; have := HDD.out; omega, hbs⟩
   case measure => simp [intOf]; omega
  ·obtain rfl : j = m := by omega
   have t1 : decide ((j : Int) + 1 < (j : Int) + 1) = false := decide_eq_false (by omega)
   have hDD : Hid (N + d - 1 + c.pre y j = N + c.pre y j + (d - 1)) := by unfold Hid; omega
   rw [hDD.out]
   obtain ⟨D, hDe⟩ : ∃ D, D = N + c.pre y j + (d - 1) := ⟨_, rfl⟩
   rw [← hDe]
   have HDE := Lib.hid hDe
   clear hDe hDD
   have HBf : Hid (Below w.heap.size w wr) := by unfold Hid; rw [HG.out]; exact HB.out.trans (hbr.out.mono (by have := HX.out.lt; omega))
   by_cases hd : -4000000 ≤ D ∧ D ≤ 4000000
   ·have HI := Lib.hid (fun W => isDay_any D W)
    rw [decide_eq_true hd] at HI
    have hR : Hid (dayR D = .tuple #[.int .i64 D, .int .i64 0]) := if_pos hd
    clear hd hpb
    go_wp2_with fail
    refine (HI.out _).mono ?_
    rintro e w' ⟨rfl, rfl⟩
    go_wp2_with fail
    go_ret2
    exact ⟨by rw [← HDE.out, hR.out]; rfl, HBf.out⟩
   ·have HI := Lib.hid (fun W => isDay_any D W)
    rw [decide_eq_false hd] at HI
    have hR : Hid (dayR D = .tuple #[.int .i64 0, .int .i64 3]) := if_neg hd
    clear hd hpb
    go_wp2_with fail
    refine (HI.out _).mono ?_
    rintro e w' ⟨rfl, rfl⟩
    go_wp2_with fail
    go_ret2
    exact ⟨by rw [← HDE.out, hR.out]; rfl, HBf.out⟩
def ToDayQ (c : Cal) (y m d : Int) (w : World) (e : Ending) (w' : World) : Prop :=
 Below w.heap.size w w' ∧ ((∃ (m0 : Nat) (day : Int), m = (m0 : Int) + 1 ∧ -10000 ≤ y ∧ y ≤ 10000 ∧ IsOn c y m0 (d - 1) day ∧ e = .returned (dayR day)) ∨
  ((∀ (m0 : Nat) (day : Int), m = (m0 : Int) + 1 → -10000 ≤ y → y ≤ 10000 → IsOn c y m0 (d - 1) day → False) ∧ (e = .returned (.tuple #[.int .i64 0, .int .i64 3]) ∨ e = .returned (.tuple #[.int .i64 0, .int .i64 1]))))
set_option maxHeartbeats 4000000 in
set_option maxRecDepth 100000 in
theorem ToDay_any (c : Cal) (y m d : Int) (w : World) (hv : CalV w c) : Calls Tryz.prog 15 #[c.val, .agg (dateC y m d)] w (ToDayQ c y m d w) := by
 have HB := Lib.hid (below_alloc2 w (Obj.cells c.cells 43) (Obj.cells (dateC y m d) 48))
 have HX := Lib.hid ((Box.new w 43 c.cells).alloc (Obj.cells (dateC y m d) 48))
 have HD := Lib.hid (Box.new (w.alloc (Obj.cells c.cells 43)) 48 (dateC y m d))
 have HV := Lib.hid (hv.next HB.out)
 simp only [World.size_alloc] at HD
 have hn2 := hv.ok.mo.n2
 have HCk := Lib.hid (fun w (hv : CalV w c) => acheck_v c y w hv)
 have HMl := Lib.hid (fun j hj => Cal.mlen_in hv.ok y j hj)
 clear hv
 go_enter Tryz.func15, Tryz.ntmps15
 go_wp2_with fail
 generalize (w.alloc (Obj.cells c.cells 43)).alloc (Obj.cells (dateC y m d) 48) = W0 at *
 generalize hg : w.heap.size = g at *
 have HG := Lib.hid hg
 clear hg
 refine (HCk.out _ HV.out).mono ?_
 rintro e w1 ⟨rfl, hb1⟩
 have HX1 := Lib.hid (HX.out.below hb1)
 have HD1 := Lib.hid (HD.out.below hb1)
 have HB1 : Hid (Below g w w1) := HB.out.trans (hb1.mono (by have := HX.out.lt; omega))
 have HV1 := Lib.hid (HV.out.next hb1)
 clear hb1 HX HD HB HV HCk
 by_cases hy : -10000 ≤ y ∧ y ≤ 10000
 case neg =>
  rw [if_neg hy]
  have HN : Hid (¬ (-10000 ≤ y ∧ y ≤ 10000)) := hy
  clear hy
  go_wp2_with fail
  go_ret2
  exact ⟨by rw [HG.out]; exact HB1.out, .inr ⟨fun _ _ _ a b _ => HN.out ⟨a, b⟩, .inl rfl⟩⟩
 rw [if_pos hy]
 obtain ⟨hy1, hy2⟩ := hy
 have HLen := Lib.hid (fun j (hj : j < c.mo.length) w (hv : CalV w c) => alength_any c y j hj w hv.r hv.ok (by omega) (by omega))
 have HTD := Lib.hid (fun (j : Nat) (hj : j < c.mo.length) (h3 : -1000 ≤ d) (h4 : d ≤ 1000) w (hv : CalV w c) => toDay_any c y j d w hv hj (by omega) (by omega) h3 h4)
 go_upto_region 4 with fail
 have z0 : ∀ w, Below w1.heap.size w1 w → w.cell? ⟨g, 0, none⟩ = some (.string c.nm) := fun w hb => (HX1.out.below hb).cell 0
 have z1 : ∀ w, Below w1.heap.size w1 w → w.cell? ⟨g, 1, none⟩ = some (.int .i64 c.ep) := fun w hb => (HX1.out.below hb).cell 1
 have z2 : ∀ w, Below w1.heap.size w1 w → w.cell? ⟨g, 2, none⟩ = some (.int .i64 c.cy) := fun w hb => (HX1.out.below hb).cell 2
 have z3 : ∀ w, Below w1.heap.size w1 w → w.cell? ⟨g, 3, none⟩ = some (.slice c.A1 c.mo.length c.c1) := fun w hb => (HX1.out.below hb).cell 3
 have z4 : ∀ w, Below w1.heap.size w1 w → w.cell? ⟨g, 4, none⟩ = some (.slice c.A2 c.lp.length c.c2) := fun w hb => (HX1.out.below hb).cell 4
 have y0 : ∀ w, Below w1.heap.size w1 w → w.cell? ⟨g + 1, 0, none⟩ = some (.int .i64 y) := fun w hb => (HD1.out.below hb).cell 0
 have y1 : ∀ w, Below w1.heap.size w1 w → w.cell? ⟨g + 1, 1, none⟩ = some (.int .i64 m) := fun w hb => (HD1.out.below hb).cell 1
 have y2 : ∀ w, Below w1.heap.size w1 w → w.cell? ⟨g + 1, 2, none⟩ = some (.int .i64 d) := fun w hb => (HD1.out.below hb).cell 2
 refine with_lex (by kernel_rfl) fun HLX => ?_
 by_cases g1 : m < 1
 ·have t1 : decide (m < 1) = true := decide_eq_true g1
  have HNo : Hid (∀ (m0 : Nat) (day : Int), m = (m0 : Int) + 1 → -10000 ≤ y → y ≤ 10000 → IsOn c y m0 (d - 1) day → False) := fun m0 day hm0 _ _ _ => by omega
  clear g1
  refine flow_begin (tellOf []) (by kernel_rfl) HLX.out ?_
  repeat (first | (refine flow_val (v := ?_) (by rfl) (by rfl) (fun w hb => ?_) ?_; rotate_left; (· ((go_simp) <;> ((repeat' apply And.intro) <;> with_reducible rfl))); try simp only [Act.put, List.setIfInBounds_toArray, List.set_cons_zero, List.set_cons_succ, Nat.reduceAdd]) | (refine flow_skip (by rfl) (by rfl) ?_; try simp only [Act.put, List.setIfInBounds_toArray, List.set_cons_zero, List.set_cons_succ, Nat.reduceAdd]))
  refine flow_nil fun w2 hb2 _ => ?_
  have HB2 : Hid (Below g w w2) := HB1.out.trans (hb2.mono (by have := HX1.out.lt; omega))
  clear hb2 z0 z1 z2 z3 z4 y0 y1 y2
  go_wp2_with fail
  go_ret2
  exact ⟨by rw [HG.out]; exact HB2.out, .inr ⟨HNo.out, .inr rfl⟩⟩
 have t1 : decide (m < 1) = false := decide_eq_false g1
 by_cases g2 : (c.mo.length : Int) < m
 ·have t2 : decide ((c.mo.length : Int) < m) = true := decide_eq_true g2
  have HNo : Hid (∀ (m0 : Nat) (day : Int), m = (m0 : Int) + 1 → -10000 ≤ y → y ≤ 10000 → IsOn c y m0 (d - 1) day → False) := fun m0 day hm0 _ _ h => by have := h.m1; omega
  clear g1 g2
  refine flow_begin (tellOf []) (by kernel_rfl) HLX.out ?_
  repeat (first | (refine flow_val (v := ?_) (by rfl) (by rfl) (fun w hb => ?_) ?_; rotate_left; (· ((go_simp) <;> ((repeat' apply And.intro) <;> with_reducible rfl))); try simp only [Act.put, List.setIfInBounds_toArray, List.set_cons_zero, List.set_cons_succ, Nat.reduceAdd]) | (refine flow_skip (by rfl) (by rfl) ?_; try simp only [Act.put, List.setIfInBounds_toArray, List.set_cons_zero, List.set_cons_succ, Nat.reduceAdd]))
  refine flow_nil fun w2 hb2 _ => ?_
  have HB2 : Hid (Below g w w2) := HB1.out.trans (hb2.mono (by have := HX1.out.lt; omega))
  clear hb2 z0 z1 z2 z3 z4 y0 y1 y2
  go_wp2_with fail
  go_ret2
  exact ⟨by rw [HG.out]; exact HB2.out, .inr ⟨HNo.out, .inr rfl⟩⟩
 have t2 : decide ((c.mo.length : Int) < m) = false := decide_eq_false g2
 by_cases g3 : d < 1
 ·have t3 : decide (d < 1) = true := decide_eq_true g3
  have HNo : Hid (∀ (m0 : Nat) (day : Int), m = (m0 : Int) + 1 → -10000 ≤ y → y ≤ 10000 → IsOn c y m0 (d - 1) day → False) := fun m0 day hm0 _ _ h => by have := h.d0; omega
  clear g1 g2 g3
  refine flow_begin (tellOf []) (by kernel_rfl) HLX.out ?_
  repeat (first | (refine flow_val (v := ?_) (by rfl) (by rfl) (fun w hb => ?_) ?_; rotate_left; (· ((go_simp) <;> ((repeat' apply And.intro) <;> with_reducible rfl))); try simp only [Act.put, List.setIfInBounds_toArray, List.set_cons_zero, List.set_cons_succ, Nat.reduceAdd]) | (refine flow_skip (by rfl) (by rfl) ?_; try simp only [Act.put, List.setIfInBounds_toArray, List.set_cons_zero, List.set_cons_succ, Nat.reduceAdd]))
  refine flow_nil fun w2 hb2 _ => ?_
  have HB2 : Hid (Below g w w2) := HB1.out.trans (hb2.mono (by have := HX1.out.lt; omega))
  clear hb2 z0 z1 z2 z3 z4 y0 y1 y2
  go_wp2_with fail
  go_ret2
  exact ⟨by rw [HG.out]; exact HB2.out, .inr ⟨HNo.out, .inr rfl⟩⟩
 have t3 : decide (d < 1) = false := decide_eq_false g3
 obtain ⟨m0, rfl⟩ : ∃ m0 : Nat, m = (m0 : Int) + 1 := ⟨(m - 1).toNat, by omega⟩
 have hm0 : m0 < c.mo.length := by omega
 have HL0 := Lib.hid (HLen.out m0 hm0)
 have hml := HMl.out m0 hm0
 have HT0 := Lib.hid (HTD.out m0 hm0)
 have HON : Hid (∀ day, d - 1 < c.mlen y m0 → day = c.ny y + c.pre y m0 + (d - 1) → IsOn c y m0 (d - 1) day) := fun day a b => ⟨hm0, by omega, a, b⟩
 have HOF : Hid (∀ day, IsOn c y m0 (d - 1) day → d - 1 < c.mlen y m0) := fun day h => h.d1
 generalize c.mlen y m0 = L at *
 by_cases g4 : L < d
 ·have t4 : decide (L < d) = true := decide_eq_true g4
  have HNo : Hid (∀ (m1 : Nat) (day : Int), (m0 : Int) + 1 = (m1 : Int) + 1 → -10000 ≤ y → y ≤ 10000 → IsOn c y m1 (d - 1) day → False) := fun m1 day hm1 _ _ h => by
   obtain rfl : m0 = m1 := by omega
   have := HOF.out day h
   omega
  clear g1 g2 g3 g4
  refine flow_begin (tellOf [(24, det (.int .i64 L))]) (by kernel_rfl) HLX.out ?_
  repeat (first | (refine flow_val (v := ?_) (by rfl) (by rfl) (fun w hb => ?_) ?_; rotate_left; (· ((go_simp) <;> ((repeat' apply And.intro) <;> with_reducible rfl))); try simp only [Act.put, List.setIfInBounds_toArray, List.set_cons_zero, List.set_cons_succ, Nat.reduceAdd]) | (refine flow_skip (by rfl) (by rfl) ?_; try simp only [Act.put, List.setIfInBounds_toArray, List.set_cons_zero, List.set_cons_succ, Nat.reduceAdd]))
  refine flow_call (f := ?_) (args := ?_) [] (by kernel_rfl) (by rfl) (by rfl) (fun w hb => ?_) (fun w hb hu => ?_) ?_; rotate_left 2; (· ((go_simp) <;> ((repeat' apply And.intro) <;> with_reducible rfl)))
  ·exact HL0.out w (HV1.out.next hb)
  try simp only [Act.put, List.setIfInBounds_toArray, List.set_cons_zero, List.set_cons_succ, Nat.reduceAdd]
  repeat (first | (refine flow_val (v := ?_) (by rfl) (by rfl) (fun w hb => ?_) ?_; rotate_left; (· ((go_simp) <;> ((repeat' apply And.intro) <;> with_reducible rfl))); try simp only [Act.put, List.setIfInBounds_toArray, List.set_cons_zero, List.set_cons_succ, Nat.reduceAdd]) | (refine flow_skip (by rfl) (by rfl) ?_; try simp only [Act.put, List.setIfInBounds_toArray, List.set_cons_zero, List.set_cons_succ, Nat.reduceAdd]))
  refine flow_nil fun w2 hb2 _ => ?_
  have HB2 : Hid (Below g w w2) := HB1.out.trans (hb2.mono (by have := HX1.out.lt; omega))
  clear hb2 z0 z1 z2 z3 z4 y0 y1 y2
  go_wp2_with fail
  go_ret2
  exact ⟨by rw [HG.out]; exact HB2.out, .inr ⟨HNo.out, .inr rfl⟩⟩
 ·have t4 : decide (L < d) = false := decide_eq_false g4
  have HT1 := Lib.hid (HT0.out (by omega) (by omega))
  have HO1 := Lib.hid (HON.out _ (by omega) rfl)
  have HYY := Lib.hid (show -10000 ≤ y ∧ y ≤ 10000 from ⟨hy1, hy2⟩)
  generalize c.ny y + c.pre y m0 + (d - 1) = day at *
  clear g1 g2 g3 g4 HT0 HON HOF hml
  refine flow_begin (tellOf [(24, det (.int .i64 L))]) (by kernel_rfl) HLX.out ?_
  repeat (first | (refine flow_val (v := ?_) (by rfl) (by rfl) (fun w hb => ?_) ?_; rotate_left; (· ((go_simp) <;> ((repeat' apply And.intro) <;> with_reducible rfl))); try simp only [Act.put, List.setIfInBounds_toArray, List.set_cons_zero, List.set_cons_succ, Nat.reduceAdd]) | (refine flow_skip (by rfl) (by rfl) ?_; try simp only [Act.put, List.setIfInBounds_toArray, List.set_cons_zero, List.set_cons_succ, Nat.reduceAdd]))
  refine flow_call (f := ?_) (args := ?_) [] (by kernel_rfl) (by rfl) (by rfl) (fun w hb => ?_) (fun w hb hu => ?_) ?_; rotate_left 2; (· ((go_simp) <;> ((repeat' apply And.intro) <;> with_reducible rfl)))
  ·exact HL0.out w (HV1.out.next hb)
  try simp only [Act.put, List.setIfInBounds_toArray, List.set_cons_zero, List.set_cons_succ, Nat.reduceAdd]
  repeat (first | (refine flow_val (v := ?_) (by rfl) (by rfl) (fun w hb => ?_) ?_; rotate_left; (· ((go_simp) <;> ((repeat' apply And.intro) <;> with_reducible rfl))); try simp only [Act.put, List.setIfInBounds_toArray, List.set_cons_zero, List.set_cons_succ, Nat.reduceAdd]) | (refine flow_skip (by rfl) (by rfl) ?_; try simp only [Act.put, List.setIfInBounds_toArray, List.set_cons_zero, List.set_cons_succ, Nat.reduceAdd]))
  refine flow_nil fun w2 hb2 _ => ?_
  have HX2 := Lib.hid (HX1.out.below hb2)
  have HD2 := Lib.hid (HD1.out.below hb2)
  have HV2 := Lib.hid (HV1.out.next hb2)
  have HB2 : Hid (Below g w w2) := HB1.out.trans (hb2.mono (by have := HX1.out.lt; omega))
  clear hb2 z0 z1 z2 z3 z4 y0 y1 y2 HX1 HD1 HV1 HB1
  obtain ⟨x0, x1, x2, x3, x4⟩ := ccells HX2.out
  have y0 : w2.cell? ⟨g + 1, 0, none⟩ = some (.int .i64 y) := HD2.out.cell 0
  have y1 : w2.cell? ⟨g + 1, 1, none⟩ = some (.int .i64 ((m0 : Int) + 1)) := HD2.out.cell 1
  have y2 : w2.cell? ⟨g + 1, 2, none⟩ = some (.int .i64 d) := HD2.out.cell 2
  go_wp2_with fail
  refine (HT1.out _ HV2.out).mono ?_
  rintro e w3 ⟨rfl, hb3⟩
  have HB3 : Hid (Below g w w3) := HB2.out.trans (hb3.mono (by have := HX2.out.lt; omega))
  clear hb3 HB2 HX2 HD2 HV2 x0 x1 x2 x3 x4 y0 y1 y2
  by_cases hd : -4000000 ≤ day ∧ day ≤ 4000000
  ·have hR : dayR day = .tuple #[.int .i64 day, .int .i64 0] := if_pos hd
   rw [hR]
   clear hd
   go_wp2_with fail
   go_ret2
   exact ⟨by rw [HG.out]; exact HB3.out, .inl ⟨m0, day, rfl, HYY.out.1, HYY.out.2, HO1.out, by rw [hR]; rfl⟩⟩
  ·have hR : dayR day = .tuple #[.int .i64 0, .int .i64 3] := if_neg hd
   rw [hR]
   clear hd
   go_wp2_with fail
   go_ret2
   exact ⟨by rw [HG.out]; exact HB3.out, .inl ⟨m0, day, rfl, HYY.out.1, HYY.out.2, HO1.out, by rw [hR]; rfl⟩⟩
end Go.Proofs.YtoemghiejfkpbaaGreatDoor
