/- Ar1, Ar2, Ar3, Ar4, Ar5, Ar6, Ar7 -/
import Derived.Deep.DeepCutAuto
import Derived.Test.YteebjkcpniddiaaGreatDoorGPlainCal
import Derived.Test.YteebjkcpniddiaaGreatDoorGFlow
/- Contracts of package arith: length, newYear. -/
namespace Go.Proofs.YteebjkcpniddiaaGreatDoor
open Go.RowKit
set_option linter.unusedVariables false

theorem prodAbs (a b A B : Int) (h1 : -A ≤ a) (h2 : a ≤ A) (h3 : -B ≤ b) (h4 : b ≤ B) : -(A * B) ≤ a * b ∧ a * b ≤ A * B := by
  have hA : (a.natAbs : Int) ≤ A := by omega
  have hB : (b.natAbs : Int) ≤ B := by omega
  have h : ((a * b).natAbs : Int) ≤ A * B := by
    rw [Int.natAbs_mul, Int.natCast_mul]
    exact Int.mul_le_mul hA hB (by omega) (by omega)
  omega

set_option maxHeartbeats 1000000 in
set_option maxRecDepth 100000 in
theorem alength_any (c : Cal) (y : Int) (m : Nat) (hm : m < c.mo.length) (w : World) (hr : CalIn w c) (ok : CalOk c) (h1 : -100000 ≤ y) (h2 : y ≤ 100000) :
    Calls Tryz.prog 135 #[c.val, .int .i64 y, .int .i64 ((m : Int) + 1)] w fun e w' => e = .returned (.int .i64 (c.mlen y m)) ∧ Below w.heap.size w w' := by
  have HB := Lib.hid (below_alloc1 w (Obj.cells c.cells 75))
  have HX := Lib.hid (Box.new w 75 c.cells)
  have HR := Lib.hid (hr.next HB.out)
  have HL := Lib.hid (fun W (h : CalIn W c) => leap_any c y W h ok.hd.2.2.1 ok.hd.2.2.2 ok.lp h1 h2)
  have hD : Hid (c.mlen y m = if decide (c.pl y ∈ c.lp) = true then (c.mo.getD m mth0).lo else (c.mo.getD m mth0).sh) := rfl
  obtain ⟨b, o, hA, hbl, hcs0⟩ := (hr.next HB.out).r1.open_ (flat_ne mthF_len (by omega) c.mo (by omega))
  have hc0 := flat_cell mthF_len mth0 hcs0 m 0 hm (by omega) _ rfl
  have hc1 := flat_cell mthF_len mth0 hcs0 m 1 hm (by omega) _ rfl
  have hc2 := flat_cell mthF_len mth0 hcs0 m 2 hm (by omega) _ rfl
  rw [Nat.add_zero] at hc0
  have m0 : (0 : Int) ≤ (m : Int) := by omega
  have m1 : (m : Int) < (c.mo.length : Int) := by omega
  have m2 := ok.mo.n2
  have x3 : (w.alloc (Obj.cells c.cells 75)).cell? ⟨w.heap.size, 3, none⟩ = some (.slice (some ⟨b, o, none⟩) c.mo.length c.c1) := by rw [← hA]; exact (ccells HX.out).2.2.2.1
  have e1 : (m : Int) + 1 - 1 = m := by omega
  clear hr ok hcs0 h1 h2 hA
  generalize c.mo.getD m mth0 = z at *
  generalize c.mlen y m = R at *
  generalize decide (c.pl y ∈ c.lp) = lb at *
  go_enter Tryz.func135, Tryz.ntmps135
  go_wp2_with fail
  have HZ := Lib.hid (Box.new (w.alloc (Obj.cells c.cells 75)) 174 #[.string z.nm, .int .i64 z.sh, .int .i64 z.lo])
  rw [World.size_alloc] at HZ
  have HB2 := Lib.hid (HB.out.alloc (by rw [World.size_alloc]; omega) (Obj.cells #[.string z.nm, .int .i64 z.sh, .int .i64 z.lo] 174))
  have HL2 := Lib.hid (HL.out ((w.alloc (Obj.cells c.cells 75)).alloc (Obj.cells #[.string z.nm, .int .i64 z.sh, .int .i64 z.lo] 174)) (HR.out.next (below_alloc1 _ _)))
  refine HL2.out.mono ?_
  rintro e w2 ⟨rfl, hb⟩
  have HZ2 := HZ.out.below hb
  have HB3 := Lib.hid (HB2.out.trans (hb.mono (by simp only [World.size_alloc]; omega)))
  have z1 : w2.cell? ⟨w.heap.size + 1, 1, none⟩ = some (.int .i64 z.sh) := HZ2.cell 1
  have z2 : w2.cell? ⟨w.heap.size + 1, 2, none⟩ = some (.int .i64 z.lo) := HZ2.cell 2
  clear hb HB HX HR HL HZ HB2 HL2 HZ2 x3 hc0 hc1 hc2
  have HD := hD.out
  clear hD
  cases lb
  · go_wp2_with fail
    go_ret
    exact ⟨by rw [HD]; rfl, HB3.out⟩
  · go_wp2_with fail
    go_ret
    exact ⟨by rw [HD]; rfl, HB3.out⟩

set_option maxHeartbeats 4000000 in
set_option maxRecDepth 100000 in
theorem newYear_any (c : Cal) (y : Int) (w : World) (hr : CalIn w c) (ok : CalOk c) (h1 : -100000 ≤ y) (h2 : y ≤ 100000) :
    Calls Tryz.prog 133 #[c.val, .int .i64 y] w fun e w' => e = .returned (.int .i64 (c.ny y)) ∧ Below w.heap.size w w' := by
  have HB := Lib.hid (below_alloc1 w (Obj.cells c.cells 75))
  have HX := Lib.hid (Box.new w 75 c.cells)
  have HR := Lib.hid (hr.next HB.out)
  have hc := ok.hd.2.2
  have hep := ok.hd.2.1
  have HLn := Lib.hid (fun W (h : CalIn W c) => clengths_any c W h ok.mo)
  obtain ⟨⟨s1, s2⟩, l1, l2⟩ := Cal.sums_pos ok
  have hn := ok.lp.len (by omega)
  have HLE := Lib.hid ok.lp.le
  have HDn := Lib.hid (fun W => down_pos (y - 1) c.cy W (by omega) (by omega) (by omega) (by omega))
  have HMd := Lib.hid (fun W => mod_pos (y - 1) c.cy W (by omega) (by omega) (by omega) (by omega))
  have r0 := Int.emod_nonneg (y - 1) (show c.cy ≠ 0 by omega)
  have r1 := Int.emod_lt_of_pos (y - 1) (show 0 < c.cy by omega)
  have q0 : -100002 ≤ (y - 1) / c.cy ∧ (y - 1) / c.cy ≤ 100002 := by
    have e := Int.mul_ediv_add_emod (y - 1) c.cy
    have a1 : (-100002) ≤ (y - 1) / c.cy := (Int.le_ediv_iff_mul_le (show 0 < c.cy by omega)).2 (by omega)
    have a2 : (y - 1) / c.cy < 100002 := (Int.ediv_lt_iff_lt_mul (show 0 < c.cy by omega)).2 (by omega)
    omega
  have hk := cnt_le ((y - 1) % c.cy + 1) c.lp
  have HSI := Lib.hid (fun W (h : CalIn W c) => searchInts_any c.A2 c.c2 c.lp ((y - 1) % c.cy + 1) W h.r2 (by omega) HLE.out)
  have hD : Hid (c.ny y = c.ep + (y - 1) / c.cy * (c.cy * sumS c.mo + c.lp.length * (sumL c.mo - sumS c.mo)) + (y - 1) % c.cy * sumS c.mo + cntL c.lp ((y - 1) % c.cy + 1) * (sumL c.mo - sumS c.mo)) := rfl
  have hy1 : -100001 ≤ y - 1 := by omega
  have hy2 : y - 1 ≤ 99999 := by omega
  clear hr ok
  generalize c.ny y = R at *
  generalize cntL c.lp ((y - 1) % c.cy + 1) = k at *
  generalize (y - 1) / c.cy = q at *
  generalize (y - 1) % c.cy = r at *
  generalize sumS c.mo = S at *
  generalize sumL c.mo = L at *
  have p1 := prod_in c.cy S 3000 8000 (by omega) (by omega) (by omega) (by omega)
  have p2 := prodAbs (c.lp.length : Int) (L - S) 3000 8000 (by omega) (by omega) (by omega) (by omega)
  have p4 := prodAbs q (c.cy * S + (c.lp.length : Int) * (L - S)) 100002 48000000 (by omega) (by omega) (by omega) (by omega)
  have p6 := prod_in r S 3000 8000 (by omega) (by omega) (by omega) (by omega)
  have p8 := prodAbs (k : Int) (L - S) 3000 8000 (by omega) (by omega) (by omega) (by omega)
  have ew : IntKind.i64.wrap (y - 1) = y - 1 := intFits _ (by omega) (by omega)
  go_enter Tryz.func133, Tryz.ntmps133
  go_wp2_with fail
  generalize w.alloc (Obj.cells c.cells 75) = W0 at *
  generalize hg : w.heap.size = g at *
  have HG := Lib.hid hg
  clear hg
  refine (HLn.out _ HR.out).mono ?_
  rintro e w1 ⟨rfl, hb⟩
  have HX1 := Lib.hid (HX.out.below hb)
  have HB1 := Lib.hid (show Below g w w1 from HB.out.trans (hb.mono (by have := HX.out.lt; omega)))
  have HR1 := Lib.hid (HR.out.next hb)
  clear hb HX HB HR HLn
  obtain ⟨x0, x1, x2, x3, x4⟩ := ccells HX1.out
  have xl := HX1.out.lt
  go_wp2_with fail
  go_quiet (first
    | ((go_at_call 110; exact Calls.quiet_of (HMd.out _)))
    | ((go_at_call 77; exact Calls.quiet_of (HDn.out _))))
  have HX2 := Lib.hid (HX1.out.drewN nq)
  have HB2 := Lib.hid (below_drew HB1.out nq)
  have HR2 : Hid (CalIn (w1.drewN nq) c) := ⟨HR1.out.r1, HR1.out.r2⟩
  clear x0 x1 x2 x3 x4 xl HX1 HB1 HR1 HMd HDn
  generalize w1.drewN nq = w2 at *
  obtain ⟨x0, x1, x2, x3, x4⟩ := ccells HX2.out
  have xl := HX2.out.lt
  have HS2 := Lib.hid (HSI.out w2 HR2.out)
  clear HSI
  go_wp2_with fail
  refine HS2.out.mono ?_
  rintro e w3 ⟨rfl, hb⟩
  have HX3 := Lib.hid (HX2.out.below hb)
  have HB3 := Lib.hid (HB2.out.trans (hb.mono (by omega)))
  clear hb x0 x1 x2 x3 x4 xl HS2 HX2 HB2 HR2 HLE
  obtain ⟨x0, x1, x2, x3, x4⟩ := ccells HX3.out
  have xl := HX3.out.lt
  go_wp2_with fail
  go_ret
  exact ⟨by rw [hD.out]; rfl, by rw [HG.out]; exact HB3.out⟩
end Go.Proofs.YteebjkcpniddiaaGreatDoor

/- Contract of arith.fromDay. -/
namespace Go.Proofs.YteebjkcpniddiaaGreatDoor
open Go.RowKit
set_option linter.unusedVariables false

theorem isYear_any (n : Int) (w : World) : Calls Tryz.prog 134 #[.int .i64 n] w fun e w' => e = .returned (.bool (decide (-10000 ≤ n ∧ n ≤ 10000))) ∧ w = w' := by
  by_cases h1 : -10000 ≤ n
  · by_cases h2 : n ≤ 10000
    · rw [decide_eq_true ⟨h1, h2⟩]; exact aisYear_any n w h1 h2
    · rw [decide_eq_false (fun h => h2 h.2)]
      have t1 : decide (-10000 ≤ n) = true := decide_eq_true h1
      have t2 : decide (n ≤ 10000) = false := decide_eq_false h2
      go_enter Tryz.func134, Tryz.ntmps134
      go_wp2_with fail
      go_ret
      exact ⟨rfl, rfl⟩
  · rw [decide_eq_false (fun h => h1 h.1)]
    have t1 : decide (-10000 ≤ n) = false := decide_eq_false h1
    go_enter Tryz.func134, Tryz.ntmps134
    go_wp2_with fail
    go_ret
    exact ⟨rfl, rfl⟩
theorem isDay_any (n : Int) (w : World) : Calls Tryz.prog 73 #[.int .i64 n] w fun e w' => e = .returned (.bool (decide (-4000000 ≤ n ∧ n ≤ 4000000))) ∧ w = w' := by
  by_cases h1 : -4000000 ≤ n
  · by_cases h2 : n ≤ 4000000
    · rw [decide_eq_true ⟨h1, h2⟩]
      have t1 : decide (-4000000 ≤ n) = true := decide_eq_true h1
      have t2 : decide (n ≤ 4000000) = true := decide_eq_true h2
      go_enter Tryz.func73, Tryz.ntmps73
      go_wp2_with fail
      go_ret
      exact ⟨rfl, rfl⟩
    · rw [decide_eq_false (fun h => h2 h.2)]
      have t1 : decide (-4000000 ≤ n) = true := decide_eq_true h1
      have t2 : decide (n ≤ 4000000) = false := decide_eq_false h2
      go_enter Tryz.func73, Tryz.ntmps73
      go_wp2_with fail
      go_ret
      exact ⟨rfl, rfl⟩
  · rw [decide_eq_false (fun h => h1 h.1)]
    have t1 : decide (-4000000 ≤ n) = false := decide_eq_false h1
    go_enter Tryz.func73, Tryz.ntmps73
    go_wp2_with fail
    go_ret
    exact ⟨rfl, rfl⟩

set_option maxHeartbeats 1000000 in
set_option maxRecDepth 100000 in
theorem fromDay_one (c : Cal) (gc gl gd : Nat) (low day : Int) (i : Nat) (W : World) (hx : Box W gc 75 c.cells) (hl : Box W gl 3 #[.int .i64 low]) (hd : Box W gd 3 #[.int .i64 day]) (hr : CalIn W c) (ok : CalOk c) (h1 : -10001 ≤ low) (h2 : low ≤ 0) (hi : i ≤ 20004) :
    Calls Tryz.prog 132 #[.int .i64 (i : Int), .pointer (some ⟨gc, 0, none⟩), .pointer (some ⟨gl, 0, none⟩), .pointer (some ⟨gd, 0, none⟩)] W fun e w' => e = .returned (.bool (decide (day < c.ny (low + (i : Int))))) ∧ Below W.heap.size W w' := by
  have HN := Lib.hid (fun w (hb : Below W.heap.size W w) => newYear_any c (low + (i : Int)) w (hr.next hb) ok (by omega) (by omega))
  have z0 : ∀ w, Below W.heap.size W w → w.cell? ⟨gc, 0, none⟩ = some (.string c.nm) := fun w hb => (hx.below hb).cell 0
  have z1 : ∀ w, Below W.heap.size W w → w.cell? ⟨gc, 1, none⟩ = some (.int .i64 c.ep) := fun w hb => (hx.below hb).cell 1
  have z2 : ∀ w, Below W.heap.size W w → w.cell? ⟨gc, 2, none⟩ = some (.int .i64 c.cy) := fun w hb => (hx.below hb).cell 2
  have z3 : ∀ w, Below W.heap.size W w → w.cell? ⟨gc, 3, none⟩ = some (.slice c.A1 c.mo.length c.c1) := fun w hb => (hx.below hb).cell 3
  have z4 : ∀ w, Below W.heap.size W w → w.cell? ⟨gc, 4, none⟩ = some (.slice c.A2 c.lp.length c.c2) := fun w hb => (hx.below hb).cell 4
  have y0 : ∀ w, Below W.heap.size W w → w.cell? ⟨gl, 0, none⟩ = some (.int .i64 low) := fun w hb => (hl.below hb).cell 0
  have y1 : ∀ w, Below W.heap.size W w → w.cell? ⟨gd, 0, none⟩ = some (.int .i64 day) := fun w hb => (hd.below hb).cell 0
  have ew : IntKind.i64.wrap (low + (i : Int)) = low + (i : Int) := intFits _ (by omega) (by omega)
  clear hx hl hd hr ok
  generalize c.ny (low + (i : Int)) = R at *
  go_enter Tryz.func132, Tryz.ntmps132
  go_upto_region 1 with fail
  refine flow_begin (tellOf [(4, det (.int .i64 R))]) (by kernel_rfl) (by kernel_rfl) ?_
  repeat (first | (refine flow_val (v := ?_) (by rfl) (by rfl) (fun w hb => ?_) ?_; rotate_left; (· ((go_simp) <;> ((repeat' apply And.intro) <;> with_reducible rfl))); try simp only [Act.put, List.setIfInBounds_toArray, List.set_cons_zero, List.set_cons_succ, Nat.reduceAdd]) | (refine flow_skip (by rfl) (by rfl) ?_; try simp only [Act.put, List.setIfInBounds_toArray, List.set_cons_zero, List.set_cons_succ, Nat.reduceAdd]))
  refine flow_call (f := ?_) (args := ?_) [] (by kernel_rfl) (by rfl) (by rfl) (fun w hb => ?_) (fun w hb hu => ?_) ?_; rotate_left 2; (· ((go_simp) <;> ((repeat' apply And.intro) <;> with_reducible rfl)))
  · exact HN.out w hb
  try simp only [Act.put, List.setIfInBounds_toArray, List.set_cons_zero, List.set_cons_succ, Nat.reduceAdd]
  repeat (first | (refine flow_val (v := ?_) (by rfl) (by rfl) (fun w hb => ?_) ?_; rotate_left; (· ((go_simp) <;> ((repeat' apply And.intro) <;> with_reducible rfl))); try simp only [Act.put, List.setIfInBounds_toArray, List.set_cons_zero, List.set_cons_succ, Nat.reduceAdd]) | (refine flow_skip (by rfl) (by rfl) ?_; try simp only [Act.put, List.setIfInBounds_toArray, List.set_cons_zero, List.set_cons_succ, Nat.reduceAdd]))
  refine flow_nil fun w1 hb1 _ => ?_
  clear z0 z1 z2 z3 z4 y0 y1
  go_wp2_with fail
  go_ret
  exact ⟨rfl, hb1⟩

/-- the first place of a monotone test -/
theorem first_of (p : Nat → Bool) : ∀ n, (∀ a b, a ≤ b → b < n → p a = true → p b = true) → ∃ K, K ≤ n ∧ (∀ t, t < K → p t = false) ∧ (∀ t, K ≤ t → t < n → p t = true) := by
  intro n
  induction n with
  | zero => intro _; exact ⟨0, Nat.le_refl _, fun t h => by omega, fun t _ h => by omega⟩
  | succ n ih =>
    intro hm
    obtain ⟨K, h1, h2, h3⟩ := ih fun a b hab hb h => hm a b hab (by omega) h
    by_cases hK : K < n
    · exact ⟨K, by omega, h2, fun t ht hn => hm K t ht hn (h3 K (Nat.le_refl _) hK)⟩
    · obtain rfl : K = n := by omega
      cases hp : p K with
      | true => exact ⟨K, by omega, h2, fun t ht hn => by rw [show t = K from by omega]; exact hp⟩
      | false => exact ⟨K + 1, by omega, fun t ht => by
          by_cases e : t = K
          · rw [e]; exact hp
          · exact h2 t (by omega), fun t h1 h2 => by omega⟩
/-- what fromDay says -/
def IsFD (c : Cal) (day : Int) (w : World) (e : Ending) (w' : World) : Prop :=
  Below w.heap.size w w' ∧ ((∃ (y : Int) (m : Nat) (d : Int), -10000 ≤ y ∧ y ≤ 10000 ∧ IsOn c y m d day ∧ e = .returned (.tuple #[.agg #[.int .i64 y, .int .i64 ((m : Int) + 1), .int .i64 (d + 1)], .int .i64 0])) ∨
    (¬ (-4000000 ≤ day ∧ day ≤ 4000000 ∧ c.ny (-10000) ≤ day ∧ day < c.ny 10001) ∧ e = .returned (.tuple #[.agg #[.int .i64 0, .int .i64 0, .int .i64 0], .int .i64 3])))

set_option maxHeartbeats 4000000 in
set_option maxRecDepth 100000 in
theorem fromDay_any (c : Cal) (day : Int) (w : World) (hr : CalIn w c) (ok : CalOk c) :
    Calls Tryz.prog 80 #[c.val, .int .i64 day] w (IsFD c day w) := by
  have hW : ((w.alloc (Obj.cells c.cells 75)).alloc (Obj.cells #[.int .i64 day] 3)).heap.size = w.heap.size + 2 := by simp
  have hW' : (w.alloc (Obj.cells c.cells 75)).heap.size = w.heap.size + 1 := by simp
  have hm1 := ((hr.next (below_alloc1 w (Obj.cells c.cells 75))).next (below_alloc1 _ (Obj.cells #[.int .i64 day] 3))).next (below_alloc1 _ (Obj.cells #[.int .i64 0, .int .i64 0, .int .i64 0] 61))
  have hB1 := below_alloc3 w (Obj.cells c.cells 75) (Obj.cells #[.int .i64 day] 3) (Obj.cells #[.int .i64 0, .int .i64 0, .int .i64 0] 61)
  have hx1 := ((Box.new w 75 c.cells).alloc (Obj.cells #[.int .i64 day] 3)).alloc (Obj.cells #[.int .i64 0, .int .i64 0, .int .i64 0] 61)
  have hd1 := (Box.new (w.alloc (Obj.cells c.cells 75)) 3 #[.int .i64 day]).alloc (Obj.cells #[.int .i64 0, .int .i64 0, .int .i64 0] 61)
  have hr1 := Box.new ((w.alloc (Obj.cells c.cells 75)).alloc (Obj.cells #[.int .i64 day] 3)) 61 #[.int .i64 0, .int .i64 0, .int .i64 0]
  rw [hW'] at hd1
  rw [hW] at hr1
  clear hW hW' hr
  have OK := Lib.hid ok
  clear ok
  go_enter Tryz.func80, Tryz.ntmps80
  go_wp2_with fail
  generalize ((w.alloc (Obj.cells c.cells 75)).alloc (Obj.cells #[.int .i64 day] 3)).alloc (Obj.cells #[.int .i64 0, .int .i64 0, .int .i64 0] 61) = W1 at *
  generalize hg : w.heap.size = g at *
  have HG := Lib.hid hg
  clear hg
  have HB1 := Lib.hid hB1
  clear hB1
  refine (isDay_any day _).mono ?_
  rintro e w' ⟨rfl, rfl⟩
  have y0 : W1.cell? ⟨g + 1, 0, none⟩ = some (.int .i64 day) := hd1.cell 0
  have r0 : W1.cell? ⟨g + 1 + 1, 0, none⟩ = some (.int .i64 0) := hr1.cell 0
  have r1 : W1.cell? ⟨g + 1 + 1, 1, none⟩ = some (.int .i64 0) := hr1.cell 1
  have r2 : W1.cell? ⟨g + 1 + 1, 2, none⟩ = some (.int .i64 0) := hr1.cell 2
  have rf : ∀ i, W1.frozen? ⟨g + 1 + 1, i, none⟩ = false := fun i => hr1.free i
  clear y0
  by_cases hday : -4000000 ≤ day ∧ day ≤ 4000000
  case neg =>
    rw [decide_eq_false hday]
    go_wp2_with fail
    refine bodyPost_ret (v := .tuple #[.agg #[.int .i64 0, .int .i64 0, .int .i64 0], .int .i64 3]) (by simp [results, Tryz.results80, go_sem, r0, r1, r2]) rfl ?_
    exact ⟨by rw [HG.out]; exact ((HB1.out.setCell (p := ⟨g + 1 + 1, 0, none⟩) (show g ≤ g + 1 + 1 by omega) _).setCell (p := ⟨g + 1 + 1, 1, none⟩) (show g ≤ g + 1 + 1 by omega) _).setCell (p := ⟨g + 1 + 1, 2, none⟩) (show g ≤ g + 1 + 1 by omega) _, .inr ⟨fun h => hday ⟨h.1, h.2.1⟩, rfl⟩⟩
  rw [decide_eq_true hday]
  have hgl := hr1.lt
  clear r0 r1 r2 rf
  go_upto_region 4 with fail
  have HX2 := Lib.hid (hx1.alloc (Obj.cells #[.int .i64 (-10001)] 3))
  have HD2 := Lib.hid (hd1.alloc (Obj.cells #[.int .i64 (-10001)] 3))
  have HR2 := Lib.hid (hr1.alloc (Obj.cells #[.int .i64 (-10001)] 3))
  have HM2 := Lib.hid (hm1.next (below_alloc1 W1 (Obj.cells #[.int .i64 (-10001)] 3)))
  have HB2 := Lib.hid (HB1.out.alloc (by omega) (Obj.cells #[.int .i64 (-10001)] 3))
  have HL2 := Lib.hid (Box.new W1 3 #[.int .i64 (-10001)])
  clear hx1 hd1 hr1 hm1 HB1
  generalize W1.alloc (Obj.cells #[.int .i64 (-10001)] 3) = W2 at *
  generalize W1.heap.size = gl at *
  obtain ⟨K, hK, hK1, hK2⟩ := first_of (fun i => decide (day < c.ny (-10001 + (i : Int)))) 20004 fun a b hab hb h => by
    have h' : day < c.ny (-10001 + (a : Int)) := of_decide_eq_true h
    have := Cal.ny_le OK.out (show -10001 + (a : Int) ≤ -10001 + (b : Int) by omega)
    exact decide_eq_true (by omega)
  have HSe : Hid (∀ W, Below W2.heap.size W2 W → Calls Tryz.prog 81 #[.int .i64 20004, .func (.func 132) #[] #[.pointer (some ⟨g, 0, none⟩), .pointer (some ⟨gl, 0, none⟩), .pointer (some ⟨g + 1, 0, none⟩)]] W
      fun e w' => e = .returned (.int .i64 (K : Int)) ∧ Below W.heap.size W w') := fun W hW => by
    refine (search_any 132 _ 20004 (fun i => decide (day < c.ny (-10001 + (i : Int)))) (fun W' => Below W.heap.size W W') W (Below.refl _ _) (by omega) (fun _ _ => rfl) (fun W' i hW' hi => ?_) (fun a b hab hb h => ?_)).mono ?_
    · have hWW := below_then hW hW'
      exact (fromDay_one c g gl (g + 1) (-10001) day i W' (HX2.out.below hWW) (HL2.out.below hWW) (HD2.out.below hWW) (HM2.out.next hWW) OK.out (by omega) (by omega) (by omega)).mono fun e w' ⟨he, hb⟩ => ⟨he, below_then hW' hb⟩
    · have h' : day < c.ny (-10001 + (a : Int)) := of_decide_eq_true h
      have := Cal.ny_le OK.out (show -10001 + (a : Int) ≤ -10001 + (b : Int) by omega)
      exact decide_eq_true (by omega)
    · rintro e w' ⟨k, rfl, hk, h1, h2, hb⟩
      have : k = K := by
        by_cases h3 : k < K
        · have a := hK1 k h3
          have b : decide (day < c.ny (-10001 + (k : Int))) = true := h2 k (Nat.le_refl _) (by omega)
          rw [a] at b; cases b
        · by_cases h4 : K < k
          · have a : decide (day < c.ny (-10001 + (K : Int))) = false := h1 K h4
            have b := hK2 K (Nat.le_refl _) (by omega)
            rw [a] at b; cases b
          · omega
      subst this
      exact ⟨rfl, hb⟩
  have z : ∀ w, Below W2.heap.size W2 w → w.cell? ⟨gl, 0, none⟩ = some (.int .i64 (-10001)) := fun w hb => (HL2.out.below hb).cell 0
  have e1 : IntKind.i64.wrap (-10001 + (K : Int)) = -10001 + (K : Int) := intFits _ (by omega) (by omega)
  have e2 : IntKind.i64.wrap (-10001 + (K : Int) - 1) = -10001 + (K : Int) - 1 := intFits _ (by omega) (by omega)
  refine flow_begin (tellOf [(2, det (.int .i64 (K : Int)))]) (by kernel_rfl) (by kernel_rfl) ?_
  repeat (first | (refine flow_val (v := ?_) (by rfl) (by rfl) (fun w hb => ?_) ?_; rotate_left; (· ((go_simp) <;> ((repeat' apply And.intro) <;> with_reducible rfl))); try simp only [Act.put, List.setIfInBounds_toArray, List.set_cons_zero, List.set_cons_succ, Nat.reduceAdd]) | (refine flow_skip (by rfl) (by rfl) ?_; try simp only [Act.put, List.setIfInBounds_toArray, List.set_cons_zero, List.set_cons_succ, Nat.reduceAdd]))
  refine flow_call (f := ?_) (args := ?_) [] (by kernel_rfl) (by rfl) (by rfl) (fun w hb => ?_) (fun w hb hu => ?_) ?_; rotate_left 2; (· ((go_simp) <;> ((repeat' apply And.intro) <;> with_reducible rfl)))
  · exact HSe.out w hb
  try simp only [Act.put, List.setIfInBounds_toArray, List.set_cons_zero, List.set_cons_succ, Nat.reduceAdd]
  repeat (first | (refine flow_val (v := ?_) (by rfl) (by rfl) (fun w hb => ?_) ?_; rotate_left; (· ((go_simp) <;> ((repeat' apply And.intro) <;> with_reducible rfl))); try simp only [Act.put, List.setIfInBounds_toArray, List.set_cons_zero, List.set_cons_succ, Nat.reduceAdd]) | (refine flow_skip (by rfl) (by rfl) ?_; try simp only [Act.put, List.setIfInBounds_toArray, List.set_cons_zero, List.set_cons_succ, Nat.reduceAdd]))
  refine flow_nil fun w3 hb3 _ => ?_
  have HX3 := Lib.hid (HX2.out.below hb3)
  have HD3 := Lib.hid (HD2.out.below hb3)
  have HR3 := Lib.hid (HR2.out.below hb3)
  have HM3 := Lib.hid (HM2.out.next hb3)
  have HB3 := Lib.hid (HB2.out.trans (hb3.mono (by have := HX2.out.lt; omega)))
  have hlow : Hid (K ≤ 1 → day < c.ny (-10000)) := fun h => by
    have h1 : day < c.ny (-10001 + ((1 : Nat) : Int)) := of_decide_eq_true (hK2 1 h (by omega))
    exact h1
  have hhigh : Hid (20003 ≤ K → c.ny 10001 ≤ day) := fun h => by
    have h1 : ¬ day < c.ny (-10001 + ((20002 : Nat) : Int)) := of_decide_eq_false (hK1 20002 (by omega))
    rw [show (-10001 : Int) + ((20002 : Nat) : Int) = 10001 from rfl] at h1
    omega
  have here1 : Hid (2 ≤ K → c.ny (-10001 + (K : Int) - 1) ≤ day) := fun h => by
    have h1 : ¬ day < c.ny (-10001 + ((K - 1 : Nat) : Int)) := of_decide_eq_false (hK1 (K - 1) (by omega))
    rw [show -10001 + ((K - 1 : Nat) : Int) = -10001 + (K : Int) - 1 from by omega] at h1
    omega
  have here2 : Hid (K < 20004 → day < c.ny (-10001 + (K : Int) - 1 + 1)) := fun h => by
    have h1 : day < c.ny (-10001 + (K : Int)) := of_decide_eq_true (hK2 K (Nat.le_refl _) h)
    rw [show -10001 + (K : Int) - 1 + 1 = -10001 + (K : Int) from by omega]
    exact h1
  clear hb3 HX2 HD2 HR2 HM2 HB2 HL2 HSe z e1 e2 hK1 hK2
  obtain ⟨Y, hY⟩ : ∃ Y : Int, Y = -10001 + (K : Int) - 1 := ⟨_, rfl⟩
  rw [← hY] at here1 here2
  rw [← hY]
  have HY := Lib.hid hY
  clear hY
  go_wp2_with fail
  refine (isYear_any Y _).mono ?_
  rintro e w' ⟨rfl, rfl⟩
  have r0 : w3.cell? ⟨g + 1 + 1, 0, none⟩ = some (.int .i64 0) := HR3.out.cell 0
  have r1 : w3.cell? ⟨g + 1 + 1, 1, none⟩ = some (.int .i64 0) := HR3.out.cell 1
  have r2 : w3.cell? ⟨g + 1 + 1, 2, none⟩ = some (.int .i64 0) := HR3.out.cell 2
  have rf : ∀ i, w3.frozen? ⟨g + 1 + 1, i, none⟩ = false := fun i => HR3.out.free i
  by_cases hy : -10000 ≤ Y ∧ Y ≤ 10000
  case neg =>
    rw [decide_eq_false hy]
    have hno : ¬ (c.ny (-10000) ≤ day ∧ day < c.ny 10001) := fun h => by
      have := HY.out
      by_cases h1 : K ≤ 1
      · have := hlow.out h1; omega
      · have := hhigh.out (by omega); omega
    go_wp2_with fail
    refine bodyPost_ret (v := .tuple #[.agg #[.int .i64 0, .int .i64 0, .int .i64 0], .int .i64 3]) (by simp [results, Tryz.results80, go_sem, r0, r1, r2]) rfl ?_
    exact ⟨by rw [HG.out]; exact ((HB3.out.setCell (p := ⟨g + 1 + 1, 0, none⟩) (show g ≤ g + 1 + 1 by omega) _).setCell (p := ⟨g + 1 + 1, 1, none⟩) (show g ≤ g + 1 + 1 by omega) _).setCell (p := ⟨g + 1 + 1, 2, none⟩) (show g ≤ g + 1 + 1 by omega) _, .inr ⟨fun h => hno h.2.2, rfl⟩⟩
  rw [decide_eq_true hy]
  obtain ⟨hy1, hy2⟩ := hy
  have in1 := here1.out (by have := HY.out; omega)
  have in2 := Lib.hid (here2.out (by have := HY.out; omega))
  clear here1 here2 hlow hhigh HY r0 r1 r2 rf
  have HNy := Lib.hid (fun w (hb : Below w3.heap.size w3 w) => newYear_any c Y w (HM3.out.next hb) OK.out (by omega) (by omega))
  have hnb := Cal.ny_in OK.out Y (by omega) (by omega)
  have HStep := Lib.hid (Cal.ny_step OK.out Y)
  have HLen := Lib.hid (fun (m : Nat) (hm : m < c.mo.length) w (hb : Below w3.heap.size w3 w) => alength_any c Y m hm w (HM3.out.next hb) OK.out (by omega) (by omega))
  have HPs := Lib.hid (fun m hm => c.pre_succ Y m hm)
  have HMl := Lib.hid (fun m hm => Cal.mlen_in OK.out Y m hm)
  have HP0 := Lib.hid (c.pre_zero Y)
  have HPA := Lib.hid (c.pre_all Y)
  have hmo := OK.out.mo.n1
  have hmo2 := OK.out.mo.n2
  have HON : Hid (∀ m d, m < c.mo.length → 0 ≤ d → d < c.mlen Y m → day = c.ny Y + c.pre Y m + d → IsOn c Y m d day) := fun m d a b e f => ⟨a, b, e, f⟩
  generalize c.ny Y = N at *
  have z0 : ∀ w, Below w3.heap.size w3 w → w.cell? ⟨g, 0, none⟩ = some (.string c.nm) := fun w hb => (HX3.out.below hb).cell 0
  have z1 : ∀ w, Below w3.heap.size w3 w → w.cell? ⟨g, 1, none⟩ = some (.int .i64 c.ep) := fun w hb => (HX3.out.below hb).cell 1
  have z2 : ∀ w, Below w3.heap.size w3 w → w.cell? ⟨g, 2, none⟩ = some (.int .i64 c.cy) := fun w hb => (HX3.out.below hb).cell 2
  have z3 : ∀ w, Below w3.heap.size w3 w → w.cell? ⟨g, 3, none⟩ = some (.slice c.A1 c.mo.length c.c1) := fun w hb => (HX3.out.below hb).cell 3
  have z4 : ∀ w, Below w3.heap.size w3 w → w.cell? ⟨g, 4, none⟩ = some (.slice c.A2 c.lp.length c.c2) := fun w hb => (HX3.out.below hb).cell 4
  have y1 : ∀ w, Below w3.heap.size w3 w → w.cell? ⟨g + 1, 0, none⟩ = some (.int .i64 day) := fun w hb => (HD3.out.below hb).cell 0
  have e1 : IntKind.i64.wrap (day - N) = day - N := intFits _ (by omega) (by omega)
  go_upto_region 7 with fail
  refine flow_begin (tellOf [(3, det (.int .i64 N))]) (by kernel_rfl) (by kernel_rfl) ?_
  repeat (first | (refine flow_val (v := ?_) (by rfl) (by rfl) (fun w hb => ?_) ?_; rotate_left; (· ((go_simp) <;> ((repeat' apply And.intro) <;> with_reducible rfl))); try simp only [Act.put, List.setIfInBounds_toArray, List.set_cons_zero, List.set_cons_succ, Nat.reduceAdd]) | (refine flow_skip (by rfl) (by rfl) ?_; try simp only [Act.put, List.setIfInBounds_toArray, List.set_cons_zero, List.set_cons_succ, Nat.reduceAdd]))
  refine flow_call (f := ?_) (args := ?_) [] (by kernel_rfl) (by rfl) (by rfl) (fun w hb => ?_) (fun w hb hu => ?_) ?_; rotate_left 2; (· ((go_simp) <;> ((repeat' apply And.intro) <;> with_reducible rfl)))
  · exact HNy.out w hb
  try simp only [Act.put, List.setIfInBounds_toArray, List.set_cons_zero, List.set_cons_succ, Nat.reduceAdd]
  repeat (first | (refine flow_val (v := ?_) (by rfl) (by rfl) (fun w hb => ?_) ?_; rotate_left; (· ((go_simp) <;> ((repeat' apply And.intro) <;> with_reducible rfl))); try simp only [Act.put, List.setIfInBounds_toArray, List.set_cons_zero, List.set_cons_succ, Nat.reduceAdd]) | (refine flow_skip (by rfl) (by rfl) ?_; try simp only [Act.put, List.setIfInBounds_toArray, List.set_cons_zero, List.set_cons_succ, Nat.reduceAdd]))
  refine flow_nil fun w4 hb4 _ => ?_
  have HB4 := Lib.hid hb4
  clear hb4 z0 z1 z2 z3 z4 y1 e1 HNy
  have hN1 : Hid (day < N + c.ylen Y) := by unfold Hid; rw [← HStep.out]; exact in2.out
  clear HStep in2
  have hd0 : 0 ≤ day - N - c.pre Y 0 := by rw [HP0.out]; omega
  have hd1 : day - N = day - N - c.pre Y 0 := by rw [HP0.out]; omega
  go_wp2_with fail
  go_loopw [8, 9] (fun d mm wr => ∃ m : Nat, m < c.mo.length ∧ mm = .int .i64 ((m : Int) + 1) ∧ d = .int .i64 (day - N - c.pre Y m) ∧ 0 ≤ day - N - c.pre Y m ∧ Hid (Below w3.heap.size w3 wr)) (fun _ mm _ => c.mo.length + 1 - (intOf mm).toNat)
  case atStart => exact ⟨0, hmo, rfl, by rw [← hd1], hd0, HB4⟩
  case round =>
    clear HB4 hd0 hd1
    obtain ⟨m, hm, rfl, rfl, hd0, hbr⟩ := hrel
    have hml := HMl.out m hm
    have HL1 := Lib.hid (fun w hb => HLen.out m hm w hb)
    have HPm := Lib.hid (HPs.out m hm)
    have HONm := Lib.hid (HON.out m (day - N - c.pre Y m) hm hd0)
    have HXr := Lib.hid (HX3.out.below hbr.out)
    have HRr := Lib.hid (HR3.out.below hbr.out)
    have hD : Hid (day = N + c.pre Y m + (day - N - c.pre Y m)) := by unfold Hid; omega
    have hDle : day - N - c.pre Y m ≤ 1000000000 := by
      have := Cal.pre_mono OK.out Y m 0 (by omega)
      rw [c.pre_zero, Nat.zero_add] at this
      omega
    generalize c.mlen Y m = L at *
    generalize hDD : day - N - c.pre Y m = D at *
    have HDD := Lib.hid hDD
    clear hDD
    obtain ⟨x0, x1, x2, x3, x4⟩ := ccells HXr.out
    have xl := HXr.out.lt
    go_wp2_with fail
    refine (HL1.out wr hbr.out).mono ?_
    rintro e w5 ⟨rfl, hb5⟩
    have HXs := Lib.hid (HXr.out.below hb5)
    have HRs := Lib.hid (HRr.out.below hb5)
    have hbs := Lib.hid (below_then hbr.out hb5)
    clear hb5 x0 x1 x2 x3 x4 xl HXr HRr hbr
    by_cases hlt : L ≤ D
    · have t1 : decide (L ≤ D) = true := decide_eq_true hlt
      obtain ⟨x0, x1, x2, x3, x4⟩ := ccells HXs.out
      have xl := HXs.out.lt
      go_wp2_with fail
      refine (HL1.out w5 hbs.out).mono ?_
      rintro e w6 ⟨rfl, hb6⟩
      have hbt := Lib.hid (below_then hbs.out hb6)
      have hm1 : m + 1 < c.mo.length := by
        by_cases h : m + 1 < c.mo.length
        · exact h
        · have e : m + 1 = c.mo.length := by omega
          have a := HPm.out
          rw [e, HPA.out] at a
          have := hN1.out
          have := HDD.out
          omega
      clear hb6 x0 x1 x2 x3 x4 xl HXs HRs hbs
      go_wp2_with fail
      go_roundw
      case rel => exact ⟨m + 1, hm1, by go_num, by rw [HPm.out]; congr 1; have := HDD.out; omega, by rw [HPm.out]; have := HDD.out; omega, hbt⟩
      case measure => simp [intOf]; omega
    · have t1 : decide (L ≤ D) = false := decide_eq_false hlt
      have HO := Lib.hid (HONm.out (by omega) hD.out)
      have r0 : w5.cell? ⟨g + 1 + 1, 0, none⟩ = some (.int .i64 0) := HRs.out.cell 0
      have r1 : w5.cell? ⟨g + 1 + 1, 1, none⟩ = some (.int .i64 0) := HRs.out.cell 1
      have r2 : w5.cell? ⟨g + 1 + 1, 2, none⟩ = some (.int .i64 0) := HRs.out.cell 2
      have rf : ∀ i, w5.frozen? ⟨g + 1 + 1, i, none⟩ = false := fun i => HRs.out.free i
      have hBf : Below g w w5 := HB3.out.trans (hbs.out.mono (by have := HX3.out.lt; omega))
      have HBf := Lib.hid hBf
      clear hBf HXs HRs hbs HONm HPm HL1 hD HDD
      go_wp2_with fail
      refine bodyPost_ret (v := .tuple #[.agg #[.int .i64 Y, .int .i64 ((m : Int) + 1), .int .i64 (D + 1)], .int .i64 0]) (by simp [results, Tryz.results80, go_sem, r0, r1, r2]) rfl ?_
      exact ⟨by rw [HG.out]; exact ((HBf.out.setCell (p := ⟨g + 1 + 1, 0, none⟩) (show g ≤ g + 1 + 1 by omega) _).setCell (p := ⟨g + 1 + 1, 1, none⟩) (show g ≤ g + 1 + 1 by omega) _).setCell (p := ⟨g + 1 + 1, 2, none⟩) (show g ≤ g + 1 + 1 by omega) _, .inl ⟨Y, m, D, hy1, hy2, HO.out, rfl⟩⟩
end Go.Proofs.YteebjkcpniddiaaGreatDoor

/- Contracts of package arith: check, Month, NewYear, FromDay. -/
namespace Go.Proofs.YteebjkcpniddiaaGreatDoor
open Go.RowKit
set_option linter.unusedVariables false

/-- a valid calendar in memory -/
structure CalV (w : World) (c : Cal) : Prop where
  r : CalIn w c
  f : CalFit c
  ok : CalOk c
theorem CalV.next {w w' : World} {c : Cal} (h : CalV w c) (hb : Below w.heap.size w w') : CalV w' c := ⟨h.r.next hb, h.f, h.ok⟩
theorem ccheck_ok (c : Cal) (w : World) (h : CalV w c) : Calls Tryz.prog 79 #[c.val] w fun e w' => e = .returned (.int .i64 0) ∧ Below w.heap.size w w' :=
  (ccheck_any c w h.r h.f).mono fun e w' ⟨E, he, hE, hb⟩ => ⟨by rw [he, hE.2 h.ok], hb⟩
set_option maxRecDepth 100000 in
theorem acheck_v (c : Cal) (y : Int) (w : World) (h : CalV w c) : Calls Tryz.prog 191 #[c.val, .int .i64 y] w fun e w' => e = .returned (.int .i64 (if -10000 ≤ y ∧ y ≤ 10000 then 0 else 3)) ∧ Below w.heap.size w w' := by
  have HB := Lib.hid (below_alloc1 w (Obj.cells c.cells 75))
  have HC := Lib.hid (ccheck_ok c _ (h.next HB.out))
  clear h
  by_cases hy : -10000 ≤ y ∧ y ≤ 10000
  · rw [if_pos hy]
    have HY := Lib.hid (fun W => isYear_any y W)
    rw [decide_eq_true hy] at HY
    clear hy
    go_enter Tryz.func191, Tryz.ntmps191
    go_wp2_with fail
    refine HC.out.mono ?_
    rintro e w1 ⟨rfl, hb⟩
    replace HB := Lib.hid (below_then HB.out hb)
    clear hb HC
    go_wp2_with (go_at_call 134; refine (HY.out _).mono ?_; rintro e w' ⟨rfl, rfl⟩)
    go_ret
    exact ⟨rfl, HB.out⟩
  · rw [if_neg hy]
    have HY := Lib.hid (fun W => isYear_any y W)
    rw [decide_eq_false hy] at HY
    clear hy
    go_enter Tryz.func191, Tryz.ntmps191
    go_wp2_with fail
    refine HC.out.mono ?_
    rintro e w1 ⟨rfl, hb⟩
    replace HB := Lib.hid (below_then HB.out hb)
    clear hb HC
    go_wp2_with (go_at_call 134; refine (HY.out _).mono ?_; rintro e w' ⟨rfl, rfl⟩)
    go_ret
    exact ⟨rfl, HB.out⟩

set_option maxHeartbeats 1000000 in
set_option maxRecDepth 100000 in
theorem FromDay_any (c : Cal) (day : Int) (w : World) (h : CalV w c) : Calls Tryz.prog 46 #[c.val, .int .i64 day] w (IsFD c day w) := by
  have HB := Lib.hid (below_alloc2 w (Obj.cells c.cells 75) (Obj.cells #[.int .i64 0, .int .i64 0, .int .i64 0] 61))
  have HX := Lib.hid ((Box.new w 75 c.cells).alloc (Obj.cells #[.int .i64 0, .int .i64 0, .int .i64 0] 61))
  have HD := Lib.hid (Box.new (w.alloc (Obj.cells c.cells 75)) 61 #[.int .i64 0, .int .i64 0, .int .i64 0])
  simp only [World.size_alloc] at HD
  have HV := Lib.hid (h.next HB.out)
  have HC := Lib.hid (fun w (h : CalV w c) => ccheck_ok c w h)
  have HF := Lib.hid (fun w (h : CalV w c) => fromDay_any c day w h.r h.ok)
  unfold IsFD at *
  clear h
  go_enter Tryz.func46, Tryz.ntmps46
  go_wp2_with fail
  generalize (w.alloc (Obj.cells c.cells 75)).alloc (Obj.cells #[.int .i64 0, .int .i64 0, .int .i64 0] 61) = W0 at *
  generalize hg : w.heap.size = g at *
  have HG := Lib.hid hg
  clear hg
  refine (HC.out _ HV.out).mono ?_
  rintro e w1 ⟨rfl, hb1⟩
  replace HB := Lib.hid (show Below g w w1 from HB.out.trans (hb1.mono (by have := HX.out.lt; omega)))
  replace HX := Lib.hid (HX.out.below hb1)
  replace HD := Lib.hid (HD.out.below hb1)
  replace HV := Lib.hid (HV.out.next hb1)
  clear hb1 HC
  obtain ⟨x0, x1, x2, x3, x4⟩ := ccells HX.out
  go_wp2_with fail
  refine (HF.out _ HV.out).mono ?_
  rintro e w2 ⟨hb, hc⟩
  have HB2 := Lib.hid (show Below g w w2 from HB.out.trans (hb.mono (by have := HX.out.lt; omega)))
  have HD2 := Lib.hid (HD.out.below hb)
  clear hb HB HF HV x0 x1 x2 x3 x4
  have r0 : w2.cell? ⟨g + 1, 0, none⟩ = some (.int .i64 0) := HD2.out.cell 0
  have r1 : w2.cell? ⟨g + 1, 1, none⟩ = some (.int .i64 0) := HD2.out.cell 1
  have r2 : w2.cell? ⟨g + 1, 2, none⟩ = some (.int .i64 0) := HD2.out.cell 2
  have rf : ∀ i, w2.frozen? ⟨g + 1, i, none⟩ = false := fun i => HD2.out.free i
  have hgl := HD2.out.lt
  rcases hc with ⟨y, m, d, h1, h2, h3, rfl⟩ | ⟨h1, rfl⟩
  · have HH := Lib.hid (show -10000 ≤ y ∧ y ≤ 10000 ∧ IsOn c y m d day from ⟨h1, h2, h3⟩)
    clear h1 h2 h3
    go_wp2_with fail
    refine bodyPost_ret (v := .tuple #[.agg #[.int .i64 y, .int .i64 ((m : Int) + 1), .int .i64 (d + 1)], .int .i64 0]) (by simp [results, Tryz.results46, go_sem, r0, r1, r2]) rfl ?_
    exact ⟨by rw [HG.out]; exact ((HB2.out.setCell (p := ⟨g + 1, 0, none⟩) (show g ≤ g + 1 by omega) _).setCell (p := ⟨g + 1, 1, none⟩) (show g ≤ g + 1 by omega) _).setCell (p := ⟨g + 1, 2, none⟩) (show g ≤ g + 1 by omega) _, .inl ⟨y, m, d, HH.out.1, HH.out.2.1, HH.out.2.2, rfl⟩⟩
  · have HH := Lib.hid h1
    clear h1
    go_wp2_with fail
    refine bodyPost_ret (v := .tuple #[.agg #[.int .i64 0, .int .i64 0, .int .i64 0], .int .i64 3]) (by simp [results, Tryz.results46, go_sem, r0, r1, r2]) rfl ?_
    exact ⟨by rw [HG.out]; exact ((HB2.out.setCell (p := ⟨g + 1, 0, none⟩) (show g ≤ g + 1 by omega) _).setCell (p := ⟨g + 1, 1, none⟩) (show g ≤ g + 1 by omega) _).setCell (p := ⟨g + 1, 2, none⟩) (show g ≤ g + 1 by omega) _, .inr ⟨HH.out, rfl⟩⟩

set_option maxHeartbeats 1000000 in
set_option maxRecDepth 100000 in
theorem Month_yes (c : Cal) (y : Int) (m : Nat) (hm : m < c.mo.length) (w : World) (h : CalV w c) (h1 : -10000 ≤ y) (h2 : y ≤ 10000) :
    Calls Tryz.prog 161 #[c.val, .int .i64 y, .int .i64 ((m : Int) + 1)] w fun e w' => e = .returned (.tuple #[.int .i64 (c.mlen y m), .int .i64 0]) ∧ Below w.heap.size w w' := by
  have HB := Lib.hid (below_alloc1 w (Obj.cells c.cells 75))
  have HX := Lib.hid (Box.new w 75 c.cells)
  have HV := Lib.hid (h.next HB.out)
  have HC := Lib.hid (fun w (h : CalV w c) => acheck_v c y w h)
  rw [if_pos ⟨h1, h2⟩] at HC
  have HF := Lib.hid (fun w (h : CalV w c) => alength_any c y m hm w h.r h.ok (by omega) (by omega))
  have hn2 := h.ok.mo.n2
  clear h h1 h2
  generalize c.mlen y m = R at *
  go_enter Tryz.func161, Tryz.ntmps161
  go_wp2_with fail
  generalize w.alloc (Obj.cells c.cells 75) = W0 at *
  generalize hg : w.heap.size = g at *
  have HG := Lib.hid hg
  clear hg
  refine (HC.out _ HV.out).mono ?_
  rintro e w1 ⟨rfl, hb1⟩
  replace HB := Lib.hid (show Below g w w1 from HB.out.trans (hb1.mono (by have := HX.out.lt; omega)))
  replace HX := Lib.hid (HX.out.below hb1)
  replace HV := Lib.hid (HV.out.next hb1)
  clear hb1 HC
  obtain ⟨x0, x1, x2, x3, x4⟩ := ccells HX.out
  have t1 : decide ((m : Int) + 1 < 1) = false := decide_eq_false (by omega)
  have t2 : decide ((c.mo.length : Int) < (m : Int) + 1) = false := decide_eq_false (by omega)
  go_wp2_with fail
  refine (HF.out _ HV.out).mono ?_
  rintro e w2 ⟨rfl, hb⟩
  have HB2 := Lib.hid (show Below g w w2 from HB.out.trans (hb.mono (by have := HX.out.lt; omega)))
  clear hb HB HF HV x0 x1 x2 x3 x4
  go_wp2_with fail
  go_ret2
  exact ⟨rfl, by rw [HG.out]; exact HB2.out⟩

end Go.Proofs.YteebjkcpniddiaaGreatDoor

/- Contracts of arith.toDay and arith.ToDay. -/
namespace Go.Proofs.YteebjkcpniddiaaGreatDoor
open Go.RowKit
set_option linter.unusedVariables false

abbrev dateC (y m d : Int) : Array Value := #[.int .i64 y, .int .i64 m, .int .i64 d]
/-- a day, or the error that it is none -/
def dayR (n : Int) : Value := if -4000000 ≤ n ∧ n ≤ 4000000 then .tuple #[.int .i64 n, .int .i64 0] else .tuple #[.int .i64 0, .int .i64 3]

set_option maxHeartbeats 4000000 in
set_option maxRecDepth 100000 in
theorem toDay_any (c : Cal) (y : Int) (m : Nat) (d : Int) (w : World) (hv : CalV w c) (hm : m < c.mo.length) (h1 : -10100 ≤ y) (h2 : y ≤ 10100) (h3 : -1000 ≤ d) (h4 : d ≤ 1000) :
    Calls Tryz.prog 137 #[c.val, .agg (dateC y ((m : Int) + 1) d)] w fun e w' => e = .returned (dayR (c.ny y + c.pre y m + (d - 1))) ∧ Below w.heap.size w w' := by
  have HB := Lib.hid (below_alloc2 w (Obj.cells c.cells 75) (Obj.cells (dateC y ((m : Int) + 1) d) 61))
  have HX := Lib.hid ((Box.new w 75 c.cells).alloc (Obj.cells (dateC y ((m : Int) + 1) d) 61))
  have HD := Lib.hid (Box.new (w.alloc (Obj.cells c.cells 75)) 61 (dateC y ((m : Int) + 1) d))
  have HV := Lib.hid (hv.next HB.out)
  simp only [World.size_alloc] at HD
  have hnb := Cal.ny_in hv.ok y (by omega) (by omega)
  have HPs := Lib.hid (fun j (hj : j < c.mo.length) => c.pre_succ y j hj)
  have HMl := Lib.hid (fun j hj => Cal.mlen_in hv.ok y j hj)
  have HP0 := Lib.hid (c.pre_zero y)
  have HPb := Lib.hid (fun j (hj : j ≤ c.mo.length) => Cal.pre_mono hv.ok y j 0 (by omega))
  have hn2 := hv.ok.mo.n2
  have HNy := Lib.hid (fun w (hv : CalV w c) => newYear_any c y w hv.r hv.ok (by omega) (by omega))
  have HLen := Lib.hid (fun j (hj : j < c.mo.length) w (hv : CalV w c) => alength_any c y j hj w hv.r hv.ok (by omega) (by omega))
  clear hv
  generalize c.ny y = N at *
  go_enter Tryz.func137, Tryz.ntmps137
  go_upto_region 1 with fail
  generalize (w.alloc (Obj.cells c.cells 75)).alloc (Obj.cells (dateC y ((m : Int) + 1) d) 61) = W0 at *
  generalize hg : w.heap.size = g at *
  have HG := Lib.hid hg
  clear hg
  have z0 : ∀ w, Below W0.heap.size W0 w → w.cell? ⟨g, 0, none⟩ = some (.string c.nm) := fun w hb => (HX.out.below hb).cell 0
  have z1 : ∀ w, Below W0.heap.size W0 w → w.cell? ⟨g, 1, none⟩ = some (.int .i64 c.ep) := fun w hb => (HX.out.below hb).cell 1
  have z2 : ∀ w, Below W0.heap.size W0 w → w.cell? ⟨g, 2, none⟩ = some (.int .i64 c.cy) := fun w hb => (HX.out.below hb).cell 2
  have z3 : ∀ w, Below W0.heap.size W0 w → w.cell? ⟨g, 3, none⟩ = some (.slice c.A1 c.mo.length c.c1) := fun w hb => (HX.out.below hb).cell 3
  have z4 : ∀ w, Below W0.heap.size W0 w → w.cell? ⟨g, 4, none⟩ = some (.slice c.A2 c.lp.length c.c2) := fun w hb => (HX.out.below hb).cell 4
  have y0 : ∀ w, Below W0.heap.size W0 w → w.cell? ⟨g + 1, 0, none⟩ = some (.int .i64 y) := fun w hb => (HD.out.below hb).cell 0
  have y2 : ∀ w, Below W0.heap.size W0 w → w.cell? ⟨g + 1, 2, none⟩ = some (.int .i64 d) := fun w hb => (HD.out.below hb).cell 2
  have e1 : IntKind.i64.wrap (N + d) = N + d := intFits _ (by omega) (by omega)
  have e2 : IntKind.i64.wrap (N + d - 1) = N + d - 1 := intFits _ (by omega) (by omega)
  refine flow_begin (tellOf [(3, det (.int .i64 N))]) (by kernel_rfl) (by kernel_rfl) ?_
  repeat (first | (refine flow_val (v := ?_) (by rfl) (by rfl) (fun w hb => ?_) ?_; rotate_left; (· ((go_simp) <;> ((repeat' apply And.intro) <;> with_reducible rfl))); try simp only [Act.put, List.setIfInBounds_toArray, List.set_cons_zero, List.set_cons_succ, Nat.reduceAdd]) | (refine flow_skip (by rfl) (by rfl) ?_; try simp only [Act.put, List.setIfInBounds_toArray, List.set_cons_zero, List.set_cons_succ, Nat.reduceAdd]))
  refine flow_call (f := ?_) (args := ?_) [] (by kernel_rfl) (by rfl) (by rfl) (fun w hb => ?_) (fun w hb hu => ?_) ?_; rotate_left 2; (· ((go_simp) <;> ((repeat' apply And.intro) <;> with_reducible rfl)))
  · exact HNy.out w (HV.out.next hb)
  try simp only [Act.put, List.setIfInBounds_toArray, List.set_cons_zero, List.set_cons_succ, Nat.reduceAdd]
  repeat (first | (refine flow_val (v := ?_) (by rfl) (by rfl) (fun w hb => ?_) ?_; rotate_left; (· ((go_simp) <;> ((repeat' apply And.intro) <;> with_reducible rfl))); try simp only [Act.put, List.setIfInBounds_toArray, List.set_cons_zero, List.set_cons_succ, Nat.reduceAdd]) | (refine flow_skip (by rfl) (by rfl) ?_; try simp only [Act.put, List.setIfInBounds_toArray, List.set_cons_zero, List.set_cons_succ, Nat.reduceAdd]))
  refine flow_nil fun w1 hb1 _ => ?_
  have HB1 := Lib.hid hb1
  clear hb1 z0 z1 z2 z3 z4 y0 y2 e1 e2 HNy
  have hd0 : N + d - 1 = N + d - 1 + c.pre y 0 := by rw [HP0.out]; omega
  go_wp2_with fail
  go_loopw [6, 7] (fun dv mm wr => ∃ j : Nat, j ≤ m ∧ mm = .int .i64 ((j : Int) + 1) ∧ dv = .int .i64 (N + d - 1 + c.pre y j) ∧ Hid (Below W0.heap.size W0 wr)) (fun _ mm _ => m + 1 - (intOf mm).toNat)
  case atStart => exact ⟨0, by omega, rfl, by rw [← hd0], HB1⟩
  case round =>
    clear HB1 hd0
    obtain ⟨j, hj, rfl, rfl, hbr⟩ := hrel
    have hpb := HPb.out j (by omega)
    rw [HP0.out] at hpb
    rw [Nat.zero_add] at hpb
    have HXr := Lib.hid (HX.out.below hbr.out)
    have HDr := Lib.hid (HD.out.below hbr.out)
    obtain ⟨x0, x1, x2, x3, x4⟩ := ccells HXr.out
    have y0 : wr.cell? ⟨g + 1, 0, none⟩ = some (.int .i64 y) := HDr.out.cell 0
    have y1 : wr.cell? ⟨g + 1, 1, none⟩ = some (.int .i64 ((m : Int) + 1)) := HDr.out.cell 1
    by_cases hlt : j < m
    · have t1 : decide ((j : Int) + 1 < (m : Int) + 1) = true := decide_eq_true (by omega)
      have hml := HMl.out j (by omega)
      have HL1 := Lib.hid (HLen.out j (by omega))
      have HPm := Lib.hid (HPs.out j (by omega))
      generalize c.mlen y j = L at *
      generalize hDD : N + d - 1 + c.pre y j = D at *
      have HDD := Lib.hid hDD
      have hD1 : -1000000000 ≤ D ∧ D ≤ 1000000000 := by omega
      clear hDD hpb
      go_wp2_with fail
      refine (HL1.out wr (HV.out.next hbr.out)).mono ?_
      rintro e w5 ⟨rfl, hb5⟩
      have hbs := Lib.hid (below_then hbr.out hb5)
      clear hb5 x0 x1 x2 x3 x4 y0 y1 HXr HDr hbr HL1
      go_wp2_with fail
      go_roundw
      case rel => exact ⟨j + 1, by omega, by go_num, by rw [HPm.out]; congr 1; have := HDD.out; omega, hbs⟩
      case measure => simp [intOf]; omega
    · obtain rfl : j = m := by omega
      have t1 : decide ((j : Int) + 1 < (j : Int) + 1) = false := decide_eq_false (by omega)
      have hDD : Hid (N + d - 1 + c.pre y j = N + c.pre y j + (d - 1)) := by unfold Hid; omega
      rw [hDD.out]
      obtain ⟨D, hDe⟩ : ∃ D, D = N + c.pre y j + (d - 1) := ⟨_, rfl⟩
      rw [← hDe]
      have HDE := Lib.hid hDe
      clear hDe hDD
      have HBf : Hid (Below w.heap.size w wr) := by unfold Hid; rw [HG.out]; exact HB.out.trans (hbr.out.mono (by have := HX.out.lt; omega))
      by_cases hd : -4000000 ≤ D ∧ D ≤ 4000000
      · have HI := Lib.hid (fun W => isDay_any D W)
        rw [decide_eq_true hd] at HI
        have hR : Hid (dayR D = .tuple #[.int .i64 D, .int .i64 0]) := if_pos hd
        clear hd hpb
        go_wp2_with fail
        refine (HI.out _).mono ?_
        rintro e w' ⟨rfl, rfl⟩
        go_wp2_with fail
        go_ret2
        exact ⟨by rw [← HDE.out, hR.out]; rfl, HBf.out⟩
      · have HI := Lib.hid (fun W => isDay_any D W)
        rw [decide_eq_false hd] at HI
        have hR : Hid (dayR D = .tuple #[.int .i64 0, .int .i64 3]) := if_neg hd
        clear hd hpb
        go_wp2_with fail
        refine (HI.out _).mono ?_
        rintro e w' ⟨rfl, rfl⟩
        go_wp2_with fail
        go_ret2
        exact ⟨by rw [← HDE.out, hR.out]; rfl, HBf.out⟩

/-- what ToDay says -/
def ToDayQ (c : Cal) (y m d : Int) (w : World) (e : Ending) (w' : World) : Prop :=
  Below w.heap.size w w' ∧ ((∃ (m0 : Nat) (day : Int), m = (m0 : Int) + 1 ∧ -10000 ≤ y ∧ y ≤ 10000 ∧ IsOn c y m0 (d - 1) day ∧ e = .returned (dayR day)) ∨
    ((∀ (m0 : Nat) (day : Int), m = (m0 : Int) + 1 → -10000 ≤ y → y ≤ 10000 → IsOn c y m0 (d - 1) day → False) ∧ (e = .returned (.tuple #[.int .i64 0, .int .i64 3]) ∨ e = .returned (.tuple #[.int .i64 0, .int .i64 1]))))

end Go.Proofs.YteebjkcpniddiaaGreatDoor

/- Contract of arith.move (to the next month). -/
namespace Go.Proofs.YteebjkcpniddiaaGreatDoor
open Go.RowKit
set_option linter.unusedVariables false

def mvN (c : Cal) (y yy : Int) (mm : Int) : Nat := if yy = y then 2 * c.mo.length + 2 - mm.toNat else c.mo.length + 2 - mm.toNat
def mvM (c : Cal) (y : Int) (b : Nat) (w : World) : Nat := match w.cell? ⟨b, 0, none⟩, w.cell? ⟨b, 1, none⟩ with
  | some (.int _ yy), some (.int _ mm) => mvN c y yy mm
  | _, _ => 0
theorem mvM_eq (c : Cal) (y : Int) {b : Nat} {w : World} {yy mm d : Int} (h : Box w b 61 (dateC yy mm d)) : mvM c y b w = mvN c y yy mm := by
  have h0 : w.cell? ⟨b, 0, none⟩ = some (.int .i64 yy) := h.cell 0
  have h1 : w.cell? ⟨b, 1, none⟩ = some (.int .i64 mm) := h.cell 1
  unfold mvM
  rw [h0, h1]

set_option maxHeartbeats 4000000 in
set_option maxRecDepth 100000 in
theorem move_any (c : Cal) (y : Int) (m : Nat) (d : Int) (w : World) (hv : CalV w c) (hm : m < c.mo.length) (h1 : -10000 ≤ y) (h2 : y ≤ 9998) :
    Calls Tryz.prog 136 #[c.val, .agg (dateC y ((m : Int) + 1) d), .int .i64 1] w fun e w' => ∃ y' m', NextM c y m y' m' ∧ e = .returned (.tuple #[.agg (dateC y' ((m' : Int) + 1) d), .bool true]) ∧ Below w.heap.size w w' := by
  have HB := Lib.hid (below_alloc3 w (Obj.cells c.cells 75) (Obj.cells (dateC y ((m : Int) + 1) d) 61) (Obj.cells (dateC 0 0 0) 61))
  have HX := Lib.hid (((Box.new w 75 c.cells).alloc (Obj.cells (dateC y ((m : Int) + 1) d) 61)).alloc (Obj.cells (dateC 0 0 0) 61))
  have HD := Lib.hid ((Box.new (w.alloc (Obj.cells c.cells 75)) 61 (dateC y ((m : Int) + 1) d)).alloc (Obj.cells (dateC 0 0 0) 61))
  have HR := Lib.hid (Box.new ((w.alloc (Obj.cells c.cells 75)).alloc (Obj.cells (dateC y ((m : Int) + 1) d) 61)) 61 (dateC 0 0 0))
  have HV0 := Lib.hid (fun W (hb : Below w.heap.size w W) => hv.next hb)
  simp only [World.size_alloc] at HD HR
  have hn2 := hv.ok.mo.n2
  have HOK := Lib.hid hv.ok
  have HMl := Lib.hid (fun yy j hj => Cal.mlen_in hv.ok yy j hj)
  have HLen := Lib.hid (fun yy j (hj : j < c.mo.length) (a : -100000 ≤ yy) (b : yy ≤ 100000) w (hv : CalV w c) => alength_any c yy j hj w hv.r hv.ok a b)
  clear hv
  go_enter Tryz.func136, Tryz.ntmps136
  go_wp2_with fail
  generalize ((w.alloc (Obj.cells c.cells 75)).alloc (Obj.cells (dateC y ((m : Int) + 1) d) 61)).alloc (Obj.cells (dateC 0 0 0) 61) = W0 at *
  generalize hg : w.heap.size = g at *
  have HG := Lib.hid hg
  clear hg
  go_loopw [] (fun wr => ∃ (yy : Int) (mm : Nat), MvInv c y m yy mm ∧ Hid (Box wr g 75 c.cells) ∧ Hid (Box wr (g + 1) 61 (dateC yy ((mm : Int) + 1) d)) ∧ Hid (Box wr (g + 2) 61 (dateC 0 0 0)) ∧ Hid (Below g w wr)) (fun wr => mvM c y (g + 1) wr)
  case atStart => exact ⟨y, m, ⟨hm, .inl ⟨rfl, Nat.le_refl _, fun i a b => by omega⟩⟩, HX, HD, HR, HB⟩
  case round =>
    clear HX HD HR HB
    obtain ⟨yy, mm, hinv, hbx, hbd, hbr, hB⟩ := hrel
    have hmm := hinv.1
    have hyy : y ≤ yy ∧ yy ≤ y + 1 := by rcases hinv.2 with h | h <;> omega
    have HInv := Lib.hid hinv
    clear hinv
    have y0 : wr.cell? ⟨g + 1, 0, none⟩ = some (.int .i64 yy) := hbd.out.cell 0
    have y1 : wr.cell? ⟨g + 1, 1, none⟩ = some (.int .i64 ((mm : Int) + 1)) := hbd.out.cell 1
    have yf : ∀ i, wr.frozen? ⟨g + 1, i, none⟩ = false := fun i => hbd.out.free i
    have ew : IntKind.i64.wrap ((mm : Int) + 1 + 1) = (mm : Int) + 1 + 1 := intFits _ (by omega) (by omega)
    go_upto_region 2 with fail
    have HX1 := Lib.hid (hbx.out.far (p := ⟨g + 1, 1, none⟩) (show g ≠ g + 1 by omega) (.int .i64 ((mm : Int) + 1 + 1)))
    have HR1 := Lib.hid (hbr.out.far (p := ⟨g + 1, 1, none⟩) (show g + 2 ≠ g + 1 by omega) (.int .i64 ((mm : Int) + 1 + 1)))
    have HD1 : Hid (Box (wr.setCell ⟨g + 1, 1, none⟩ (.int .i64 ((mm : Int) + 1 + 1))) (g + 1) 61 (dateC yy ((mm : Int) + 1 + 1) d)) := hbd.out.set_ 1 _
    have HB1 := Lib.hid (hB.out.setCell (p := ⟨g + 1, 1, none⟩) (show g ≤ g + 1 by omega) (.int .i64 ((mm : Int) + 1 + 1)))
    clear y0 y1 yf ew
    generalize wr.setCell ⟨g + 1, 1, none⟩ (.int .i64 ((mm : Int) + 1 + 1)) = W1 at *
    have y1 : W1.cell? ⟨g + 1, 1, none⟩ = some (.int .i64 ((mm : Int) + 1 + 1)) := HD1.out.cell 1
    have y0 : W1.cell? ⟨g + 1, 0, none⟩ = some (.int .i64 yy) := HD1.out.cell 0
    have yf : ∀ i, W1.frozen? ⟨g + 1, i, none⟩ = false := fun i => HD1.out.free i
    have x3 : W1.cell? ⟨g, 3, none⟩ = some (.slice c.A1 c.mo.length c.c1) := (ccells HX1.out).2.2.2.1
    have t0 : decide ((mm : Int) + 1 + 1 < 1) = false := decide_eq_false (by omega)
    by_cases hl : mm + 1 < c.mo.length
    · have t1 : decide ((c.mo.length : Int) < (mm : Int) + 1 + 1) = false := decide_eq_false (by omega)
      obtain ⟨y2, hy2⟩ : ∃ y2, y2 = yy := ⟨_, rfl⟩
      obtain ⟨m2, hm2e⟩ : ∃ m2, m2 = mm + 1 := ⟨_, rfl⟩
      have hm2 : m2 < c.mo.length := by omega
      have HP2 : Hid ((0 < c.mlen y2 m2 → NextM c y m y2 m2) ∧ (c.mlen y2 m2 = 0 → MvInv c y m y2 m2)) := by rw [hy2, hm2e]; exact HInv.out.step hl
      have HMeas : Hid (mvN c y y2 ((m2 : Int) + 1) < mvN c y yy ((mm : Int) + 1)) := by
        unfold Hid mvN
        rw [hy2, hm2e]
        split <;> omega
      go_upto_region 6 with fail
      obtain ⟨W2, hW2⟩ : ∃ W2, W2 = W1 := ⟨_, rfl⟩
      have em : (mm : Int) + 1 + 1 = (m2 : Int) + 1 := by omega
      rw [em] at HD1
      try rw [em]
      rw [← hW2] at HX1 HR1 HD1 HB1 ⊢
      rw [← hy2] at HD1
      have HX2 := HX1
      have HR2 := HR1
      have HD2 := HD1
      have HB2 := HB1
      have hyr : -10000 ≤ y2 ∧ y2 ≤ 10000 := by omega
      clear y0 y1 yf x3 t0 t1 HX1 HR1 HD1 HB1 hW2 em hl hy2 hm2e
      have HYr := Lib.hid (fun W => isYear_any y2 W)
      rw [decide_eq_true (show -10000 ≤ y2 ∧ y2 ≤ 10000 by omega)] at HYr
      have HLn := Lib.hid (HLen.out y2 m2 hm2 (by omega) (by omega))
      have hml := HMl.out y2 m2 hm2
      generalize hLL : c.mlen y2 m2 = L at *
      have HLL := Lib.hid hLL
      clear hLL
      have HV2 := Lib.hid (HV0.out _ HB2.out)
      obtain ⟨x0, x1, x2, x3, x4⟩ := ccells HX2.out
      have y0 : W2.cell? ⟨g + 1, 0, none⟩ = some (.int .i64 y2) := HD2.out.cell 0
      have y1 : W2.cell? ⟨g + 1, 1, none⟩ = some (.int .i64 ((m2 : Int) + 1)) := HD2.out.cell 1
      have yd : W2.cell? ⟨g + 1, 2, none⟩ = some (.int .i64 d) := HD2.out.cell 2
      go_wp2_with (go_at_call 134; refine (HYr.out _).mono ?_; rintro e w' ⟨rfl, rfl⟩)
      refine (HLn.out W2 HV2.out).mono ?_
      rintro e w5 ⟨rfl, hb5⟩
      have hb5' : Below W2.heap.size W2 w5 := hb5
      have HX5 := Lib.hid (HX2.out.below hb5)
      have HD5 := Lib.hid (HD2.out.below hb5)
      have HR5 := Lib.hid (HR2.out.below hb5)
      have HB5 : Hid (Below g w w5) := HB2.out.trans (hb5.mono (by have := HX2.out.lt; omega))
      clear hb5 hb5' x0 x1 x2 x3 x4 y0 y1 yd HX2 HD2 HR2 HB2 HV2 HLn HYr
      by_cases hp : 0 < L
      · have t1 : decide (0 < L) = true := decide_eq_true hp
        have HN := Lib.hid (HP2.out.1 hp)
        have r0 : w5.cell? ⟨g + 2, 0, none⟩ = some (.int .i64 0) := HR5.out.cell 0
        have r1 : w5.cell? ⟨g + 2, 1, none⟩ = some (.int .i64 0) := HR5.out.cell 1
        have r2 : w5.cell? ⟨g + 2, 2, none⟩ = some (.int .i64 0) := HR5.out.cell 2
        have rf : ∀ i, w5.frozen? ⟨g + 2, i, none⟩ = false := fun i => HR5.out.free i
        have y0 : w5.cell? ⟨g + 1, 0, none⟩ = some (.int .i64 y2) := HD5.out.cell 0
        have y1 : w5.cell? ⟨g + 1, 1, none⟩ = some (.int .i64 ((m2 : Int) + 1)) := HD5.out.cell 1
        have yd : w5.cell? ⟨g + 1, 2, none⟩ = some (.int .i64 d) := HD5.out.cell 2
        have hgl := HR5.out.lt
        have hgl1 := HD5.out.lt
        clear hp HP2
        go_wp2_with fail
        refine bodyPost_ret (v := .tuple #[.agg (dateC y2 ((m2 : Int) + 1) d), .bool true]) (by simp [results, Tryz.results136, go_sem, r0, r1, r2]) rfl ?_
        exact ⟨y2, m2, HN.out, rfl, by rw [HG.out]; exact ((HB5.out.setCell (p := ⟨g + 2, 0, none⟩) (show g ≤ g + 2 by omega) _).setCell (p := ⟨g + 2, 1, none⟩) (show g ≤ g + 2 by omega) _).setCell (p := ⟨g + 2, 2, none⟩) (show g ≤ g + 2 by omega) _⟩
      · have t1 : decide (0 < L) = false := decide_eq_false hp
        have HI := Lib.hid (HP2.out.2 (by omega))
        clear hp HP2
        have HMs : Hid (mvM c y (g + 1) w5 < mvM c y (g + 1) wr) := by
          unfold Hid
          rw [mvM_eq c y HD5.out, mvM_eq c y hbd.out]
          have := HMeas.out
          omega
        go_wp2_with fail
        go_roundw
        case rel => exact ⟨y2, m2, HI.out, HX5, HD5, HR5, HB5⟩
        case measure => exact HMs.out
    · have hl2 : mm + 1 = c.mo.length := by omega
      have t1 : decide ((c.mo.length : Int) < (mm : Int) + 1 + 1) = true := decide_eq_true (by omega)
      obtain ⟨hyy2, hP1, hP2⟩ := HInv.out.turn HOK.out hl2
      obtain ⟨y2, hy2⟩ : ∃ y2, y2 = yy + 1 := ⟨_, rfl⟩
      obtain ⟨m2, hm2e⟩ : ∃ m2 : Nat, m2 = 0 := ⟨_, rfl⟩
      have hm2 : m2 < c.mo.length := by omega
      have HP2 : Hid ((0 < c.mlen y2 m2 → NextM c y m y2 m2) ∧ (c.mlen y2 m2 = 0 → MvInv c y m y2 m2)) := by rw [hy2, hm2e]; exact ⟨hP1, hP2⟩
      have HMeas : Hid (mvN c y y2 ((m2 : Int) + 1) < mvN c y yy ((mm : Int) + 1)) := by
        unfold Hid mvN
        rw [if_pos hyy2, if_neg (by omega), hm2e]
        omega
      have ew : IntKind.i64.wrap (yy + 1) = yy + 1 := intFits _ (by omega) (by omega)
      clear hP1 hP2 hyy2
      go_upto_region 6 with fail
      have HX2 := Lib.hid ((HX1.out.far (p := ⟨g + 1, 0, none⟩) (show g ≠ g + 1 by omega) (.int .i64 (yy + 1))).far (p := ⟨g + 1, 1, none⟩) (show g ≠ g + 1 by omega) (.int .i64 1))
      have HR2 := Lib.hid ((HR1.out.far (p := ⟨g + 1, 0, none⟩) (show g + 2 ≠ g + 1 by omega) (.int .i64 (yy + 1))).far (p := ⟨g + 1, 1, none⟩) (show g + 2 ≠ g + 1 by omega) (.int .i64 1))
      have HD2 : Hid (Box ((W1.setCell ⟨g + 1, 0, none⟩ (.int .i64 (yy + 1))).setCell ⟨g + 1, 1, none⟩ (.int .i64 1)) (g + 1) 61 (dateC (yy + 1) 1 d)) := (HD1.out.set_ 0 (.int .i64 (yy + 1))).set_ 1 (.int .i64 1)
      have HB2 := Lib.hid ((HB1.out.setCell (p := ⟨g + 1, 0, none⟩) (show g ≤ g + 1 by omega) (.int .i64 (yy + 1))).setCell (p := ⟨g + 1, 1, none⟩) (show g ≤ g + 1 by omega) (.int .i64 1))
      generalize (W1.setCell ⟨g + 1, 0, none⟩ (.int .i64 (yy + 1))).setCell ⟨g + 1, 1, none⟩ (.int .i64 1) = W2 at *
      have em : (1 : Int) = (m2 : Int) + 1 := by omega
      rw [← hy2] at HD2
      rw [em] at HD2
      have hyr : -10000 ≤ y2 ∧ y2 ≤ 10000 := by omega
      clear y0 y1 yf x3 t0 t1 HX1 HR1 HD1 HB1 em hl hl2 hy2 hm2e ew
      have HYr := Lib.hid (fun W => isYear_any y2 W)
      rw [decide_eq_true (show -10000 ≤ y2 ∧ y2 ≤ 10000 by omega)] at HYr
      have HLn := Lib.hid (HLen.out y2 m2 hm2 (by omega) (by omega))
      have hml := HMl.out y2 m2 hm2
      generalize hLL : c.mlen y2 m2 = L at *
      have HLL := Lib.hid hLL
      clear hLL
      have HV2 := Lib.hid (HV0.out _ HB2.out)
      obtain ⟨x0, x1, x2, x3, x4⟩ := ccells HX2.out
      have y0 : W2.cell? ⟨g + 1, 0, none⟩ = some (.int .i64 y2) := HD2.out.cell 0
      have y1 : W2.cell? ⟨g + 1, 1, none⟩ = some (.int .i64 ((m2 : Int) + 1)) := HD2.out.cell 1
      have yd : W2.cell? ⟨g + 1, 2, none⟩ = some (.int .i64 d) := HD2.out.cell 2
      go_wp2_with (go_at_call 134; refine (HYr.out _).mono ?_; rintro e w' ⟨rfl, rfl⟩)
      refine (HLn.out W2 HV2.out).mono ?_
      rintro e w5 ⟨rfl, hb5⟩
      have hb5' : Below W2.heap.size W2 w5 := hb5
      have HX5 := Lib.hid (HX2.out.below hb5)
      have HD5 := Lib.hid (HD2.out.below hb5)
      have HR5 := Lib.hid (HR2.out.below hb5)
      have HB5 : Hid (Below g w w5) := HB2.out.trans (hb5.mono (by have := HX2.out.lt; omega))
      clear hb5 hb5' x0 x1 x2 x3 x4 y0 y1 yd HX2 HD2 HR2 HB2 HV2 HLn HYr
      by_cases hp : 0 < L
      · have t1 : decide (0 < L) = true := decide_eq_true hp
        have HN := Lib.hid (HP2.out.1 hp)
        have r0 : w5.cell? ⟨g + 2, 0, none⟩ = some (.int .i64 0) := HR5.out.cell 0
        have r1 : w5.cell? ⟨g + 2, 1, none⟩ = some (.int .i64 0) := HR5.out.cell 1
        have r2 : w5.cell? ⟨g + 2, 2, none⟩ = some (.int .i64 0) := HR5.out.cell 2
        have rf : ∀ i, w5.frozen? ⟨g + 2, i, none⟩ = false := fun i => HR5.out.free i
        have y0 : w5.cell? ⟨g + 1, 0, none⟩ = some (.int .i64 y2) := HD5.out.cell 0
        have y1 : w5.cell? ⟨g + 1, 1, none⟩ = some (.int .i64 ((m2 : Int) + 1)) := HD5.out.cell 1
        have yd : w5.cell? ⟨g + 1, 2, none⟩ = some (.int .i64 d) := HD5.out.cell 2
        have hgl := HR5.out.lt
        have hgl1 := HD5.out.lt
        clear hp HP2
        go_wp2_with fail
        refine bodyPost_ret (v := .tuple #[.agg (dateC y2 ((m2 : Int) + 1) d), .bool true]) (by simp [results, Tryz.results136, go_sem, r0, r1, r2]) rfl ?_
        exact ⟨y2, m2, HN.out, rfl, by rw [HG.out]; exact ((HB5.out.setCell (p := ⟨g + 2, 0, none⟩) (show g ≤ g + 2 by omega) _).setCell (p := ⟨g + 2, 1, none⟩) (show g ≤ g + 2 by omega) _).setCell (p := ⟨g + 2, 2, none⟩) (show g ≤ g + 2 by omega) _⟩
      · have t1 : decide (0 < L) = false := decide_eq_false hp
        have HI := Lib.hid (HP2.out.2 (by omega))
        clear hp HP2
        have HMs : Hid (mvM c y (g + 1) w5 < mvM c y (g + 1) wr) := by
          unfold Hid
          rw [mvM_eq c y HD5.out, mvM_eq c y hbd.out]
          have := HMeas.out
          omega
        go_wp2_with fail
        go_roundw
        case rel => exact ⟨y2, m2, HI.out, HX5, HD5, HR5, HB5⟩
        case measure => exact HMs.out
end Go.Proofs.YteebjkcpniddiaaGreatDoor

/- Contract of arith.Later (some years and months on). -/
namespace Go.Proofs.YteebjkcpniddiaaGreatDoor
open Go.RowKit
set_option linter.unusedVariables false

/-- what Later says -/
def LaterQ (c : Cal) (y : Int) (m : Nat) (d : Int) (n : Nat) (w : World) (e : Ending) (w' : World) : Prop :=
  Below w.heap.size w w' ∧ ∃ (y1 : Int) (m1 : Nat) (y2 : Int) (m2 : Nat) (v : Int), (0 < c.mlen y m ∧ y1 = y ∧ m1 = m ∨ c.mlen y m = 0 ∧ NextM c y m y1 m1) ∧ Moves c n y1 m1 y2 m2 ∧ IsOn c y2 m2 (min (d + 1) (c.mlen y2 m2) - 1) v ∧ e = .returned (dayR v)
theorem dayR_pair (n : Int) : ∃ v E, dayR n = .tuple #[.int .i64 v, .int .i64 E] := by
  unfold dayR
  split
  · exact ⟨_, _, rfl⟩
  · exact ⟨_, _, rfl⟩
theorem Box.cellsEq {w : World} {g : Nat} {t : TypeId} {a b : Array Value} (h : Box w g t a) (e : a = b) : Box w g t b := e ▸ h

set_option maxHeartbeats 8000000 in
set_option maxRecDepth 100000 in
theorem Later_any (c : Cal) (day y : Int) (m : Nat) (d yrs : Int) (n : Nat) (w : World) (hv : CalV w c) (ho : IsOn c y m d day) (h1 : -10000 ≤ y) (h2 : y ≤ 9900) (hr1 : 0 ≤ yrs) (hr2 : yrs ≤ 50) (hn : n ≤ 20) (hd1 : -4000000 ≤ day) (hd2 : day ≤ 4000000) :
    Calls Tryz.prog 83 #[c.val, .int .i64 day, .int .i64 yrs, .int .i64 (n : Int)] w (LaterQ c (y + yrs) m d n w) := by
  have HB := Lib.hid (below_alloc1 w (Obj.cells c.cells 75))
  have HX := Lib.hid (Box.new w 75 c.cells)
  have HV0 := Lib.hid (fun W (hb : Below w.heap.size w W) => hv.next hb)
  have HCk := Lib.hid (fun w (h : CalV w c) => ccheck_ok c w h)
  have HFd : Hid (∀ w, CalV w c → Calls Tryz.prog 80 #[c.val, .int .i64 day] w fun e w' => e = .returned (.tuple #[.agg (dateC y ((m : Int) + 1) (d + 1)), .int .i64 0]) ∧ Below w.heap.size w w') := fun w h => by
    refine (fromDay_any c day w h.r h.ok).mono ?_
    rintro e w' ⟨hb, hc⟩
    rcases hc with ⟨y', m', d', a, b, h3, rfl⟩ | ⟨hno, _⟩
    · obtain ⟨rfl, rfl, rfl⟩ := h3.unique h.ok ho
      exact ⟨rfl, hb⟩
    · have q := ho.year h.ok
      have q1 := Cal.ny_le h.ok h1
      have q2 := Cal.ny_le h.ok (show y + 1 ≤ 10001 by omega)
      exact absurd ⟨hd1, hd2, by omega, by omega⟩ hno
  have hn2 := hv.ok.mo.n2
  have HOK := Lib.hid hv.ok
  have HMl := Lib.hid (fun yy j hj => Cal.mlen_in hv.ok yy j hj)
  have HLen := Lib.hid (fun yy j (hj : j < c.mo.length) (a : -100000 ≤ yy) (b : yy ≤ 100000) w (hv : CalV w c) => alength_any c yy j hj w hv.r hv.ok a b)
  have HMv := Lib.hid (fun yy j (hj : j < c.mo.length) (a : -10000 ≤ yy) (b : yy ≤ 9998) w (hv : CalV w c) => move_any c yy j (d + 1) w hv hj a b)
  have hm := ho.m1
  have hdd := ho.d0
  have hdL := ho.d1
  have hdM := Cal.mlen_in hv.ok y m hm
  have hdb : d ≤ 400 := by omega
  have HY1 := Lib.hid (fun W => isYear_any yrs W)
  rw [decide_eq_true (show -10000 ≤ yrs ∧ yrs ≤ 10000 by omega)] at HY1
  have HY2 := Lib.hid (fun W => isYear_any (n : Int) W)
  rw [decide_eq_true (show -10000 ≤ (n : Int) ∧ (n : Int) ≤ 10000 by omega)] at HY2
  have HY3 := Lib.hid (fun W => isYear_any (y + yrs) W)
  rw [decide_eq_true (show -10000 ≤ y + yrs ∧ y + yrs ≤ 10000 by omega)] at HY3
  clear hv ho hdL hdM
  unfold LaterQ
  go_enter Tryz.func83, Tryz.ntmps83
  go_wp2_with fail
  generalize w.alloc (Obj.cells c.cells 75) = W0 at *
  generalize hg : w.heap.size = g at *
  have HG := Lib.hid hg
  clear hg
  refine (HCk.out _ (HV0.out _ HB.out)).mono ?_
  rintro e w1 ⟨rfl, hb1⟩
  have HB1 : Hid (Below g w w1) := HB.out.trans (hb1.mono (by have := HX.out.lt; omega))
  have HX1 := Lib.hid (HX.out.below hb1)
  clear hb1 HX HB HCk
  obtain ⟨x0, x1, x2, x3, x4⟩ := ccells HX1.out
  go_wp2_with fail
  refine (HFd.out _ (HV0.out _ HB1.out)).mono ?_
  rintro e w2 ⟨rfl, hb2⟩
  have HB2 : Hid (Below g w w2) := HB1.out.trans (hb2.mono (by have := HX1.out.lt; omega))
  have HX2 := Lib.hid (HX1.out.below hb2)
  clear hb2 HX1 HB1 HFd x0 x1 x2 x3 x4
  obtain ⟨gd, hgd⟩ : ∃ gd, gd = w2.heap.size := ⟨_, rfl⟩
  have hgg : g < gd := by rw [hgd]; exact HX2.out.lt
  go_upto_region 7 with fail
  have HX3 := Lib.hid (HX2.out.alloc (Obj.cells (dateC y ((m : Int) + 1) (d + 1)) 61))
  have HB3 : Hid (Below g w (w2.alloc (Obj.cells (dateC y ((m : Int) + 1) (d + 1)) 61))) := HB2.out.alloc (by have := HX2.out.lt; omega) _
  have HD3 := Lib.hid (Box.new w2 61 (dateC y ((m : Int) + 1) (d + 1)))
  clear HX2 HB2
  rw [← hgd] at HD3
  rw [← hgd]
  clear hgd
  generalize w2.alloc (Obj.cells (dateC y ((m : Int) + 1) (d + 1)) 61) = w3 at *
  have y0 : w3.cell? ⟨gd, 0, none⟩ = some (.int .i64 y) := HD3.out.cell 0
  have y1 : w3.cell? ⟨gd, 1, none⟩ = some (.int .i64 ((m : Int) + 1)) := HD3.out.cell 1
  have y2 : w3.cell? ⟨gd, 2, none⟩ = some (.int .i64 (d + 1)) := HD3.out.cell 2
  have yf : ∀ i, w3.frozen? ⟨gd, i, none⟩ = false := fun i => HD3.out.free i
  have yl := HD3.out.lt
  have ew : IntKind.i64.wrap (y + yrs) = y + yrs := intFits _ (by omega) (by omega)
  go_upto_region 10 with (go_at_call 134; (first | (refine (HY1.out _).mono ?_; rintro e w' ⟨rfl, rfl⟩) | (refine (HY2.out _).mono ?_; rintro e w' ⟨rfl, rfl⟩)))
  have HX4 := Lib.hid (HX3.out.far (p := ⟨gd, 0, none⟩) (show g ≠ gd by omega) (.int .i64 (y + yrs)))
  have HD4 : Hid (Box (w3.setCell ⟨gd, 0, none⟩ (.int .i64 (y + yrs))) gd 61 (dateC (y + yrs) ((m : Int) + 1) (d + 1))) := HD3.out.set_ 0 _
  have HB4 := Lib.hid (HB3.out.setCell (p := ⟨gd, 0, none⟩) (show g ≤ gd by omega) (.int .i64 (y + yrs)))
  clear HX3 HD3 HB3 y0 y1 y2 yf yl ew HY1 HY2
  generalize w3.setCell ⟨gd, 0, none⟩ (.int .i64 (y + yrs)) = w4 at *
  obtain ⟨yy, hyy⟩ : ∃ yy, yy = y + yrs := ⟨_, rfl⟩
  rw [← hyy] at HD4 HY3
  rw [← hyy]
  have hyb : -10000 ≤ yy ∧ yy ≤ 9950 := by omega
  have HYY := Lib.hid hyy
  clear hyy
  obtain ⟨x0, x1, x2, x3, x4⟩ := ccells HX4.out
  have y0 : w4.cell? ⟨gd, 0, none⟩ = some (.int .i64 yy) := HD4.out.cell 0
  have y1 : w4.cell? ⟨gd, 1, none⟩ = some (.int .i64 ((m : Int) + 1)) := HD4.out.cell 1
  go_wp2_with (go_at_call 134; refine (HY3.out _).mono ?_; rintro e w' ⟨rfl, rfl⟩)
  refine (HLen.out yy m hm (by omega) (by omega) w4 (HV0.out _ HB4.out)).mono ?_
  rintro e w5 ⟨rfl, hb5⟩
  have HB5 : Hid (Below g w w5) := HB4.out.trans (hb5.mono (by have := HX4.out.lt; omega))
  have HX5 := Lib.hid (HX4.out.below hb5)
  have HD5 := Lib.hid (HD4.out.below hb5)
  clear hb5 HB4 HX4 HD4 x0 x1 x2 x3 x4 y0 y1 HY3
  have hml := HMl.out yy m hm
  have HP0 : Hid (0 < c.mlen yy m → ∃ (y1 : Int) (m1 : Nat), (0 < c.mlen yy m ∧ y1 = yy ∧ m1 = m ∨ c.mlen yy m = 0 ∧ NextM c yy m y1 m1) ∧ y1 = yy ∧ m1 = m) := fun h => ⟨yy, m, .inl ⟨h, rfl, rfl⟩, rfl, rfl⟩
  have HP1 : Hid (∀ y1 m1, c.mlen yy m = 0 → NextM c yy m y1 m1 → (0 < c.mlen yy m ∧ y1 = yy ∧ m1 = m ∨ c.mlen yy m = 0 ∧ NextM c yy m y1 m1)) := fun y1 m1 h h' => .inr ⟨h, h'⟩
  obtain ⟨L, hL⟩ : ∃ L, L = c.mlen yy m := ⟨_, rfl⟩
  rw [← hL] at hml HP0 HP1
  rw [← hL]
  have HLe := Lib.hid hL
  clear hL
  by_cases hz : L = 0
  · have t1 : (L == 0) = true := by rw [beq_iff_eq]; exact hz
    obtain ⟨x0, x1, x2, x3, x4⟩ := ccells HX5.out
    have y0 : w5.cell? ⟨gd, 0, none⟩ = some (.int .i64 yy) := HD5.out.cell 0
    have y1 : w5.cell? ⟨gd, 1, none⟩ = some (.int .i64 ((m : Int) + 1)) := HD5.out.cell 1
    have y2 : w5.cell? ⟨gd, 2, none⟩ = some (.int .i64 (d + 1)) := HD5.out.cell 2
    go_wp2_with fail
    refine (HMv.out yy m hm (by omega) (by omega) w5 (HV0.out _ HB5.out)).mono ?_
    rintro e w6 ⟨ys, ms, hnx, rfl, hb6⟩
    have HS := Lib.hid (HP1.out ys ms hz hnx)
    have hms := hnx.1
    have hpos := hnx.2.1
    have hys : yy ≤ ys ∧ ys ≤ yy + 1 := by rcases hnx.2.2 with h | h <;> omega
    have HB6 : Hid (Below g w w6) := HB5.out.trans (hb6.mono (by have := HX5.out.lt; omega))
    have HX6 := Lib.hid (HX5.out.below hb6)
    have HD6 := Lib.hid (HD5.out.below hb6)
    clear hb6 HB5 HX5 HD5 x0 x1 x2 x3 x4 y0 y1 y2 hnx HP0 HP1 hml
    have y0 : w6.cell? ⟨gd, 0, none⟩ = some (.int .i64 yy) := HD6.out.cell 0
    have y1 : w6.cell? ⟨gd, 1, none⟩ = some (.int .i64 ((m : Int) + 1)) := HD6.out.cell 1
    have y2 : w6.cell? ⟨gd, 2, none⟩ = some (.int .i64 (d + 1)) := HD6.out.cell 2
    have yf : ∀ i, w6.frozen? ⟨gd, i, none⟩ = false := fun i => HD6.out.free i
    have yl := HD6.out.lt
    go_wp2_with fail
    have HX7 := Lib.hid (((HX6.out.far (p := ⟨gd, 0, none⟩) (show g ≠ gd by omega) (.int .i64 ys)).far (p := ⟨gd, 1, none⟩) (show g ≠ gd by omega) (.int .i64 ((ms : Int) + 1))).far (p := ⟨gd, 2, none⟩) (show g ≠ gd by omega) (.int .i64 (d + 1)))
    have HD7 : Hid (Box (((w6.setCell ⟨gd, 0, none⟩ (.int .i64 ys)).setCell ⟨gd, 1, none⟩ (.int .i64 ((ms : Int) + 1))).setCell ⟨gd, 2, none⟩ (.int .i64 (d + 1))) gd 61 (dateC ys ((ms : Int) + 1) (d + 1))) := ((HD6.out.set_ 0 (.int .i64 ys)).set_ 1 (.int .i64 ((ms : Int) + 1))).set_ 2 (.int .i64 (d + 1))
    have HB7 := Lib.hid (((HB6.out.setCell (p := ⟨gd, 0, none⟩) (show g ≤ gd by omega) (.int .i64 ys)).setCell (p := ⟨gd, 1, none⟩) (show g ≤ gd by omega) (.int .i64 ((ms : Int) + 1))).setCell (p := ⟨gd, 2, none⟩) (show g ≤ gd by omega) (.int .i64 (d + 1)))
    clear HX6 HD6 HB6 y0 y1 y2 yf yl t1
    generalize ((w6.setCell ⟨gd, 0, none⟩ (.int .i64 ys)).setCell ⟨gd, 1, none⟩ (.int .i64 ((ms : Int) + 1))).setCell ⟨gd, 2, none⟩ (.int .i64 (d + 1)) = w7 at *
    go_loopw [3, 13] (fun k b wr => ∃ (i : Nat) (yi : Int) (mi : Nat), i ≤ n ∧ k = .int .i64 ((n - i : Nat) : Int) ∧ b = .bool true ∧ Hid (Moves c i ys ms yi mi) ∧ mi < c.mo.length ∧ ys ≤ yi ∧ yi ≤ ys + i ∧ Hid (Box wr g 75 c.cells) ∧ Hid (Box wr gd 61 (dateC yi ((mi : Int) + 1) (d + 1))) ∧ Hid (Below g w wr)) (fun k _ _ => (intOf k).toNat)
    case atStart => exact ⟨0, ys, ms, by omega, by simp, rfl, ⟨rfl, rfl⟩, hms, by omega, by omega, HX7, HD7, HB7⟩
    case round =>
      clear HX7 HD7 HB7
      obtain ⟨i, yi, mi, hi, rfl, rfl, hmv, hmi, hyi1, hyi2, hbx, hbd, hB⟩ := hrel
      obtain ⟨x0, x1, x2, x3, x4⟩ := ccells hbx.out
      have y0 : wr.cell? ⟨gd, 0, none⟩ = some (.int .i64 yi) := hbd.out.cell 0
      have y1 : wr.cell? ⟨gd, 1, none⟩ = some (.int .i64 ((mi : Int) + 1)) := hbd.out.cell 1
      have y2 : wr.cell? ⟨gd, 2, none⟩ = some (.int .i64 (d + 1)) := hbd.out.cell 2
      obtain ⟨q, hq⟩ : ∃ q : Nat, q = n - i := ⟨_, rfl⟩
      rw [← hq]
      by_cases hlt : 0 < q
      · have t1 : decide ((0 : Int) < (q : Int)) = true := decide_eq_true (by omega)
        have t2 : decide (0 < q) = true := decide_eq_true hlt
        go_wp2_with fail
        refine (HMv.out yi mi hmi (by omega) (by omega) wr (HV0.out _ hB.out)).mono ?_
        rintro e w8 ⟨yn, mn, hnx, rfl, hb8⟩
        have hmv2 : Hid (Moves c (i + 1) ys ms yn mn) := ⟨yi, mi, hmv.out, hnx⟩
        have hmn := hnx.1
        have hyn : yi ≤ yn ∧ yn ≤ yi + 1 := by rcases hnx.2.2 with h | h <;> omega
        have HB8 : Hid (Below g w w8) := hB.out.trans (hb8.mono (by have := hbx.out.lt; omega))
        have HX8 := Lib.hid (hbx.out.below hb8)
        have HD8 := Lib.hid (hbd.out.below hb8)
        clear hb8 hB hbx hbd x0 x1 x2 x3 x4 y0 y1 y2 hnx hmv
        have y0 : w8.cell? ⟨gd, 0, none⟩ = some (.int .i64 yi) := HD8.out.cell 0
        have y1 : w8.cell? ⟨gd, 1, none⟩ = some (.int .i64 ((mi : Int) + 1)) := HD8.out.cell 1
        have y2 : w8.cell? ⟨gd, 2, none⟩ = some (.int .i64 (d + 1)) := HD8.out.cell 2
        have yf : ∀ i, w8.frozen? ⟨gd, i, none⟩ = false := fun i => HD8.out.free i
        have yl := HD8.out.lt
        have ew : IntKind.i64.wrap ((q : Int) - 1) = ((q - 1 : Nat) : Int) := by rw [intFits _ (by omega) (by omega)]; omega
        go_wp2_with fail
        have HX9 := Lib.hid (((HX8.out.far (p := ⟨gd, 0, none⟩) (show g ≠ gd by omega) (.int .i64 yn)).far (p := ⟨gd, 1, none⟩) (show g ≠ gd by omega) (.int .i64 ((mn : Int) + 1))).far (p := ⟨gd, 2, none⟩) (show g ≠ gd by omega) (.int .i64 (d + 1)))
        have HD9 : Hid (Box (((w8.setCell ⟨gd, 0, none⟩ (.int .i64 yn)).setCell ⟨gd, 1, none⟩ (.int .i64 ((mn : Int) + 1))).setCell ⟨gd, 2, none⟩ (.int .i64 (d + 1))) gd 61 (dateC yn ((mn : Int) + 1) (d + 1))) := ((HD8.out.set_ 0 (.int .i64 yn)).set_ 1 (.int .i64 ((mn : Int) + 1))).set_ 2 (.int .i64 (d + 1))
        have HB9 := Lib.hid (((HB8.out.setCell (p := ⟨gd, 0, none⟩) (show g ≤ gd by omega) (.int .i64 yn)).setCell (p := ⟨gd, 1, none⟩) (show g ≤ gd by omega) (.int .i64 ((mn : Int) + 1))).setCell (p := ⟨gd, 2, none⟩) (show g ≤ gd by omega) (.int .i64 (d + 1)))
        clear HX8 HD8 HB8 y0 y1 y2 yf yl
        go_roundw
        case rel => exact ⟨i + 1, yn, mn, by omega, by congr 1; omega, rfl, hmv2, hmn, by omega, by omega, HX9, HD9, HB9⟩
        case measure => simp [intOf]; omega
      · have hni : n = i := by omega
        subst hni
        have t1 : decide ((0 : Int) < (q : Int)) = false := decide_eq_false (by omega)
        have t2 : decide (0 < q) = false := decide_eq_false hlt
        have t3 : decide ((q : Int) < 0) = false := decide_eq_false (by omega)
        clear hq
        go_wp2_with fail
        go_loopw [3, 13] (fun k b wr' => k = .int .i64 (q : Int) ∧ b = .bool true ∧ wr' = wr) (fun k _ _ => (intOf k).toNat)
        case atStart => exact ⟨rfl, rfl, rfl⟩
        case round =>
          obtain ⟨rfl, rfl, rfl⟩ := hrel
          go_upto_region 23 with fail
          have z0 : ∀ W, Below wr.heap.size wr W → W.cell? ⟨g, 0, none⟩ = some (.string c.nm) := fun w hb => (hbx.out.below hb).cell 0
          have z1 : ∀ W, Below wr.heap.size wr W → W.cell? ⟨g, 1, none⟩ = some (.int .i64 c.ep) := fun w hb => (hbx.out.below hb).cell 1
          have z2 : ∀ W, Below wr.heap.size wr W → W.cell? ⟨g, 2, none⟩ = some (.int .i64 c.cy) := fun w hb => (hbx.out.below hb).cell 2
          have z3 : ∀ W, Below wr.heap.size wr W → W.cell? ⟨g, 3, none⟩ = some (.slice c.A1 c.mo.length c.c1) := fun w hb => (hbx.out.below hb).cell 3
          have z4 : ∀ W, Below wr.heap.size wr W → W.cell? ⟨g, 4, none⟩ = some (.slice c.A2 c.lp.length c.c2) := fun w hb => (hbx.out.below hb).cell 4
          have v0 : ∀ W, Below wr.heap.size wr W → W.cell? ⟨gd, 0, none⟩ = some (.int .i64 yi) := fun w hb => (hbd.out.below hb).cell 0
          have v1 : ∀ W, Below wr.heap.size wr W → W.cell? ⟨gd, 1, none⟩ = some (.int .i64 ((mi : Int) + 1)) := fun w hb => (hbd.out.below hb).cell 1
          have v2 : ∀ W, Below wr.heap.size wr W → W.cell? ⟨gd, 2, none⟩ = some (.int .i64 (d + 1)) := fun w hb => (hbd.out.below hb).cell 2
          have HLn := Lib.hid (fun W (hb : Below wr.heap.size wr W) => HLen.out yi mi hmi (by omega) (by omega) W (HV0.out _ (hB.out.trans (hb.mono (by have := hbx.out.lt; omega)))))
          have hmlE := HMl.out yi mi hmi
          have HMs : Hid (0 < c.mlen ys ms → 0 < c.mlen yi mi) := fun h => (hmv.out.some_ hms h).2
          have HTd := Lib.hid (fun dd (a : -1000 ≤ dd) (b : dd ≤ 1000) w (h : CalV w c) => toDay_any c yi mi dd w h hmi (by omega) (by omega) a b)
          have HOn : Hid (∀ dd day', 0 ≤ dd → dd < c.mlen yi mi → day' = c.ny yi + c.pre yi mi + dd → IsOn c yi mi dd day') := fun dd day' a b e => ⟨hmi, a, b, e⟩
          obtain ⟨E, hE⟩ : ∃ E, E = c.mlen yi mi := ⟨_, rfl⟩
          rw [← hE] at HLn hmlE HMs HOn
          have HE := Lib.hid hE
          clear hE
          refine flow_begin_tail 10 (tellOf [(7, det (.int .i64 E))]) (by kernel_rfl) (by kernel_rfl) ?_
          simp only [List.take_succ_cons, List.take_zero, List.drop_succ_cons, List.drop_zero]
          repeat (first | (refine flow_val (v := ?_) (by rfl) (by rfl) (fun w hb => ?_) ?_; rotate_left; (· ((go_simp) <;> ((repeat' apply And.intro) <;> with_reducible rfl))); try simp only [Act.put, List.setIfInBounds_toArray, List.set_cons_zero, List.set_cons_succ, Nat.reduceAdd]) | (refine flow_skip (by rfl) (by rfl) ?_; try simp only [Act.put, List.setIfInBounds_toArray, List.set_cons_zero, List.set_cons_succ, Nat.reduceAdd]))
          refine flow_call (f := ?_) (args := ?_) [] (by kernel_rfl) (by rfl) (by rfl) (fun w hb => ?_) (fun w hb hu => ?_) ?_; rotate_left 2; (· ((go_simp) <;> ((repeat' apply And.intro) <;> with_reducible rfl)))
          · exact HLn.out w hb
          try simp only [Act.put, List.setIfInBounds_toArray, List.set_cons_zero, List.set_cons_succ, Nat.reduceAdd]
          repeat (first | (refine flow_val (v := ?_) (by rfl) (by rfl) (fun w hb => ?_) ?_; rotate_left; (· ((go_simp) <;> ((repeat' apply And.intro) <;> with_reducible rfl))); try simp only [Act.put, List.setIfInBounds_toArray, List.set_cons_zero, List.set_cons_succ, Nat.reduceAdd]) | (refine flow_skip (by rfl) (by rfl) ?_; try simp only [Act.put, List.setIfInBounds_toArray, List.set_cons_zero, List.set_cons_succ, Nat.reduceAdd]))
          refine flow_nil fun w10 hb10 hf => ?_
          have HX10 := Lib.hid (hbx.out.below hb10)
          have HD10 := Lib.hid (hbd.out.below hb10)
          have HB10 : Hid (Below g w w10) := hB.out.trans (hb10.mono (by have := hbx.out.lt; omega))
          clear z0 z1 z2 z3 z4 v0 v1 v2 hb10 hf HLn hbx hbd hB
          have yf : ∀ i, w10.frozen? ⟨gd, i, none⟩ = false := fun i => HD10.out.free i
          have yl := HD10.out.lt
          have y2 : w10.cell? ⟨gd, 2, none⟩ = some (.int .i64 (d + 1)) := HD10.out.cell 2
          refine wpList_step fun K hK => ?_
          rw [if_pos (by rfl)]
          go_simp
          refine hK _ _ (wpList_nil ?_)
          clear hK K y2 yf yl
          have hdd1 : (if E < d + 1 then E else d + 1) = min (d + 1) E := by
            by_cases h : E < d + 1
            · rw [if_pos h]; omega
            · rw [if_neg h]; omega
          rw [hdd1]
          clear hdd1
          have hEpos := HMs.out hpos
          obtain ⟨dd, hdd2⟩ : ∃ dd, dd = min (d + 1) E := ⟨_, rfl⟩
          rw [← hdd2]
          have hdd3 : 1 ≤ dd ∧ dd ≤ 401 ∧ dd ≤ E := by omega
          have HDD := Lib.hid hdd2
          clear hdd2
          have HX11 := Lib.hid (HX10.out.far (p := ⟨gd, 2, none⟩) (show g ≠ gd by omega) (.int .i64 dd))
          have HD11 : Hid (Box (w10.setCell ⟨gd, 2, none⟩ (.int .i64 dd)) gd 61 (dateC yi ((mi : Int) + 1) dd)) := HD10.out.set_ 2 _
          have HB11 := Lib.hid (HB10.out.setCell (p := ⟨gd, 2, none⟩) (show g ≤ gd by omega) (.int .i64 dd))
          clear HX10 HD10 HB10
          generalize w10.setCell ⟨gd, 2, none⟩ (.int .i64 dd) = w11 at *
          obtain ⟨x0, x1, x2, x3, x4⟩ := ccells HX11.out
          have y0 : w11.cell? ⟨gd, 0, none⟩ = some (.int .i64 yi) := HD11.out.cell 0
          have y1 : w11.cell? ⟨gd, 1, none⟩ = some (.int .i64 ((mi : Int) + 1)) := HD11.out.cell 1
          have y2 : w11.cell? ⟨gd, 2, none⟩ = some (.int .i64 dd) := HD11.out.cell 2
          have HOf := Lib.hid (HOn.out (dd - 1) _ (by omega) (by omega) rfl)
          have HT1 := Lib.hid (HTd.out dd (by omega) (by omega) w11 (HV0.out _ HB11.out))
          generalize c.ny yi + c.pre yi mi + (dd - 1) = v at *
          go_wp2_with fail
          refine HT1.out.mono ?_
          rintro e w12 ⟨rfl, hb12⟩
          have HB12 : Hid (Below g w w12) := HB11.out.trans (hb12.mono (by have := HX11.out.lt; omega))
          obtain ⟨vv, EE, hvE⟩ := dayR_pair v
          rw [hvE]
          have HVE := Lib.hid hvE
          clear hvE hb12 x0 x1 x2 x3 x4 y0 y1 y2 HT1
          go_wp2_with fail
          go_ret2
          exact ⟨by rw [HG.out]; exact HB12.out, ys, ms, yi, mi, v, by rw [← HYY.out, ← HLe.out]; exact HS.out, hmv.out, by rw [← HE.out, ← HDD.out]; exact HOf.out, by rw [HVE.out]; rfl⟩
  · have t1 : (L == 0) = false := by rw [beq_eq_false_iff_ne]; exact hz
    obtain ⟨ys, ms, hS, hys', hms'⟩ := HP0.out (by omega)
    have HS := Lib.hid hS
    have hms : ms < c.mo.length := by omega
    have hpos : 0 < c.mlen ys ms := by rw [hys', hms', ← HLe.out]; omega
    have hys : yy ≤ ys ∧ ys ≤ yy + 1 := by omega
    have HX7 := HX5
    have HB7 := HB5
    have HD7 : Hid (Box w5 gd 61 (dateC ys ((ms : Int) + 1) (d + 1))) := by rw [hys', hms']; exact HD5.out
    clear HX5 HB5 HD5 hS hys' hms' HP0 HP1 hml
    go_wp2_with fail
    clear t1
    obtain ⟨w7, hw7⟩ : ∃ w7, w7 = w5 := ⟨_, rfl⟩
    rw [← hw7] at HX7 HB7 HD7
    rw [← hw7]
    clear hw7
    go_loopw [3, 13] (fun k b wr => ∃ (i : Nat) (yi : Int) (mi : Nat), i ≤ n ∧ k = .int .i64 ((n - i : Nat) : Int) ∧ b = .bool true ∧ Hid (Moves c i ys ms yi mi) ∧ mi < c.mo.length ∧ ys ≤ yi ∧ yi ≤ ys + i ∧ Hid (Box wr g 75 c.cells) ∧ Hid (Box wr gd 61 (dateC yi ((mi : Int) + 1) (d + 1))) ∧ Hid (Below g w wr)) (fun k _ _ => (intOf k).toNat)
    case atStart => exact ⟨0, ys, ms, by omega, by simp, rfl, ⟨rfl, rfl⟩, hms, by omega, by omega, HX7, HD7, HB7⟩
    case round =>
      clear HX7 HD7 HB7
      obtain ⟨i, yi, mi, hi, rfl, rfl, hmv, hmi, hyi1, hyi2, hbx, hbd, hB⟩ := hrel
      obtain ⟨x0, x1, x2, x3, x4⟩ := ccells hbx.out
      have y0 : wr.cell? ⟨gd, 0, none⟩ = some (.int .i64 yi) := hbd.out.cell 0
      have y1 : wr.cell? ⟨gd, 1, none⟩ = some (.int .i64 ((mi : Int) + 1)) := hbd.out.cell 1
      have y2 : wr.cell? ⟨gd, 2, none⟩ = some (.int .i64 (d + 1)) := hbd.out.cell 2
      obtain ⟨q, hq⟩ : ∃ q : Nat, q = n - i := ⟨_, rfl⟩
      rw [← hq]
      by_cases hlt : 0 < q
      · have t1 : decide ((0 : Int) < (q : Int)) = true := decide_eq_true (by omega)
        have t2 : decide (0 < q) = true := decide_eq_true hlt
        go_wp2_with fail
        refine (HMv.out yi mi hmi (by omega) (by omega) wr (HV0.out _ hB.out)).mono ?_
        rintro e w8 ⟨yn, mn, hnx, rfl, hb8⟩
        have hmv2 : Hid (Moves c (i + 1) ys ms yn mn) := ⟨yi, mi, hmv.out, hnx⟩
        have hmn := hnx.1
        have hyn : yi ≤ yn ∧ yn ≤ yi + 1 := by rcases hnx.2.2 with h | h <;> omega
        have HB8 : Hid (Below g w w8) := hB.out.trans (hb8.mono (by have := hbx.out.lt; omega))
        have HX8 := Lib.hid (hbx.out.below hb8)
        have HD8 := Lib.hid (hbd.out.below hb8)
        clear hb8 hB hbx hbd x0 x1 x2 x3 x4 y0 y1 y2 hnx hmv
        have y0 : w8.cell? ⟨gd, 0, none⟩ = some (.int .i64 yi) := HD8.out.cell 0
        have y1 : w8.cell? ⟨gd, 1, none⟩ = some (.int .i64 ((mi : Int) + 1)) := HD8.out.cell 1
        have y2 : w8.cell? ⟨gd, 2, none⟩ = some (.int .i64 (d + 1)) := HD8.out.cell 2
        have yf : ∀ i, w8.frozen? ⟨gd, i, none⟩ = false := fun i => HD8.out.free i
        have yl := HD8.out.lt
        have ew : IntKind.i64.wrap ((q : Int) - 1) = ((q - 1 : Nat) : Int) := by rw [intFits _ (by omega) (by omega)]; omega
        go_wp2_with fail
        have HX9 := Lib.hid (((HX8.out.far (p := ⟨gd, 0, none⟩) (show g ≠ gd by omega) (.int .i64 yn)).far (p := ⟨gd, 1, none⟩) (show g ≠ gd by omega) (.int .i64 ((mn : Int) + 1))).far (p := ⟨gd, 2, none⟩) (show g ≠ gd by omega) (.int .i64 (d + 1)))
        have HD9 : Hid (Box (((w8.setCell ⟨gd, 0, none⟩ (.int .i64 yn)).setCell ⟨gd, 1, none⟩ (.int .i64 ((mn : Int) + 1))).setCell ⟨gd, 2, none⟩ (.int .i64 (d + 1))) gd 61 (dateC yn ((mn : Int) + 1) (d + 1))) := ((HD8.out.set_ 0 (.int .i64 yn)).set_ 1 (.int .i64 ((mn : Int) + 1))).set_ 2 (.int .i64 (d + 1))
        have HB9 := Lib.hid (((HB8.out.setCell (p := ⟨gd, 0, none⟩) (show g ≤ gd by omega) (.int .i64 yn)).setCell (p := ⟨gd, 1, none⟩) (show g ≤ gd by omega) (.int .i64 ((mn : Int) + 1))).setCell (p := ⟨gd, 2, none⟩) (show g ≤ gd by omega) (.int .i64 (d + 1)))
        clear HX8 HD8 HB8 y0 y1 y2 yf yl
        go_roundw
        case rel => exact ⟨i + 1, yn, mn, by omega, by congr 1; omega, rfl, hmv2, hmn, by omega, by omega, HX9, HD9, HB9⟩
        case measure => simp [intOf]; omega
      · have hni : n = i := by omega
        subst hni
        have t1 : decide ((0 : Int) < (q : Int)) = false := decide_eq_false (by omega)
        have t2 : decide (0 < q) = false := decide_eq_false hlt
        have t3 : decide ((q : Int) < 0) = false := decide_eq_false (by omega)
        clear hq
        go_wp2_with fail
        go_loopw [3, 13] (fun k b wr' => k = .int .i64 (q : Int) ∧ b = .bool true ∧ wr' = wr) (fun k _ _ => (intOf k).toNat)
        case atStart => exact ⟨rfl, rfl, rfl⟩
        case round =>
          obtain ⟨rfl, rfl, rfl⟩ := hrel
          go_upto_region 23 with fail
          have z0 : ∀ W, Below wr.heap.size wr W → W.cell? ⟨g, 0, none⟩ = some (.string c.nm) := fun w hb => (hbx.out.below hb).cell 0
          have z1 : ∀ W, Below wr.heap.size wr W → W.cell? ⟨g, 1, none⟩ = some (.int .i64 c.ep) := fun w hb => (hbx.out.below hb).cell 1
          have z2 : ∀ W, Below wr.heap.size wr W → W.cell? ⟨g, 2, none⟩ = some (.int .i64 c.cy) := fun w hb => (hbx.out.below hb).cell 2
          have z3 : ∀ W, Below wr.heap.size wr W → W.cell? ⟨g, 3, none⟩ = some (.slice c.A1 c.mo.length c.c1) := fun w hb => (hbx.out.below hb).cell 3
          have z4 : ∀ W, Below wr.heap.size wr W → W.cell? ⟨g, 4, none⟩ = some (.slice c.A2 c.lp.length c.c2) := fun w hb => (hbx.out.below hb).cell 4
          have v0 : ∀ W, Below wr.heap.size wr W → W.cell? ⟨gd, 0, none⟩ = some (.int .i64 yi) := fun w hb => (hbd.out.below hb).cell 0
          have v1 : ∀ W, Below wr.heap.size wr W → W.cell? ⟨gd, 1, none⟩ = some (.int .i64 ((mi : Int) + 1)) := fun w hb => (hbd.out.below hb).cell 1
          have v2 : ∀ W, Below wr.heap.size wr W → W.cell? ⟨gd, 2, none⟩ = some (.int .i64 (d + 1)) := fun w hb => (hbd.out.below hb).cell 2
          have HLn := Lib.hid (fun W (hb : Below wr.heap.size wr W) => HLen.out yi mi hmi (by omega) (by omega) W (HV0.out _ (hB.out.trans (hb.mono (by have := hbx.out.lt; omega)))))
          have hmlE := HMl.out yi mi hmi
          have HMs : Hid (0 < c.mlen ys ms → 0 < c.mlen yi mi) := fun h => (hmv.out.some_ hms h).2
          have HTd := Lib.hid (fun dd (a : -1000 ≤ dd) (b : dd ≤ 1000) w (h : CalV w c) => toDay_any c yi mi dd w h hmi (by omega) (by omega) a b)
          have HOn : Hid (∀ dd day', 0 ≤ dd → dd < c.mlen yi mi → day' = c.ny yi + c.pre yi mi + dd → IsOn c yi mi dd day') := fun dd day' a b e => ⟨hmi, a, b, e⟩
          obtain ⟨E, hE⟩ : ∃ E, E = c.mlen yi mi := ⟨_, rfl⟩
          rw [← hE] at HLn hmlE HMs HOn
          have HE := Lib.hid hE
          clear hE
          refine flow_begin_tail 10 (tellOf [(7, det (.int .i64 E))]) (by kernel_rfl) (by kernel_rfl) ?_
          simp only [List.take_succ_cons, List.take_zero, List.drop_succ_cons, List.drop_zero]
          repeat (first | (refine flow_val (v := ?_) (by rfl) (by rfl) (fun w hb => ?_) ?_; rotate_left; (· ((go_simp) <;> ((repeat' apply And.intro) <;> with_reducible rfl))); try simp only [Act.put, List.setIfInBounds_toArray, List.set_cons_zero, List.set_cons_succ, Nat.reduceAdd]) | (refine flow_skip (by rfl) (by rfl) ?_; try simp only [Act.put, List.setIfInBounds_toArray, List.set_cons_zero, List.set_cons_succ, Nat.reduceAdd]))
          refine flow_call (f := ?_) (args := ?_) [] (by kernel_rfl) (by rfl) (by rfl) (fun w hb => ?_) (fun w hb hu => ?_) ?_; rotate_left 2; (· ((go_simp) <;> ((repeat' apply And.intro) <;> with_reducible rfl)))
          · exact HLn.out w hb
          try simp only [Act.put, List.setIfInBounds_toArray, List.set_cons_zero, List.set_cons_succ, Nat.reduceAdd]
          repeat (first | (refine flow_val (v := ?_) (by rfl) (by rfl) (fun w hb => ?_) ?_; rotate_left; (· ((go_simp) <;> ((repeat' apply And.intro) <;> with_reducible rfl))); try simp only [Act.put, List.setIfInBounds_toArray, List.set_cons_zero, List.set_cons_succ, Nat.reduceAdd]) | (refine flow_skip (by rfl) (by rfl) ?_; try simp only [Act.put, List.setIfInBounds_toArray, List.set_cons_zero, List.set_cons_succ, Nat.reduceAdd]))
          refine flow_nil fun w10 hb10 hf => ?_
          have HX10 := Lib.hid (hbx.out.below hb10)
          have HD10 := Lib.hid (hbd.out.below hb10)
          have HB10 : Hid (Below g w w10) := hB.out.trans (hb10.mono (by have := hbx.out.lt; omega))
          clear z0 z1 z2 z3 z4 v0 v1 v2 hb10 hf HLn hbx hbd hB
          have yf : ∀ i, w10.frozen? ⟨gd, i, none⟩ = false := fun i => HD10.out.free i
          have yl := HD10.out.lt
          have y2 : w10.cell? ⟨gd, 2, none⟩ = some (.int .i64 (d + 1)) := HD10.out.cell 2
          refine wpList_step fun K hK => ?_
          rw [if_pos (by rfl)]
          go_simp
          refine hK _ _ (wpList_nil ?_)
          clear hK K y2 yf yl
          have hdd1 : (if E < d + 1 then E else d + 1) = min (d + 1) E := by
            by_cases h : E < d + 1
            · rw [if_pos h]; omega
            · rw [if_neg h]; omega
          rw [hdd1]
          clear hdd1
          have hEpos := HMs.out hpos
          obtain ⟨dd, hdd2⟩ : ∃ dd, dd = min (d + 1) E := ⟨_, rfl⟩
          rw [← hdd2]
          have hdd3 : 1 ≤ dd ∧ dd ≤ 401 ∧ dd ≤ E := by omega
          have HDD := Lib.hid hdd2
          clear hdd2
          have HX11 := Lib.hid (HX10.out.far (p := ⟨gd, 2, none⟩) (show g ≠ gd by omega) (.int .i64 dd))
          have HD11 : Hid (Box (w10.setCell ⟨gd, 2, none⟩ (.int .i64 dd)) gd 61 (dateC yi ((mi : Int) + 1) dd)) := HD10.out.set_ 2 _
          have HB11 := Lib.hid (HB10.out.setCell (p := ⟨gd, 2, none⟩) (show g ≤ gd by omega) (.int .i64 dd))
          clear HX10 HD10 HB10
          generalize w10.setCell ⟨gd, 2, none⟩ (.int .i64 dd) = w11 at *
          obtain ⟨x0, x1, x2, x3, x4⟩ := ccells HX11.out
          have y0 : w11.cell? ⟨gd, 0, none⟩ = some (.int .i64 yi) := HD11.out.cell 0
          have y1 : w11.cell? ⟨gd, 1, none⟩ = some (.int .i64 ((mi : Int) + 1)) := HD11.out.cell 1
          have y2 : w11.cell? ⟨gd, 2, none⟩ = some (.int .i64 dd) := HD11.out.cell 2
          have HOf := Lib.hid (HOn.out (dd - 1) _ (by omega) (by omega) rfl)
          have HT1 := Lib.hid (HTd.out dd (by omega) (by omega) w11 (HV0.out _ HB11.out))
          generalize c.ny yi + c.pre yi mi + (dd - 1) = v at *
          go_wp2_with fail
          refine HT1.out.mono ?_
          rintro e w12 ⟨rfl, hb12⟩
          have HB12 : Hid (Below g w w12) := HB11.out.trans (hb12.mono (by have := HX11.out.lt; omega))
          obtain ⟨vv, EE, hvE⟩ := dayR_pair v
          rw [hvE]
          have HVE := Lib.hid hvE
          clear hvE hb12 x0 x1 x2 x3 x4 y0 y1 y2 HT1
          go_wp2_with fail
          go_ret2
          exact ⟨by rw [HG.out]; exact HB12.out, ys, ms, yi, mi, v, by rw [← HYY.out, ← HLe.out]; exact HS.out, hmv.out, by rw [← HE.out, ← HDD.out]; exact HOf.out, by rw [HVE.out]; rfl⟩
end Go.Proofs.YteebjkcpniddiaaGreatDoor

/- Contract of arith.move at all years, of arith.Later at 0 to 10000 years and months. -/
namespace Go.Proofs.YteebjkcpniddiaaGreatDoor
open Go.RowKit
set_option linter.unusedVariables false

/-- what move says -/
def MoveR (c : Cal) (y : Int) (m : Nat) (d : Int) (e : Ending) : Prop :=
  ∃ (y' : Int) (m' : Nat), NextM c y m y' m' ∧ ((y' ≤ 10000 ∧ e = .returned (.tuple #[.agg (dateC y' ((m' : Int) + 1) d), .bool true])) ∨ (10000 < y' ∧ ∃ yr mr : Int, e = .returned (.tuple #[.agg (dateC yr mr d), .bool false])))
theorem MoveR.form {c : Cal} {y : Int} {m : Nat} {d : Int} {e : Ending} (h : MoveR c y m d e) : ∃ (y' : Int) (m' : Nat) (yr mr : Int) (b : Bool), NextM c y m y' m' ∧ e = .returned (.tuple #[.agg (dateC yr mr d), .bool b]) ∧ (b = true → yr = y' ∧ mr = (m' : Int) + 1 ∧ y' ≤ 10000) ∧ (b = false → 10000 < y') := by
  obtain ⟨y', m', hn, ⟨h1, rfl⟩ | ⟨h1, yr, mr, rfl⟩⟩ := h
  · exact ⟨y', m', _, _, true, hn, rfl, fun _ => ⟨rfl, rfl, h1⟩, fun h => by cases h⟩
  · exact ⟨y', m', yr, mr, false, hn, rfl, fun h => (by cases h), fun _ => h1⟩
/-- the month itself, or the next one that is not empty -/
def FirstM (c : Cal) (y : Int) (m : Nat) (y1 : Int) (m1 : Nat) : Prop := 0 < c.mlen y m ∧ y1 = y ∧ m1 = m ∨ c.mlen y m = 0 ∧ NextM c y m y1 m1
theorem FirstM.unique {c : Cal} {y : Int} {m : Nat} {y1 y2 : Int} {m1 m2 : Nat} (h1 : FirstM c y m y1 m1) (h2 : FirstM c y m y2 m2) : y1 = y2 ∧ m1 = m2 := by
  rcases h1 with ⟨a, rfl, rfl⟩ | ⟨a, h1⟩
  · rcases h2 with ⟨b, rfl, rfl⟩ | ⟨b, h2⟩
    · exact ⟨rfl, rfl⟩
    · omega
  · rcases h2 with ⟨b, rfl, rfl⟩ | ⟨b, h2⟩
    · omega
    · exact h1.unique h2
theorem Moves.ext {c : Cal} (ok : CalOk c) {ys : Int} {ms : Nat} {i : Nat} {yi : Int} {mi : Nat} (h : Moves c i ys ms yi mi) : ∀ k : Nat, ∃ y2 m2, Moves c (i + k) ys ms y2 m2 ∧ yi ≤ y2
  | 0 => ⟨yi, mi, h, Int.le_refl _⟩
  | k + 1 => by
    obtain ⟨y2, m2, h2, hle⟩ := Moves.ext ok h k
    obtain ⟨y3, m3, h3⟩ := NextM.ex ok y2 m2
    exact ⟨y3, m3, ⟨y2, m2, h2, h3⟩, by rcases h3.2.2 with h | h <;> omega⟩
/-- what Later says of a day with this date -/
def LaterP (c : Cal) (y : Int) (m : Nat) (d yrs : Int) (n : Nat) (v E : Int) : Prop :=
  (10000 < y + yrs ∧ v = 0 ∧ E = 3) ∨ (y + yrs ≤ 10000 ∧ ∃ (y1 : Int) (m1 : Nat) (y2 : Int) (m2 : Nat), FirstM c (y + yrs) m y1 m1 ∧ Moves c n y1 m1 y2 m2 ∧
    ((10000 < y2 ∧ v = 0 ∧ E = 3) ∨ (y2 ≤ 10000 ∧ ∃ t, IsOn c y2 m2 (min (d + 1) (c.mlen y2 m2) - 1) t ∧ dayR t = .tuple #[.int .i64 v, .int .i64 E])))
theorem LaterP.unique {c : Cal} {y : Int} {m : Nat} {d yrs : Int} {n : Nat} {v E v' E' : Int} (h : LaterP c y m d yrs n v E) (h' : LaterP c y m d yrs n v' E') : v = v' ∧ E = E' := by
  rcases h with ⟨a, rfl, rfl⟩ | ⟨a, y1, m1, y2, m2, f, g, k⟩
  · rcases h' with ⟨b, rfl, rfl⟩ | ⟨b, _⟩
    · exact ⟨rfl, rfl⟩
    · omega
  · rcases h' with ⟨b, rfl, rfl⟩ | ⟨b, y1', m1', y2', m2', f', g', k'⟩
    · omega
    · obtain ⟨rfl, rfl⟩ := f.unique f'
      obtain ⟨rfl, rfl⟩ := g.unique g'
      rcases k with ⟨k1, rfl, rfl⟩ | ⟨k1, t, k2, k3⟩
      · rcases k' with ⟨k1', rfl, rfl⟩ | ⟨k1', _⟩
        · exact ⟨rfl, rfl⟩
        · omega
      · rcases k' with ⟨k1', rfl, rfl⟩ | ⟨k1', t', k2', k3'⟩
        · omega
        · have : t = t' := by rw [k2.on, k2'.on]
          subst this
          rw [k3] at k3'
          simpa using k3'
theorem LaterP.is {c : Cal} {y : Int} {m : Nat} {d yrs : Int} {n : Nat} {v E : Int} (h : LaterP c y m d yrs n v E) : -4000000 ≤ v ∧ v ≤ 4000000 := by
  rcases h with ⟨a, rfl, rfl⟩ | ⟨a, y1, m1, y2, m2, f, g, ⟨k1, rfl, rfl⟩ | ⟨k1, t, k2, k3⟩⟩
  · omega
  · omega
  · unfold dayR at k3
    split at k3
    · have h : t = v ∧ (0 : Int) = E := by simpa using k3
      omega
    · have h : (0 : Int) = v ∧ (3 : Int) = E := by simpa using k3
      omega

set_option maxHeartbeats 4000000 in
set_option maxRecDepth 100000 in
theorem move_full (c : Cal) (y : Int) (m : Nat) (d : Int) (w : World) (hv : CalV w c) (hm : m < c.mo.length) (h1 : -10000 ≤ y) (h2 : y ≤ 10000) :
    Calls Tryz.prog 136 #[c.val, .agg (dateC y ((m : Int) + 1) d), .int .i64 1] w fun e w' => MoveR c y m d e ∧ Below w.heap.size w w' := by
  unfold MoveR
  have HB := Lib.hid (below_alloc3 w (Obj.cells c.cells 75) (Obj.cells (dateC y ((m : Int) + 1) d) 61) (Obj.cells (dateC 0 0 0) 61))
  have HX := Lib.hid (((Box.new w 75 c.cells).alloc (Obj.cells (dateC y ((m : Int) + 1) d) 61)).alloc (Obj.cells (dateC 0 0 0) 61))
  have HD := Lib.hid ((Box.new (w.alloc (Obj.cells c.cells 75)) 61 (dateC y ((m : Int) + 1) d)).alloc (Obj.cells (dateC 0 0 0) 61))
  have HR := Lib.hid (Box.new ((w.alloc (Obj.cells c.cells 75)).alloc (Obj.cells (dateC y ((m : Int) + 1) d) 61)) 61 (dateC 0 0 0))
  have HV0 := Lib.hid (fun W (hb : Below w.heap.size w W) => hv.next hb)
  simp only [World.size_alloc] at HD HR
  have hn2 := hv.ok.mo.n2
  have HOK := Lib.hid hv.ok
  have HMl := Lib.hid (fun yy j hj => Cal.mlen_in hv.ok yy j hj)
  have HLen := Lib.hid (fun yy j (hj : j < c.mo.length) (a : -100000 ≤ yy) (b : yy ≤ 100000) w (hv : CalV w c) => alength_any c yy j hj w hv.r hv.ok a b)
  clear hv
  go_enter Tryz.func136, Tryz.ntmps136
  go_wp2_with fail
  generalize ((w.alloc (Obj.cells c.cells 75)).alloc (Obj.cells (dateC y ((m : Int) + 1) d) 61)).alloc (Obj.cells (dateC 0 0 0) 61) = W0 at *
  generalize hg : w.heap.size = g at *
  have HG := Lib.hid hg
  clear hg
  go_loopw [] (fun wr => ∃ (yy : Int) (mm : Nat), MvInv c y m yy mm ∧ yy ≤ 10000 ∧ Hid (Box wr g 75 c.cells) ∧ Hid (Box wr (g + 1) 61 (dateC yy ((mm : Int) + 1) d)) ∧ Hid (Box wr (g + 2) 61 (dateC 0 0 0)) ∧ Hid (Below g w wr)) (fun wr => mvM c y (g + 1) wr)
  case atStart => exact ⟨y, m, ⟨hm, .inl ⟨rfl, Nat.le_refl _, fun i a b => by omega⟩⟩, h2, HX, HD, HR, HB⟩
  case round =>
    clear HX HD HR HB
    obtain ⟨yy, mm, hinv, hyt, hbx, hbd, hbr, hB⟩ := hrel
    have hmm := hinv.1
    have hyy : y ≤ yy ∧ yy ≤ y + 1 := by rcases hinv.2 with h | h <;> omega
    have HInv := Lib.hid hinv
    clear hinv
    have y0 : wr.cell? ⟨g + 1, 0, none⟩ = some (.int .i64 yy) := hbd.out.cell 0
    have y1 : wr.cell? ⟨g + 1, 1, none⟩ = some (.int .i64 ((mm : Int) + 1)) := hbd.out.cell 1
    have yf : ∀ i, wr.frozen? ⟨g + 1, i, none⟩ = false := fun i => hbd.out.free i
    have ew : IntKind.i64.wrap ((mm : Int) + 1 + 1) = (mm : Int) + 1 + 1 := intFits _ (by omega) (by omega)
    go_upto_region 2 with fail
    have HX1 := Lib.hid (hbx.out.far (p := ⟨g + 1, 1, none⟩) (show g ≠ g + 1 by omega) (.int .i64 ((mm : Int) + 1 + 1)))
    have HR1 := Lib.hid (hbr.out.far (p := ⟨g + 1, 1, none⟩) (show g + 2 ≠ g + 1 by omega) (.int .i64 ((mm : Int) + 1 + 1)))
    have HD1 : Hid (Box (wr.setCell ⟨g + 1, 1, none⟩ (.int .i64 ((mm : Int) + 1 + 1))) (g + 1) 61 (dateC yy ((mm : Int) + 1 + 1) d)) := hbd.out.set_ 1 _
    have HB1 := Lib.hid (hB.out.setCell (p := ⟨g + 1, 1, none⟩) (show g ≤ g + 1 by omega) (.int .i64 ((mm : Int) + 1 + 1)))
    clear y0 y1 yf ew
    generalize wr.setCell ⟨g + 1, 1, none⟩ (.int .i64 ((mm : Int) + 1 + 1)) = W1 at *
    have y1 : W1.cell? ⟨g + 1, 1, none⟩ = some (.int .i64 ((mm : Int) + 1 + 1)) := HD1.out.cell 1
    have y0 : W1.cell? ⟨g + 1, 0, none⟩ = some (.int .i64 yy) := HD1.out.cell 0
    have yf : ∀ i, W1.frozen? ⟨g + 1, i, none⟩ = false := fun i => HD1.out.free i
    have x3 : W1.cell? ⟨g, 3, none⟩ = some (.slice c.A1 c.mo.length c.c1) := (ccells HX1.out).2.2.2.1
    have t0 : decide ((mm : Int) + 1 + 1 < 1) = false := decide_eq_false (by omega)
    by_cases hl : mm + 1 < c.mo.length
    · have t1 : decide ((c.mo.length : Int) < (mm : Int) + 1 + 1) = false := decide_eq_false (by omega)
      obtain ⟨y2, hy2⟩ : ∃ y2, y2 = yy := ⟨_, rfl⟩
      obtain ⟨m2, hm2e⟩ : ∃ m2, m2 = mm + 1 := ⟨_, rfl⟩
      have hm2 : m2 < c.mo.length := by omega
      have HP2 : Hid ((0 < c.mlen y2 m2 → NextM c y m y2 m2) ∧ (c.mlen y2 m2 = 0 → MvInv c y m y2 m2)) := by rw [hy2, hm2e]; exact HInv.out.step hl
      have HMeas : Hid (mvN c y y2 ((m2 : Int) + 1) < mvN c y yy ((mm : Int) + 1)) := by
        unfold Hid mvN
        rw [hy2, hm2e]
        split <;> omega
      go_upto_region 6 with fail
      obtain ⟨W2, hW2⟩ : ∃ W2, W2 = W1 := ⟨_, rfl⟩
      have em : (mm : Int) + 1 + 1 = (m2 : Int) + 1 := by omega
      rw [em] at HD1
      try rw [em]
      rw [← hW2] at HX1 HR1 HD1 HB1 ⊢
      rw [← hy2] at HD1
      have HX2 := HX1
      have HR2 := HR1
      have HD2 := HD1
      have HB2 := HB1
      have hyr : -10000 ≤ y2 ∧ y2 ≤ 10000 := by omega
      clear y0 y1 yf x3 t0 t1 HX1 HR1 HD1 HB1 hW2 em hl hy2 hm2e
      have HYr := Lib.hid (fun W => isYear_any y2 W)
      rw [decide_eq_true (show -10000 ≤ y2 ∧ y2 ≤ 10000 by omega)] at HYr
      have HLn := Lib.hid (HLen.out y2 m2 hm2 (by omega) (by omega))
      have hml := HMl.out y2 m2 hm2
      generalize hLL : c.mlen y2 m2 = L at *
      have HLL := Lib.hid hLL
      clear hLL
      have HV2 := Lib.hid (HV0.out _ HB2.out)
      obtain ⟨x0, x1, x2, x3, x4⟩ := ccells HX2.out
      have y0 : W2.cell? ⟨g + 1, 0, none⟩ = some (.int .i64 y2) := HD2.out.cell 0
      have y1 : W2.cell? ⟨g + 1, 1, none⟩ = some (.int .i64 ((m2 : Int) + 1)) := HD2.out.cell 1
      have yd : W2.cell? ⟨g + 1, 2, none⟩ = some (.int .i64 d) := HD2.out.cell 2
      go_wp2_with (go_at_call 134; refine (HYr.out _).mono ?_; rintro e w' ⟨rfl, rfl⟩)
      refine (HLn.out W2 HV2.out).mono ?_
      rintro e w5 ⟨rfl, hb5⟩
      have hb5' : Below W2.heap.size W2 w5 := hb5
      have HX5 := Lib.hid (HX2.out.below hb5)
      have HD5 := Lib.hid (HD2.out.below hb5)
      have HR5 := Lib.hid (HR2.out.below hb5)
      have HB5 : Hid (Below g w w5) := HB2.out.trans (hb5.mono (by have := HX2.out.lt; omega))
      clear hb5 hb5' x0 x1 x2 x3 x4 y0 y1 yd HX2 HD2 HR2 HB2 HV2 HLn HYr
      by_cases hp : 0 < L
      · have t1 : decide (0 < L) = true := decide_eq_true hp
        have HN := Lib.hid (HP2.out.1 hp)
        have r0 : w5.cell? ⟨g + 2, 0, none⟩ = some (.int .i64 0) := HR5.out.cell 0
        have r1 : w5.cell? ⟨g + 2, 1, none⟩ = some (.int .i64 0) := HR5.out.cell 1
        have r2 : w5.cell? ⟨g + 2, 2, none⟩ = some (.int .i64 0) := HR5.out.cell 2
        have rf : ∀ i, w5.frozen? ⟨g + 2, i, none⟩ = false := fun i => HR5.out.free i
        have y0 : w5.cell? ⟨g + 1, 0, none⟩ = some (.int .i64 y2) := HD5.out.cell 0
        have y1 : w5.cell? ⟨g + 1, 1, none⟩ = some (.int .i64 ((m2 : Int) + 1)) := HD5.out.cell 1
        have yd : w5.cell? ⟨g + 1, 2, none⟩ = some (.int .i64 d) := HD5.out.cell 2
        have hgl := HR5.out.lt
        have hgl1 := HD5.out.lt
        clear hp HP2
        go_wp2_with fail
        refine bodyPost_ret (v := .tuple #[.agg (dateC y2 ((m2 : Int) + 1) d), .bool true]) (by simp [results, Tryz.results136, go_sem, r0, r1, r2]) rfl ?_
        exact ⟨⟨y2, m2, HN.out, .inl ⟨hyr.2, rfl⟩⟩, by rw [HG.out]; exact ((HB5.out.setCell (p := ⟨g + 2, 0, none⟩) (show g ≤ g + 2 by omega) _).setCell (p := ⟨g + 2, 1, none⟩) (show g ≤ g + 2 by omega) _).setCell (p := ⟨g + 2, 2, none⟩) (show g ≤ g + 2 by omega) _⟩
      · have t1 : decide (0 < L) = false := decide_eq_false hp
        have HI := Lib.hid (HP2.out.2 (by omega))
        clear hp HP2
        have HMs : Hid (mvM c y (g + 1) w5 < mvM c y (g + 1) wr) := by
          unfold Hid
          rw [mvM_eq c y HD5.out, mvM_eq c y hbd.out]
          have := HMeas.out
          omega
        go_wp2_with fail
        go_roundw
        case rel => exact ⟨y2, m2, HI.out, hyr.2, HX5, HD5, HR5, HB5⟩
        case measure => exact HMs.out
    · have hl2 : mm + 1 = c.mo.length := by omega
      have t1 : decide ((c.mo.length : Int) < (mm : Int) + 1 + 1) = true := decide_eq_true (by omega)
      obtain ⟨hyy2, hP1, hP2⟩ := HInv.out.turn HOK.out hl2
      obtain ⟨y2, hy2⟩ : ∃ y2, y2 = yy + 1 := ⟨_, rfl⟩
      obtain ⟨m2, hm2e⟩ : ∃ m2 : Nat, m2 = 0 := ⟨_, rfl⟩
      have hm2 : m2 < c.mo.length := by omega
      have HP2 : Hid ((0 < c.mlen y2 m2 → NextM c y m y2 m2) ∧ (c.mlen y2 m2 = 0 → MvInv c y m y2 m2)) := by rw [hy2, hm2e]; exact ⟨hP1, hP2⟩
      have HMeas : Hid (mvN c y y2 ((m2 : Int) + 1) < mvN c y yy ((mm : Int) + 1)) := by
        unfold Hid mvN
        rw [if_pos hyy2, if_neg (by omega), hm2e]
        omega
      have ew : IntKind.i64.wrap (yy + 1) = yy + 1 := intFits _ (by omega) (by omega)
      clear hP1 hP2 hyy2
      go_upto_region 6 with fail
      have HX2 := Lib.hid ((HX1.out.far (p := ⟨g + 1, 0, none⟩) (show g ≠ g + 1 by omega) (.int .i64 (yy + 1))).far (p := ⟨g + 1, 1, none⟩) (show g ≠ g + 1 by omega) (.int .i64 1))
      have HR2 := Lib.hid ((HR1.out.far (p := ⟨g + 1, 0, none⟩) (show g + 2 ≠ g + 1 by omega) (.int .i64 (yy + 1))).far (p := ⟨g + 1, 1, none⟩) (show g + 2 ≠ g + 1 by omega) (.int .i64 1))
      have HD2 : Hid (Box ((W1.setCell ⟨g + 1, 0, none⟩ (.int .i64 (yy + 1))).setCell ⟨g + 1, 1, none⟩ (.int .i64 1)) (g + 1) 61 (dateC (yy + 1) 1 d)) := (HD1.out.set_ 0 (.int .i64 (yy + 1))).set_ 1 (.int .i64 1)
      have HB2 := Lib.hid ((HB1.out.setCell (p := ⟨g + 1, 0, none⟩) (show g ≤ g + 1 by omega) (.int .i64 (yy + 1))).setCell (p := ⟨g + 1, 1, none⟩) (show g ≤ g + 1 by omega) (.int .i64 1))
      generalize (W1.setCell ⟨g + 1, 0, none⟩ (.int .i64 (yy + 1))).setCell ⟨g + 1, 1, none⟩ (.int .i64 1) = W2 at *
      have em : (1 : Int) = (m2 : Int) + 1 := by omega
      rw [← hy2] at HD2
      rw [em] at HD2
      by_cases hout : 10000 < y2
      · have HYr := Lib.hid (fun W => isYear_any y2 W)
        rw [decide_eq_false (show ¬ (-10000 ≤ y2 ∧ y2 ≤ 10000) by omega)] at HYr
        clear y0 y1 yf x3 t0 t1 HX1 HR1 HD1 HB1 em
        have HNx : Hid (∃ y' m', NextM c y m y' m' ∧ 10000 < y') := by
          obtain ⟨y', m', hn⟩ := NextM.ex HOK.out y m
          refine ⟨y', m', hn, ?_⟩
          have e0 := (HInv.out.turn HOK.out hl2).1
          rcases hn.2.2 with ⟨h, h3, h4⟩ | ⟨h, _⟩
          · exfalso
            have h5 := HInv.out.2
            rcases h5 with ⟨e1, e2, e3⟩ | ⟨e1, e2, e3⟩
            · have hz := e3 m' h3 (by have := hn.1; omega)
              have := hn.2.1; rw [h, hz] at this; omega
            · have hz := e2 m' h3 hn.1
              have := hn.2.1; rw [h, hz] at this; omega
          · omega
        have y0 : W2.cell? ⟨g + 1, 0, none⟩ = some (.int .i64 y2) := HD2.out.cell 0
        have y1 : W2.cell? ⟨g + 1, 1, none⟩ = some (.int .i64 ((m2 : Int) + 1)) := HD2.out.cell 1
        have yd : W2.cell? ⟨g + 1, 2, none⟩ = some (.int .i64 d) := HD2.out.cell 2
        have r0 : W2.cell? ⟨g + 2, 0, none⟩ = some (.int .i64 0) := HR2.out.cell 0
        have r1 : W2.cell? ⟨g + 2, 1, none⟩ = some (.int .i64 0) := HR2.out.cell 1
        have r2 : W2.cell? ⟨g + 2, 2, none⟩ = some (.int .i64 0) := HR2.out.cell 2
        have rf : ∀ i, W2.frozen? ⟨g + 2, i, none⟩ = false := fun i => HR2.out.free i
        have hgl := HR2.out.lt
        have hgl1 := HD2.out.lt
        clear hl hl2 hy2 hm2e ew HP2 HMeas HInv
        go_wp2_with (go_at_call 134; refine (HYr.out _).mono ?_; rintro e w' ⟨rfl, rfl⟩)
        refine bodyPost_ret (v := .tuple #[.agg (dateC y2 ((m2 : Int) + 1) d), .bool false]) (by simp [results, Tryz.results136, go_sem, r0, r1, r2]) rfl ?_
        obtain ⟨y', m', hn, hy'⟩ := HNx.out
        exact ⟨⟨y', m', hn, .inr ⟨hy', _, _, rfl⟩⟩, by rw [HG.out]; exact ((HB2.out.setCell (p := ⟨g + 2, 0, none⟩) (show g ≤ g + 2 by omega) _).setCell (p := ⟨g + 2, 1, none⟩) (show g ≤ g + 2 by omega) _).setCell (p := ⟨g + 2, 2, none⟩) (show g ≤ g + 2 by omega) _⟩
      have hyr : -10000 ≤ y2 ∧ y2 ≤ 10000 := by omega
      clear y0 y1 yf x3 t0 t1 HX1 HR1 HD1 HB1 em hl hl2 hy2 hm2e ew
      have HYr := Lib.hid (fun W => isYear_any y2 W)
      rw [decide_eq_true (show -10000 ≤ y2 ∧ y2 ≤ 10000 by omega)] at HYr
      have HLn := Lib.hid (HLen.out y2 m2 hm2 (by omega) (by omega))
      have hml := HMl.out y2 m2 hm2
      generalize hLL : c.mlen y2 m2 = L at *
      have HLL := Lib.hid hLL
      clear hLL
      have HV2 := Lib.hid (HV0.out _ HB2.out)
      obtain ⟨x0, x1, x2, x3, x4⟩ := ccells HX2.out
      have y0 : W2.cell? ⟨g + 1, 0, none⟩ = some (.int .i64 y2) := HD2.out.cell 0
      have y1 : W2.cell? ⟨g + 1, 1, none⟩ = some (.int .i64 ((m2 : Int) + 1)) := HD2.out.cell 1
      have yd : W2.cell? ⟨g + 1, 2, none⟩ = some (.int .i64 d) := HD2.out.cell 2
      go_wp2_with (go_at_call 134; refine (HYr.out _).mono ?_; rintro e w' ⟨rfl, rfl⟩)
      refine (HLn.out W2 HV2.out).mono ?_
      rintro e w5 ⟨rfl, hb5⟩
      have hb5' : Below W2.heap.size W2 w5 := hb5
      have HX5 := Lib.hid (HX2.out.below hb5)
      have HD5 := Lib.hid (HD2.out.below hb5)
      have HR5 := Lib.hid (HR2.out.below hb5)
      have HB5 : Hid (Below g w w5) := HB2.out.trans (hb5.mono (by have := HX2.out.lt; omega))
      clear hb5 hb5' x0 x1 x2 x3 x4 y0 y1 yd HX2 HD2 HR2 HB2 HV2 HLn HYr
      by_cases hp : 0 < L
      · have t1 : decide (0 < L) = true := decide_eq_true hp
        have HN := Lib.hid (HP2.out.1 hp)
        have r0 : w5.cell? ⟨g + 2, 0, none⟩ = some (.int .i64 0) := HR5.out.cell 0
        have r1 : w5.cell? ⟨g + 2, 1, none⟩ = some (.int .i64 0) := HR5.out.cell 1
        have r2 : w5.cell? ⟨g + 2, 2, none⟩ = some (.int .i64 0) := HR5.out.cell 2
        have rf : ∀ i, w5.frozen? ⟨g + 2, i, none⟩ = false := fun i => HR5.out.free i
        have y0 : w5.cell? ⟨g + 1, 0, none⟩ = some (.int .i64 y2) := HD5.out.cell 0
        have y1 : w5.cell? ⟨g + 1, 1, none⟩ = some (.int .i64 ((m2 : Int) + 1)) := HD5.out.cell 1
        have yd : w5.cell? ⟨g + 1, 2, none⟩ = some (.int .i64 d) := HD5.out.cell 2
        have hgl := HR5.out.lt
        have hgl1 := HD5.out.lt
        clear hp HP2
        go_wp2_with fail
        refine bodyPost_ret (v := .tuple #[.agg (dateC y2 ((m2 : Int) + 1) d), .bool true]) (by simp [results, Tryz.results136, go_sem, r0, r1, r2]) rfl ?_
        exact ⟨⟨y2, m2, HN.out, .inl ⟨hyr.2, rfl⟩⟩, by rw [HG.out]; exact ((HB5.out.setCell (p := ⟨g + 2, 0, none⟩) (show g ≤ g + 2 by omega) _).setCell (p := ⟨g + 2, 1, none⟩) (show g ≤ g + 2 by omega) _).setCell (p := ⟨g + 2, 2, none⟩) (show g ≤ g + 2 by omega) _⟩
      · have t1 : decide (0 < L) = false := decide_eq_false hp
        have HI := Lib.hid (HP2.out.2 (by omega))
        clear hp HP2
        have HMs : Hid (mvM c y (g + 1) w5 < mvM c y (g + 1) wr) := by
          unfold Hid
          rw [mvM_eq c y HD5.out, mvM_eq c y hbd.out]
          have := HMeas.out
          omega
        go_wp2_with fail
        go_roundw
        case rel => exact ⟨y2, m2, HI.out, hyr.2, HX5, HD5, HR5, HB5⟩
        case measure => exact HMs.out
set_option maxHeartbeats 8000000 in
set_option maxRecDepth 100000 in
theorem Later_full (c : Cal) (day y : Int) (m : Nat) (d yrs : Int) (n : Nat) (w : World) (hv : CalV w c) (ho : IsOn c y m d day) (h1 : -10000 ≤ y) (h2 : y ≤ 10000) (hr1 : 0 ≤ yrs) (hr2 : yrs ≤ 10000) (hn : n ≤ 10000) (hd1 : -4000000 ≤ day) (hd2 : day ≤ 4000000) :
    Calls Tryz.prog 83 #[c.val, .int .i64 day, .int .i64 yrs, .int .i64 (n : Int)] w fun e w' => Below w.heap.size w w' ∧ ∃ v E, e = .returned (.tuple #[.int .i64 v, .int .i64 E]) ∧ LaterP c y m d yrs n v E := by
  have HB := Lib.hid (below_alloc1 w (Obj.cells c.cells 75))
  have HX := Lib.hid (Box.new w 75 c.cells)
  have HV0 := Lib.hid (fun W (hb : Below w.heap.size w W) => hv.next hb)
  have HCk := Lib.hid (fun w (h : CalV w c) => ccheck_ok c w h)
  have HFd : Hid (∀ w, CalV w c → Calls Tryz.prog 80 #[c.val, .int .i64 day] w fun e w' => e = .returned (.tuple #[.agg (dateC y ((m : Int) + 1) (d + 1)), .int .i64 0]) ∧ Below w.heap.size w w') := fun w h => by
    refine (fromDay_any c day w h.r h.ok).mono ?_
    rintro e w' ⟨hb, hc⟩
    rcases hc with ⟨y', m', d', a, b, h3, rfl⟩ | ⟨hno, _⟩
    · obtain ⟨rfl, rfl, rfl⟩ := h3.unique h.ok ho
      exact ⟨rfl, hb⟩
    · have q := ho.year h.ok
      have q1 := Cal.ny_le h.ok h1
      have q2 := Cal.ny_le h.ok (show y + 1 ≤ 10001 by omega)
      exact absurd ⟨hd1, hd2, by omega, by omega⟩ hno
  have hn2 := hv.ok.mo.n2
  have HOK := Lib.hid hv.ok
  have HMl := Lib.hid (fun yy j hj => Cal.mlen_in hv.ok yy j hj)
  have HLen := Lib.hid (fun yy j (hj : j < c.mo.length) (a : -100000 ≤ yy) (b : yy ≤ 100000) w (hv : CalV w c) => alength_any c yy j hj w hv.r hv.ok a b)
  have HMv := Lib.hid (fun yy j (hj : j < c.mo.length) (a : -10000 ≤ yy) (b : yy ≤ 10000) w (hv : CalV w c) => move_full c yy j (d + 1) w hv hj a b)
  have hm := ho.m1
  have hdd := ho.d0
  have hdL := ho.d1
  have hdM := Cal.mlen_in hv.ok y m hm
  have hdb : d ≤ 400 := by omega
  have HY1 := Lib.hid (fun W => isYear_any yrs W)
  rw [decide_eq_true (show -10000 ≤ yrs ∧ yrs ≤ 10000 by omega)] at HY1
  have HY2 := Lib.hid (fun W => isYear_any (n : Int) W)
  rw [decide_eq_true (show -10000 ≤ (n : Int) ∧ (n : Int) ≤ 10000 by omega)] at HY2
  have HY3 := Lib.hid (fun W => isYear_any (y + yrs) W)
  clear hv ho hdL hdM
  go_enter Tryz.func83, Tryz.ntmps83
  go_wp2_with fail
  generalize w.alloc (Obj.cells c.cells 75) = W0 at *
  generalize hg : w.heap.size = g at *
  have HG := Lib.hid hg
  clear hg
  refine (HCk.out _ (HV0.out _ HB.out)).mono ?_
  rintro e w1 ⟨rfl, hb1⟩
  have HB1 : Hid (Below g w w1) := HB.out.trans (hb1.mono (by have := HX.out.lt; omega))
  have HX1 := Lib.hid (HX.out.below hb1)
  clear hb1 HX HB HCk
  obtain ⟨x0, x1, x2, x3, x4⟩ := ccells HX1.out
  go_wp2_with fail
  refine (HFd.out _ (HV0.out _ HB1.out)).mono ?_
  rintro e w2 ⟨rfl, hb2⟩
  have HB2 : Hid (Below g w w2) := HB1.out.trans (hb2.mono (by have := HX1.out.lt; omega))
  have HX2 := Lib.hid (HX1.out.below hb2)
  clear hb2 HX1 HB1 HFd x0 x1 x2 x3 x4
  obtain ⟨gd, hgd⟩ : ∃ gd, gd = w2.heap.size := ⟨_, rfl⟩
  have hgg : g < gd := by rw [hgd]; exact HX2.out.lt
  go_upto_region 7 with fail
  have HX3 := Lib.hid (HX2.out.alloc (Obj.cells (dateC y ((m : Int) + 1) (d + 1)) 61))
  have HB3 : Hid (Below g w (w2.alloc (Obj.cells (dateC y ((m : Int) + 1) (d + 1)) 61))) := HB2.out.alloc (by have := HX2.out.lt; omega) _
  have HD3 := Lib.hid (Box.new w2 61 (dateC y ((m : Int) + 1) (d + 1)))
  clear HX2 HB2
  rw [← hgd] at HD3
  rw [← hgd]
  clear hgd
  generalize w2.alloc (Obj.cells (dateC y ((m : Int) + 1) (d + 1)) 61) = w3 at *
  have y0 : w3.cell? ⟨gd, 0, none⟩ = some (.int .i64 y) := HD3.out.cell 0
  have y1 : w3.cell? ⟨gd, 1, none⟩ = some (.int .i64 ((m : Int) + 1)) := HD3.out.cell 1
  have y2 : w3.cell? ⟨gd, 2, none⟩ = some (.int .i64 (d + 1)) := HD3.out.cell 2
  have yf : ∀ i, w3.frozen? ⟨gd, i, none⟩ = false := fun i => HD3.out.free i
  have yl := HD3.out.lt
  have ew : IntKind.i64.wrap (y + yrs) = y + yrs := intFits _ (by omega) (by omega)
  go_upto_region 10 with (go_at_call 134; (first | (refine (HY1.out _).mono ?_; rintro e w' ⟨rfl, rfl⟩) | (refine (HY2.out _).mono ?_; rintro e w' ⟨rfl, rfl⟩)))
  have HX4 := Lib.hid (HX3.out.far (p := ⟨gd, 0, none⟩) (show g ≠ gd by omega) (.int .i64 (y + yrs)))
  have HD4 : Hid (Box (w3.setCell ⟨gd, 0, none⟩ (.int .i64 (y + yrs))) gd 61 (dateC (y + yrs) ((m : Int) + 1) (d + 1))) := HD3.out.set_ 0 _
  have HB4 := Lib.hid (HB3.out.setCell (p := ⟨gd, 0, none⟩) (show g ≤ gd by omega) (.int .i64 (y + yrs)))
  clear HX3 HD3 HB3 y0 y1 y2 yf yl ew HY1 HY2
  generalize w3.setCell ⟨gd, 0, none⟩ (.int .i64 (y + yrs)) = w4 at *
  obtain ⟨yy, hyy⟩ : ∃ yy, yy = y + yrs := ⟨_, rfl⟩
  rw [← hyy] at HD4 HY3
  rw [← hyy]
  have HYY := Lib.hid hyy
  by_cases hbig : 10000 < yy
  case pos =>
    rw [decide_eq_false (show ¬ (-10000 ≤ yy ∧ yy ≤ 10000) by omega)] at HY3
    have y0 : w4.cell? ⟨gd, 0, none⟩ = some (.int .i64 yy) := HD4.out.cell 0
    clear hyy
    go_wp2_with (go_at_call 134; refine (HY3.out _).mono ?_; rintro e w' ⟨rfl, rfl⟩)
    go_ret2
    exact ⟨by rw [HG.out]; exact HB4.out, 0, 3, rfl, .inl ⟨by rw [← HYY.out]; exact hbig, rfl, rfl⟩⟩
  have hyb : -10000 ≤ yy ∧ yy ≤ 10000 := by omega
  rw [decide_eq_true hyb] at HY3
  clear hyy hbig
  obtain ⟨x0, x1, x2, x3, x4⟩ := ccells HX4.out
  have y0 : w4.cell? ⟨gd, 0, none⟩ = some (.int .i64 yy) := HD4.out.cell 0
  have y1 : w4.cell? ⟨gd, 1, none⟩ = some (.int .i64 ((m : Int) + 1)) := HD4.out.cell 1
  go_wp2_with (go_at_call 134; refine (HY3.out _).mono ?_; rintro e w' ⟨rfl, rfl⟩)
  refine (HLen.out yy m hm (by omega) (by omega) w4 (HV0.out _ HB4.out)).mono ?_
  rintro e w5 ⟨rfl, hb5⟩
  have HB5 : Hid (Below g w w5) := HB4.out.trans (hb5.mono (by have := HX4.out.lt; omega))
  have HX5 := Lib.hid (HX4.out.below hb5)
  have HD5 := Lib.hid (HD4.out.below hb5)
  clear hb5 HB4 HX4 HD4 x0 x1 x2 x3 x4 y0 y1 HY3
  have hml := HMl.out yy m hm
  have HP0 : Hid (0 < c.mlen yy m → ∃ (y1 : Int) (m1 : Nat), FirstM c yy m y1 m1 ∧ y1 = yy ∧ m1 = m) := fun h => ⟨yy, m, .inl ⟨h, rfl, rfl⟩, rfl, rfl⟩
  have HP1 : Hid (∀ y1 m1, c.mlen yy m = 0 → NextM c yy m y1 m1 → FirstM c yy m y1 m1) := fun y1 m1 h h' => .inr ⟨h, h'⟩
  obtain ⟨L, hL⟩ : ∃ L, L = c.mlen yy m := ⟨_, rfl⟩
  rw [← hL] at hml HP0 HP1
  rw [← hL]
  have HLe := Lib.hid hL
  clear hL
  by_cases hz : L = 0
  · have t1 : (L == 0) = true := by rw [beq_iff_eq]; exact hz
    obtain ⟨x0, x1, x2, x3, x4⟩ := ccells HX5.out
    have y0 : w5.cell? ⟨gd, 0, none⟩ = some (.int .i64 yy) := HD5.out.cell 0
    have y1 : w5.cell? ⟨gd, 1, none⟩ = some (.int .i64 ((m : Int) + 1)) := HD5.out.cell 1
    have y2 : w5.cell? ⟨gd, 2, none⟩ = some (.int .i64 (d + 1)) := HD5.out.cell 2
    go_wp2_with fail
    refine (HMv.out yy m hm (by omega) (by omega) w5 (HV0.out _ HB5.out)).mono ?_
    rintro e w6 ⟨hmr, hb6⟩
    obtain ⟨ys, ms, yr0, mr0, b0, hnx, rfl, hbt, hbf⟩ := hmr.form
    have HBT := Lib.hid hbt
    have HBF := Lib.hid hbf
    clear hmr hbt hbf
    have HS := Lib.hid (HP1.out ys ms hz hnx)
    have hms := hnx.1
    have hpos := hnx.2.1
    have hys : yy ≤ ys ∧ ys ≤ yy + 1 := by rcases hnx.2.2 with h | h <;> omega
    have HB6 : Hid (Below g w w6) := HB5.out.trans (hb6.mono (by have := HX5.out.lt; omega))
    have HX6 := Lib.hid (HX5.out.below hb6)
    have HD6 := Lib.hid (HD5.out.below hb6)
    clear hb6 HB5 HX5 HD5 x0 x1 x2 x3 x4 y0 y1 y2 hnx HP0 HP1 hml
    have y0 : w6.cell? ⟨gd, 0, none⟩ = some (.int .i64 yy) := HD6.out.cell 0
    have y1 : w6.cell? ⟨gd, 1, none⟩ = some (.int .i64 ((m : Int) + 1)) := HD6.out.cell 1
    have y2 : w6.cell? ⟨gd, 2, none⟩ = some (.int .i64 (d + 1)) := HD6.out.cell 2
    have yf : ∀ i, w6.frozen? ⟨gd, i, none⟩ = false := fun i => HD6.out.free i
    have yl := HD6.out.lt
    go_wp2_with fail
    have HX7 := Lib.hid (((HX6.out.far (p := ⟨gd, 0, none⟩) (show g ≠ gd by omega) (.int .i64 yr0)).far (p := ⟨gd, 1, none⟩) (show g ≠ gd by omega) (.int .i64 mr0)).far (p := ⟨gd, 2, none⟩) (show g ≠ gd by omega) (.int .i64 (d + 1)))
    have HD7 : Hid (Box (((w6.setCell ⟨gd, 0, none⟩ (.int .i64 yr0)).setCell ⟨gd, 1, none⟩ (.int .i64 mr0)).setCell ⟨gd, 2, none⟩ (.int .i64 (d + 1))) gd 61 (dateC yr0 mr0 (d + 1))) := ((HD6.out.set_ 0 (.int .i64 yr0)).set_ 1 (.int .i64 mr0)).set_ 2 (.int .i64 (d + 1))
    have HB7 := Lib.hid (((HB6.out.setCell (p := ⟨gd, 0, none⟩) (show g ≤ gd by omega) (.int .i64 yr0)).setCell (p := ⟨gd, 1, none⟩) (show g ≤ gd by omega) (.int .i64 mr0)).setCell (p := ⟨gd, 2, none⟩) (show g ≤ gd by omega) (.int .i64 (d + 1)))
    clear HX6 HD6 HB6 y0 y1 y2 yf yl t1
    generalize ((w6.setCell ⟨gd, 0, none⟩ (.int .i64 yr0)).setCell ⟨gd, 1, none⟩ (.int .i64 mr0)).setCell ⟨gd, 2, none⟩ (.int .i64 (d + 1)) = w7 at *
    go_loopw [3, 13] (fun k b wr => ∃ (i : Nat) (yi : Int) (mi : Nat) (yr mr : Int) (bb : Bool), i ≤ n ∧ k = .int .i64 ((n - i : Nat) : Int) ∧ b = .bool bb ∧ Hid (Moves c i ys ms yi mi) ∧ mi < c.mo.length ∧ ys ≤ yi ∧ Hid (bb = true → yr = yi ∧ mr = (mi : Int) + 1 ∧ yi ≤ 10000) ∧ Hid (bb = false → 10000 < yi) ∧ Hid (Box wr g 75 c.cells) ∧ Hid (Box wr gd 61 (dateC yr mr (d + 1))) ∧ Hid (Below g w wr)) (fun k _ _ => (intOf k).toNat)
    case atStart => exact ⟨0, ys, ms, yr0, mr0, b0, by omega, by simp, rfl, ⟨rfl, rfl⟩, hms, by omega, HBT, HBF, HX7, HD7, HB7⟩
    case round =>
      clear HX7 HD7 HB7
      obtain ⟨i, yi, mi, yr, mr, bb, hi, rfl, rfl, hmv, hmi, hyi1, hbt, hbf, hbx, hbd, hB⟩ := hrel
      cases bb
      case false =>
        have hout := hbf.out rfl
        obtain ⟨q, hq⟩ : ∃ q : Nat, q = n - i := ⟨_, rfl⟩
        rw [← hq]
        have HEx : Hid (∃ y2 m2, Moves c n ys ms y2 m2 ∧ 10000 < y2) := by
          obtain ⟨y2, m2, h1, h2⟩ := Moves.ext HOK.out hmv.out (n - i)
          rw [show i + (n - i) = n from by omega] at h1
          exact ⟨y2, m2, h1, by omega⟩
        clear hbt hbf hq
        go_wp2_with fail
        go_loopw [3, 13] (fun k b wr' => k = .int .i64 (q : Int) ∧ b = .bool false ∧ wr' = wr) (fun k _ _ => (intOf k).toNat)
        case atStart => exact ⟨rfl, rfl, rfl⟩
        case round =>
          obtain ⟨rfl, rfl, rfl⟩ := hrel
          go_wp2_with fail
          go_ret2
          obtain ⟨y2, m2, h1, h2⟩ := HEx.out
          exact ⟨by rw [HG.out]; exact hB.out, 0, 3, rfl, .inr ⟨by rw [← HYY.out]; exact hyb.2, ys, ms, y2, m2, by rw [← HYY.out]; exact HS.out, h1, .inl ⟨h2, rfl, rfl⟩⟩⟩
      obtain ⟨hyr, hmr, hyi3⟩ := hbt.out rfl
      subst hmr
      obtain rfl : yi = yr := hyr.symm
      clear hbt hbf
      obtain ⟨x0, x1, x2, x3, x4⟩ := ccells hbx.out
      have y0 : wr.cell? ⟨gd, 0, none⟩ = some (.int .i64 yi) := hbd.out.cell 0
      have y1 : wr.cell? ⟨gd, 1, none⟩ = some (.int .i64 ((mi : Int) + 1)) := hbd.out.cell 1
      have y2 : wr.cell? ⟨gd, 2, none⟩ = some (.int .i64 (d + 1)) := hbd.out.cell 2
      obtain ⟨q, hq⟩ : ∃ q : Nat, q = n - i := ⟨_, rfl⟩
      rw [← hq]
      by_cases hlt : 0 < q
      · have t1 : decide ((0 : Int) < (q : Int)) = true := decide_eq_true (by omega)
        have t2 : decide (0 < q) = true := decide_eq_true hlt
        go_wp2_with fail
        refine (HMv.out yi mi hmi (by omega) (by omega) wr (HV0.out _ hB.out)).mono ?_
        rintro e w8 ⟨hmr, hb8⟩
        obtain ⟨yn, mn, yrn, mrn, bn, hnx, rfl, hbtn, hbfn⟩ := hmr.form
        have HBTn := Lib.hid hbtn
        have HBFn := Lib.hid hbfn
        clear hmr hbtn hbfn
        have hmv2 : Hid (Moves c (i + 1) ys ms yn mn) := ⟨yi, mi, hmv.out, hnx⟩
        have hmn := hnx.1
        have hyn : yi ≤ yn ∧ yn ≤ yi + 1 := by rcases hnx.2.2 with h | h <;> omega
        have HB8 : Hid (Below g w w8) := hB.out.trans (hb8.mono (by have := hbx.out.lt; omega))
        have HX8 := Lib.hid (hbx.out.below hb8)
        have HD8 := Lib.hid (hbd.out.below hb8)
        clear hb8 hB hbx hbd x0 x1 x2 x3 x4 y0 y1 y2 hnx hmv
        have y0 : w8.cell? ⟨gd, 0, none⟩ = some (.int .i64 yi) := HD8.out.cell 0
        have y1 : w8.cell? ⟨gd, 1, none⟩ = some (.int .i64 ((mi : Int) + 1)) := HD8.out.cell 1
        have y2 : w8.cell? ⟨gd, 2, none⟩ = some (.int .i64 (d + 1)) := HD8.out.cell 2
        have yf : ∀ i, w8.frozen? ⟨gd, i, none⟩ = false := fun i => HD8.out.free i
        have yl := HD8.out.lt
        have ew : IntKind.i64.wrap ((q : Int) - 1) = ((q - 1 : Nat) : Int) := by rw [intFits _ (by omega) (by omega)]; omega
        go_wp2_with fail
        have HX9 := Lib.hid (((HX8.out.far (p := ⟨gd, 0, none⟩) (show g ≠ gd by omega) (.int .i64 yrn)).far (p := ⟨gd, 1, none⟩) (show g ≠ gd by omega) (.int .i64 mrn)).far (p := ⟨gd, 2, none⟩) (show g ≠ gd by omega) (.int .i64 (d + 1)))
        have HD9 : Hid (Box (((w8.setCell ⟨gd, 0, none⟩ (.int .i64 yrn)).setCell ⟨gd, 1, none⟩ (.int .i64 mrn)).setCell ⟨gd, 2, none⟩ (.int .i64 (d + 1))) gd 61 (dateC yrn mrn (d + 1))) := ((HD8.out.set_ 0 (.int .i64 yrn)).set_ 1 (.int .i64 mrn)).set_ 2 (.int .i64 (d + 1))
        have HB9 := Lib.hid (((HB8.out.setCell (p := ⟨gd, 0, none⟩) (show g ≤ gd by omega) (.int .i64 yrn)).setCell (p := ⟨gd, 1, none⟩) (show g ≤ gd by omega) (.int .i64 mrn)).setCell (p := ⟨gd, 2, none⟩) (show g ≤ gd by omega) (.int .i64 (d + 1)))
        clear HX8 HD8 HB8 y0 y1 y2 yf yl
        go_roundw
        case rel => exact ⟨i + 1, yn, mn, yrn, mrn, bn, by omega, by congr 1; omega, rfl, hmv2, hmn, by omega, HBTn, HBFn, HX9, HD9, HB9⟩
        case measure => simp [intOf]; omega
      · have hni : n = i := by omega
        subst hni
        have t1 : decide ((0 : Int) < (q : Int)) = false := decide_eq_false (by omega)
        have t2 : decide (0 < q) = false := decide_eq_false hlt
        have t3 : decide ((q : Int) < 0) = false := decide_eq_false (by omega)
        clear hq
        go_wp2_with fail
        go_loopw [3, 13] (fun k b wr' => k = .int .i64 (q : Int) ∧ b = .bool true ∧ wr' = wr) (fun k _ _ => (intOf k).toNat)
        case atStart => exact ⟨rfl, rfl, rfl⟩
        case round =>
          obtain ⟨rfl, rfl, rfl⟩ := hrel
          go_upto_region 23 with fail
          have z0 : ∀ W, Below wr.heap.size wr W → W.cell? ⟨g, 0, none⟩ = some (.string c.nm) := fun w hb => (hbx.out.below hb).cell 0
          have z1 : ∀ W, Below wr.heap.size wr W → W.cell? ⟨g, 1, none⟩ = some (.int .i64 c.ep) := fun w hb => (hbx.out.below hb).cell 1
          have z2 : ∀ W, Below wr.heap.size wr W → W.cell? ⟨g, 2, none⟩ = some (.int .i64 c.cy) := fun w hb => (hbx.out.below hb).cell 2
          have z3 : ∀ W, Below wr.heap.size wr W → W.cell? ⟨g, 3, none⟩ = some (.slice c.A1 c.mo.length c.c1) := fun w hb => (hbx.out.below hb).cell 3
          have z4 : ∀ W, Below wr.heap.size wr W → W.cell? ⟨g, 4, none⟩ = some (.slice c.A2 c.lp.length c.c2) := fun w hb => (hbx.out.below hb).cell 4
          have v0 : ∀ W, Below wr.heap.size wr W → W.cell? ⟨gd, 0, none⟩ = some (.int .i64 yi) := fun w hb => (hbd.out.below hb).cell 0
          have v1 : ∀ W, Below wr.heap.size wr W → W.cell? ⟨gd, 1, none⟩ = some (.int .i64 ((mi : Int) + 1)) := fun w hb => (hbd.out.below hb).cell 1
          have v2 : ∀ W, Below wr.heap.size wr W → W.cell? ⟨gd, 2, none⟩ = some (.int .i64 (d + 1)) := fun w hb => (hbd.out.below hb).cell 2
          have HLn := Lib.hid (fun W (hb : Below wr.heap.size wr W) => HLen.out yi mi hmi (by omega) (by omega) W (HV0.out _ (hB.out.trans (hb.mono (by have := hbx.out.lt; omega)))))
          have hmlE := HMl.out yi mi hmi
          have HMs : Hid (0 < c.mlen ys ms → 0 < c.mlen yi mi) := fun h => (hmv.out.some_ hms h).2
          have HTd := Lib.hid (fun dd (a : -1000 ≤ dd) (b : dd ≤ 1000) w (h : CalV w c) => toDay_any c yi mi dd w h hmi (by omega) (by omega) a b)
          have HOn : Hid (∀ dd day', 0 ≤ dd → dd < c.mlen yi mi → day' = c.ny yi + c.pre yi mi + dd → IsOn c yi mi dd day') := fun dd day' a b e => ⟨hmi, a, b, e⟩
          obtain ⟨E, hE⟩ : ∃ E, E = c.mlen yi mi := ⟨_, rfl⟩
          rw [← hE] at HLn hmlE HMs HOn
          have HE := Lib.hid hE
          clear hE
          refine flow_begin_tail 10 (tellOf [(7, det (.int .i64 E))]) (by kernel_rfl) (by kernel_rfl) ?_
          simp only [List.take_succ_cons, List.take_zero, List.drop_succ_cons, List.drop_zero]
          repeat (first | (refine flow_val (v := ?_) (by rfl) (by rfl) (fun w hb => ?_) ?_; rotate_left; (· ((go_simp) <;> ((repeat' apply And.intro) <;> with_reducible rfl))); try simp only [Act.put, List.setIfInBounds_toArray, List.set_cons_zero, List.set_cons_succ, Nat.reduceAdd]) | (refine flow_skip (by rfl) (by rfl) ?_; try simp only [Act.put, List.setIfInBounds_toArray, List.set_cons_zero, List.set_cons_succ, Nat.reduceAdd]))
          refine flow_call (f := ?_) (args := ?_) [] (by kernel_rfl) (by rfl) (by rfl) (fun w hb => ?_) (fun w hb hu => ?_) ?_; rotate_left 2; (· ((go_simp) <;> ((repeat' apply And.intro) <;> with_reducible rfl)))
          · exact HLn.out w hb
          try simp only [Act.put, List.setIfInBounds_toArray, List.set_cons_zero, List.set_cons_succ, Nat.reduceAdd]
          repeat (first | (refine flow_val (v := ?_) (by rfl) (by rfl) (fun w hb => ?_) ?_; rotate_left; (· ((go_simp) <;> ((repeat' apply And.intro) <;> with_reducible rfl))); try simp only [Act.put, List.setIfInBounds_toArray, List.set_cons_zero, List.set_cons_succ, Nat.reduceAdd]) | (refine flow_skip (by rfl) (by rfl) ?_; try simp only [Act.put, List.setIfInBounds_toArray, List.set_cons_zero, List.set_cons_succ, Nat.reduceAdd]))
          refine flow_nil fun w10 hb10 hf => ?_
          have HX10 := Lib.hid (hbx.out.below hb10)
          have HD10 := Lib.hid (hbd.out.below hb10)
          have HB10 : Hid (Below g w w10) := hB.out.trans (hb10.mono (by have := hbx.out.lt; omega))
          clear z0 z1 z2 z3 z4 v0 v1 v2 hb10 hf HLn hbx hbd hB
          have yf : ∀ i, w10.frozen? ⟨gd, i, none⟩ = false := fun i => HD10.out.free i
          have yl := HD10.out.lt
          have y2 : w10.cell? ⟨gd, 2, none⟩ = some (.int .i64 (d + 1)) := HD10.out.cell 2
          refine wpList_step fun K hK => ?_
          rw [if_pos (by rfl)]
          go_simp
          refine hK _ _ (wpList_nil ?_)
          clear hK K y2 yf yl
          have hdd1 : (if E < d + 1 then E else d + 1) = min (d + 1) E := by
            by_cases h : E < d + 1
            · rw [if_pos h]; omega
            · rw [if_neg h]; omega
          rw [hdd1]
          clear hdd1
          have hEpos := HMs.out hpos
          obtain ⟨dd, hdd2⟩ : ∃ dd, dd = min (d + 1) E := ⟨_, rfl⟩
          rw [← hdd2]
          have hdd3 : 1 ≤ dd ∧ dd ≤ 401 ∧ dd ≤ E := by omega
          have HDD := Lib.hid hdd2
          clear hdd2
          have HX11 := Lib.hid (HX10.out.far (p := ⟨gd, 2, none⟩) (show g ≠ gd by omega) (.int .i64 dd))
          have HD11 : Hid (Box (w10.setCell ⟨gd, 2, none⟩ (.int .i64 dd)) gd 61 (dateC yi ((mi : Int) + 1) dd)) := HD10.out.set_ 2 _
          have HB11 := Lib.hid (HB10.out.setCell (p := ⟨gd, 2, none⟩) (show g ≤ gd by omega) (.int .i64 dd))
          clear HX10 HD10 HB10
          generalize w10.setCell ⟨gd, 2, none⟩ (.int .i64 dd) = w11 at *
          obtain ⟨x0, x1, x2, x3, x4⟩ := ccells HX11.out
          have y0 : w11.cell? ⟨gd, 0, none⟩ = some (.int .i64 yi) := HD11.out.cell 0
          have y1 : w11.cell? ⟨gd, 1, none⟩ = some (.int .i64 ((mi : Int) + 1)) := HD11.out.cell 1
          have y2 : w11.cell? ⟨gd, 2, none⟩ = some (.int .i64 dd) := HD11.out.cell 2
          have HOf := Lib.hid (HOn.out (dd - 1) _ (by omega) (by omega) rfl)
          have HT1 := Lib.hid (HTd.out dd (by omega) (by omega) w11 (HV0.out _ HB11.out))
          generalize c.ny yi + c.pre yi mi + (dd - 1) = v at *
          go_wp2_with fail
          refine HT1.out.mono ?_
          rintro e w12 ⟨rfl, hb12⟩
          have HB12 : Hid (Below g w w12) := HB11.out.trans (hb12.mono (by have := HX11.out.lt; omega))
          obtain ⟨vv, EE, hvE⟩ := dayR_pair v
          rw [hvE]
          have HVE := Lib.hid hvE
          clear hvE hb12 x0 x1 x2 x3 x4 y0 y1 y2 HT1
          go_wp2_with fail
          go_ret2
          exact ⟨by rw [HG.out]; exact HB12.out, vv, EE, rfl, .inr ⟨by rw [← HYY.out]; exact hyb.2, ys, ms, yi, mi, by rw [← HYY.out]; exact HS.out, hmv.out, .inr ⟨hyi3, v, by rw [← HE.out, ← HDD.out]; exact HOf.out, HVE.out⟩⟩⟩
  · have t1 : (L == 0) = false := by rw [beq_eq_false_iff_ne]; exact hz
    obtain ⟨ys, ms, hS, hys', hms'⟩ := HP0.out (by omega)
    have HS := Lib.hid hS
    have hms : ms < c.mo.length := by omega
    have hpos : 0 < c.mlen ys ms := by rw [hys', hms', ← HLe.out]; omega
    have hys : yy ≤ ys ∧ ys ≤ yy + 1 := by omega
    have HX7 := HX5
    have HB7 := HB5
    obtain ⟨yr0, hyr0⟩ : ∃ yr0, yr0 = ys := ⟨_, rfl⟩
    obtain ⟨mr0, hmr0⟩ : ∃ mr0 : Int, mr0 = (ms : Int) + 1 := ⟨_, rfl⟩
    obtain ⟨b0, hb0⟩ : ∃ b0 : Bool, b0 = true := ⟨_, rfl⟩
    have HD7 : Hid (Box w5 gd 61 (dateC yr0 mr0 (d + 1))) := by rw [hyr0, hmr0, hys', hms']; exact HD5.out
    have HBT : Hid (b0 = true → yr0 = ys ∧ mr0 = (ms : Int) + 1 ∧ ys ≤ 10000) := fun _ => ⟨hyr0, hmr0, by omega⟩
    have HBF : Hid (b0 = false → 10000 < ys) := fun h => by rw [hb0] at h; cases h
    have HB0 := Lib.hid hb0
    clear HX5 HB5 HD5 hS hys' hms' HP0 HP1 hml hyr0 hmr0 hb0
    go_wp2_with fail
    clear t1
    obtain ⟨w7, hw7⟩ : ∃ w7, w7 = w5 := ⟨_, rfl⟩
    rw [← hw7] at HX7 HB7 HD7
    rw [← hw7]
    clear hw7
    go_loopw [3, 13] (fun k b wr => ∃ (i : Nat) (yi : Int) (mi : Nat) (yr mr : Int) (bb : Bool), i ≤ n ∧ k = .int .i64 ((n - i : Nat) : Int) ∧ b = .bool bb ∧ Hid (Moves c i ys ms yi mi) ∧ mi < c.mo.length ∧ ys ≤ yi ∧ Hid (bb = true → yr = yi ∧ mr = (mi : Int) + 1 ∧ yi ≤ 10000) ∧ Hid (bb = false → 10000 < yi) ∧ Hid (Box wr g 75 c.cells) ∧ Hid (Box wr gd 61 (dateC yr mr (d + 1))) ∧ Hid (Below g w wr)) (fun k _ _ => (intOf k).toNat)
    case atStart => exact ⟨0, ys, ms, yr0, mr0, b0, by omega, by simp, by rw [HB0.out], ⟨rfl, rfl⟩, hms, by omega, HBT, HBF, HX7, HD7, HB7⟩
    case round =>
      clear HX7 HD7 HB7
      obtain ⟨i, yi, mi, yr, mr, bb, hi, rfl, rfl, hmv, hmi, hyi1, hbt, hbf, hbx, hbd, hB⟩ := hrel
      cases bb
      case false =>
        have hout := hbf.out rfl
        obtain ⟨q, hq⟩ : ∃ q : Nat, q = n - i := ⟨_, rfl⟩
        rw [← hq]
        have HEx : Hid (∃ y2 m2, Moves c n ys ms y2 m2 ∧ 10000 < y2) := by
          obtain ⟨y2, m2, h1, h2⟩ := Moves.ext HOK.out hmv.out (n - i)
          rw [show i + (n - i) = n from by omega] at h1
          exact ⟨y2, m2, h1, by omega⟩
        clear hbt hbf hq
        go_wp2_with fail
        go_loopw [3, 13] (fun k b wr' => k = .int .i64 (q : Int) ∧ b = .bool false ∧ wr' = wr) (fun k _ _ => (intOf k).toNat)
        case atStart => exact ⟨rfl, rfl, rfl⟩
        case round =>
          obtain ⟨rfl, rfl, rfl⟩ := hrel
          go_wp2_with fail
          go_ret2
          obtain ⟨y2, m2, h1, h2⟩ := HEx.out
          exact ⟨by rw [HG.out]; exact hB.out, 0, 3, rfl, .inr ⟨by rw [← HYY.out]; exact hyb.2, ys, ms, y2, m2, by rw [← HYY.out]; exact HS.out, h1, .inl ⟨h2, rfl, rfl⟩⟩⟩
      obtain ⟨hyr, hmr, hyi3⟩ := hbt.out rfl
      subst hmr
      obtain rfl : yi = yr := hyr.symm
      clear hbt hbf
      obtain ⟨x0, x1, x2, x3, x4⟩ := ccells hbx.out
      have y0 : wr.cell? ⟨gd, 0, none⟩ = some (.int .i64 yi) := hbd.out.cell 0
      have y1 : wr.cell? ⟨gd, 1, none⟩ = some (.int .i64 ((mi : Int) + 1)) := hbd.out.cell 1
      have y2 : wr.cell? ⟨gd, 2, none⟩ = some (.int .i64 (d + 1)) := hbd.out.cell 2
      obtain ⟨q, hq⟩ : ∃ q : Nat, q = n - i := ⟨_, rfl⟩
      rw [← hq]
      by_cases hlt : 0 < q
      · have t1 : decide ((0 : Int) < (q : Int)) = true := decide_eq_true (by omega)
        have t2 : decide (0 < q) = true := decide_eq_true hlt
        go_wp2_with fail
        refine (HMv.out yi mi hmi (by omega) (by omega) wr (HV0.out _ hB.out)).mono ?_
        rintro e w8 ⟨hmr, hb8⟩
        obtain ⟨yn, mn, yrn, mrn, bn, hnx, rfl, hbtn, hbfn⟩ := hmr.form
        have HBTn := Lib.hid hbtn
        have HBFn := Lib.hid hbfn
        clear hmr hbtn hbfn
        have hmv2 : Hid (Moves c (i + 1) ys ms yn mn) := ⟨yi, mi, hmv.out, hnx⟩
        have hmn := hnx.1
        have hyn : yi ≤ yn ∧ yn ≤ yi + 1 := by rcases hnx.2.2 with h | h <;> omega
        have HB8 : Hid (Below g w w8) := hB.out.trans (hb8.mono (by have := hbx.out.lt; omega))
        have HX8 := Lib.hid (hbx.out.below hb8)
        have HD8 := Lib.hid (hbd.out.below hb8)
        clear hb8 hB hbx hbd x0 x1 x2 x3 x4 y0 y1 y2 hnx hmv
        have y0 : w8.cell? ⟨gd, 0, none⟩ = some (.int .i64 yi) := HD8.out.cell 0
        have y1 : w8.cell? ⟨gd, 1, none⟩ = some (.int .i64 ((mi : Int) + 1)) := HD8.out.cell 1
        have y2 : w8.cell? ⟨gd, 2, none⟩ = some (.int .i64 (d + 1)) := HD8.out.cell 2
        have yf : ∀ i, w8.frozen? ⟨gd, i, none⟩ = false := fun i => HD8.out.free i
        have yl := HD8.out.lt
        have ew : IntKind.i64.wrap ((q : Int) - 1) = ((q - 1 : Nat) : Int) := by rw [intFits _ (by omega) (by omega)]; omega
        go_wp2_with fail
        have HX9 := Lib.hid (((HX8.out.far (p := ⟨gd, 0, none⟩) (show g ≠ gd by omega) (.int .i64 yrn)).far (p := ⟨gd, 1, none⟩) (show g ≠ gd by omega) (.int .i64 mrn)).far (p := ⟨gd, 2, none⟩) (show g ≠ gd by omega) (.int .i64 (d + 1)))
        have HD9 : Hid (Box (((w8.setCell ⟨gd, 0, none⟩ (.int .i64 yrn)).setCell ⟨gd, 1, none⟩ (.int .i64 mrn)).setCell ⟨gd, 2, none⟩ (.int .i64 (d + 1))) gd 61 (dateC yrn mrn (d + 1))) := ((HD8.out.set_ 0 (.int .i64 yrn)).set_ 1 (.int .i64 mrn)).set_ 2 (.int .i64 (d + 1))
        have HB9 := Lib.hid (((HB8.out.setCell (p := ⟨gd, 0, none⟩) (show g ≤ gd by omega) (.int .i64 yrn)).setCell (p := ⟨gd, 1, none⟩) (show g ≤ gd by omega) (.int .i64 mrn)).setCell (p := ⟨gd, 2, none⟩) (show g ≤ gd by omega) (.int .i64 (d + 1)))
        clear HX8 HD8 HB8 y0 y1 y2 yf yl
        go_roundw
        case rel => exact ⟨i + 1, yn, mn, yrn, mrn, bn, by omega, by congr 1; omega, rfl, hmv2, hmn, by omega, HBTn, HBFn, HX9, HD9, HB9⟩
        case measure => simp [intOf]; omega
      · have hni : n = i := by omega
        subst hni
        have t1 : decide ((0 : Int) < (q : Int)) = false := decide_eq_false (by omega)
        have t2 : decide (0 < q) = false := decide_eq_false hlt
        have t3 : decide ((q : Int) < 0) = false := decide_eq_false (by omega)
        clear hq
        go_wp2_with fail
        go_loopw [3, 13] (fun k b wr' => k = .int .i64 (q : Int) ∧ b = .bool true ∧ wr' = wr) (fun k _ _ => (intOf k).toNat)
        case atStart => exact ⟨rfl, rfl, rfl⟩
        case round =>
          obtain ⟨rfl, rfl, rfl⟩ := hrel
          go_upto_region 23 with fail
          have z0 : ∀ W, Below wr.heap.size wr W → W.cell? ⟨g, 0, none⟩ = some (.string c.nm) := fun w hb => (hbx.out.below hb).cell 0
          have z1 : ∀ W, Below wr.heap.size wr W → W.cell? ⟨g, 1, none⟩ = some (.int .i64 c.ep) := fun w hb => (hbx.out.below hb).cell 1
          have z2 : ∀ W, Below wr.heap.size wr W → W.cell? ⟨g, 2, none⟩ = some (.int .i64 c.cy) := fun w hb => (hbx.out.below hb).cell 2
          have z3 : ∀ W, Below wr.heap.size wr W → W.cell? ⟨g, 3, none⟩ = some (.slice c.A1 c.mo.length c.c1) := fun w hb => (hbx.out.below hb).cell 3
          have z4 : ∀ W, Below wr.heap.size wr W → W.cell? ⟨g, 4, none⟩ = some (.slice c.A2 c.lp.length c.c2) := fun w hb => (hbx.out.below hb).cell 4
          have v0 : ∀ W, Below wr.heap.size wr W → W.cell? ⟨gd, 0, none⟩ = some (.int .i64 yi) := fun w hb => (hbd.out.below hb).cell 0
          have v1 : ∀ W, Below wr.heap.size wr W → W.cell? ⟨gd, 1, none⟩ = some (.int .i64 ((mi : Int) + 1)) := fun w hb => (hbd.out.below hb).cell 1
          have v2 : ∀ W, Below wr.heap.size wr W → W.cell? ⟨gd, 2, none⟩ = some (.int .i64 (d + 1)) := fun w hb => (hbd.out.below hb).cell 2
          have HLn := Lib.hid (fun W (hb : Below wr.heap.size wr W) => HLen.out yi mi hmi (by omega) (by omega) W (HV0.out _ (hB.out.trans (hb.mono (by have := hbx.out.lt; omega)))))
          have hmlE := HMl.out yi mi hmi
          have HMs : Hid (0 < c.mlen ys ms → 0 < c.mlen yi mi) := fun h => (hmv.out.some_ hms h).2
          have HTd := Lib.hid (fun dd (a : -1000 ≤ dd) (b : dd ≤ 1000) w (h : CalV w c) => toDay_any c yi mi dd w h hmi (by omega) (by omega) a b)
          have HOn : Hid (∀ dd day', 0 ≤ dd → dd < c.mlen yi mi → day' = c.ny yi + c.pre yi mi + dd → IsOn c yi mi dd day') := fun dd day' a b e => ⟨hmi, a, b, e⟩
          obtain ⟨E, hE⟩ : ∃ E, E = c.mlen yi mi := ⟨_, rfl⟩
          rw [← hE] at HLn hmlE HMs HOn
          have HE := Lib.hid hE
          clear hE
          refine flow_begin_tail 10 (tellOf [(7, det (.int .i64 E))]) (by kernel_rfl) (by kernel_rfl) ?_
          simp only [List.take_succ_cons, List.take_zero, List.drop_succ_cons, List.drop_zero]
          repeat (first | (refine flow_val (v := ?_) (by rfl) (by rfl) (fun w hb => ?_) ?_; rotate_left; (· ((go_simp) <;> ((repeat' apply And.intro) <;> with_reducible rfl))); try simp only [Act.put, List.setIfInBounds_toArray, List.set_cons_zero, List.set_cons_succ, Nat.reduceAdd]) | (refine flow_skip (by rfl) (by rfl) ?_; try simp only [Act.put, List.setIfInBounds_toArray, List.set_cons_zero, List.set_cons_succ, Nat.reduceAdd]))
          refine flow_call (f := ?_) (args := ?_) [] (by kernel_rfl) (by rfl) (by rfl) (fun w hb => ?_) (fun w hb hu => ?_) ?_; rotate_left 2; (· ((go_simp) <;> ((repeat' apply And.intro) <;> with_reducible rfl)))
          · exact HLn.out w hb
          try simp only [Act.put, List.setIfInBounds_toArray, List.set_cons_zero, List.set_cons_succ, Nat.reduceAdd]
          repeat (first | (refine flow_val (v := ?_) (by rfl) (by rfl) (fun w hb => ?_) ?_; rotate_left; (· ((go_simp) <;> ((repeat' apply And.intro) <;> with_reducible rfl))); try simp only [Act.put, List.setIfInBounds_toArray, List.set_cons_zero, List.set_cons_succ, Nat.reduceAdd]) | (refine flow_skip (by rfl) (by rfl) ?_; try simp only [Act.put, List.setIfInBounds_toArray, List.set_cons_zero, List.set_cons_succ, Nat.reduceAdd]))
          refine flow_nil fun w10 hb10 hf => ?_
          have HX10 := Lib.hid (hbx.out.below hb10)
          have HD10 := Lib.hid (hbd.out.below hb10)
          have HB10 : Hid (Below g w w10) := hB.out.trans (hb10.mono (by have := hbx.out.lt; omega))
          clear z0 z1 z2 z3 z4 v0 v1 v2 hb10 hf HLn hbx hbd hB
          have yf : ∀ i, w10.frozen? ⟨gd, i, none⟩ = false := fun i => HD10.out.free i
          have yl := HD10.out.lt
          have y2 : w10.cell? ⟨gd, 2, none⟩ = some (.int .i64 (d + 1)) := HD10.out.cell 2
          refine wpList_step fun K hK => ?_
          rw [if_pos (by rfl)]
          go_simp
          refine hK _ _ (wpList_nil ?_)
          clear hK K y2 yf yl
          have hdd1 : (if E < d + 1 then E else d + 1) = min (d + 1) E := by
            by_cases h : E < d + 1
            · rw [if_pos h]; omega
            · rw [if_neg h]; omega
          rw [hdd1]
          clear hdd1
          have hEpos := HMs.out hpos
          obtain ⟨dd, hdd2⟩ : ∃ dd, dd = min (d + 1) E := ⟨_, rfl⟩
          rw [← hdd2]
          have hdd3 : 1 ≤ dd ∧ dd ≤ 401 ∧ dd ≤ E := by omega
          have HDD := Lib.hid hdd2
          clear hdd2
          have HX11 := Lib.hid (HX10.out.far (p := ⟨gd, 2, none⟩) (show g ≠ gd by omega) (.int .i64 dd))
          have HD11 : Hid (Box (w10.setCell ⟨gd, 2, none⟩ (.int .i64 dd)) gd 61 (dateC yi ((mi : Int) + 1) dd)) := HD10.out.set_ 2 _
          have HB11 := Lib.hid (HB10.out.setCell (p := ⟨gd, 2, none⟩) (show g ≤ gd by omega) (.int .i64 dd))
          clear HX10 HD10 HB10
          generalize w10.setCell ⟨gd, 2, none⟩ (.int .i64 dd) = w11 at *
          obtain ⟨x0, x1, x2, x3, x4⟩ := ccells HX11.out
          have y0 : w11.cell? ⟨gd, 0, none⟩ = some (.int .i64 yi) := HD11.out.cell 0
          have y1 : w11.cell? ⟨gd, 1, none⟩ = some (.int .i64 ((mi : Int) + 1)) := HD11.out.cell 1
          have y2 : w11.cell? ⟨gd, 2, none⟩ = some (.int .i64 dd) := HD11.out.cell 2
          have HOf := Lib.hid (HOn.out (dd - 1) _ (by omega) (by omega) rfl)
          have HT1 := Lib.hid (HTd.out dd (by omega) (by omega) w11 (HV0.out _ HB11.out))
          generalize c.ny yi + c.pre yi mi + (dd - 1) = v at *
          go_wp2_with fail
          refine HT1.out.mono ?_
          rintro e w12 ⟨rfl, hb12⟩
          have HB12 : Hid (Below g w w12) := HB11.out.trans (hb12.mono (by have := HX11.out.lt; omega))
          obtain ⟨vv, EE, hvE⟩ := dayR_pair v
          rw [hvE]
          have HVE := Lib.hid hvE
          clear hvE hb12 x0 x1 x2 x3 x4 y0 y1 y2 HT1
          go_wp2_with fail
          go_ret2
          exact ⟨by rw [HG.out]; exact HB12.out, vv, EE, rfl, .inr ⟨by rw [← HYY.out]; exact hyb.2, ys, ms, yi, mi, by rw [← HYY.out]; exact HS.out, hmv.out, .inr ⟨hyi3, v, by rw [← HE.out, ← HDD.out]; exact HOf.out, HVE.out⟩⟩⟩
end Go.Proofs.YteebjkcpniddiaaGreatDoor
