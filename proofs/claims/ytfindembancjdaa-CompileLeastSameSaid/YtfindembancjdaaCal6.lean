/- Contract of compile.Least. -/
import Derived.Test.YtfindembancjdaaCal5
import Derived.Test.YtfindembancjdaaCal4
import Derived.Test.YtfindembancjdaaObs6b
namespace Go.Proofs.Ytfindembancjdaa
open Go.RowKit
set_option linter.unusedVariables false

theorem own_apart {w : World} {base : Nat} {e : TypeId} {s : Nat} {v : Value} {n : Nat} {xs : List Value} {g : Nat} {ty : TypeId} {cs : Array Value} (h : w.ownsRow base e s v n xs) (hb : Box w g ty cs) (hne : e ≠ ty) (b : Nat) (hv : v.ownBlock = some b) : b ≠ g := by
  intro e'
  subst e'
  rcases h.2 with ⟨rfl, _⟩ | ⟨g', cap, cur, rfl, _, hg, _⟩
  · simp [Value.ownBlock] at hv
  · have : g' = b := by simpa [Value.ownBlock] using hv
    subst this
    unfold Box at hb
    rw [hg] at hb
    simp at hb
    exact hne hb.2
theorem row_set {w : World} {B : Nat} {A : Option Addr} {cs : List Value} (h : Row w B A cs) (p : Addr) (v : Value) (hp : ∀ a, A = some a → a.block ≠ p.block) : Row (w.setCell p v) B A cs := by
  rcases h with h | ⟨b, o, e, hB, hc⟩
  · exact .inl h
  · refine .inr ⟨b, o, e, hB, fun j u hu => ?_⟩
    rw [World.cell?_setCell_far w p ⟨b, o + j, none⟩ v (fun e' => hp _ e e'.symm)]
    exact hc j u hu
/-- the leap years of a cycle of N years recur each n years -/
def Per (lp : List Int) (N n : Nat) : Prop := N % n = 0 ∧ (flagsL lp N).drop n = (flagsL lp N).take (N - n)
structure IsLeast (lp : List Int) (N n : Nat) : Prop where
  n1 : 1 ≤ n
  n2 : n ≤ N
  per : Per lp N n
  min : ∀ m, 1 ≤ m → m < n → ¬ Per lp N m
theorem per_all (lp : List Int) (N : Nat) : Per lp N N := ⟨Nat.mod_self N, by rw [Nat.sub_self, List.take_zero, List.drop_of_length_le (by rw [flagsL_len]; omega)]⟩

theorem row_drop {W : World} {gF N k : Nat} {lp : List Int} (hx : Box W gF 4 (bools (flagsL lp N)).toArray) (hk : k ≤ N) : Row W W.heap.size (if N = k then some ⟨gF, 0, none⟩ else some ⟨gF, k, none⟩) (bools ((flagsL lp N).drop k)) := by
  by_cases h : N = k
  · subst h
    left
    simp [bools, flagsL_len]
  · rw [if_neg h]
    refine .inr ⟨gF, k, rfl, hx.lt, fun j v hv => ?_⟩
    rw [hx.cell]
    simp only [bools, List.map_drop, List.getElem?_drop] at hv
    simpa [bools] using hv
theorem row_takeB {W : World} {gF N : Nat} {lp : List Int} (hx : Box W gF 4 (bools (flagsL lp N)).toArray) (m : Nat) : Row W W.heap.size (some ⟨gF, 0, none⟩) (bools ((flagsL lp N).take m)) := by
  refine .inr ⟨gF, 0, rfl, hx.lt, fun j v hv => ?_⟩
  rw [hx.cell, Nat.zero_add]
  simp only [bools, List.map_take, List.getElem?_take] at hv
  split at hv
  · simpa [bools] using hv
  · cases hv
/-- a row of structs of one's own -/
def toldRowE (e : TypeId) (s base n : Nat) (xs : List Value) : Told := ⟨fun v => ∃ A c, v = .slice A n c, fun v w => w.ownsRow base e s v n xs⟩
section
variable {P : Program} {ops : Array Oper} {w0 : World} {R : Nat → Option Told} {E : Act → World → Prop} {o : Oper} {rest : List Oper} {k : Nat} {a : Act} {L : List Fact}
theorem flow_row {e : TypeId} {s base n : Nat} {xs : List Value} {f : FuncId} {args : Array Value} (use : List Nat) (hu : pastB ops k use = true) (hR : R k = some (toldRowE e s base n xs)) (hw : Region.wanted o (yielded ops a.tmps) = true)
    (h : ∀ w, Below w0.heap.size w0 w → (execOp a.eval o).run P w = .ok (.enter f args) w)
    (hc : ∀ w, Below w0.heap.size w0 w → usef use L w → Calls P f args w fun e' w' => ∃ v, e' = .returned v ∧ w'.ownsRow base e s v n xs ∧ Below w.heap.size w w')
    (hr : ∀ A c, FlowB P ops w0 R E rest (k + 1) (a.put o.dst (.slice A n c)) ((k, fun w => w.ownsRow base e s (.slice A n c) n xs) :: L)) : FlowB P ops w0 R E (o :: rest) k a L := by
  refine flow_told (t := toldRowE e s base n xs) use hu hR hw ⟨_, none, 0, rfl⟩ (fun v w w' hb hF => own_next hF hb) h (fun w hb hl => (hc w hb hl).mono fun e' w' ⟨v, he, ho, hb'⟩ => ⟨v, he, ?_, ho, hb'⟩) fun v hv => ?_
  · obtain ⟨A, c, rfl, _⟩ := own_form ho
    exact ⟨A, c, rfl⟩
  · obtain ⟨A, c, rfl⟩ := hv
    exact hr A c
end

theorem oneI (x : Int) : ∀ u ∈ [Value.int .i64 x], u.oneCell' = true := fun u hu => by simp at hu; subst hu; rfl
abbrev zeroCal : Array Value := #[.string ⟨#[]⟩, .int .i64 0, .int .i64 0, .slice none 0 0, .slice none 0 0]

set_option maxHeartbeats 1000000 in
set_option maxRecDepth 100000 in
theorem Least_yes (c : Cal) (N : Nat) (hN : c.cy = N) (w : World) (hr : CalIn w c) (hf : CalFit c) (ok : CalOk c) :
    Calls Try.prog 32 #[c.val] w fun e w' => ∃ (d : Cal) (n : Nat), e = .returned (.tuple #[d.val, .int .i64 0]) ∧ IsLeast c.lp N n ∧ d.nm = c.nm ∧ d.ep = c.ep ∧ d.cy = n ∧ d.mo = c.mo ∧ d.lp = c.lp.filter (fun y => decide (y ≤ (n : Int))) ∧ CalIn w' d ∧ CalFit d ∧ Below w.heap.size w w' := by
  obtain ⟨nm, ep, cy, mo, lp, A1, c1, A2, c2⟩ := c
  simp only at hN ⊢
  subst hN
  have hN1 := ok.hd.2.2.1
  have hN2 := ok.hd.2.2.2
  simp only at hN1 hN2
  have hx := (Box.new w 82 #[.string nm, .int .i64 ep, .int .i64 (N : Int), .slice A1 mo.length c1, .slice A2 lp.length c2]).alloc (Obj.cells zeroCal 82)
  have hz := Box.new (w.alloc (Obj.cells #[.string nm, .int .i64 ep, .int .i64 (N : Int), .slice A1 mo.length c1, .slice A2 lp.length c2] 82)) 82 zeroCal
  rw [World.size_alloc] at hz
  have HB := Lib.hid (below_alloc2 w (Obj.cells #[.string nm, .int .i64 ep, .int .i64 (N : Int), .slice A1 mo.length c1, .slice A2 lp.length c2] 82) (Obj.cells zeroCal 82))
  have HR := Lib.hid (hr.next HB.out)
  have HX := Lib.hid hx
  have HZ := Lib.hid hz
  have HF := Lib.hid hf
  have HO := Lib.hid ok
  clear hr hf ok hx hz
  go_enter Try.func32, Try.ntmps32
  go_wp2_with fail
  generalize (w.alloc (Obj.cells #[.string nm, .int .i64 ep, .int .i64 (N : Int), .slice A1 mo.length c1, .slice A2 lp.length c2] 82)).alloc (Obj.cells zeroCal 82) = W0 at *
  obtain ⟨g, hg⟩ : ∃ g, g = w.heap.size := ⟨_, rfl⟩
  rw [← hg] at HX HZ
  rw [← hg]
  have HG := Lib.hid hg
  clear hg
  refine (ccheck_any ⟨nm, ep, N, mo, lp, A1, c1, A2, c2⟩ _ HR.out HF.out).mono ?_
  rintro e w1 ⟨E1, rfl, hE1, hb1⟩
  obtain rfl : E1 = 0 := hE1.2 HO.out
  replace HX := Lib.hid (HX.out.below hb1)
  replace HZ := Lib.hid (HZ.out.below hb1)
  replace HB := Lib.hid (below_then HB.out hb1)
  replace HR := Lib.hid (HR.out.next hb1)
  clear hE1 hb1
  obtain ⟨x0, x1, x2, x3, x4⟩ := ccells (c := ⟨nm, ep, N, mo, lp, A1, c1, A2, c2⟩) HX.out
  go_wp2_with fail
  refine (flags_any ⟨nm, ep, N, mo, lp, A1, c1, A2, c2⟩ _ HR.out N rfl (by omega) HO.out.lp).mono ?_
  rintro e w2 ⟨gF, rfl, hF, hb1⟩
  replace HX := Lib.hid (HX.out.below hb1)
  replace HZ := Lib.hid (HZ.out.below hb1)
  replace HB := Lib.hid (below_then HB.out hb1)
  replace HR := Lib.hid (HR.out.next hb1)
  have HFl := Lib.hid hF
  clear hb1 x0 x1 x2 x3 x4 hF
  go_wp2_with fail
  go_loopw [6] (fun v wr => ∃ k : Nat, 1 ≤ k ∧ k ≤ N ∧ v = .int .i64 (k : Int) ∧ Hid (∀ m, 1 ≤ m → m < k → ¬ Per lp N m) ∧ Below w2.heap.size w2 wr) (fun v _ => N - (intOf v).toNat)
  case atStart => exact ⟨1, by omega, by omega, rfl, fun m h1 h2 => by omega, Below.refl _ _⟩
  case round =>
    obtain ⟨k, hk1, hk2, rfl, hmin, hbr⟩ := hrel
    have HX1 := fun W (hb : Below wr.heap.size wr W) => (HX.out.below hbr).below hb
    have HF1 : Hid (∀ W, Below wr.heap.size wr W → Box W gF 4 (bools (flagsL lp N)).toArray) := fun W hb => (HFl.out.below hbr).below hb
    have c0 := fun W hb => ccells (c := ⟨nm, ep, N, mo, lp, A1, c1, A2, c2⟩) (HX1 W hb)
    clear HX1
    obtain ⟨q, hq1, hq2⟩ : ∃ q : Nat, (N : Int).tmod (k : Int) = (q : Int) ∧ q = N % k := ⟨N % k, by rw [Int.tmod_eq_emod_of_nonneg (by omega)]; simp, rfl⟩
    have HQ := Lib.hid hq2
    clear hq2
    have kk0 : ¬ (k : Int) = 0 := by omega
    have kk1 : ¬ k = 0 := by omega
    go_upto_region 7 with fail
    refine with_lex (by kernel_rfl) fun HLX => ?_
    by_cases hq : q = 0
    case neg =>
      have t1 : ((q : Int) != 0) = true := by rw [bne_iff_ne]; omega
      have hlt : k < N := by
        rcases Nat.lt_or_ge k N with h | h
        · exact h
        · exfalso; have : k = N := by omega
          subst this
          have := HQ.out
          rw [Nat.mod_self] at this
          exact hq this
      have HNP : Hid (∀ m, 1 ≤ m → m < k + 1 → ¬ Per lp N m) := fun m h1 h2 hp => by
        by_cases e : m = k
        · subst e; have := hp.1; rw [← HQ.out] at this; exact hq this
        · exact hmin.out m h1 (by omega) hp
      refine flow_begin (tellOf []) (by kernel_rfl) HLX.out ?_
      repeat (first | (refine flow_val (v := ?_) (by rfl) (by rfl) (fun w hb => ?_) ?_; rotate_left; (· ((go_simp) <;> ((repeat' apply And.intro) <;> with_reducible rfl))); try simp only [Act.put, List.setIfInBounds_toArray, List.set_cons_zero, List.set_cons_succ, Nat.reduceAdd]) | (refine flow_skip (by rfl) (by rfl) ?_; try simp only [Act.put, List.setIfInBounds_toArray, List.set_cons_zero, List.set_cons_succ, Nat.reduceAdd]))
      refine flow_nil fun w3 hb3 _ => ?_
      clear c0 hq1 HLX HF1
      go_wp2_with fail
      go_roundw
      case rel => exact ⟨k + 1, by omega, by omega, by go_num, HNP, below_then hbr hb3⟩
      case measure => simp [intOf]; omega
    subst hq
    have t1 : (((0 : Nat) : Int) != 0) = false := rfl
    have j1 : (0 : Int) ≤ (k : Int) := by omega
    have j2 : (k : Int) ≤ (N : Int) := by omega
    have j3 : IntKind.i64.wrap ((N : Int) - (k : Int)) = ((N - k : Nat) : Int) := by rw [show (N : Int) - (k : Int) = ((N - k : Nat) : Int) from by omega]; exact intFits _ (by omega) (by omega)
    have j4 : (((N - k : Nat) : Int)) ≤ (N : Int) := by omega
    have j5 : (0 : Int) ≤ (((N - k : Nat) : Int)) := by omega
    have HEq : Hid (∀ W, Below wr.heap.size wr W → Calls Try.prog 69 #[.slice (if N = k then some ⟨gF, 0, none⟩ else some ⟨gF, k, none⟩) (N - k) (N - k), .slice (some ⟨gF, 0, none⟩) (N - k) N] W fun e w' => e = .returned (.bool (decide ((flagsL lp N).drop k = (flagsL lp N).take (N - k)))) ∧ Below W.heap.size W w') := fun W hb => by
      have hx := HF1.out W hb
      have := equal_bools (if N = k then some ⟨gF, 0, none⟩ else some ⟨gF, k, none⟩) (some ⟨gF, 0, none⟩) (N - k) N ((flagsL lp N).drop k) ((flagsL lp N).take (N - k)) W (row_drop hx hk2) (row_takeB hx (N - k)) (by simp [flagsL_len]; omega) (by simp [flagsL_len])
      rwa [show ((flagsL lp N).drop k).length = N - k from by simp [flagsL_len]] at this
    obtain ⟨AK, hAK⟩ : ∃ AK : Option Addr, (if N = k then some ⟨gF, 0, none⟩ else some ⟨gF, k, none⟩) = AK := ⟨_, rfl⟩
    rw [hAK] at HEq
    have HPk : Hid (Per lp N k ↔ (flagsL lp N).drop k = (flagsL lp N).take (N - k)) := ⟨fun h => h.2, fun h => ⟨HQ.out.symm, h⟩⟩
    have HPN := Lib.hid (per_all lp N)
    obtain ⟨EQ, hEQ⟩ : ∃ EQ, EQ = decide ((flagsL lp N).drop k = (flagsL lp N).take (N - k)) := ⟨_, rfl⟩
    rw [← hEQ] at HEq
    have HPE : Hid (EQ = true ↔ Per lp N k) := by
      unfold Hid
      rw [hEQ, decide_eq_true_iff]
      exact HPk.out.symm
    clear hEQ HPk HF1
    cases EQ with
    | false =>
      have hnp : ¬ Per lp N k := fun h => by have := HPE.out.2 h; cases this
      have hlt : k < N := by
        rcases Nat.lt_or_ge k N with h | h
        · exact h
        · exfalso; have : k = N := by omega
          subst this
          exact hnp HPN.out
      have HNP : Hid (∀ m, 1 ≤ m → m < k + 1 → ¬ Per lp N m) := fun m h1 h2 hp => by
        by_cases e : m = k
        · subst e; exact hnp hp
        · exact hmin.out m h1 (by omega) hp
      clear hnp
      refine flow_begin (tellOf [(15, det (.bool false))]) (by kernel_rfl) HLX.out ?_
      repeat (first | (refine flow_val (v := ?_) (by rfl) (by rfl) (fun w hb => ?_) ?_; rotate_left; (· ((go_simp) <;> ((repeat' apply And.intro) <;> with_reducible rfl))); try simp only [Act.put, List.setIfInBounds_toArray, List.set_cons_zero, List.set_cons_succ, Nat.reduceAdd]) | (refine flow_skip (by rfl) (by rfl) ?_; try simp only [Act.put, List.setIfInBounds_toArray, List.set_cons_zero, List.set_cons_succ, Nat.reduceAdd]))
      refine flow_call (f := ?_) (args := ?_) [] (by kernel_rfl) (by rfl) (by rfl) (fun w hb => ?_) (fun w hb hu => ?_) ?_; rotate_left 2; (· ((go_simp) <;> ((repeat' apply And.intro) <;> with_reducible rfl)))
      · exact HEq.out w hb
      try simp only [Act.put, List.setIfInBounds_toArray, List.set_cons_zero, List.set_cons_succ, Nat.reduceAdd]
      repeat (first | (refine flow_val (v := ?_) (by rfl) (by rfl) (fun w hb => ?_) ?_; rotate_left; (· ((go_simp) <;> ((repeat' apply And.intro) <;> with_reducible rfl))); try simp only [Act.put, List.setIfInBounds_toArray, List.set_cons_zero, List.set_cons_succ, Nat.reduceAdd]) | (refine flow_skip (by rfl) (by rfl) ?_; try simp only [Act.put, List.setIfInBounds_toArray, List.set_cons_zero, List.set_cons_succ, Nat.reduceAdd]))
      refine flow_nil fun w3 hb3 _ => ?_
      clear c0 hq1 HLX HEq
      go_wp2_with fail
      go_roundw
      case rel => exact ⟨k + 1, by omega, by omega, by go_num, HNP, below_then hbr hb3⟩
      case measure => simp [intOf]; omega
    | true =>
      have HLE : Hid (IsLeast lp N k) := ⟨hk1, hk2, HPE.out.1 rfl, hmin.out⟩
      refine flow_begin (tellOf [(15, det (.bool true))]) (by kernel_rfl) HLX.out ?_
      repeat (first | (refine flow_val (v := ?_) (by rfl) (by rfl) (fun w hb => ?_) ?_; rotate_left; (· ((go_simp) <;> ((repeat' apply And.intro) <;> with_reducible rfl))); try simp only [Act.put, List.setIfInBounds_toArray, List.set_cons_zero, List.set_cons_succ, Nat.reduceAdd]) | (refine flow_skip (by rfl) (by rfl) ?_; try simp only [Act.put, List.setIfInBounds_toArray, List.set_cons_zero, List.set_cons_succ, Nat.reduceAdd]))
      refine flow_call (f := ?_) (args := ?_) [] (by kernel_rfl) (by rfl) (by rfl) (fun w hb => ?_) (fun w hb hu => ?_) ?_; rotate_left 2; (· ((go_simp) <;> ((repeat' apply And.intro) <;> with_reducible rfl)))
      · exact HEq.out w hb
      try simp only [Act.put, List.setIfInBounds_toArray, List.set_cons_zero, List.set_cons_succ, Nat.reduceAdd]
      repeat (first | (refine flow_val (v := ?_) (by rfl) (by rfl) (fun w hb => ?_) ?_; rotate_left; (· ((go_simp) <;> ((repeat' apply And.intro) <;> with_reducible rfl))); try simp only [Act.put, List.setIfInBounds_toArray, List.set_cons_zero, List.set_cons_succ, Nat.reduceAdd]) | (refine flow_skip (by rfl) (by rfl) ?_; try simp only [Act.put, List.setIfInBounds_toArray, List.set_cons_zero, List.set_cons_succ, Nat.reduceAdd]))
      refine flow_nil fun w3 hb3 _ => ?_
      replace HX := Lib.hid ((HX.out.below hbr).below hb3)
      replace HZ := Lib.hid ((HZ.out.below hbr).below hb3)
      replace HB := Lib.hid (below_then (below_then HB.out hbr) hb3)
      replace HR := Lib.hid ((HR.out.next hbr).next hb3)
      clear c0 hq1 HLX HEq hbr hb3 HFl HPE HPN hmin j3 j4 j5 kk0 kk1 t1 hAK
      go_upto_region 8 with fail
      have c0 := fun W hb => ccells (c := ⟨nm, ep, N, mo, lp, A1, c1, A2, c2⟩) (HX.out.below (w' := W) hb)
      refine flow_begin_tail 10 (tellOf [(7, toldRowE 80 3 w3.heap.size mo.length (mo.flatMap mthF))]) (by kernel_rfl) (by kernel_rfl) ?_
      simp only [List.take_succ_cons, List.take_zero, List.drop_succ_cons, List.drop_zero]
      repeat (first | (refine flow_val (v := ?_) (by rfl) (by rfl) (fun w hb => ?_) ?_; rotate_left; (· ((go_simp) <;> ((repeat' apply And.intro) <;> with_reducible rfl))); try simp only [Act.put, List.setIfInBounds_toArray, List.set_cons_zero, List.set_cons_succ, Nat.reduceAdd]) | (refine flow_skip (by rfl) (by rfl) ?_; try simp only [Act.put, List.setIfInBounds_toArray, List.set_cons_zero, List.set_cons_succ, Nat.reduceAdd]))
      refine flow_row (f := ?_) (args := ?_) [] (by kernel_rfl) (by rfl) (by rfl) (fun w hb => ?_) (fun w hb hu => ?_) (fun A7 c7 => ?_); rotate_left 2; (· ((go_simp) <;> ((repeat' apply And.intro) <;> with_reducible rfl)))
      · exact (clone_mths A1 c1 mo w (HR.out.r1.next hb) HO.out.mo.n1 (by have := HO.out.mo.n2; simp only at this; omega)).mono fun e w' ⟨v, he, ho, hb'⟩ => ⟨v, he, own_lower ho hb.size, hb'⟩
      try simp only [Act.put, List.setIfInBounds_toArray, List.set_cons_zero, List.set_cons_succ, Nat.reduceAdd]
      repeat (first | (refine flow_val (v := ?_) (by rfl) (by rfl) (fun w hb => ?_) ?_; rotate_left; (· ((go_simp) <;> ((repeat' apply And.intro) <;> with_reducible rfl))); try simp only [Act.put, List.setIfInBounds_toArray, List.set_cons_zero, List.set_cons_succ, Nat.reduceAdd]) | (refine flow_skip (by rfl) (by rfl) ?_; try simp only [Act.put, List.setIfInBounds_toArray, List.set_cons_zero, List.set_cons_succ, Nat.reduceAdd]))
      refine flow_box (t := ?_) (cs := ?_) (by rfl) (by rfl) (fun w hb => ?_) (fun g9 hg9 => ?_); rotate_left 2; (· ((go_simp) <;> ((repeat' apply And.intro) <;> with_reducible rfl))); try simp only [Act.put, List.setIfInBounds_toArray, List.set_cons_zero, List.set_cons_succ, Nat.reduceAdd]
      refine flow_nil fun w4 hb4 hf => ?_
      have hb9 := hf.1
      have ho7 := hf.2.1
      clear hf
      obtain ⟨z0, z1, z2, z3, z4⟩ : w4.cell? ⟨g9, 0, none⟩ = some (.string ⟨#[]⟩) ∧ w4.cell? ⟨g9, 1, none⟩ = some (.int .i64 0) ∧ w4.cell? ⟨g9, 2, none⟩ = some (.int .i64 0) ∧ w4.cell? ⟨g9, 3, none⟩ = some (.slice none 0 0) ∧ w4.cell? ⟨g9, 4, none⟩ = some (.slice none 0 0) := ⟨hb9.cell 0, hb9.cell 1, hb9.cell 2, hb9.cell 3, hb9.cell 4⟩
      have zf := fun i => hb9.free i
      have hb5 : Box (((((w4.setCell ⟨g9, 0, none⟩ (.string nm)).setCell ⟨g9, 1, none⟩ (.int .i64 ep)).setCell ⟨g9, 2, none⟩ (.int .i64 (k : Int))).setCell ⟨g9, 3, none⟩ (.slice A7 mo.length c7)).setCell ⟨g9, 4, none⟩ (.slice none 0 0)) g9 82 #[.string nm, .int .i64 ep, .int .i64 (k : Int), .slice A7 mo.length c7, .slice none 0 0] := ((((hb9.set_ 0 (.string nm)).set_ 1 (.int .i64 ep)).set_ 2 (.int .i64 (k : Int))).set_ 3 (.slice A7 mo.length c7)).set_ 4 (.slice none 0 0)
      have HB5 := Lib.hid (((((hb4.setCell (p := ⟨g9, 0, none⟩) hg9 (.string nm)).setCell (p := ⟨g9, 1, none⟩) hg9 (.int .i64 ep)).setCell (p := ⟨g9, 2, none⟩) hg9 (.int .i64 (k : Int))).setCell (p := ⟨g9, 3, none⟩) hg9 (.slice A7 mo.length c7)).setCell (p := ⟨g9, 4, none⟩) hg9 (.slice none 0 0))
      have hne : ∀ b, (Value.slice A7 mo.length c7).ownBlock = some b → b ≠ g9 := fun b hb => own_apart ho7 hb9 (by decide) b hb
      have HO7 : Hid ((((((w4.setCell ⟨g9, 0, none⟩ (.string nm)).setCell ⟨g9, 1, none⟩ (.int .i64 ep)).setCell ⟨g9, 2, none⟩ (.int .i64 (k : Int))).setCell ⟨g9, 3, none⟩ (.slice A7 mo.length c7)).setCell ⟨g9, 4, none⟩ (.slice none 0 0)).ownsRow w3.heap.size 80 3 (.slice A7 mo.length c7) mo.length (mo.flatMap mthF)) := own_heap ho7 fun b hb => by
        have h := hne b hb
        rw [Below.heap_setCell _ _ _ b h, Below.heap_setCell _ _ _ b h, Below.heap_setCell _ _ _ b h, Below.heap_setCell _ _ _ b h, Below.heap_setCell _ _ _ b h]
      have HBX := Lib.hid hb5
      clear ho7 hb9 hb4 c0 hne hb5
      refine wpList_step fun K hK => ?_
      rw [if_pos (by rfl)]
      go_simp
      refine hK _ _ (wpList_nil ?_)
      clear hK K z0 z1 z2 z3 z4 zf
      generalize ((((w4.setCell ⟨g9, 0, none⟩ (.string nm)).setCell ⟨g9, 1, none⟩ (.int .i64 ep)).setCell ⟨g9, 2, none⟩ (.int .i64 (k : Int))).setCell ⟨g9, 3, none⟩ (.slice A7 mo.length c7)).setCell ⟨g9, 4, none⟩ (.slice none 0 0) = W5 at *
      have y4 : W5.cell? ⟨g, 4, none⟩ = some (.slice A2 lp.length c2) := (HX.out.below HB5.out).cell 4
      have hln := HO.out.lp.len (by show (1 : Int) ≤ (N : Int) + 1; omega)
      simp only at hln
      go_wp2_with fail
      clear y4
      obtain ⟨LB, hLB⟩ : ∃ LB, LB = W5.heap.size := ⟨_, rfl⟩
      have HLB := Lib.hid hLB
      have h9L : g9 < LB := by rw [hLB]; exact HBX.out.lt
      have h3L : w3.heap.size ≤ LB := by rw [hLB]; exact HB5.out.size
      have h7L : Hid (∀ b, (Value.slice A7 mo.length c7).ownBlock = some b → b < LB) := fun b hb => by rw [hLB]; exact (own_lt HO7.out b hb).2
      clear hLB
      obtain ⟨i0, hi0, hz0, hz1, hz2⟩ := info_parts infoInt2
      go_loopw [9, 50] (fun _ i wr => ∃ (j : Nat) (lv : Value), j ≤ lp.length ∧ i = .int .i64 (j : Int) ∧ Hid (Box wr g9 82 #[.string nm, .int .i64 ep, .int .i64 (k : Int), .slice A7 mo.length c7, lv]) ∧ Hid (wr.ownsRow LB 3 1 lv ((lp.take j).filter (fun y => decide (y ≤ (k : Int)))).length (ints ((lp.take j).filter (fun y => decide (y ≤ (k : Int)))))) ∧ Hid (wr.ownsRow w3.heap.size 80 3 (.slice A7 mo.length c7) mo.length (mo.flatMap mthF)) ∧ Hid (Below w3.heap.size w3 wr) ∧ LB ≤ wr.heap.size) (fun _ i _ => lp.length - (intOf i).toNat)
      case atStart => exact ⟨0, .slice none 0 0, by omega, rfl, HBX, World.ownsRow_nil _ _ _ _, HO7, HB5, by rw [HLB.out]; omega⟩
      case round =>
        clear HBX HO7 HB5 HLB
        obtain ⟨j, lv, hj, rfl, hbx, hlv, ho7, hb5, hLw⟩ := hrel
        have hfl : ((lp.take j).filter (fun y => decide (y ≤ (k : Int)))).length ≤ j := by
          have := List.length_filter_le (fun y => decide (y ≤ (k : Int))) (lp.take j)
          rw [List.length_take] at this
          omega
        by_cases hlt : j < lp.length
        · obtain ⟨b, o, rfl, hbl, hcs⟩ := ((HR.out.r2.below hb5.out).open_ (ints_ne lp (by omega)))
          have hc := ints_cell hcs j hlt
          have hst := Lib.hid (take_snoc lp j hlt)
          clear hcs
          generalize lp.getD j 0 = y at *
          by_cases hyk : y ≤ (k : Int)
          · have t1 : decide (y ≤ (k : Int)) = true := decide_eq_true hyk
            have hst2 : Hid ((lp.take (j + 1)).filter (fun y => decide (y ≤ (k : Int))) = (lp.take j).filter (fun y => decide (y ≤ (k : Int))) ++ [y]) := by
              unfold Hid
              rw [hst.out, List.filter_append]
              simp [hyk]
            generalize (lp.take j).filter (fun y => decide (y ≤ (k : Int))) = fl at *
            have z4 : wr.cell? ⟨g9, 4, none⟩ = some lv := hbx.out.cell 4
            go_wp2_with (at_builtin; refine wpList_append_own _ rfl (.tmp 58) (.tmp 60) 22 rfl LB 3 i0 (.int .i64 0) 1 8 Try.underlying22 hi0 hz0 hz1 hz2 rfl (by decide) lv fl.length _ rfl (hlv.out.alloc _) ⟨wr.heap.size, 0, none⟩ 1 1 [.int .i64 y] rfl rfl (cell_one_new _ _ _) (oneI _) ?c3 ?c4 ?c5 ?_)
            try (case c3 => first | omega | (simp only [maxLen]; omega) | (simp; omega))
            try (case c4 => first | omega | (simp only [maxLen]; omega) | (simp; omega))
            try (case c5 => first | omega | (simp only [maxLen]; omega) | (simp; omega))
            intro v' w6 hown' hgrow _
            obtain ⟨Av, cv, rfl, _, _⟩ := own_form hown'
            have hlb := own_base hlv.out
            have hbx6 := (hbx.out.alloc (.cells #[.int .i64 y] 3)).grown hgrow (fun e => by have := hlb g9 e.symm; omega)
            have ho76 : w6.ownsRow w3.heap.size 80 3 (.slice A7 mo.length c7) mo.length (mo.flatMap mthF) := own_heap (own_next ho7.out (below_alloc1 wr (.cells #[.int .i64 y] 3))) fun b hb => hgrow.block b (by have := h7L.out b hb; simp; omega) (fun e => by have := hlb b e.symm; have := h7L.out b hb; omega)
            have hb6 : Below w3.heap.size w3 w6 := (hb5.out.alloc (by omega) _).grown hgrow (by simp; omega) (fun q hq => by have := hlb q hq; omega)
            have hL6 : LB ≤ w6.heap.size := by have := hgrow.size; simp at this; omega
            have q4 : w6.cell? ⟨g9, 4, none⟩ = some lv := hbx6.cell 4
            have qf := hbx6.free 4
            have HBX7 := Lib.hid (hbx6.set_ 4 (.slice Av (fl.length + 1) cv))
            have HLV7 : Hid ((w6.setCell ⟨g9, 4, none⟩ (.slice Av (fl.length + 1) cv)).ownsRow LB 3 1 (.slice Av (fl.length + 1) cv) ((lp.take (j + 1)).filter (fun y => decide (y ≤ (k : Int)))).length (ints ((lp.take (j + 1)).filter (fun y => decide (y ≤ (k : Int)))))) := by
              unfold Hid
              rw [hst2.out, ints_snoc, List.length_append]
              exact own_set hown' _ _ (by show g9 < LB; exact h9L)
            have HO77 : Hid ((w6.setCell ⟨g9, 4, none⟩ (.slice Av (fl.length + 1) cv)).ownsRow w3.heap.size 80 3 (.slice A7 mo.length c7) mo.length (mo.flatMap mthF)) := own_heap ho76 fun b hb => Below.heap_setCell _ _ _ b (own_apart ho76 hbx6 (by decide) b hb)
            have HB7 := Lib.hid (hb6.setCell (p := ⟨g9, 4, none⟩) hg9 (.slice Av (fl.length + 1) cv))
            clear hown' hgrow hbx6 ho76 hb6 hbx hlv ho7 hb5 z4 hlb hst hst2 hc
            go_wp2_with fail
            go_roundw
            case rel => exact ⟨j + 1, .slice Av (fl.length + 1) cv, by omega, by go_num, HBX7, HLV7, HO77, HB7, by simpa using hL6⟩
            case measure => simp [intOf]; omega
          · have t1 : decide (y ≤ (k : Int)) = false := decide_eq_false hyk
            have hst2 : Hid ((lp.take (j + 1)).filter (fun y => decide (y ≤ (k : Int))) = (lp.take j).filter (fun y => decide (y ≤ (k : Int)))) := by
              unfold Hid
              rw [hst.out, List.filter_append]
              simp [hyk]
            go_wp2_with fail
            go_roundw
            case rel => exact ⟨j + 1, lv, by omega, by go_num, hbx, by rw [hst2.out]; exact hlv, ho7, hb5, hLw⟩
            case measure => simp [intOf]; omega
        · obtain rfl : j = lp.length := by omega
          rw [List.take_length] at hlv
          obtain ⟨A8, c8, rfl, hc8, hc8'⟩ := own_form hlv.out
          have hz1' := HZ.out.below hb5.out
          obtain ⟨r0, r1, r2, r3, r4⟩ : wr.cell? ⟨g + 1, 0, none⟩ = some (.string ⟨#[]⟩) ∧ wr.cell? ⟨g + 1, 1, none⟩ = some (.int .i64 0) ∧ wr.cell? ⟨g + 1, 2, none⟩ = some (.int .i64 0) ∧ wr.cell? ⟨g + 1, 3, none⟩ = some (.slice none 0 0) ∧ wr.cell? ⟨g + 1, 4, none⟩ = some (.slice none 0 0) := ⟨hz1'.cell 0, hz1'.cell 1, hz1'.cell 2, hz1'.cell 3, hz1'.cell 4⟩
          have rf := fun i => hz1'.free i
          obtain ⟨z0, z1, z2, z3, z4⟩ : wr.cell? ⟨g9, 0, none⟩ = some (.string nm) ∧ wr.cell? ⟨g9, 1, none⟩ = some (.int .i64 ep) ∧ wr.cell? ⟨g9, 2, none⟩ = some (.int .i64 (k : Int)) ∧ wr.cell? ⟨g9, 3, none⟩ = some (.slice A7 mo.length c7) ∧ wr.cell? ⟨g9, 4, none⟩ = some (.slice A8 _ c8) := ⟨hbx.out.cell 0, hbx.out.cell 1, hbx.out.cell 2, hbx.out.cell 3, hbx.out.cell 4⟩
          have hgl : g + 1 < w3.heap.size := HZ.out.lt
          have hgw : w.heap.size ≤ g + 1 := by have := HG.out; omega
          have HM := Lib.hid (own_form ho7.out)
          have H7 := Lib.hid (own_set (own_set (own_set (own_set (own_set ho7.out ⟨g + 1, 0, none⟩ (.string nm) hgl) ⟨g + 1, 1, none⟩ (.int .i64 ep) hgl) ⟨g + 1, 2, none⟩ (.int .i64 (k : Int)) hgl) ⟨g + 1, 3, none⟩ (.slice A7 mo.length c7) hgl) ⟨g + 1, 4, none⟩ (.slice A8 (lp.filter (fun y => decide (y ≤ (k : Int)))).length c8) hgl)
          have H8 := Lib.hid (own_set (own_set (own_set (own_set (own_set hlv.out ⟨g + 1, 0, none⟩ (.string nm) (Nat.lt_of_lt_of_le hgl h3L)) ⟨g + 1, 1, none⟩ (.int .i64 ep) (Nat.lt_of_lt_of_le hgl h3L)) ⟨g + 1, 2, none⟩ (.int .i64 (k : Int)) (Nat.lt_of_lt_of_le hgl h3L)) ⟨g + 1, 3, none⟩ (.slice A7 mo.length c7) (Nat.lt_of_lt_of_le hgl h3L)) ⟨g + 1, 4, none⟩ (.slice A8 (lp.filter (fun y => decide (y ≤ (k : Int)))).length c8) (Nat.lt_of_lt_of_le hgl h3L))
          have HBB := Lib.hid (((((((below_then HB.out hb5.out).setCell (p := ⟨g + 1, 0, none⟩) hgw (.string nm)).setCell (p := ⟨g + 1, 1, none⟩) hgw (.int .i64 ep)).setCell (p := ⟨g + 1, 2, none⟩) hgw (.int .i64 (k : Int))).setCell (p := ⟨g + 1, 3, none⟩) hgw (.slice A7 mo.length c7)).setCell (p := ⟨g + 1, 4, none⟩) hgw (.slice A8 (lp.filter (fun y => decide (y ≤ (k : Int)))).length c8)))
          have HFL : Hid ((lp.filter (fun y => decide (y ≤ (k : Int)))).length ≤ maxLen) := Nat.le_trans (List.length_filter_le _ _) HF.out.l2
          clear hz1' hbx hlv ho7 hb5
          generalize hfl8 : lp.filter (fun y => decide (y ≤ (k : Int))) = fl at *
          have HFE := Lib.hid hfl8.symm
          clear hfl8
          go_wp2_with fail
          refine bodyPost_ret (v := .tuple #[.agg #[.string nm, .int .i64 ep, .int .i64 (k : Int), .slice A7 mo.length c7, .slice A8 fl.length c8], .int .i64 0]) (by simp [results, Try.results32, go_sem, r0, r1, r2, r3, r4]) rfl ?_
          obtain ⟨A', c', hAc, hm1, hm2⟩ := HM.out
          obtain ⟨rfl, rfl⟩ : A7 = A' ∧ c7 = c' := by simpa using hAc
          exact ⟨⟨nm, ep, k, mo, fl, A7, c7, A8, c8⟩, k, rfl, HLE.out, rfl, rfl, rfl, rfl, HFE.out, ⟨row_own H7.out, row_own H8.out⟩, ⟨HF.out.nm, HF.out.ns, hm1, hm2, HFL.out⟩, HBB.out⟩
end Go.Proofs.Ytfindembancjdaa
