/- WZonetextDiffBack -/
import Derived.Test.YtifhlmakacoicaaDoorGDz1
import Derived.Test.YtifhlmakacoicaaDoorGZt1
import Derived.Test.YtifhlmakacoicaaDoorGLaid
import Derived.Test.YtifhlmakacoicaaDoorGZoneArg
/- The walk of ZonetextDiffBack: it returns true at every input; it writes nothing that was there. -/
namespace Go.Proofs.YtifhlmakacoicaaDoor.zonetextDiffBack
open Go.RowKit
set_option linter.unusedVariables false

def nmA : ByteArray := ⟨#[97]⟩
def oneZ : List Chg := [⟨5, 1000, ⟨#[65]⟩⟩]
theorem nm_ok : NameOk nmA := by
  refine ⟨by decide, by decide, by rw [nmA, Lib.toList_data]; decide, by rw [nmA, Lib.toList_data]; decide, by rw [nmA, Lib.toList_data]; decide, by rw [nmA, Lib.toList_data]; decide, fun k hk => ?_⟩
  have : k = 0 := by
    have : nmA.size = 1 := by decide
    omega
  subst this
  decide +revert
theorem one_ok : ZoneOk nmA 0 oneZ := by
  refine ⟨nm_ok, ⟨by decide, by decide, by decide⟩, by decide, fun i hi => ?_⟩
  match i, hi with
  | 0, _ =>
    refine ⟨⟨by decide, by decide⟩, ⟨by decide, by decide, by decide⟩, ⟨?_, by decide, by decide⟩, fun h => by omega⟩
    intro k hk
    match k, hk with
    | 0, _ => decide +revert
theorem no_ok : ZoneOk nmA 0 [] := ⟨nm_ok, ⟨by decide, by decide, by decide⟩, by decide, fun i hi => by simp at hi⟩
theorem one_len : lenE [] oneZ = 1 := by simp [lenE, offE, oneZ]
theorem ok_of {nm : ByteArray} {f : Int} {la lb : List Chg} {w w' : World} {e : Ending} (h : DiffQ nm f la lb w e w') (ha : ZoneOk nm f la) (hb : ZoneOk nm f lb) : Below w.heap.size w w' ∧ ∃ (A : Option Addr) (c : Nat) (d : Nat → Ed), e = .returned (.tuple #[.slice A (lenE la lb) c, .int .i64 0]) ∧ EdsOk la lb (lenE la lb) d ∧ (0 < lenE la lb → ∃ ge, A = some ⟨ge, 0, none⟩ ∧ EdIn w' ge (lenE la lb) d) := by
  obtain ⟨h1, ⟨h2, _⟩ | ⟨_, h2⟩⟩ := h
  · exact absurd ⟨ha, hb⟩ h2
  · exact ⟨h1, h2⟩

set_option maxHeartbeats 8000000 in
set_option maxRecDepth 100000 in
theorem core (na : ByteArray) (fa : Int) (Aa : Option Addr) (la : List Chg) (ca : Nat) (nb : ByteArray) (fb : Int) (Ab : Option Addr) (lb : List Chg) (cb : Nat) (w : World) (hza : ZIn w na Aa la) (hzb : ZIn w nb Ab lb) (hp : Pow w) :
    Calls Tryd.prog 4 #[.agg #[.string na, .int .i64 fa, .slice Aa la.length ca], .agg #[.string nb, .int .i64 fb, .slice Ab lb.length cb]] w fun e w' => e = .returned (.bool true) ∧ Below w.heap.size w w' := by
  have HZA := Lib.hid (fun W (hW : Below w.heap.size w W) => hza.next hW)
  have HZB : Hid (∀ W, Below w.heap.size w W → ZIn W na Ab lb) := fun W hW => ⟨(hzb.next hW).row, hza.name, hzb.len, hzb.fit⟩
  have HP := Lib.hid (fun W (hW : Below w.heap.size w W) => hp.next hW)
  have h1 := below_alloc2 w (Obj.cells #[.string na, .int .i64 fa, .slice Aa la.length ca] 24) (Obj.cells #[.string nb, .int .i64 fb, .slice Ab lb.length cb] 24)
  have y1 := (Box.new w 24 #[.string na, .int .i64 fa, .slice Aa la.length ca]).alloc (Obj.cells #[.string nb, .int .i64 fb, .slice Ab lb.length cb] 24)
  have y2 := Box.new (w.alloc (Obj.cells #[.string na, .int .i64 fa, .slice Aa la.length ca] 24)) 24 #[.string nb, .int .i64 fb, .slice Ab lb.length cb]
  rw [World.size_alloc] at y2
  clear hza hzb hp
  go_enter Tryd.func4, Tryd.ntmps4
  go_upto_region 1 with fail
  generalize (w.alloc (Obj.cells #[.string na, .int .i64 fa, .slice Aa la.length ca] 24)).alloc (Obj.cells #[.string nb, .int .i64 fb, .slice Ab lb.length cb] 24) = W0 at *
  obtain ⟨g, hg⟩ : ∃ g, g = w.heap.size := ⟨_, rfl⟩
  rw [← hg] at y1 y2 ⊢
  have HG := Lib.hid hg
  clear hg
  obtain ⟨q, hq⟩ : ∃ q, q = W0.heap.size := ⟨_, rfl⟩
  have hb2 := below_alloc2 W0 (Obj.cells #[.int .i64 5, .int .i64 1000, .string ⟨#[65]⟩] 26) (Obj.cells #[.string ⟨#[97]⟩, .int .i64 0, .slice (some ⟨q, 0, none⟩) 1 1] 24)
  have z1 := (Box.new W0 26 #[.int .i64 5, .int .i64 1000, .string ⟨#[65]⟩]).alloc (Obj.cells #[.string ⟨#[97]⟩, .int .i64 0, .slice (some ⟨q, 0, none⟩) 1 1] 24)
  have z2 := Box.new (W0.alloc (Obj.cells #[.int .i64 5, .int .i64 1000, .string ⟨#[65]⟩] 26)) 24 #[.string ⟨#[97]⟩, .int .i64 0, .slice (some ⟨q, 0, none⟩) 1 1]
  rw [World.size_alloc] at z2
  go_upto_region 2 with fail
  rw [← hq] at z1 z2 ⊢
  have HW1 := Lib.hid (below_then h1 hb2)
  have hX := y1.below hb2
  have hY := y2.below hb2
  generalize (W0.alloc (Obj.cells #[.int .i64 5, .int .i64 1000, .string ⟨#[65]⟩] 26)).alloc (Obj.cells #[.string ⟨#[97]⟩, .int .i64 0, .slice (some ⟨q, 0, none⟩) 1 1] 24) = W1 at *
  clear hb2 h1 y1 y2 hq
  have HX := Lib.hid hX
  have HY := Lib.hid hY
  have hgl := hY.lt
  have t0 : W1.cell? ⟨q + 1, 0, none⟩ = some (.string ⟨#[97]⟩) := z2.cell 0
  have t1 : W1.cell? ⟨q + 1, 1, none⟩ = some (.int .i64 0) := z2.cell 1
  have t2 : W1.cell? ⟨q + 1, 2, none⟩ = some (.slice (some ⟨q, 0, none⟩) 1 1) := z2.cell 2
  have hql := z2.lt
  have HT : Hid (Calls Tryd.prog 18 #[.agg #[.string ⟨#[97]⟩, .int .i64 0, .slice none 0 0], .agg #[.string ⟨#[97]⟩, .int .i64 0, .slice (some ⟨q, 0, none⟩) 1 1]] W1 fun e w' => Below W1.heap.size W1 w' ∧ ∃ (ge c : Nat), e = .returned (.tuple #[.slice (some ⟨ge, 0, none⟩) 1 c, .int .i64 0]) ∧ w'.cell? ⟨ge, 0, none⟩ = some (.int .i64 2) ∧ ge < w'.heap.size) := by
    refine (diff_any nmA 0 none 0 [] (some ⟨q, 0, none⟩) 1 oneZ W1 ⟨.inl rfl, by show 1 ≤ maxLen; unfold maxLen; omega, by show 0 ≤ maxLen; unfold maxLen; omega, fun x hx => by cases hx⟩ ⟨Row.of_box z1, by show 1 ≤ maxLen; unfold maxLen; omega, by show 1 ≤ maxLen; unfold maxLen; omega, fun x hx => ?_⟩).mono ?_
    · obtain rfl := List.mem_singleton.1 hx
      exact ⟨by decide, by decide, by decide, by decide, by unfold maxLen; decide⟩
    · rintro e w' hd
      obtain ⟨h1, A, c, d, h2, h3, h4⟩ := ok_of hd no_ok one_ok
      rw [one_len] at h2 h3 h4
      obtain ⟨ge, rfl, hE⟩ := h4 (by omega)
      refine ⟨h1, ge, c, h2, ?_, hE.lt⟩
      have hk : (d 0).e.k = 2 := by
        rcases h3.each 0 (by omega) with ⟨_, h, _⟩ | ⟨h, _⟩
        · cases h
        · exact h
      have := (hE.cells 0 (by omega)).1
      rw [hk] at this
      exact this
  clear z1 z2 hX hY
  go_upto_region 3 with (go_at_call 18; refine HT.out.mono ?_; rintro e w2 ⟨hb2, ge, c2, rfl, hk2, hl2⟩)
  have HW2 := Lib.hid (below_then HW1.out hb2)
  have HX2 := Lib.hid (HX.out.below hb2)
  have HY2 := Lib.hid (HY.out.below hb2)
  have hgl2 := HY2.out.lt
  clear t0 t1 t2 hql hb2 HT HW1 HX HY hgl
  go_upto_region 5 with fail
  have hX := HX2.out
  have hY := HY2.out
  have a0 : ∀ W, w2.grownBy W (some (g + 1)) → W.cell? ⟨g, 0, none⟩ = some (.string na) := fun W hW => (hX.grown hW (by intro e; injection e with e; omega)).cell 0
  have a1 : ∀ W, w2.grownBy W (some (g + 1)) → W.cell? ⟨g, 1, none⟩ = some (.int .i64 fa) := fun W hW => (hX.grown hW (by intro e; injection e with e; omega)).cell 1
  clear hk2 hl2
  refine flowG_begin_tail 6 5 (some (g + 1)) (tellOf []) (by kernel_rfl) (by kernel_rfl) ?_
  simp only [List.take_succ_cons, List.take_zero, List.drop_succ_cons, List.drop_zero]
  repeat (first | (refine flowG_val (v := ?_) (by rfl) (by rfl) (fun w hb => ?_) ?_; rotate_left; (· ((go_simp) <;> ((repeat' apply And.intro) <;> with_reducible rfl))); try simp only [Act.put, List.setIfInBounds_toArray, List.set_cons_zero, List.set_cons_succ, Nat.reduceAdd]) | (refine flowG_skip (by rfl) (by rfl) ?_; try simp only [Act.put, List.setIfInBounds_toArray, List.set_cons_zero, List.set_cons_succ, Nat.reduceAdd]))
  refine flowG_store (F := fun w => Box w (g + 1) 24 #[.string na, .int .i64 fb, .slice Ab lb.length cb]) [] (by kernel_rfl) rfl (by rfl) (by rfl) (fun w w' hb h => h.below hb) (fun w hb hu => ?_) ?_
  · have hy := hY.below hb
    have q0 : w.cell? ⟨g + 1, 0, none⟩ = some (.string nb) := hy.cell 0
    have qf : ∀ i, w.frozen? ⟨g + 1, i, none⟩ = false := fun i => hy.free i
    have ql := hy.lt
    exact ⟨w.setCell ⟨g + 1, 0, none⟩ (.string na), by go_simp, hy.set_ 0 (.string na), grown_set _ (g + 1) 0 _⟩
  refine flowG_nil fun w3 hgrow hf => ?_
  have hy3 : Box w3 (g + 1) 24 #[.string na, .int .i64 fb, .slice Ab lb.length cb] := hf.1
  have hx3 := hX.grown hgrow (by intro e; injection e with e; omega)
  have hb3 : Below w.heap.size w w3 := HW2.out.grown hgrow HW2.out.size (fun k hk => by injection hk with hk; have := HG.out; omega)
  have q1 : w3.cell? ⟨g + 1, 1, none⟩ = some (.int .i64 fb) := hy3.cell 1
  have qf : ∀ i, w3.frozen? ⟨g + 1, i, none⟩ = false := fun i => hy3.free i
  have ql := hy3.lt
  have HX3 := Lib.hid (hx3.far (p := ⟨g + 1, 1, none⟩) (by show g ≠ g + 1; omega) (.int .i64 fa))
  have HY3 := Lib.hid (hy3.set_ 1 (.int .i64 fa))
  have HW3 := Lib.hid (hb3.setCell (p := ⟨g + 1, 1, none⟩) (by have := HG.out; show w.heap.size ≤ g + 1; omega) (.int .i64 fa))
  clear a0 a1 hX hY hx3 hy3 hb3 hgrow hf HX2 HY2 HW2 hgl2
  refine wpList_step fun K hK => ?_
  rw [if_pos (by rfl)]
  go_simp
  refine hK _ _ ?_
  clear hK K
  refine wpList_step fun K hK => ?_
  rw [if_pos (by rfl)]
  go_simp
  refine hK _ _ (wpList_nil ?_)
  clear hK K q1 qf ql
  generalize w3.setCell ⟨g + 1, 1, none⟩ (.int .i64 fa) = W3 at *
  have c0 : W3.cell? ⟨g + 1, 0, none⟩ = some (.string na) := HY3.out.cell 0
  have c1 : W3.cell? ⟨g + 1, 1, none⟩ = some (.int .i64 fa) := HY3.out.cell 1
  have c2 : W3.cell? ⟨g + 1, 2, none⟩ = some (.slice Ab lb.length cb) := HY3.out.cell 2
  have hl3 := HY3.out.lt
  have a0 : W3.cell? ⟨g, 0, none⟩ = some (.string na) := HX3.out.cell 0
  have a1 : W3.cell? ⟨g, 1, none⟩ = some (.int .i64 fa) := HX3.out.cell 1
  have a2 : W3.cell? ⟨g, 2, none⟩ = some (.slice Aa la.length ca) := HX3.out.cell 2
  have al3 := HX3.out.lt
  have HD := Lib.hid (diff_any na fa Aa ca la Ab cb lb W3 (HZA.out W3 HW3.out) (HZB.out W3 HW3.out))
  unfold DiffQ at HD
  go_upto_region 7 with (go_at_call 18; refine HD.out.mono ?_; rintro e w4 ⟨hb4, ⟨hno, E, hE, rfl⟩ | ⟨hok, A4, c4, d, rfl, hed, hin⟩⟩)
  · have t1 : (E == 0) = false := by rw [beq_eq_false_iff_ne]; exact hE
    have HF := Lib.hid (below_then HW3.out hb4)
    clear hE hb4 hno c0 c1 c2 a0 a1 a2
    go_wp2_with fail
    go_ret
    exact ⟨rfl, HF.out⟩
  have HOKA := Lib.hid hok.1
  have HOKB := Lib.hid hok.2
  have HED := Lib.hid hed
  have HIN : Hid (∀ W, Below w4.heap.size w4 W → 0 < lenE la lb → ∃ ge, A4 = some ⟨ge, 0, none⟩ ∧ EdIn W ge (lenE la lb) d) := fun W hW h => by
    obtain ⟨ge, h1, h2⟩ := hin h
    exact ⟨ge, h1, h2.below hW⟩
  have HW4 := Lib.hid (below_then HW3.out hb4)
  have HX4 := Lib.hid (HX3.out.below hb4)
  have HY4 := Lib.hid (HY3.out.below hb4)
  obtain ⟨m, hm⟩ : ∃ m, m = lenE la lb := ⟨_, rfl⟩
  have hm400 : m ≤ 400 := by
    have h1 : (offE la lb).length ≤ la.length := List.length_filter_le _ _
    have h2 : (offE lb la).length ≤ lb.length := List.length_filter_le _ _
    have := HOKA.out.2.2.1
    have := HOKB.out.2.2.1
    rw [hm]
    unfold lenE
    omega
  rw [← hm] at HED HIN ⊢
  have HM := Lib.hid hm
  clear hok hed hin hb4 hm c0 c1 c2 hl3 a0 a1 a2 al3 HX3 HY3 HD
  have a0 : w4.cell? ⟨g, 0, none⟩ = some (.string na) := HX4.out.cell 0
  have a1 : w4.cell? ⟨g, 1, none⟩ = some (.int .i64 fa) := HX4.out.cell 1
  have a2 : w4.cell? ⟨g, 2, none⟩ = some (.slice Aa la.length ca) := HX4.out.cell 2
  have al4 := HX4.out.lt
  have HA := Lib.hid (apply_any na fa Aa ca la lb A4 c4 m d w4 (HZA.out w4 HW4.out) HOKA.out HOKB.out (HZB.out w4 HW4.out).fit hm400 HED.out (HIN.out w4 (Below.refl _ _)))
  unfold ApplyQ at HA
  go_upto_region 10 with (go_at_call 19; refine HA.out.mono ?_; rintro e w5 ⟨A5, c5, rfl, hr5, hb5⟩)
  have hb6 := below_alloc1 w5 (Obj.cells #[.string na, .int .i64 fa, .slice A5 lb.length c5] 24)
  have p6 := Box.new w5 24 #[.string na, .int .i64 fa, .slice A5 lb.length c5]
  have HX6 := Lib.hid ((HX4.out.below hb5).below hb6)
  have HY6 := Lib.hid ((HY4.out.below hb5).below hb6)
  have HW6 := Lib.hid (below_then (below_then HW4.out hb5) hb6)
  have HR6 := Lib.hid (hr5.next hb6)
  generalize w5.alloc (Obj.cells #[.string na, .int .i64 fa, .slice A5 lb.length c5] 24) = W6 at *
  generalize w5.heap.size = g6 at *
  clear a0 a1 a2 al4 hr5 hb5 hb6 HX4 HY4 HA HIN HED
  have p0 : W6.cell? ⟨g6, 0, none⟩ = some (.string na) := p6.cell 0
  have p1 : W6.cell? ⟨g6, 1, none⟩ = some (.int .i64 fa) := p6.cell 1
  have p2 : W6.cell? ⟨g6, 2, none⟩ = some (.slice A5 lb.length c5) := p6.cell 2
  have pl := p6.lt
  have HPr := Lib.hid (zprint_yes na fa A5 c5 lb W6 ⟨HR6.out, (HZB.out W6 HW6.out).name, (HZB.out W6 HW6.out).len, (HZB.out W6 HW6.out).fit⟩ HOKB.out (HP.out W6 HW6.out))
  unfold PrQ at HPr
  clear p6
  obtain ⟨S, hS⟩ : ∃ S, S = str (printL na fa lb) := ⟨_, rfl⟩
  rw [← hS] at HPr
  have HS := Lib.hid hS
  clear hS
  go_upto_region 13 with (go_at_call 17; refine HPr.out.mono ?_; rintro e w7 ⟨rfl, hb7⟩)
  have HX7 := Lib.hid (HX6.out.below hb7)
  have HY7 := Lib.hid (HY6.out.below hb7)
  have HW7 := Lib.hid (below_then HW6.out hb7)
  clear p0 p1 p2 pl hb7 HPr HX6 HY6 HW6 HR6
  have c0 : w7.cell? ⟨g + 1, 0, none⟩ = some (.string na) := HY7.out.cell 0
  have c1 : w7.cell? ⟨g + 1, 1, none⟩ = some (.int .i64 fa) := HY7.out.cell 1
  have c2 : w7.cell? ⟨g + 1, 2, none⟩ = some (.slice Ab lb.length cb) := HY7.out.cell 2
  have hl7 := HY7.out.lt
  have HPr := Lib.hid (zprint_yes na fa Ab cb lb w7 (HZB.out w7 HW7.out) HOKB.out (HP.out w7 HW7.out))
  unfold PrQ at HPr
  rw [← HS.out] at HPr
  go_upto_region 14 with (go_at_call 17; refine HPr.out.mono ?_; rintro e w8 ⟨rfl, hb8⟩)
  have HX8 := Lib.hid (HX7.out.below hb8)
  have HY8 := Lib.hid (HY7.out.below hb8)
  have HW8 := Lib.hid (below_then HW7.out hb8)
  clear c0 c1 c2 hl7 hb8 HPr HX7 HY7 HW7
  have c0 : w8.cell? ⟨g + 1, 0, none⟩ = some (.string na) := HY8.out.cell 0
  have c1 : w8.cell? ⟨g + 1, 1, none⟩ = some (.int .i64 fa) := HY8.out.cell 1
  have c2 : w8.cell? ⟨g + 1, 2, none⟩ = some (.slice Ab lb.length cb) := HY8.out.cell 2
  have hl8 := HY8.out.lt
  have HD := Lib.hid (diff_any na fa Ab cb lb Ab cb lb w8 (HZB.out w8 HW8.out) (HZB.out w8 HW8.out))
  go_upto_region 15 with (go_at_call 18; refine HD.out.mono ?_; rintro e w9 hd; obtain ⟨hb9, A9, c9, d9, rfl, _⟩ := ok_of hd HOKB.out HOKB.out; clear hd; rw [lenE_self])
  have HX9 := Lib.hid (HX8.out.below hb9)
  have HY9 := Lib.hid (HY8.out.below hb9)
  have HW9 := Lib.hid (below_then HW8.out hb9)
  clear c0 c1 c2 hl8 hb9 HD HX8 HY8 HW8
  have c0 : w9.cell? ⟨g + 1, 0, none⟩ = some (.string na) := HY9.out.cell 0
  have c1 : w9.cell? ⟨g + 1, 1, none⟩ = some (.int .i64 fa) := HY9.out.cell 1
  have c2 : w9.cell? ⟨g + 1, 2, none⟩ = some (.slice Ab lb.length cb) := HY9.out.cell 2
  have hl9 := HY9.out.lt
  have a0 : w9.cell? ⟨g, 0, none⟩ = some (.string na) := HX9.out.cell 0
  have a1 : w9.cell? ⟨g, 1, none⟩ = some (.int .i64 fa) := HX9.out.cell 1
  have a2 : w9.cell? ⟨g, 2, none⟩ = some (.slice Aa la.length ca) := HX9.out.cell 2
  have al9 := HX9.out.lt
  have HD := Lib.hid (diff_any na fa Ab cb lb Aa ca la w9 (HZB.out w9 HW9.out) (HZA.out w9 HW9.out))
  go_upto_region 16 with (go_at_call 18; refine HD.out.mono ?_; rintro e wa hd; obtain ⟨hba, Aq, cq, dq, rfl, _⟩ := ok_of hd HOKB.out HOKA.out; clear hd; rw [lenE_comm lb la, ← HM.out])
  have HWa := Lib.hid (below_then HW9.out hba)
  clear c0 c1 c2 hl9 a0 a1 a2 al9 hba HD HX9 HY9 HW9
  go_wp2_with fail
  go_ret
  exact ⟨rfl, HWa.out⟩

set_option maxRecDepth 100000 in
theorem walk {H : Type} {enc : TypeId × Value → H} {base : Nat} {W : World} (v0 : Value) (d0 : DataW H) (p0 : List MemPlace) (hv0 : Value.okWide Tryd.prog W .any base 24 v0) (h0 : DataW.Trod enc Tryd.prog W 0 (fun _ => true) true 24 v0 d0 p0)
    (v1 : Value) (d1 : DataW H) (p1 : List MemPlace) (hv1 : Value.okWide Tryd.prog W .any base 24 v1) (h1 : DataW.Trod enc Tryd.prog W 0 (fun _ => true) true 24 v1 d1 p1) (hL : laidMet Tryd.prog Rows.zonetextDiffBackRow.laid W) (hsh : W.ShapedOpen Tryd.prog) :
    Calls Tryd.prog 4 #[v0, v1] W fun e w' => e = .returned (.bool true) ∧ Below W.heap.size W w' := by
  obtain ⟨na, fa, Aa, la, ca, rfl, hza⟩ := zone_open hv0 h0
  obtain ⟨nb, fb, Ab, lb, cb, rfl, hzb⟩ := zone_open hv1 h1
  exact core na fa Aa la ca nb fb Ab lb cb W hza hzb (pow_of hL.tail.tail)
end Go.Proofs.YtifhlmakacoicaaDoor.zonetextDiffBack
