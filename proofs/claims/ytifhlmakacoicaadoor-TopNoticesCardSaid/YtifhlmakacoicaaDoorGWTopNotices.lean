/- WTopNotices -/
import Derived.Test.YtifhlmakacoicaaDoorGSd0
import Derived.Test.YtifhlmakacoicaaDoorGFlowS
import Derived.Test.YtifhlmakacoicaaDoorGBu1
import Derived.Test.YtifhlmakacoicaaDoorGZt1
import Derived.Test.YtifhlmakacoicaaDoorGTopCut
import Derived.Test.YtifhlmakacoicaaDoorGLaid
/- The walk of TopNotices: it returns true at every input; it writes nothing that was there. -/
namespace Go.Proofs.YtifhlmakacoicaaDoor.topNotices
open Go.RowKit
set_option linter.unusedVariables false

def nmA : ByteArray := ⟨#[97]⟩
theorem nm_ok : NameOk nmA := by
  refine ⟨by decide, by decide, by rw [nmA, Lib.toList_data]; decide, by rw [nmA, Lib.toList_data]; decide, by rw [nmA, Lib.toList_data]; decide, by rw [nmA, Lib.toList_data]; decide, fun k hk => ?_⟩
  have : k = 0 := by
    have : nmA.size = 1 := by decide
    omega
  subst this
  decide +revert
def oneZ : List Chg := [⟨5, 1000, ⟨#[65]⟩⟩]
theorem one_ok : ZoneOk nmA 0 oneZ := by
  refine ⟨nm_ok, ⟨by decide, by decide, by decide⟩, by decide, fun i hi => ?_⟩
  match i, hi with
  | 0, _ =>
    refine ⟨⟨by decide, by decide⟩, ⟨by decide, by decide, by decide⟩, ⟨?_, by decide, by decide⟩, fun h => by omega⟩
    intro k hk
    match k, hk with
    | 0, _ => decide +revert
theorem one_text : str (shL nmA 0 oneZ) = ⟨#[97, 32, 48, 32, 53, 32, 49, 48, 48, 48, 32, 65]⟩ := by kernel_rfl
theorem one_len : (shL nmA 0 oneZ).length ≤ 200 := by
  have h : (str (shL nmA 0 oneZ)).size = 12 := by rw [one_text]; rfl
  rw [str_size] at h
  omega
theorem NetIn.congr {w : World} {B gb : Nat} {key : Int} {N N' : Nat → Ntx} {ks ks' bs : Nat → Nat} (h : NetIn w B gb key N ks bs) (e : ∀ i, i < 4 → N (ks i) = N' (ks' i)) : NetIn w B gb key N' ks' bs := by
  obtain ⟨Ak, ck, gr, vn, gh, ch, cs, h1, h2, h3, h4, h5, h6⟩ := h
  exact ⟨Ak, ck, gr, vn, gh, ch, cs, h1, h2, h3, h4, h5, fun i hi => by rw [← e i hi]; exact h6 i hi⟩
theorem NetIn.apart {w : World} {B gb : Nat} {key : Int} {N : Nat → Ntx} {ks bs : Nat → Nat} (h : NetIn w B gb key N ks bs) (i : Nat) (hi : i < 4) {g : Nat} {cs : Array Value} (hx : Box w g 24 cs) : some g ≠ some (bs i) := by
  obtain ⟨Ak, ck, gr, vn, gh, ch, cs, h1, h2, h3, h4, h5, h6⟩ := h
  obtain ⟨_, _, ⟨cur, _, hc⟩, _⟩ := own_nt_set (h6 i hi)
  intro e
  have e' := Option.some.inj e
  subst e'
  have h := Option.some.inj (hx.symm.trans hc)
  injection h with h1 h2
  exact absurd h2 (by decide)
/-- the notices: none, the first, the second -/
def NN (T1 T2 : ByteArray) (V1 V2 : Int) (k : Nat) : Ntx := if k = 0 then nt0 else if k = 1 then ⟨1, T1, V1⟩ else ⟨(k : Int), T2, V2⟩
theorem NN_n (T1 T2 : ByteArray) (V1 V2 : Int) (k : Nat) : (NN T1 T2 V1 V2 k).n = (k : Int) := by
  unfold NN
  split
  · rename_i h; subst h; rfl
  · split
    · rename_i h; subst h; rfl
    · rfl

theorem NN_01 (T1 T2 T3 : ByteArray) (V1 V2 V3 : Int) (m : Nat) : ∀ i, i < 4 → NN T1 T2 V1 V2 (if i = m then 1 else 0) = NN T1 T3 V1 V3 (if i = m then 1 else 0) := fun i _ => by split <;> rfl
theorem good_01 (m0 m1 : Nat) (h : m1 < 4) : GoodK (fun j => if j = m1 then 2 else (fun i => if i = m0 then 1 else 0) j) := by
  have hle : ∀ j : Nat, (if j = m1 then 2 else (fun i => if i = m0 then 1 else 0) j) ≤ 2 := by
    intro j
    dsimp only
    split
    · omega
    · split <;> omega
  refine ⟨⟨hle 0, hle 1, hle 2, hle 3⟩, ?_⟩
  match m1, h with
  | 0, _ => exact .inl rfl
  | 1, _ => exact .inr (.inl rfl)
  | 2, _ => exact .inr (.inr (.inl rfl))
  | 3, _ => exact .inr (.inr (.inr rfl))
theorem transV_cases {ms : List Nat} {T : Nat → World → World → Prop} {j : Nat} {w w' : World} (h : transV ms T j w w') : (j ∈ ms ∧ T j w w') ∨ w.grownBy w' none := by
  unfold transV at h
  by_cases hj : j ∈ ms
  · rw [if_pos hj] at h; exact .inl ⟨hj, h⟩
  · rw [if_neg hj] at h; exact .inr h

set_option maxHeartbeats 16000000 in
set_option maxRecDepth 100000 in
theorem core (na : ByteArray) (fa : Int) (Aa : Option Addr) (la : List Chg) (ca : Nat) (nb : ByteArray) (fb : Int) (Ab : Option Addr) (lb : List Chg) (cb : Nat) (nc : ByteArray) (fc : Int) (Ac : Option Addr) (lc : List Chg) (cc : Nat) (fr key0 node : Int) (w : World)
    (hza : ZIn w na Aa la) (hzb : ZIn w nb Ab lb) (hzc : ZIn w nc Ac lc) (f1 : -9223372036854775808 ≤ fr) (f2 : fr ≤ 9223372036854775807) (n1 : -9223372036854775808 ≤ node) (n2 : node ≤ 9223372036854775807) (hp : Pow w) (hsh : Shp w) :
    Calls Tryd.prog 3 #[.agg #[.string na, .int .i64 fa, .slice Aa la.length ca], .agg #[.string nb, .int .i64 fb, .slice Ab lb.length cb], .agg #[.string nc, .int .i64 fc, .slice Ac lc.length cc], .int .i64 fr, .int .i64 key0, .int .i64 node] w fun e w' => e = .returned (.bool true) ∧ Below w.heap.size w w' := by
  have HC1 := Lib.hid (fun w => acut_any key0 1 1000000 w (by omega) (by omega) (by omega) (by omega))
  obtain ⟨key, hkey, k1, k2⟩ : ∃ key : Int, key = 1 + key0 % 1000000 ∧ 1 ≤ key ∧ key ≤ 1000000 := ⟨_, rfl, by omega, by omega⟩
  rw [← hkey] at HC1
  clear hkey
  have HZA := Lib.hid (fun W (hW : Below w.heap.size w W) => hza.next hW)
  have HZB : Hid (∀ W, Below w.heap.size w W → ZIn W na Ab lb) := fun W hW => ⟨(hzb.next hW).row, hza.name, hzb.len, hzb.fit⟩
  have HZC : Hid (∀ W, Below w.heap.size w W → ZIn W na Ac lc) := fun W hW => ⟨(hzc.next hW).row, hza.name, hzc.len, hzc.fit⟩
  have HP := Lib.hid (fun W (hW : Below w.heap.size w W) => hp.next hW)
  have HSH := Lib.hid (fun W (hW : Below w.heap.size w W) => hsh.next hW)
  have h1 := below_alloc2 w (Obj.cells #[.string na, .int .i64 fa, .slice Aa la.length ca] 24) (Obj.cells #[.string nb, .int .i64 fb, .slice Ab lb.length cb] 24)
  have y1 := (Box.new w 24 #[.string na, .int .i64 fa, .slice Aa la.length ca]).alloc (Obj.cells #[.string nb, .int .i64 fb, .slice Ab lb.length cb] 24)
  have y2 := Box.new (w.alloc (Obj.cells #[.string na, .int .i64 fa, .slice Aa la.length ca] 24)) 24 #[.string nb, .int .i64 fb, .slice Ab lb.length cb]
  rw [World.size_alloc] at y2
  have h3 := below_alloc1 ((w.alloc (Obj.cells #[.string na, .int .i64 fa, .slice Aa la.length ca] 24)).alloc (Obj.cells #[.string nb, .int .i64 fb, .slice Ab lb.length cb] 24)) (Obj.cells #[.string nc, .int .i64 fc, .slice Ac lc.length cc] 24)
  have y3 := Box.new ((w.alloc (Obj.cells #[.string na, .int .i64 fa, .slice Aa la.length ca] 24)).alloc (Obj.cells #[.string nb, .int .i64 fb, .slice Ab lb.length cb] 24)) 24 #[.string nc, .int .i64 fc, .slice Ac lc.length cc]
  rw [World.size_alloc, World.size_alloc] at y3
  have y1' := y1.below h3
  have y2' := y2.below h3
  have h1' := below_then h1 h3
  clear hza hzb hzc hp hsh y1 y2 h1 h3
  go_enter Tryd.func3, Tryd.ntmps3
  go_upto_region 1 with fail
  generalize ((w.alloc (Obj.cells #[.string na, .int .i64 fa, .slice Aa la.length ca] 24)).alloc (Obj.cells #[.string nb, .int .i64 fb, .slice Ab lb.length cb] 24)).alloc (Obj.cells #[.string nc, .int .i64 fc, .slice Ac lc.length cc] 24) = W0 at *
  obtain ⟨g, hg⟩ : ∃ g, g = w.heap.size := ⟨_, rfl⟩
  rw [← hg] at y1' y2' y3 ⊢
  have HG := Lib.hid hg
  clear hg
  obtain ⟨q, hq⟩ : ∃ q, q = W0.heap.size := ⟨_, rfl⟩
  have hb2 := below_alloc2 W0 (Obj.cells #[.int .i64 5, .int .i64 1000, .string ⟨#[65]⟩] 26) (Obj.cells #[.string ⟨#[97]⟩, .int .i64 0, .slice (some ⟨q, 0, none⟩) 1 1] 24)
  have z1 := (Box.new W0 26 #[.int .i64 5, .int .i64 1000, .string ⟨#[65]⟩]).alloc (Obj.cells #[.string ⟨#[97]⟩, .int .i64 0, .slice (some ⟨q, 0, none⟩) 1 1] 24)
  have z2 := Box.new (W0.alloc (Obj.cells #[.int .i64 5, .int .i64 1000, .string ⟨#[65]⟩] 26)) 24 #[.string ⟨#[97]⟩, .int .i64 0, .slice (some ⟨q, 0, none⟩) 1 1]
  rw [World.size_alloc] at z2
  go_upto_region 2 with fail
  rw [← hq] at z1 z2 ⊢
  have HW1 := Lib.hid (below_then h1' hb2)
  have hX := y1'.below hb2
  have hY := y2'.below hb2
  have hZ := y3.below hb2
  generalize (W0.alloc (Obj.cells #[.int .i64 5, .int .i64 1000, .string ⟨#[65]⟩] 26)).alloc (Obj.cells #[.string ⟨#[97]⟩, .int .i64 0, .slice (some ⟨q, 0, none⟩) 1 1] 24) = W1 at *
  clear hb2 h1' y1' y2' y3 hq
  have HX := Lib.hid hX
  have HY := Lib.hid hY
  have HZ := Lib.hid hZ
  have hgl := hZ.lt
  have t0 : W1.cell? ⟨q + 1, 0, none⟩ = some (.string ⟨#[97]⟩) := z2.cell 0
  have t1 : W1.cell? ⟨q + 1, 1, none⟩ = some (.int .i64 0) := z2.cell 1
  have t2 : W1.cell? ⟨q + 1, 2, none⟩ = some (.slice (some ⟨q, 0, none⟩) 1 1) := z2.cell 2
  have hql := z2.lt
  have HT : Hid (Calls Tryd.prog 6 #[.agg #[.string ⟨#[97]⟩, .int .i64 0, .slice (some ⟨q, 0, none⟩) 1 1], .int .i64 0] W1 fun e w' => e = .returned (.tuple #[.string ⟨#[97, 32, 48, 32, 53, 32, 49, 48, 48, 48, 32, 65]⟩, .int .i64 0]) ∧ Below W1.heap.size W1 w') := by
    refine (text_bu nmA 0 (some ⟨q, 0, none⟩) 1 oneZ 0 W1 ⟨Row.of_box z1, by unfold maxLen; decide, by show 1 ≤ maxLen; unfold maxLen; omega, fun x hx => ?_⟩ (by omega) (by omega) (HP.out W1 HW1.out)).mono ?_
    · obtain rfl := List.mem_singleton.1 hx
      exact ⟨by decide, by decide, by decide, by decide, by unfold maxLen; decide⟩
    · rintro e w' ⟨⟨hb, _⟩, hy⟩
      refine ⟨?_, hb⟩
      rw [hy ⟨one_ok, ⟨by decide, by decide⟩, one_len⟩, one_text]
  clear z1 z2 hX hY hZ
  go_upto_region 3 with (go_at_call 6; refine HT.out.mono ?_; rintro e w2 ⟨rfl, hb2⟩)
  have HW2 := Lib.hid (below_then HW1.out hb2)
  have HX2 := Lib.hid (HX.out.below hb2)
  have HY2 := Lib.hid (HY.out.below hb2)
  have HZ2 := Lib.hid (HZ.out.below hb2)
  have hgl2 := HZ2.out.lt
  clear t0 t1 t2 hql hb2 HT HW1 HX HY HZ hgl
  go_upto_region 6 with (go_at_call 7; refine (HC1.out _).mono ?_; rintro e w' ⟨rfl, rfl⟩)
  have hX := HX2.out
  have hY := HY2.out
  have hZ := HZ2.out
  obtain ⟨row, hrow⟩ : ∃ row : Nat → Option Nat, row = fun j => if j = 13 then some (g + 1 + 1) else some (g + 1) := ⟨_, rfl⟩
  have r9 : row 9 = some (g + 1) := by rw [hrow]; rfl
  have r11 : row 11 = some (g + 1) := by rw [hrow]; rfl
  have r13 : row 13 = some (g + 1 + 1) := by rw [hrow]; rfl
  obtain ⟨LA, hLAe⟩ : ∃ LA, LA = [some (g + 1), some (g + 1 + 1)] := ⟨_, rfl⟩
  have hLA : ∀ j ∈ [9, 11, 13], row j ∈ LA := by
    intro j hj
    rw [hLAe]
    simp only [List.mem_cons, List.not_mem_nil, or_false] at hj
    rcases hj with rfl | rfl | rfl
    · rw [r9]; simp
    · rw [r11]; simp
    · rw [r13]; simp
  have nx : some g ∉ LA := by
    rw [hLAe]
    intro h
    simp only [List.mem_cons, List.not_mem_nil, or_false, Option.some.injEq] at h
    omega
  have HLB : Hid (∀ b, some b ∈ LA → g + 1 ≤ b) := by
    rw [hLAe]
    intro b hb
    simp only [List.mem_cons, List.not_mem_nil, or_false, Option.some.injEq] at hb
    omega
  have a0 : ∀ W, GrownL LA w2 W → W.cell? ⟨g, 0, none⟩ = some (.string na) := fun W hW => (hW.box hX nx).cell 0
  have a1 : ∀ W, GrownL LA w2 W → W.cell? ⟨g, 1, none⟩ = some (.int .i64 fa) := fun W hW => (hW.box hX nx).cell 1
  obtain ⟨TT, hTT⟩ : ∃ TT : Nat → World → World → Prop, TT = fun j W W' => if j = 9 then W' = W.setCell ⟨g + 1, 0, none⟩ (.string na) else if j = 11 then W' = W.setCell ⟨g + 1, 1, none⟩ (.int .i64 fa) else W' = W.setCell ⟨g + 1 + 1, 0, none⟩ (.string na) := ⟨_, rfl⟩
  have T9 : ∀ W W', TT 9 W W' ↔ W' = W.setCell ⟨g + 1, 0, none⟩ (.string na) := fun W W' => by rw [hTT]; exact Iff.rfl
  have T11 : ∀ W W', TT 11 W W' ↔ W' = W.setCell ⟨g + 1, 1, none⟩ (.int .i64 fa) := fun W W' => by rw [hTT]; exact Iff.rfl
  have T13 : ∀ W W', TT 13 W W' ↔ W' = W.setCell ⟨g + 1 + 1, 0, none⟩ (.string na) := fun W W' => by rw [hTT]; exact Iff.rfl
  clear hrow hLAe hTT
  have R9 := Lib.hid r9
  have R11 := Lib.hid r11
  have R13 := Lib.hid r13
  have HT9 := Lib.hid T9
  have HT11 := Lib.hid T11
  have HT13 := Lib.hid T13
  clear r9 r11 r13 T9 T11 T13
  refine flowV_begin_tail 14 [9, 11, 13] [(9, []), (11, [9]), (13, [9, 11])] row TT (tellOf []) (by kernel_rfl) (by kernel_rfl) (by kernel_rfl) (by rfl) (fun j hj W W' ht => by
    simp only [List.mem_cons, List.not_mem_nil, or_false] at hj
    rcases hj with rfl | rfl | rfl
    · rw [(HT9.out W W').1 ht, R9.out]; exact grown_set _ _ _ _
    · rw [(HT11.out W W').1 ht, R11.out]; exact grown_set _ _ _ _
    · rw [(HT13.out W W').1 ht, R13.out]; exact grown_set _ _ _ _) ?_
  simp only [List.take_succ_cons, List.take_zero, List.drop_succ_cons, List.drop_zero]
  repeat (refine flowV_val (v := ?_) LA (by rfl) (by decide) hLA (by rfl) (by rfl) (fun w hb => ?_) ?_; rotate_left; (· ((go_simp) <;> ((repeat' apply And.intro) <;> with_reducible rfl))); try simp only [Act.put, List.setIfInBounds_toArray, List.set_cons_zero, List.set_cons_succ, Nat.reduceAdd])
  refine flowV_store (F := fun w => ∃ x, Box w (g + 1) 24 #[.string na, x, .slice Ab lb.length cb]) [] [] (by kernel_rfl) (by simp) [] (by kernel_rfl) (by decide) rfl (by rfl) (fun j hj hp w w' ht h => ?_) (fun w hb hu => ?_) ?_
  · obtain ⟨x, hx⟩ := h
    rcases transV_cases ht with ⟨hm, ht⟩ | ht
    · simp only [List.mem_cons, List.not_mem_nil, or_false] at hm
      rcases hm with rfl | rfl | rfl
      · exact absurd rfl hj
      · rw [(HT11.out w w').1 ht]; exact ⟨_, hx.set_ 1 (.int .i64 fa)⟩
      · rw [(HT13.out w w').1 ht]; exact ⟨_, hx.far (p := ⟨g + 1 + 1, 0, none⟩) (by show g + 1 ≠ g + 1 + 1; omega) _⟩
    · exact ⟨_, hx.grown ht (by simp)⟩
  · have hy := hb.box hY (by simp)
    have q0 : w.cell? ⟨g + 1, 0, none⟩ = some (.string nb) := hy.cell 0
    have qf : ∀ i, w.frozen? ⟨g + 1, i, none⟩ = false := fun i => hy.free i
    have ql := hy.lt
    exact ⟨w.setCell ⟨g + 1, 0, none⟩ (.string na), by go_simp, ⟨_, hy.set_ 0 (.string na)⟩, (HT9.out _ _).2 rfl⟩
  repeat (refine flowV_val (v := ?_) LA (by rfl) (by decide) hLA (by rfl) (by rfl) (fun w hb => ?_) ?_; rotate_left; (· ((go_simp) <;> ((repeat' apply And.intro) <;> with_reducible rfl))); try simp only [Act.put, List.setIfInBounds_toArray, List.set_cons_zero, List.set_cons_succ, Nat.reduceAdd])
  refine flowV_store (F := fun w => Box w (g + 1) 24 #[.string na, .int .i64 fa, .slice Ab lb.length cb]) [some (g + 1)] [9] (by kernel_rfl) (fun j hj => by rw [List.mem_singleton.1 hj, R9.out]; exact List.mem_cons_self ..) [9] (by kernel_rfl) (by decide) rfl (by rfl) (fun j hj hp w w' ht hx => ?_) (fun w hb hu => ?_) ?_
  · rcases transV_cases ht with ⟨hm, ht⟩ | ht
    · simp only [List.mem_cons, List.not_mem_nil, or_false] at hm
      rcases hm with rfl | rfl | rfl
      · rw [(HT9.out w w').1 ht]; exact hx.set_ 0 (.string na)
      · exact absurd rfl hj
      · rw [(HT13.out w w').1 ht]; exact hx.far (p := ⟨g + 1 + 1, 0, none⟩) (by show g + 1 ≠ g + 1 + 1; omega) _
    · exact hx.grown ht (by simp)
  · obtain ⟨x, hy⟩ := usef_at (k := 9) rfl hu (by decide)
    have q0 : w.cell? ⟨g + 1, 1, none⟩ = some x := hy.cell 1
    have qf : ∀ i, w.frozen? ⟨g + 1, i, none⟩ = false := fun i => hy.free i
    have ql := hy.lt
    exact ⟨w.setCell ⟨g + 1, 1, none⟩ (.int .i64 fa), by go_simp, hy.set_ 1 (.int .i64 fa), (HT11.out _ _).2 rfl⟩
  repeat (refine flowV_val (v := ?_) LA (by rfl) (by decide) hLA (by rfl) (by rfl) (fun w hb => ?_) ?_; rotate_left; (· ((go_simp) <;> ((repeat' apply And.intro) <;> with_reducible rfl))); try simp only [Act.put, List.setIfInBounds_toArray, List.set_cons_zero, List.set_cons_succ, Nat.reduceAdd])
  refine flowV_store (F := fun w => Box w (g + 1 + 1) 24 #[.string na, .int .i64 fc, .slice Ac lc.length cc]) [some (g + 1)] [9, 11] (by kernel_rfl) (fun j hj => by
    simp only [List.mem_cons, List.not_mem_nil, or_false] at hj
    rcases hj with rfl | rfl
    · rw [R9.out]; exact List.mem_cons_self ..
    · rw [R11.out]; exact List.mem_cons_self ..) [] (by kernel_rfl) (by decide) rfl (by rfl) (fun j hj hp w w' ht hx => ?_) (fun w hb hu => ?_) ?_
  · rcases transV_cases ht with ⟨hm, ht⟩ | ht
    · simp only [List.mem_cons, List.not_mem_nil, or_false] at hm
      rcases hm with rfl | rfl | rfl
      · rw [(HT9.out w w').1 ht]; exact hx.far (p := ⟨g + 1, 0, none⟩) (by show g + 1 + 1 ≠ g + 1; omega) _
      · rw [(HT11.out w w').1 ht]; exact hx.far (p := ⟨g + 1, 1, none⟩) (by show g + 1 + 1 ≠ g + 1; omega) _
      · exact absurd rfl hj
    · exact hx.grown ht (by simp)
  · have hy := hb.box hZ (by
      intro h
      simp only [List.mem_cons, List.not_mem_nil, or_false, Option.some.injEq] at h
      omega)
    have q0 : w.cell? ⟨g + 1 + 1, 0, none⟩ = some (.string nc) := hy.cell 0
    have qf : ∀ i, w.frozen? ⟨g + 1 + 1, i, none⟩ = false := fun i => hy.free i
    have ql := hy.lt
    exact ⟨w.setCell ⟨g + 1 + 1, 0, none⟩ (.string na), by go_simp, hy.set_ 0 (.string na), (HT13.out _ _).2 rfl⟩
  refine flowV_nil LA (by kernel_rfl) hLA fun w3 hgrow hf => ?_
  have hz3 : Box w3 (g + 1 + 1) 24 #[.string na, .int .i64 fc, .slice Ac lc.length cc] := hf.1
  have hy3 : Box w3 (g + 1) 24 #[.string na, .int .i64 fa, .slice Ab lb.length cb] := hf.2.1
  have hx3 := hgrow.box hX nx
  have hb3 : Below w.heap.size w w3 := hgrow.below HW2.out HW2.out.size (fun b hb => by have := HLB.out b hb; have := HG.out; omega)
  have q1 : w3.cell? ⟨g + 1 + 1, 1, none⟩ = some (.int .i64 fc) := hz3.cell 1
  have qf : ∀ i, w3.frozen? ⟨g + 1 + 1, i, none⟩ = false := fun i => hz3.free i
  have ql := hz3.lt
  have HX3 := Lib.hid (hx3.far (p := ⟨g + 1 + 1, 1, none⟩) (by show g ≠ g + 1 + 1; omega) (.int .i64 fa))
  have HY3 := Lib.hid (hy3.far (p := ⟨g + 1 + 1, 1, none⟩) (by show g + 1 ≠ g + 1 + 1; omega) (.int .i64 fa))
  have HZ3 := Lib.hid (hz3.set_ 1 (.int .i64 fa))
  have HW3 := Lib.hid (hb3.setCell (p := ⟨g + 1 + 1, 1, none⟩) (by have := HG.out; show w.heap.size ≤ g + 1 + 1; omega) (.int .i64 fa))
  clear a0 a1 hX hY hZ hx3 hy3 hz3 hb3 hgrow hf HX2 HY2 HZ2 HW2 hgl2 hLA nx HLB R9 R11 R13 HT9 HT11 HT13
  clear LA row TT
  refine wpList_step fun K hK => ?_
  rw [if_pos (by rfl)]
  go_simp
  refine hK _ _ ?_
  clear hK K
  refine wpList_step fun K hK => ?_
  rw [if_pos (by rfl)]
  go_simp
  refine hK _ _ (wpList_nil ?_)
  clear hK K q1 qf ql
  generalize w3.setCell ⟨g + 1 + 1, 1, none⟩ (.int .i64 fa) = W3 at *
  obtain ⟨n3, hn3⟩ : ∃ n3, n3 = W3.heap.size := ⟨_, rfl⟩
  have hb4 := below_alloc2 W3 (Obj.cells #[.int .i64 key] 3) (Obj.cells #[.int .i64 0, .int .i64 1, .int .i64 1, .int .i64 2, .int .i64 2, .int .i64 3] 35)
  have z1 := (Box.new W3 3 #[.int .i64 key]).alloc (Obj.cells #[.int .i64 0, .int .i64 1, .int .i64 1, .int .i64 2, .int .i64 2, .int .i64 3] 35)
  have z2 := Box.new (W3.alloc (Obj.cells #[.int .i64 key] 3)) 35 #[.int .i64 0, .int .i64 1, .int .i64 1, .int .i64 2, .int .i64 2, .int .i64 3]
  rw [World.size_alloc] at z2
  rw [← hn3] at z1 z2
  have HN3 := Lib.hid hn3
  clear hn3
  have HNew := Lib.hid (spnew_yes n3 0 1 (n3 + 1) 0 3 key _ k1 k2 (Row.of_box z1) (Row.of_box z2))
  have HX4 := Lib.hid (HX3.out.below hb4)
  have HY4 := Lib.hid (HY3.out.below hb4)
  have HZ4 := Lib.hid (HZ3.out.below hb4)
  have HW4 := Lib.hid (below_then HW3.out hb4)
  clear hb4 z1 z2 HX3 HY3 HZ3 HW3
  go_wp2_with fail
  rw [← HN3.out]
  generalize (W3.alloc (Obj.cells #[.int .i64 key] 3)).alloc (Obj.cells #[.int .i64 0, .int .i64 1, .int .i64 1, .int .i64 2, .int .i64 2, .int .i64 3] 35) = W4 at *
  refine HNew.out.mono ?_
  rintro e w5 ⟨gb, bs, rfl, hb5, hNet, hbd⟩
  have HX5 := Lib.hid (HX4.out.below hb5)
  have HY5 := Lib.hid (HY4.out.below hb5)
  have HZ5 := Lib.hid (HZ4.out.below hb5)
  have HW5 := Lib.hid (below_then HW4.out hb5)
  have HNet := Lib.hid hNet
  have HBD := Lib.hid hbd
  have hz4 := HZ4.out.lt
  have hw4 := HW4.out.size
  have h45 := hb5.size
  obtain ⟨b4, hb4e⟩ : ∃ b4, b4 = W4.heap.size := ⟨_, rfl⟩
  rw [← hb4e] at HNet hz4 hw4 h45
  clear hb4e hb5 hNet hbd HNew HX4 HY4 HZ4 HW4 HN3
  have y0 : w5.cell? ⟨g + 1, 0, none⟩ = some (.string na) := HY5.out.cell 0
  have y1 : w5.cell? ⟨g + 1, 1, none⟩ = some (.int .i64 fa) := HY5.out.cell 1
  have y2 : w5.cell? ⟨g + 1, 2, none⟩ = some (.slice Ab lb.length cb) := HY5.out.cell 2
  have x0 : w5.cell? ⟨g + 1 + 1, 0, none⟩ = some (.string na) := HZ5.out.cell 0
  have x1 : w5.cell? ⟨g + 1 + 1, 1, none⟩ = some (.int .i64 fa) := HZ5.out.cell 1
  have x2 : w5.cell? ⟨g + 1 + 1, 2, none⟩ = some (.slice Ac lc.length cc) := HZ5.out.cell 2
  have hl5 := HZ5.out.lt
  have hs6 := Box.new w5 24 #[.string na, .int .i64 fa, .slice Ab lb.length cb, .string na, .int .i64 fa, .slice Ac lc.length cc]
  have hb6 := below_alloc1 w5 (Obj.cells #[.string na, .int .i64 fa, .slice Ab lb.length cb, .string na, .int .i64 fa, .slice Ac lc.length cc] 24)
  have HX6 := Lib.hid (HX5.out.below hb6)
  have HW6 := Lib.hid (below_then HW5.out hb6)
  have HNet6 : Hid (∀ N : Nat → Ntx, N 0 = nt0 → NetIn (w5.alloc (Obj.cells #[.string na, .int .i64 fa, .slice Ab lb.length cb, .string na, .int .i64 fa, .slice Ac lc.length cc] 24)) b4 gb key N (fun _ => 0) bs) := fun N h => (HNet.out N h).next hb6
  have h46 : b4 ≤ (w5.alloc (Obj.cells #[.string na, .int .i64 fa, .slice Ab lb.length cb, .string na, .int .i64 fa, .slice Ac lc.length cc] 24)).heap.size := Nat.le_trans h45 hb6.size
  clear hb6 HX5 HY5 HZ5 HW5 HNet
  go_upto_region 11 with fail
  clear y0 y1 y2 x0 x1 x2 hl5
  generalize w5.alloc (Obj.cells #[.string na, .int .i64 fa, .slice Ab lb.length cb, .string na, .int .i64 fa, .slice Ac lc.length cc] 24) = W6 at *
  obtain ⟨n5, hn5⟩ : ∃ n5, n5 = w5.heap.size := ⟨_, rfl⟩
  rw [← hn5] at hs6 h45 ⊢
  clear hn5
  have HS6 := Lib.hid hs6
  clear hs6
  refine wp_loop_rounds 3 ?_
  obtain ⟨m0, hm0, m0lt⟩ : ∃ m0 : Nat, (IntKind.i64.wrap node) % 4 = (m0 : Int) ∧ m0 < 4 := ⟨((IntKind.i64.wrap node) % 4).toNat, by omega, by omega⟩
  obtain ⟨m1, hm1, m1lt⟩ : ∃ m1 : Nat, (IntKind.i64.wrap (node + 1)) % 4 = (m1 : Int) ∧ m1 < 4 := ⟨((IntKind.i64.wrap (node + 1)) % 4).toNat, by omega, by omega⟩
  have hm01 : m1 ≠ m0 := by
    rw [IntKind.wrap_i64] at hm0 hm1
    omega
  have HM0 := Lib.hid hm0
  have HM1 := Lib.hid hm1
  have HM01 := Lib.hid hm01
  clear hm0 hm1 hm01
  have hgb4 : g < b4 := by omega
  rw [rounds_succ]
  have y0 : W6.cell? ⟨n5, 0, none⟩ = some (.string na) := HS6.out.cell 0
  have y1 : W6.cell? ⟨n5, 1, none⟩ = some (.int .i64 fa) := HS6.out.cell 1
  have y2 : W6.cell? ⟨n5, 2, none⟩ = some (.slice Ab lb.length cb) := HS6.out.cell 2
  have hl6 := HS6.out.lt
  go_upto_region 13 with fail
  have hx7 := Box.new W6 24 #[.string na, .int .i64 fa, .slice Ab lb.length cb]
  have hb7 := below_alloc1 W6 (Obj.cells #[.string na, .int .i64 fa, .slice Ab lb.length cb] 24)
  have HX7 := Lib.hid (HX6.out.below hb7)
  have HS7 := Lib.hid (HS6.out.below hb7)
  have HW7 := Lib.hid (below_then HW6.out hb7)
  have HNet7 := Lib.hid (fun N h => (HNet6.out N h).next hb7)
  have h47 := Nat.le_trans h46 hb7.size
  generalize W6.alloc (Obj.cells #[.string na, .int .i64 fa, .slice Ab lb.length cb] 24) = W7 at *
  generalize W6.heap.size = g6 at *
  clear y0 y1 y2 hl6 hb7 HX6 HS6 HW6 HNet6 h46
  have x0 : W7.cell? ⟨g6, 0, none⟩ = some (.string na) := hx7.cell 0
  have x1 : W7.cell? ⟨g6, 1, none⟩ = some (.int .i64 fa) := hx7.cell 1
  have x2 : W7.cell? ⟨g6, 2, none⟩ = some (.slice Ab lb.length cb) := hx7.cell 2
  have hl7 := hx7.lt
  clear hx7
  have HT := Lib.hid (text_bu na fa Ab cb lb fr W7 (HZB.out W7 HW7.out) f1 f2 (HP.out W7 HW7.out))
  go_upto_region 14 with (go_at_call 6; refine HT.out.mono ?_; rintro e w8 ⟨⟨hb8, ⟨E, hE, rfl⟩ | ⟨hok, hin, hlen, rfl⟩⟩, hy8⟩)
  · have t1 : (E != 0) = true := by rw [bne_iff_ne]; exact hE
    have HF := Lib.hid (below_then HW7.out hb8)
    clear hE hb8 hy8 x0 x1 x2
    go_wp2_with fail
    go_ret
    exact ⟨rfl, HF.out⟩
  have HOKb := Lib.hid hok
  have HINb := Lib.hid hin
  have HLENb := Lib.hid hlen
  have HW8 := Lib.hid (below_then HW7.out hb8)
  have HX8 := Lib.hid (HX7.out.below hb8)
  have HS8 := Lib.hid (HS7.out.below hb8)
  have HNet8 := Lib.hid (fun N h => (HNet7.out N h).next hb8)
  have h48 := Nat.le_trans h47 hb8.size
  have hss : (str (shL na fr lb)).size ≤ 200 := by rw [str_size]; exact hlen
  have HALLb := Lib.hid (shL_bytes na fr lb hok.1 hok.fit)
  have HSSb := Lib.hid hss
  clear hok hin hlen hb8 hy8 x0 x1 x2 hl7 hss HT HW7 HX7 HS7 HNet7 h47
  obtain ⟨T1, hT1⟩ : ∃ T1, T1 = str (shL na fr lb) := ⟨_, rfl⟩
  rw [← hT1] at HALLb HSSb ⊢
  have HT1 := Lib.hid hT1
  clear hT1
  have HSg := Lib.hid (nsign_yes key 1 0 T1 w8 k1 k2 (by omega) (by omega) HSSb.out HALLb.out (HP.out w8 HW8.out))
  obtain ⟨V1, hV1⟩ : ∃ V1, V1 = sumV key 1 T1 := ⟨_, rfl⟩
  rw [← hV1] at HSg
  have HV1 := Lib.hid hV1
  clear hV1
  go_upto_region 17 with (go_at_call 9; refine HSg.out.mono ?_; rintro e w9 ⟨rfl, hb9⟩)
  have hx10 := Box.new w9 39 #[.int .i64 0, .int .i64 1, .string T1, .int .i64 V1]
  have hb10 := below_alloc1 w9 (Obj.cells #[.int .i64 0, .int .i64 1, .string T1, .int .i64 V1] 39)
  have HX10 := Lib.hid ((HX8.out.below hb9).below hb10)
  have HS10 := Lib.hid ((HS8.out.below hb9).below hb10)
  have HW10 := Lib.hid (below_then (below_then HW8.out hb9) hb10)
  have HNet10 := Lib.hid (fun N h => ((HNet8.out N h).next hb9).next hb10)
  have h410 := Nat.le_trans (Nat.le_trans h48 hb9.size) hb10.size
  clear hb9 hb10 HW8 HX8 HS8 HNet8 h48 HSg
  generalize w9.alloc (Obj.cells #[.int .i64 0, .int .i64 1, .string T1, .int .i64 V1] 39) = W10 at *
  generalize w9.heap.size = g9 at *
  go_upto_region 19 with fail
  have n0 : ∀ W, Below W10.heap.size W10 W → W.cell? ⟨g9, 0, none⟩ = some (.int .i64 0) := fun W hW => (hx10.below hW).cell 0
  have n1 : ∀ W, Below W10.heap.size W10 W → W.cell? ⟨g9, 1, none⟩ = some (.int .i64 1) := fun W hW => (hx10.below hW).cell 1
  have n2 : ∀ W, Below W10.heap.size W10 W → W.cell? ⟨g9, 2, none⟩ = some (.string T1) := fun W hW => (hx10.below hW).cell 2
  have n3 : ∀ W, Below W10.heap.size W10 W → W.cell? ⟨g9, 3, none⟩ = some (.int .i64 V1) := fun W hW => (hx10.below hW).cell 3
  clear hx10
  refine flow_begin_tail 6 (tellOf [(4, det (.int .i64 (m0 : Int)))]) (by kernel_rfl) (by kernel_rfl) ?_
  simp only [List.take_succ_cons, List.take_zero, List.drop_succ_cons, List.drop_zero]
  repeat (first | (refine flow_val (v := ?_) (by rfl) (by rfl) (fun w hb => ?_) ?_; rotate_left; (· ((go_simp) <;> ((repeat' apply And.intro) <;> with_reducible rfl))); try simp only [Act.put, List.setIfInBounds_toArray, List.set_cons_zero, List.set_cons_succ, Nat.reduceAdd]) | (refine flow_skip (by rfl) (by rfl) ?_; try simp only [Act.put, List.setIfInBounds_toArray, List.set_cons_zero, List.set_cons_succ, Nat.reduceAdd]))
  refine flow_call (f := ?_) (args := ?_) [] (by kernel_rfl) (by rfl) (by rfl) (fun w hb => ?_) (fun w hb hu => ?_) ?_; rotate_left 2; (· ((go_simp) <;> ((repeat' apply And.intro) <;> with_reducible rfl)))
  · refine (amod_any _ 4 w (by omega) (by omega)).mono ?_
    rintro e w' ⟨rfl, rfl⟩
    exact ⟨by rw [HM0.out], Below.refl _ _⟩
  try simp only [Act.put, List.setIfInBounds_toArray, List.set_cons_zero, List.set_cons_succ, Nat.reduceAdd]
  repeat (first | (refine flow_val (v := ?_) (by rfl) (by rfl) (fun w hb => ?_) ?_; rotate_left; (· ((go_simp) <;> ((repeat' apply And.intro) <;> with_reducible rfl))); try simp only [Act.put, List.setIfInBounds_toArray, List.set_cons_zero, List.set_cons_succ, Nat.reduceAdd]) | (refine flow_skip (by rfl) (by rfl) ?_; try simp only [Act.put, List.setIfInBounds_toArray, List.set_cons_zero, List.set_cons_succ, Nat.reduceAdd]))
  refine flow_nil fun w11 hb11 _ => ?_
  clear n0 n1 n2 n3
  have HX11 := Lib.hid (HX10.out.below hb11)
  have HS11 := Lib.hid (HS10.out.below hb11)
  have HW11 := Lib.hid (below_then HW10.out hb11)
  have HNet11 := Lib.hid (fun N h => (HNet10.out N h).next hb11)
  have h411 := Nat.le_trans h410 hb11.size
  clear hb11 HW10 HX10 HS10 HNet10 h410
  have HPut := Lib.hid (put_yes (HNet11.out (NN T1 T1 V1 V1) rfl) HBD.out m0 1 m0lt 1 T1 h411 rfl (by rw [← HV1.out]; rfl) k1 k2 (by omega) (by omega) HSSb.out HALLb.out (HP.out w11 HW11.out))
  rw [← HV1.out] at HPut
  refine wpList_step fun K hK => ?_
  rw [if_pos (by rfl)]
  go_simp
  refine HPut.out.mono ?_
  rintro e W12 ⟨rfl, hI12, hb12, hgr12⟩
  refine hK _ _ ?_
  clear hK K
  refine wpList_step fun K hK => ?_
  rw [if_pos (by rfl)]
  go_simp
  refine hK _ _ (wpList_nil ?_)
  clear hK K
  have HS12 := Lib.hid (HS11.out.grown hgr12 (NetIn.apart (HNet11.out (NN T1 T1 V1 V1) rfl) m0 m0lt HS11.out))
  have HX12 := Lib.hid (HX11.out.belowB hb12 hgb4)
  have HW12 := Lib.hid (HW11.out.trans (hb12.mono hw4))
  have h412 := Nat.le_trans h411 hb12.size
  have HNet12 : Hid (∀ N, (∀ i, i < 4 → NN T1 T1 V1 V1 (if i = m0 then 1 else 0) = N (if i = m0 then 1 else 0)) → NetIn W12 b4 gb key N (fun i => if i = m0 then 1 else 0) bs) := fun N h => NetIn.congr hI12 h
  clear hb12 hgr12 hI12 HPut HW11 HX11 HS11 HNet11 h411
  go_upto_region 11 with fail
  rw [rounds_succ]
  have y0 : W12.cell? ⟨n5, 3, none⟩ = some (.string na) := HS12.out.cell 3
  have y1 : W12.cell? ⟨n5, 4, none⟩ = some (.int .i64 fa) := HS12.out.cell 4
  have y2 : W12.cell? ⟨n5, 5, none⟩ = some (.slice Ac lc.length cc) := HS12.out.cell 5
  have hl12 := HS12.out.lt
  go_upto_region 13 with fail
  have hx13 := Box.new W12 24 #[.string na, .int .i64 fa, .slice Ac lc.length cc]
  have hb13 := below_alloc1 W12 (Obj.cells #[.string na, .int .i64 fa, .slice Ac lc.length cc] 24)
  have HX13 := Lib.hid (HX12.out.below hb13)
  have HS13 := Lib.hid (HS12.out.below hb13)
  have HW13 := Lib.hid (below_then HW12.out hb13)
  have HNet13 := Lib.hid (fun N h => (HNet12.out N h).next hb13)
  have h413 := Nat.le_trans h412 hb13.size
  generalize W12.alloc (Obj.cells #[.string na, .int .i64 fa, .slice Ac lc.length cc] 24) = W13 at *
  generalize W12.heap.size = g12 at *
  clear y0 y1 y2 hl12 hb13 HX12 HS12 HW12 HNet12 h412
  have x0 : W13.cell? ⟨g12, 0, none⟩ = some (.string na) := hx13.cell 0
  have x1 : W13.cell? ⟨g12, 1, none⟩ = some (.int .i64 fa) := hx13.cell 1
  have x2 : W13.cell? ⟨g12, 2, none⟩ = some (.slice Ac lc.length cc) := hx13.cell 2
  have hl13 := hx13.lt
  clear hx13
  have HT := Lib.hid (text_bu na fa Ac cc lc fr W13 (HZC.out W13 HW13.out) f1 f2 (HP.out W13 HW13.out))
  go_upto_region 14 with (go_at_call 6; refine HT.out.mono ?_; rintro e w14 ⟨⟨hb14, ⟨E, hE, rfl⟩ | ⟨hok, hin, hlen, rfl⟩⟩, hy14⟩)
  · have t1 : (E != 0) = true := by rw [bne_iff_ne]; exact hE
    have HF := Lib.hid (below_then HW13.out hb14)
    clear hE hb14 hy14 x0 x1 x2
    go_wp2_with fail
    go_ret
    exact ⟨rfl, HF.out⟩
  have HOKc := Lib.hid hok
  have HINc := Lib.hid hin
  have HLENc := Lib.hid hlen
  have HW14 := Lib.hid (below_then HW13.out hb14)
  have HX14 := Lib.hid (HX13.out.below hb14)
  have HS14 := Lib.hid (HS13.out.below hb14)
  have HNet14 := Lib.hid (fun N h => (HNet13.out N h).next hb14)
  have h414 := Nat.le_trans h413 hb14.size
  have hss : (str (shL na fr lc)).size ≤ 200 := by rw [str_size]; exact hlen
  have HALLc := Lib.hid (shL_bytes na fr lc hok.1 hok.fit)
  have HSSc := Lib.hid hss
  clear hok hin hlen hb14 hy14 x0 x1 x2 hl13 hss HT HW13 HX13 HS13 HNet13 h413
  obtain ⟨T2, hT2⟩ : ∃ T2, T2 = str (shL na fr lc) := ⟨_, rfl⟩
  rw [← hT2] at HALLc HSSc ⊢
  have HT2 := Lib.hid hT2
  clear hT2
  have HSg := Lib.hid (nsign_yes key 2 0 T2 w14 k1 k2 (by omega) (by omega) HSSc.out HALLc.out (HP.out w14 HW14.out))
  obtain ⟨V2, hV2⟩ : ∃ V2, V2 = sumV key 2 T2 := ⟨_, rfl⟩
  rw [← hV2] at HSg
  have HV2 := Lib.hid hV2
  clear hV2
  go_upto_region 17 with (go_at_call 9; refine HSg.out.mono ?_; rintro e w15 ⟨rfl, hb15⟩)
  have hx16 := Box.new w15 39 #[.int .i64 0, .int .i64 2, .string T2, .int .i64 V2]
  have hb16 := below_alloc1 w15 (Obj.cells #[.int .i64 0, .int .i64 2, .string T2, .int .i64 V2] 39)
  have HX16 := Lib.hid ((HX14.out.below hb15).below hb16)
  have HS16 := Lib.hid ((HS14.out.below hb15).below hb16)
  have HW16 := Lib.hid (below_then (below_then HW14.out hb15) hb16)
  have HNet16 := Lib.hid (fun N h => ((HNet14.out N h).next hb15).next hb16)
  have h416 := Nat.le_trans (Nat.le_trans h414 hb15.size) hb16.size
  clear hb15 hb16 HW14 HX14 HS14 HNet14 h414 HSg
  generalize w15.alloc (Obj.cells #[.int .i64 0, .int .i64 2, .string T2, .int .i64 V2] 39) = W16 at *
  generalize w15.heap.size = g15 at *
  go_upto_region 19 with fail
  have n0 : ∀ W, Below W16.heap.size W16 W → W.cell? ⟨g15, 0, none⟩ = some (.int .i64 0) := fun W hW => (hx16.below hW).cell 0
  have n1 : ∀ W, Below W16.heap.size W16 W → W.cell? ⟨g15, 1, none⟩ = some (.int .i64 2) := fun W hW => (hx16.below hW).cell 1
  have n2 : ∀ W, Below W16.heap.size W16 W → W.cell? ⟨g15, 2, none⟩ = some (.string T2) := fun W hW => (hx16.below hW).cell 2
  have n3 : ∀ W, Below W16.heap.size W16 W → W.cell? ⟨g15, 3, none⟩ = some (.int .i64 V2) := fun W hW => (hx16.below hW).cell 3
  clear hx16
  refine flow_begin_tail 6 (tellOf [(4, det (.int .i64 (m1 : Int)))]) (by kernel_rfl) (by kernel_rfl) ?_
  simp only [List.take_succ_cons, List.take_zero, List.drop_succ_cons, List.drop_zero]
  repeat (first | (refine flow_val (v := ?_) (by rfl) (by rfl) (fun w hb => ?_) ?_; rotate_left; (· ((go_simp) <;> ((repeat' apply And.intro) <;> with_reducible rfl))); try simp only [Act.put, List.setIfInBounds_toArray, List.set_cons_zero, List.set_cons_succ, Nat.reduceAdd]) | (refine flow_skip (by rfl) (by rfl) ?_; try simp only [Act.put, List.setIfInBounds_toArray, List.set_cons_zero, List.set_cons_succ, Nat.reduceAdd]))
  refine flow_call (f := ?_) (args := ?_) [] (by kernel_rfl) (by rfl) (by rfl) (fun w hb => ?_) (fun w hb hu => ?_) ?_; rotate_left 2; (· ((go_simp) <;> ((repeat' apply And.intro) <;> with_reducible rfl)))
  · refine (amod_any _ 4 w (by omega) (by omega)).mono ?_
    rintro e w' ⟨rfl, rfl⟩
    exact ⟨by rw [HM1.out], Below.refl _ _⟩
  try simp only [Act.put, List.setIfInBounds_toArray, List.set_cons_zero, List.set_cons_succ, Nat.reduceAdd]
  repeat (first | (refine flow_val (v := ?_) (by rfl) (by rfl) (fun w hb => ?_) ?_; rotate_left; (· ((go_simp) <;> ((repeat' apply And.intro) <;> with_reducible rfl))); try simp only [Act.put, List.setIfInBounds_toArray, List.set_cons_zero, List.set_cons_succ, Nat.reduceAdd]) | (refine flow_skip (by rfl) (by rfl) ?_; try simp only [Act.put, List.setIfInBounds_toArray, List.set_cons_zero, List.set_cons_succ, Nat.reduceAdd]))
  refine flow_nil fun w17 hb17 _ => ?_
  clear n0 n1 n2 n3
  have HX17 := Lib.hid (HX16.out.below hb17)
  have HS17 := Lib.hid (HS16.out.below hb17)
  have HW17 := Lib.hid (below_then HW16.out hb17)
  have HNet17 := Lib.hid (fun N h => (HNet16.out N h).next hb17)
  have h417 := Nat.le_trans h416 hb17.size
  clear hb17 HW16 HX16 HS16 HNet16 h416
  have HPut := Lib.hid (put_yes (HNet17.out (NN T1 T2 V1 V2) (NN_01 T1 T1 T2 V1 V1 V2 m0)) HBD.out m1 2 m1lt 2 T2 h417 (by rw [if_neg HM01.out]; rfl) (by rw [← HV2.out]; rfl) k1 k2 (by omega) (by omega) HSSc.out HALLc.out (HP.out w17 HW17.out))
  rw [← HV2.out] at HPut
  refine wpList_step fun K hK => ?_
  rw [if_pos (by rfl)]
  go_simp
  refine HPut.out.mono ?_
  rintro e W18 ⟨rfl, hI18, hb18, hgr18⟩
  refine hK _ _ ?_
  clear hK K
  refine wpList_step fun K hK => ?_
  rw [if_pos (by rfl)]
  go_simp
  refine hK _ _ (wpList_nil ?_)
  clear hK K
  have HS18 := Lib.hid (HS17.out.grown hgr18 (NetIn.apart (HNet17.out (NN T1 T2 V1 V2) (NN_01 T1 T1 T2 V1 V1 V2 m0)) m1 m1lt HS17.out))
  have HX18 := Lib.hid (HX17.out.belowB hb18 hgb4)
  have HW18 := Lib.hid (HW17.out.trans (hb18.mono hw4))
  have h418 := Nat.le_trans h417 hb18.size
  have HNet18 := Lib.hid hI18
  clear hb18 hgr18 hI18 HPut HW17 HX17 HS17 HNet17 h417
  go_upto_region 11 with fail
  rw [rounds_succ]
  have HSet := Lib.hid (settle_yes HNet18.out h418 (NN_n T1 T2 V1 V2) (good_01 m0 m1 m1lt))
  clear HNet18 HBD HM0 HM1 HM01 HV1 HOKb HLENb HALLb HSSb HT1 HS18
  go_upto_region 25 with (go_at_call 12; refine HSet.out.mono ?_; rintro e w19 ⟨c19, ks, bs', rfl, hks, hI19, hb19⟩)
  have HX19 := Lib.hid (HX18.out.belowB hb19 hgb4)
  have HW19 := Lib.hid (HW18.out.trans (hb19.mono hw4))
  have HI19 := Lib.hid hI19
  have HKS := Lib.hid hks
  clear hks hI19 hb19 HX18 HW18 h418 HSet
  obtain ⟨TX, hTX⟩ : ∃ TX, TX = str (printL na fa (mixZ fr la lc)) := ⟨_, rfl⟩
  have HTX := Lib.hid hTX
  clear hTX
  go_loopw [23, 24, 25, 26, 27, 28, 29, 30, 31, 111] (fun first _ _ _ _ _ _ _ _ i wr => ∃ (k : Nat) (F : ByteArray), k ≤ 4 ∧ i = .int .i64 (k : Int) ∧ first = .string F ∧ Hid (0 < k → F = TX) ∧ Hid (Below w19.heap.size w19 wr)) (fun _ _ _ _ _ _ _ _ _ i _ => 4 - (intOf i).toNat)
  case atStart => exact ⟨0, ⟨#[]⟩, by omega, rfl, rfl, (fun h => by omega), Below.refl _ _⟩
  case round =>
    obtain ⟨k, F, hk, rfl, rfl, hF, hbr⟩ := hrel
    have HFk := Lib.hid hF.out
    clear hF
    by_cases hlt : k < 4
    · have HHe : Hid (Calls Tryd.prog 13 #[.pointer (some ⟨gb, 0, none⟩), .int .i64 (k : Int), .int .i64 0] wr fun e w' => e = .returned (.tuple #[.agg #[.int .i64 0, .int .i64 2, .string T2, .int .i64 V2], .int .i64 0]) ∧ Below wr.heap.size wr w') := by
        have h := held_yes (HI19.out.next hbr.out) k hlt (by rw [HKS.out k hlt, NN_n]; omega)
        rw [HKS.out k hlt] at h
        exact h
      have HWr := Lib.hid (below_then HW19.out hbr.out)
      have HXr := Lib.hid (HX19.out.below hbr.out)
      go_upto_region 28 with (go_at_call 13; refine HHe.out.mono ?_; rintro e w20 ⟨rfl, hb20⟩)
      have hx21 := Box.new w20 39 #[.int .i64 0, .int .i64 2, .string T2, .int .i64 V2]
      have hb21 := below_alloc1 w20 (Obj.cells #[.int .i64 0, .int .i64 2, .string T2, .int .i64 V2] 39)
      have HW21 := Lib.hid (below_then (below_then HWr.out hb20) hb21)
      have HB21 := Lib.hid (below_then (below_then hbr.out hb20) hb21)
      have hX21 := (HXr.out.below hb20).below hb21
      generalize w20.alloc (Obj.cells #[.int .i64 0, .int .i64 2, .string T2, .int .i64 V2] 39) = W21 at *
      generalize w20.heap.size = g20 at *
      clear hb20 hb21 HWr HXr hbr HHe
      have HN21 := Lib.hid hx21
      have n1 : W21.cell? ⟨g20, 1, none⟩ = some (.int .i64 2) := hx21.cell 1
      have hl20 := hx21.lt
      have x0 : W21.cell? ⟨g, 0, none⟩ = some (.string na) := hX21.cell 0
      have x1 : W21.cell? ⟨g, 1, none⟩ = some (.int .i64 fa) := hX21.cell 1
      have x2 : W21.cell? ⟨g, 2, none⟩ = some (.slice Aa la.length ca) := hX21.cell 2
      have hlg := hX21.lt
      clear hx21 hX21
      obtain ⟨n4, hn4⟩ : ∃ n4, n4 = W21.heap.size := ⟨_, rfl⟩
      have hb22 := below_alloc2 W21 (Obj.cells #[.string na, .int .i64 fa, .slice Aa la.length ca] 24) (Obj.cells #[.int .i64 key] 3)
      have z1 := (Box.new W21 24 #[.string na, .int .i64 fa, .slice Aa la.length ca]).alloc (Obj.cells #[.int .i64 key] 3)
      have z2 := Box.new (W21.alloc (Obj.cells #[.string na, .int .i64 fa, .slice Aa la.length ca] 24)) 3 #[.int .i64 key]
      rw [World.size_alloc] at z2
      rw [← hn4] at z1 z2
      have HN4 := Lib.hid hn4
      clear hn4
      have HNew := Lib.hid (new_bu n4 0 1 (n4 + 1) 0 1 key na fa Aa ca la _ (HZA.out _ (below_then HW21.out hb22)) (Row.of_box z1) (Row.of_box z2) k1 k2)
      have HW22 := Lib.hid (below_then HW21.out hb22)
      have HB22 := Lib.hid (below_then HB21.out hb22)
      have HN22 := Lib.hid (HN21.out.below hb22)
      clear hb22 z1 z2
      go_wp2_with fail
      rw [← HN4.out]
      generalize (W21.alloc (Obj.cells #[.string na, .int .i64 fa, .slice Aa la.length ca] 24)).alloc (Obj.cells #[.int .i64 key] 3) = W22 at *
      refine HNew.out.mono ?_
      rintro e w23 ⟨hb23, ⟨hno, E, hE, rfl⟩ | ⟨hoka, gu, rfl, hIn⟩⟩
      · have t1 : (E != 0) = true := by rw [bne_iff_ne]; exact hE
        have HF := Lib.hid (below_then HW22.out hb23)
        clear hE hb23 hno n1 x0 x1 x2
        go_wp2_with fail
        go_ret
        exact ⟨rfl, HF.out⟩
      have HOKA := Lib.hid hoka
      have HW23 := Lib.hid (below_then HW22.out hb23)
      have HB23 := Lib.hid (below_then HB22.out hb23)
      have hN23 := HN22.out.below hb23
      have h23 := hb23.size
      have hw22 := HW22.out.size
      have hb22 := HB22.out.size
      generalize W22.heap.size = b5 at *
      have HTk : Hid (Calls Tryd.prog 15 #[.pointer (some ⟨gu, 0, none⟩), .agg #[.int .i64 0, .int .i64 2, .string T2, .int .i64 V2]] w23 (TakeQ b5 w23.heap.size gu key na fa la 0 2 fr (late fr lc) w23)) := by
        have e : T2 = str (shL na fr (late fr lc)) := by rw [HT2.out, shL_late]
        rw [HV2.out, e]
        exact take_bu b5 w23.heap.size gu key na fa la la 0 2 fr (late fr lc) w23 hIn h23 k1 k2 (by omega) (by omega) HOKA.out (by rw [late_drop fr lc HOKc.out.sorted]; exact zoneOk_drop HOKc.out 0 offOk_zero _) HINc.out (fun x hx => by simpa [late] using (List.mem_filter.1 hx).2) (by rw [shL_late]; exact HLENc.out) (by rw [← e]; exact HALLc.out) (HP.out w23 HW23.out) (HSH.out w23 HW23.out)
      have HMX : Hid (mixL fr la (late fr lc) = mixZ fr la lc) := by unfold Hid mixL mixZ; rw [late_drop fr lc HOKc.out.sorted]
      clear hoka hb23 hIn n1 x0 x1 x2 hl20 hlg HNew HW22 HB22 HN22 HN21 HN4 HW21 HB21
      have n0 : w23.cell? ⟨g20, 0, none⟩ = some (.int .i64 0) := hN23.cell 0
      have n1 : w23.cell? ⟨g20, 1, none⟩ = some (.int .i64 2) := hN23.cell 1
      have n2 : w23.cell? ⟨g20, 2, none⟩ = some (.string T2) := hN23.cell 2
      have n3 : w23.cell? ⟨g20, 3, none⟩ = some (.int .i64 V2) := hN23.cell 3
      have hl20 := hN23.lt
      clear hN23
      go_upto_region 34 with (go_at_call 15; refine HTk.out.mono ?_; rintro e w24 ⟨hb24, _, ⟨hno, _⟩ | ⟨_, hlg, rfl⟩ | ⟨_, hle, rfl, hI24⟩⟩)
      · have HF := Lib.hid (HW23.out.trans (hb24.mono hw22))
        clear hlg hb24 n0 n1 n2 n3
        go_wp2_with fail
        go_ret
        exact ⟨rfl, HF.out⟩
      rw [HMX.out] at hle hI24
      have HLE := Lib.hid hle
      have HW24 := Lib.hid (HW23.out.trans (hb24.mono hw22))
      have HB24 := Lib.hid (HB23.out.trans (hb24.mono hb22))
      have HZo := Lib.hid (zone_bu hI24 hle)
      clear n0 n1 n2 n3 hl20 hle hI24 hb24 HTk HW23 HB23
      go_upto_region 37 with (go_at_call 16; refine HZo.out.mono ?_; rintro e w25 ⟨A25, c25, rfl, hz25, hb25⟩)
      have hx26 := Box.new w25 24 #[.string na, .int .i64 fa, .slice A25 (mixZ fr la lc).length c25]
      have hb26 := hb25.alloc hb25.size (Obj.cells #[.string na, .int .i64 fa, .slice A25 (mixZ fr la lc).length c25] 24)
      have hz26 := hz25.next (below_alloc1 w25 (Obj.cells #[.string na, .int .i64 fa, .slice A25 (mixZ fr la lc).length c25] 24))
      have HW26 := Lib.hid (below_then HW24.out hb26)
      have HB26 := Lib.hid (below_then HB24.out hb26)
      generalize w25.alloc (Obj.cells #[.string na, .int .i64 fa, .slice A25 (mixZ fr la lc).length c25] 24) = W26 at *
      generalize w25.heap.size = g25 at *
      have HPr : Hid (Calls Tryd.prog 17 #[.agg #[.string na, .int .i64 fa, .slice A25 (mixZ fr la lc).length c25]] W26 fun e w' => e = .returned (.tuple #[.string TX, .int .i64 0]) ∧ Below W26.heap.size W26 w') := by
        rw [HTX.out]
        exact zprint_yes na fa A25 c25 (mixZ fr la lc) W26 hz26 (mix_ok fr HOKA.out HOKc.out HLE.out) (HP.out W26 HW26.out)
      have x0 : W26.cell? ⟨g25, 0, none⟩ = some (.string na) := hx26.cell 0
      have x1 : W26.cell? ⟨g25, 1, none⟩ = some (.int .i64 fa) := hx26.cell 1
      have x2 : W26.cell? ⟨g25, 2, none⟩ = some (.slice A25 (mixZ fr la lc).length c25) := hx26.cell 2
      have hl25 := hx26.lt
      clear hx26 hb26 hz26 hz25 hb25 HZo HW24 HB24
      go_upto_region 38 with (go_at_call 17; refine HPr.out.mono ?_; rintro e w27 ⟨rfl, hb27⟩)
      have HB27 := Lib.hid (below_then HB26.out hb27)
      clear x0 x1 x2 hl25 hb27 HPr
      by_cases hk0 : 0 < k
      · obtain rfl : F = TX := HFk.out hk0
        have t1 : decide (0 < (k : Int)) = true := decide_eq_true (by omega)
        go_wp2_with fail
        go_roundw
        case rel => exact ⟨k + 1, F, by omega, by go_num, rfl, (fun _ => rfl), HB27⟩
        case measure => simp [intOf]; omega
      · have t1 : decide (0 < (k : Int)) = false := decide_eq_false (by omega)
        go_wp2_with fail
        go_roundw
        case rel => exact ⟨k + 1, TX, by omega, by go_num, rfl, (fun _ => rfl), HB27⟩
        case measure => simp [intOf]; omega
    · obtain rfl : k = 4 := by omega
      go_wp2_with fail
      go_ret
      have := below_then HW19.out hbr.out
      exact ⟨rfl, this⟩

set_option maxRecDepth 100000 in
theorem walk {H : Type} {enc : TypeId × Value → H} {base : Nat} {W : World} (v0 : Value) (d0 : DataW H) (p0 : List MemPlace) (hv0 : Value.okWide Tryd.prog W .any base 24 v0) (h0 : DataW.Trod enc Tryd.prog W 0 (fun _ => true) true 24 v0 d0 p0)
    (v1 : Value) (d1 : DataW H) (p1 : List MemPlace) (hv1 : Value.okWide Tryd.prog W .any base 24 v1) (h1 : DataW.Trod enc Tryd.prog W 0 (fun _ => true) true 24 v1 d1 p1)
    (v2 : Value) (d2 : DataW H) (p2 : List MemPlace) (hv2 : Value.okWide Tryd.prog W .any base 24 v2) (h2 : DataW.Trod enc Tryd.prog W 0 (fun _ => true) true 24 v2 d2 p2)
    (a3 : Int) (w3 : (Lit.int .i64 a3).wf = true) (a4 : Int) (w4 : (Lit.int .i64 a4).wf = true) (a5 : Int) (w5 : (Lit.int .i64 a5).wf = true) (hL : laidMet Tryd.prog Rows.topNoticesRow.laid W) (hsh : W.ShapedOpen Tryd.prog) :
    Calls Tryd.prog 3 #[v0, v1, v2, .int .i64 a3, .int .i64 a4, .int .i64 a5] W fun e w' => e = .returned (.bool true) ∧ Below W.heap.size W w' := by
  obtain ⟨na, fa, Aa, la, ca, rfl, hza⟩ := zone_open hv0 h0
  obtain ⟨nb, fb, Ab, lb, cb, rfl, hzb⟩ := zone_open hv1 h1
  obtain ⟨nc, fc, Ac, lc, cc, rfl, hzc⟩ := zone_open hv2 h2
  exact core na fa Aa la ca nb fb Ab lb cb nc fc Ac lc cc a3 a4 a5 W hza hzb hzc (wf_bounds w3).1 (wf_bounds w3).2 (wf_bounds w5).1 (wf_bounds w5).2 (pow_of hL.tail.tail) (laysM146.s1_3 W hsh)
end Go.Proofs.YtifhlmakacoicaaDoor.topNotices
