/- WBureauLast -/
import Derived.Test.YtifhlmakacoicaaDoorGBu1
import Derived.Test.YtifhlmakacoicaaDoorGLaid
import Derived.Test.YtifhlmakacoicaaDoorGZoneArg
/- The walk of BureauLast: it returns true at every input; it writes nothing that was there. -/
namespace Go.Proofs.YtifhlmakacoicaaDoor.bureauLast
open Go.RowKit
set_option linter.unusedVariables false

def nmA : ByteArray := ⟨#[97]⟩
theorem nm_ok : NameOk nmA := by
  refine ⟨by decide, by decide, by rw [nmA, Lib.toList_data]; decide, by rw [nmA, Lib.toList_data]; decide, by rw [nmA, Lib.toList_data]; decide, by rw [nmA, Lib.toList_data]; decide, fun k hk => ?_⟩
  have : k = 0 := by
    have : nmA.size = 1 := by decide
    omega
  subst this
  decide +revert
def oneZ : List Chg := [⟨5, 1000, ⟨#[65]⟩⟩]
theorem one_ok : ZoneOk nmA 0 oneZ := by
  refine ⟨nm_ok, ⟨by decide, by decide, by decide⟩, by decide, fun i hi => ?_⟩
  match i, hi with
  | 0, _ =>
    refine ⟨⟨by decide, by decide⟩, ⟨by decide, by decide, by decide⟩, ⟨?_, by decide, by decide⟩, fun h => by omega⟩
    intro k hk
    match k, hk with
    | 0, _ => decide +revert
theorem one_text : str (shL nmA 6 oneZ) = ⟨#[97, 32, 54]⟩ := by kernel_rfl
theorem one_len : (shL nmA 6 oneZ).length ≤ 200 := by
  have h : (str (shL nmA 6 oneZ)).size = 3 := by rw [one_text]; rfl
  rw [str_size] at h
  omega

set_option maxHeartbeats 8000000 in
set_option maxRecDepth 100000 in
theorem core (na : ByteArray) (fa : Int) (Aa : Option Addr) (la : List Chg) (ca : Nat) (nb : ByteArray) (fb : Int) (Ab : Option Addr) (lb : List Chg) (cb : Nat) (fr key0 : Int) (w : World) (hza : ZIn w na Aa la) (hzb : ZIn w nb Ab lb) (f1 : -9223372036854775808 ≤ fr) (f2 : fr ≤ 9223372036854775807) (hp : Pow w) (hsh : Shp w) :
    Calls Tryd.prog 5 #[.agg #[.string na, .int .i64 fa, .slice Aa la.length ca], .agg #[.string nb, .int .i64 fb, .slice Ab lb.length cb], .int .i64 fr, .int .i64 key0] w fun e w' => e = .returned (.bool true) ∧ Below w.heap.size w w' := by
  have HC1 := Lib.hid (fun w => cut_any key0 1 1000000 w (by omega) (by omega) (by omega) (by omega))
  obtain ⟨key, hkey, k1, k2⟩ : ∃ key : Int, key = 1 + key0 % 1000000 ∧ 1 ≤ key ∧ key ≤ 1000000 := ⟨_, rfl, by omega, by omega⟩
  rw [← hkey] at HC1
  clear hkey
  have HZA := Lib.hid (fun W (hW : Below w.heap.size w W) => hza.next hW)
  have HZB : Hid (∀ W, Below w.heap.size w W → ZIn W na Ab lb) := fun W hW => ⟨(hzb.next hW).row, hza.name, hzb.len, hzb.fit⟩
  have HP := Lib.hid (fun W (hW : Below w.heap.size w W) => hp.next hW)
  have HSH := Lib.hid (fun W (hW : Below w.heap.size w W) => hsh.next hW)
  have h1 := below_alloc2 w (Obj.cells #[.string na, .int .i64 fa, .slice Aa la.length ca] 24) (Obj.cells #[.string nb, .int .i64 fb, .slice Ab lb.length cb] 24)
  have y1 := (Box.new w 24 #[.string na, .int .i64 fa, .slice Aa la.length ca]).alloc (Obj.cells #[.string nb, .int .i64 fb, .slice Ab lb.length cb] 24)
  have y2 := Box.new (w.alloc (Obj.cells #[.string na, .int .i64 fa, .slice Aa la.length ca] 24)) 24 #[.string nb, .int .i64 fb, .slice Ab lb.length cb]
  rw [World.size_alloc] at y2
  clear hza hzb hp hsh
  go_enter Tryd.func5, Tryd.ntmps5
  go_upto_region 1 with fail
  generalize (w.alloc (Obj.cells #[.string na, .int .i64 fa, .slice Aa la.length ca] 24)).alloc (Obj.cells #[.string nb, .int .i64 fb, .slice Ab lb.length cb] 24) = W0 at *
  obtain ⟨g, hg⟩ : ∃ g, g = w.heap.size := ⟨_, rfl⟩
  rw [← hg] at y1 y2 ⊢
  have HG := Lib.hid hg
  clear hg
  obtain ⟨q, hq⟩ : ∃ q, q = W0.heap.size := ⟨_, rfl⟩
  have hb2 := below_alloc2 W0 (Obj.cells #[.int .i64 5, .int .i64 1000, .string ⟨#[65]⟩] 26) (Obj.cells #[.string ⟨#[97]⟩, .int .i64 0, .slice (some ⟨q, 0, none⟩) 1 1] 24)
  have z1 := (Box.new W0 26 #[.int .i64 5, .int .i64 1000, .string ⟨#[65]⟩]).alloc (Obj.cells #[.string ⟨#[97]⟩, .int .i64 0, .slice (some ⟨q, 0, none⟩) 1 1] 24)
  have z2 := Box.new (W0.alloc (Obj.cells #[.int .i64 5, .int .i64 1000, .string ⟨#[65]⟩] 26)) 24 #[.string ⟨#[97]⟩, .int .i64 0, .slice (some ⟨q, 0, none⟩) 1 1]
  rw [World.size_alloc] at z2
  go_upto_region 2 with fail
  rw [← hq] at z1 z2 ⊢
  have HW1 := Lib.hid (below_then h1 hb2)
  have hX := y1.below hb2
  have hY := y2.below hb2
  generalize (W0.alloc (Obj.cells #[.int .i64 5, .int .i64 1000, .string ⟨#[65]⟩] 26)).alloc (Obj.cells #[.string ⟨#[97]⟩, .int .i64 0, .slice (some ⟨q, 0, none⟩) 1 1] 24) = W1 at *
  clear hb2 h1 y1 y2 hq
  have HX := Lib.hid hX
  have HY := Lib.hid hY
  have hgl := hY.lt
  have t0 : W1.cell? ⟨q + 1, 0, none⟩ = some (.string ⟨#[97]⟩) := z2.cell 0
  have t1 : W1.cell? ⟨q + 1, 1, none⟩ = some (.int .i64 0) := z2.cell 1
  have t2 : W1.cell? ⟨q + 1, 2, none⟩ = some (.slice (some ⟨q, 0, none⟩) 1 1) := z2.cell 2
  have hql := z2.lt
  have HT : Hid (Calls Tryd.prog 6 #[.agg #[.string ⟨#[97]⟩, .int .i64 0, .slice (some ⟨q, 0, none⟩) 1 1], .int .i64 6] W1 fun e w' => e = .returned (.tuple #[.string ⟨#[97, 32, 54]⟩, .int .i64 0]) ∧ Below W1.heap.size W1 w') := by
    refine (text_bu nmA 0 (some ⟨q, 0, none⟩) 1 oneZ 6 W1 ⟨Row.of_box z1, by unfold maxLen; decide, by show 1 ≤ maxLen; unfold maxLen; omega, fun x hx => ?_⟩ (by omega) (by omega) (HP.out W1 HW1.out)).mono ?_
    · obtain rfl := List.mem_singleton.1 hx
      exact ⟨by decide, by decide, by decide, by decide, by unfold maxLen; decide⟩
    · rintro e w' ⟨⟨hb, _⟩, hy⟩
      refine ⟨?_, hb⟩
      rw [hy ⟨one_ok, ⟨by decide, by decide⟩, one_len⟩, one_text]
  clear z1 z2 hX hY
  go_upto_region 3 with (go_at_call 6; refine HT.out.mono ?_; rintro e w2 ⟨rfl, hb2⟩)
  have HW2 := Lib.hid (below_then HW1.out hb2)
  have HX2 := Lib.hid (HX.out.below hb2)
  have HY2 := Lib.hid (HY.out.below hb2)
  have hgl2 := HY2.out.lt
  clear t0 t1 t2 hql hb2 HT HW1 HX HY hgl
  go_upto_region 6 with (go_at_call 20; refine (HC1.out _).mono ?_; rintro e w' ⟨rfl, rfl⟩)
  have hX := HX2.out
  have hY := HY2.out
  have a0 : ∀ W, w2.grownBy W (some (g + 1)) → W.cell? ⟨g, 0, none⟩ = some (.string na) := fun W hW => (hX.grown hW (by intro e; injection e with e; omega)).cell 0
  have a1 : ∀ W, w2.grownBy W (some (g + 1)) → W.cell? ⟨g, 1, none⟩ = some (.int .i64 fa) := fun W hW => (hX.grown hW (by intro e; injection e with e; omega)).cell 1
  refine flowG_begin_tail 6 5 (some (g + 1)) (tellOf []) (by kernel_rfl) (by kernel_rfl) ?_
  simp only [List.take_succ_cons, List.take_zero, List.drop_succ_cons, List.drop_zero]
  repeat (first | (refine flowG_val (v := ?_) (by rfl) (by rfl) (fun w hb => ?_) ?_; rotate_left; (· ((go_simp) <;> ((repeat' apply And.intro) <;> with_reducible rfl))); try simp only [Act.put, List.setIfInBounds_toArray, List.set_cons_zero, List.set_cons_succ, Nat.reduceAdd]) | (refine flowG_skip (by rfl) (by rfl) ?_; try simp only [Act.put, List.setIfInBounds_toArray, List.set_cons_zero, List.set_cons_succ, Nat.reduceAdd]))
  refine flowG_store (F := fun w => Box w (g + 1) 24 #[.string na, .int .i64 fb, .slice Ab lb.length cb]) [] (by kernel_rfl) rfl (by rfl) (by rfl) (fun w w' hb h => h.below hb) (fun w hb hu => ?_) ?_
  · have hy := hY.below hb
    have q0 : w.cell? ⟨g + 1, 0, none⟩ = some (.string nb) := hy.cell 0
    have qf : ∀ i, w.frozen? ⟨g + 1, i, none⟩ = false := fun i => hy.free i
    have ql := hy.lt
    exact ⟨w.setCell ⟨g + 1, 0, none⟩ (.string na), by go_simp, hy.set_ 0 (.string na), grown_set _ (g + 1) 0 _⟩
  refine flowG_nil fun w3 hgrow hf => ?_
  have hy3 : Box w3 (g + 1) 24 #[.string na, .int .i64 fb, .slice Ab lb.length cb] := hf.1
  have hx3 := hX.grown hgrow (by intro e; injection e with e; omega)
  have hb3 : Below w.heap.size w w3 := HW2.out.grown hgrow HW2.out.size (fun k hk => by injection hk with hk; have := HG.out; omega)
  have q1 : w3.cell? ⟨g + 1, 1, none⟩ = some (.int .i64 fb) := hy3.cell 1
  have qf : ∀ i, w3.frozen? ⟨g + 1, i, none⟩ = false := fun i => hy3.free i
  have ql := hy3.lt
  have HX3 := Lib.hid (hx3.far (p := ⟨g + 1, 1, none⟩) (by show g ≠ g + 1; omega) (.int .i64 fa))
  have HY3 := Lib.hid (hy3.set_ 1 (.int .i64 fa))
  have HW3 := Lib.hid (hb3.setCell (p := ⟨g + 1, 1, none⟩) (by have := HG.out; show w.heap.size ≤ g + 1; omega) (.int .i64 fa))
  clear a0 a1 hX hY hx3 hy3 hb3 hgrow hf HX2 HY2 HW2 hgl2
  refine wpList_step fun K hK => ?_
  rw [if_pos (by rfl)]
  go_simp
  refine hK _ _ ?_
  clear hK K
  refine wpList_step fun K hK => ?_
  rw [if_pos (by rfl)]
  go_simp
  refine hK _ _ (wpList_nil ?_)
  clear hK K q1 qf ql
  generalize w3.setCell ⟨g + 1, 1, none⟩ (.int .i64 fa) = W3 at *
  have c0 : W3.cell? ⟨g + 1, 0, none⟩ = some (.string na) := HY3.out.cell 0
  have c1 : W3.cell? ⟨g + 1, 1, none⟩ = some (.int .i64 fa) := HY3.out.cell 1
  have c2 : W3.cell? ⟨g + 1, 2, none⟩ = some (.slice Ab lb.length cb) := HY3.out.cell 2
  have hl3 := HY3.out.lt
  have HT := Lib.hid (text_bu na fa Ab cb lb fr W3 (HZB.out W3 HW3.out) f1 f2 (HP.out W3 HW3.out))
  go_upto_region 8 with (go_at_call 6; refine HT.out.mono ?_; rintro e w4 ⟨⟨hb4, ⟨E, hE, rfl⟩ | ⟨hok, hin, hlen, rfl⟩⟩, hy4⟩)
  · have t1 : (E != 0) = true := by rw [bne_iff_ne]; exact hE
    have HF := Lib.hid (below_then HW3.out hb4)
    clear hE hb4 hy4 c0 c1 c2
    go_wp2_with fail
    go_ret
    exact ⟨rfl, HF.out⟩
  have HOK := Lib.hid hok
  have HIN := Lib.hid hin
  have HLEN := Lib.hid hlen
  have HW4 := Lib.hid (below_then HW3.out hb4)
  have HX4 := Lib.hid (HX3.out.below hb4)
  have HY4 := Lib.hid (HY3.out.below hb4)
  have hss : (str (shL na fr lb)).size ≤ 200 := by rw [str_size]; exact hlen
  have HALL := Lib.hid (shL_bytes na fr lb hok.1 hok.fit)
  have HSS := Lib.hid hss
  clear hok hin hlen hb4 hy4 c0 c1 c2 hl3 hss HT HW3 HX3 HY3
  obtain ⟨T, hT⟩ : ∃ T, T = str (shL na fr lb) := ⟨_, rfl⟩
  rw [← hT] at HALL HSS ⊢
  have HTT := Lib.hid hT
  clear hT
  have c0 : w4.cell? ⟨g, 0, none⟩ = some (.string na) := HX4.out.cell 0
  have c1 : w4.cell? ⟨g, 1, none⟩ = some (.int .i64 fa) := HX4.out.cell 1
  have c2 : w4.cell? ⟨g, 2, none⟩ = some (.slice Aa la.length ca) := HX4.out.cell 2
  have hl4 := HY4.out.lt
  obtain ⟨n4, hn4⟩ : ∃ n4, n4 = w4.heap.size := ⟨_, rfl⟩
  have hb5 := below_alloc2 w4 (Obj.cells #[.string na, .int .i64 fa, .slice Aa la.length ca] 24) (Obj.cells #[.int .i64 key] 3)
  have z1 := (Box.new w4 24 #[.string na, .int .i64 fa, .slice Aa la.length ca]).alloc (Obj.cells #[.int .i64 key] 3)
  have z2 := Box.new (w4.alloc (Obj.cells #[.string na, .int .i64 fa, .slice Aa la.length ca] 24)) 3 #[.int .i64 key]
  rw [World.size_alloc] at z2
  rw [← hn4] at z1 z2
  have HN4 := Lib.hid hn4
  clear hn4
  have HNew : Hid (Calls Tryd.prog 14 #[.slice (some ⟨n4, 0, none⟩) 1 1, .slice (some ⟨n4 + 1, 0, none⟩) 1 1] ((w4.alloc (Obj.cells #[.string na, .int .i64 fa, .slice Aa la.length ca] 24)).alloc (Obj.cells #[.int .i64 key] 3)) (NewQ key na fa la ((w4.alloc (Obj.cells #[.string na, .int .i64 fa, .slice Aa la.length ca] 24)).alloc (Obj.cells #[.int .i64 key] 3)))) :=
    new_bu n4 0 1 (n4 + 1) 0 1 key na fa Aa ca la _ (HZA.out _ (below_then HW4.out hb5)) (Row.of_box z1) (Row.of_box z2) k1 k2
  have HW5 := Lib.hid (below_then HW4.out hb5)
  have HY5 := Lib.hid (HY4.out.below hb5)
  clear hb5 z1 z2
  go_wp2_with fail
  rw [← HN4.out]
  generalize (w4.alloc (Obj.cells #[.string na, .int .i64 fa, .slice Aa la.length ca] 24)).alloc (Obj.cells #[.int .i64 key] 3) = W5 at *
  refine HNew.out.mono ?_
  rintro e w6 ⟨hb6, ⟨hno, E, hE, rfl⟩ | ⟨hoka, gb, rfl, hIn⟩⟩
  · have t1 : (E != 0) = true := by rw [bne_iff_ne]; exact hE
    have HF := Lib.hid (below_then HW5.out hb6)
    clear hE hb6 hno c0 c1 c2
    go_wp2_with fail
    go_ret
    exact ⟨rfl, HF.out⟩
  have HOKA := Lib.hid hoka
  have HW6 := Lib.hid (below_then HW5.out hb6)
  have HY6 := Lib.hid (HY5.out.below hb6)
  have h56 := hb6.size
  have hgb5 := HY5.out.lt
  have hwb5 := HW5.out.size
  generalize W5.heap.size = b5 at *
  obtain ⟨d6, hd6e⟩ : ∃ d6, d6 = w6.heap.size := ⟨_, rfl⟩
  rw [← hd6e] at hIn
  have HD6 := Lib.hid hd6e
  have HI6 := Lib.hid hIn
  clear hd6e
  clear hoka hb6 hIn c0 c1 c2 hl4 HNew HX4 HY4 HW4 HW5 HY5 HN4
  have HSg := Lib.hid (nsign_yes key 1 0 T w6 k1 k2 (by omega) (by omega) HSS.out HALL.out (HP.out w6 HW6.out))
  have HTk : Hid (∀ (B D : Nat) (N : List Chg) (num : Int) (W : World), Below w.heap.size w W → B ≤ W.heap.size → BuIn W B D gb key na fa la N num → Calls Tryd.prog 15 #[.pointer (some ⟨gb, 0, none⟩), .agg #[.int .i64 0, .int .i64 1, .string T, .int .i64 (sumV key 1 T)]] W (TakeQ B D gb key na fa la num 1 fr (late fr lb) W)) := fun B D N num W hW hB hI => by
    have e : T = str (shL na fr (late fr lb)) := by rw [HTT.out, shL_late]
    rw [e]
    exact take_bu B D gb key na fa la N num 1 fr (late fr lb) W hI hB k1 k2 (by omega) (by omega) HOKA.out (by rw [late_drop fr lb HOK.out.sorted]; exact zoneOk_drop HOK.out 0 offOk_zero _) HIN.out (fun x hx => by simpa [late] using (List.mem_filter.1 hx).2) (by rw [shL_late]; exact HLEN.out) (by rw [← e]; exact HALL.out) (HP.out W hW) (HSH.out W hW)
  generalize sumV key 1 T = V at *
  have HMX : Hid (mixL fr la (late fr lb) = mixZ fr la lb) := by unfold Hid mixL mixZ; rw [late_drop fr lb HOK.out.sorted]
  go_upto_region 14 with (go_at_call 9; refine HSg.out.mono ?_; rintro e w7 ⟨rfl, hb7⟩)
  have hb8 := hb7.alloc hb7.size (Obj.cells #[.int .i64 0, .int .i64 1, .string T, .int .i64 V] 39)
  have hx8 := Box.new w7 39 #[.int .i64 0, .int .i64 1, .string T, .int .i64 V]
  generalize w7.alloc (Obj.cells #[.int .i64 0, .int .i64 1, .string T, .int .i64 V] 39) = W8 at *
  have hd6 : d6 ≤ w7.heap.size := by rw [HD6.out]; exact hb7.size
  generalize w7.heap.size = g15 at *
  have HW8 := Lib.hid (below_then HW6.out hb8)
  have HY8 := Lib.hid (HY6.out.below hb8)
  have HI8 := Lib.hid (HI6.out.next hb8)
  have h8 := hb8.size
  have n0 : W8.cell? ⟨g15, 0, none⟩ = some (.int .i64 0) := hx8.cell 0
  have n1 : W8.cell? ⟨g15, 1, none⟩ = some (.int .i64 1) := hx8.cell 1
  have n2 : W8.cell? ⟨g15, 2, none⟩ = some (.string T) := hx8.cell 2
  have n3 : W8.cell? ⟨g15, 3, none⟩ = some (.int .i64 V) := hx8.cell 3
  have hl15 := hx8.lt
  have HN8 := Lib.hid hx8
  clear hx8 hb8 hb7 HW6 HY6 HI6 HSg
  have HT1 := Lib.hid (HTk.out b5 d6 la 0 W8 HW8.out (by omega) HI8.out)
  go_upto_region 17 with (go_at_call 15; refine HT1.out.mono ?_; rintro e w9 ⟨hb9, hf9, ⟨hno, _⟩ | ⟨_, hlg, rfl⟩ | ⟨_, hle, rfl, hI9⟩⟩)
  · have HF := Lib.hid (HW8.out.trans (hb9.mono hwb5))
    clear hlg hb9 n0 n1 n2 n3
    go_wp2_with fail
    go_ret
    exact ⟨rfl, HF.out⟩
  rw [HMX.out] at hle hI9
  have HLE := Lib.hid hle
  have HI9 := Lib.hid hI9
  have HW9 := Lib.hid (HW8.out.trans (hb9.mono hwb5))
  have HY9 := Lib.hid (HY8.out.belowB hb9 hgb5)
  have hN9 : Box w9 g15 39 #[.int .i64 0, .int .i64 1, .string T, .int .i64 V] := (hf9 g15 hd6 hl15).trans HN8.out
  have h9 := hb9.size
  clear n0 n1 n2 n3 hl15 hle hI9 hb9 hf9 HT1 HI8 HW8 HY8 HN8
  have n0 : w9.cell? ⟨g15, 0, none⟩ = some (.int .i64 0) := hN9.cell 0
  have n1 : w9.cell? ⟨g15, 1, none⟩ = some (.int .i64 1) := hN9.cell 1
  have n2 : w9.cell? ⟨g15, 2, none⟩ = some (.string T) := hN9.cell 2
  have n3 : w9.cell? ⟨g15, 3, none⟩ = some (.int .i64 V) := hN9.cell 3
  have hl15 := hN9.lt
  have HT2 := Lib.hid (HTk.out b5 d6 _ 1 w9 HW9.out (by omega) HI9.out)
  have hml : (mixZ fr la lb).length ≤ 200 := HLE.out
  go_upto_region 21 with (go_at_call 15; refine HT2.out.mono ?_; rintro e w10 ⟨_, _, ⟨_, rfl, hb10⟩ | ⟨hlt, _, _⟩ | ⟨hlt, _, _⟩⟩)
  have HW10 := Lib.hid (below_then HW9.out hb10)
  have HY10 := Lib.hid (HY9.out.below hb10)
  have HI10 := Lib.hid (HI9.out.next hb10)
  clear n0 n1 n2 n3 hl15 hN9 hb10 HT2 HI9 HW9 HY9 HTk
  have HZo := Lib.hid (zone_bu HI10.out hml)
  go_upto_region 22 with (go_at_call 16; refine HZo.out.mono ?_; rintro e w11 ⟨A11, c11, rfl, hz11, hb11⟩)
  have hx12 := Box.new w11 24 #[.string na, .int .i64 fa, .slice A11 (mixZ fr la lb).length c11]
  have hb12 := hb11.alloc hb11.size (Obj.cells #[.string na, .int .i64 fa, .slice A11 (mixZ fr la lb).length c11] 24)
  have hz12 := hz11.next (below_alloc1 w11 (Obj.cells #[.string na, .int .i64 fa, .slice A11 (mixZ fr la lb).length c11] 24))
  generalize w11.alloc (Obj.cells #[.string na, .int .i64 fa, .slice A11 (mixZ fr la lb).length c11] 24) = W12 at *
  generalize w11.heap.size = g17 at *
  have i1 := HIN.out.1
  have i2 := HIN.out.2
  have e1 : IntKind.i64.wrap (fr + 86400000) = fr + 86400000 := IntWalk.i64_in _ (by omega)
  have e2 : IntKind.i64.wrap (fr + 8640000000) = fr + 8640000000 := IntWalk.i64_in _ (by omega)
  have hs13 := Box.new W12 3 #[.int .i64 fr, .int .i64 (fr + 86400000), .int .i64 (fr + 8640000000)]
  have hb13 := below_alloc1 W12 (Obj.cells #[.int .i64 fr, .int .i64 (fr + 86400000), .int .i64 (fr + 8640000000)] 3)
  have HX13 := Lib.hid (hx12.below hb13)
  have HZ13 := Lib.hid (hz12.next hb13)
  have HW13 := Lib.hid (below_then (below_then HW10.out hb12) hb13)
  have HY13 := Lib.hid ((HY10.out.below hb12).below hb13)
  have HS13 := Lib.hid hs13
  have h17 : g17 < W12.heap.size := hx12.lt
  clear hx12 hb12 hz12 hz11 hb11 hs13 hb13 HW10 HY10 HI10 HZo
  go_wp2_with fail
  clear e1 e2
  generalize W12.alloc (Obj.cells #[.int .i64 fr, .int .i64 (fr + 86400000), .int .i64 (fr + 8640000000)] 3) = W13 at *
  generalize W12.heap.size = gs at *
  go_loopw [20, 21, 22, 23, 24, 25, 26, 27, 28, 101] (fun _ _ _ _ _ _ _ _ _ i wr => ∃ k : Nat, k ≤ 3 ∧ i = .int .i64 (k : Int) ∧ Hid (Below W13.heap.size W13 wr)) (fun _ _ _ _ _ _ _ _ _ i _ => 3 - (intOf i).toNat)
  case atStart => exact ⟨0, by omega, rfl, Below.refl _ _⟩
  case round =>
    obtain ⟨k, hk, rfl, hbr⟩ := hrel
    have HWr := Lib.hid (below_then HW13.out hbr.out)
    by_cases hlt : k < 3
    · obtain ⟨t, ht1, ht2, y0⟩ : ∃ t : Int, fr ≤ t ∧ t ≤ fr + 8640000000 ∧ wr.cell? ⟨gs, k, none⟩ = some (.int .i64 t) := by
        have h := HS13.out.below hbr.out
        match k, hlt with
        | 0, _ => exact ⟨fr, by omega, by omega, h.cell 0⟩
        | 1, _ => exact ⟨fr + 86400000, by omega, by omega, h.cell 1⟩
        | 2, _ => exact ⟨fr + 8640000000, by omega, by omega, h.cell 2⟩
      have HXr := Lib.hid (HX13.out.below hbr.out)
      have HZr := Lib.hid (HZ13.out.next hbr.out)
      have HYr := Lib.hid (HY13.out.below hbr.out)
      have hok' := Lib.hid (mix_ok fr HOKA.out HOK.out hml)
      have HO1 := Lib.hid (zoneOffset_all na fa A11 c11 (mixZ fr la lb) t wr HZr.out hok'.out (by omega) (by omega))
      have HO2 := Lib.hid (fun W (hW : Below w.heap.size w W) => zoneOffset_all na fa Ab cb lb t W (HZB.out W hW) HOK.out (by omega) (by omega))
      have HNx := Lib.hid (fun W (hW : Below w.heap.size w W) => next_any na fa Ab cb lb (fr - 1) W (HZB.out W hW) HOK.out (by omega) (by omega))
      have hMA := Lib.hid (fun h1 h2 => mix_at fr t HOKA.out HOK.out hml h1 h2)
      have x0 : wr.cell? ⟨g17, 0, none⟩ = some (.string na) := HXr.out.cell 0
      have x1 : wr.cell? ⟨g17, 1, none⟩ = some (.int .i64 fa) := HXr.out.cell 1
      have x2 : wr.cell? ⟨g17, 2, none⟩ = some (.slice A11 (mixZ fr la lb).length c11) := HXr.out.cell 2
      have hxl := HXr.out.lt
      have hgs : gs < wr.heap.size := (HS13.out.below hbr.out).lt
      have HV1 : Hid (∀ L, OffV fa L t = if InstOk t then .tuple #[.int .i64 (offAt fa L t), .string (labAt L t), .int .i64 0] else .tuple #[.int .i64 0, .string ⟨#[]⟩, .int .i64 3]) := fun L => rfl
      rw [HV1.out] at HO1 HO2
      clear HV1
      generalize offAt fa (mixZ fr la lb) t = oa at *
      generalize labAt (mixZ fr la lb) t = ol at *
      generalize offAt fa lb t = pa at *
      generalize labAt lb t = pl at *
      unfold NextQ at HNx
      generalize lb.getD (seg lb (fr - 1)) chg0 = C at *
      have ew : IntKind.i64.wrap (fr - 1) = fr - 1 := IntWalk.i64_in _ (by omega)
      by_cases ht : InstOk t
      · rw [if_pos ht] at HO1 HO2
        clear ht
        go_upto_region 26 with (go_at_call 21; refine HO1.out.mono ?_; rintro e w14 ⟨rfl, hb14⟩)
        have HW14 := Lib.hid (below_then HWr.out hb14)
        have HY14 := Lib.hid (HYr.out.below hb14)
        have HB14 := Lib.hid (below_then hbr.out hb14)
        clear x0 x1 x2 hxl hgs y0 hb14 HO1 HXr HZr HYr
        have c0 : w14.cell? ⟨g + 1, 0, none⟩ = some (.string na) := HY14.out.cell 0
        have c1 : w14.cell? ⟨g + 1, 1, none⟩ = some (.int .i64 fa) := HY14.out.cell 1
        have c2 : w14.cell? ⟨g + 1, 2, none⟩ = some (.slice Ab lb.length cb) := HY14.out.cell 2
        have hgl := HY14.out.lt
        go_upto_region 27 with (go_at_call 21; refine (HO2.out _ HW14.out).mono ?_; rintro e w15 ⟨rfl, hb15⟩)
        have HW15 := Lib.hid (below_then HW14.out hb15)
        have HY15 := Lib.hid (HY14.out.below hb15)
        have HB15 := Lib.hid (below_then HB14.out hb15)
        clear c0 c1 c2 hgl hb15 HO2 HY14 HW14 HB14
        have c0 : w15.cell? ⟨g + 1, 0, none⟩ = some (.string na) := HY15.out.cell 0
        have c1 : w15.cell? ⟨g + 1, 1, none⟩ = some (.int .i64 fa) := HY15.out.cell 1
        have c2 : w15.cell? ⟨g + 1, 2, none⟩ = some (.slice Ab lb.length cb) := HY15.out.cell 2
        have hgl := HY15.out.lt
        go_upto_region 28 with (go_at_call 22; refine (HNx.out _ HW15.out).mono ?_; rintro e w16 ⟨hb16, ⟨_, hsg, rfl⟩ | ⟨E, hE, rfl⟩⟩)
        · have HB17 := Lib.hid ((below_then HB15.out hb16).alloc (below_then HB15.out hb16).size (Obj.cells #[.int .i64 C.a, .int .i64 C.o, .string C.l] 26))
          have hx17 := Box.new w16 26 #[.int .i64 C.a, .int .i64 C.o, .string C.l]
          generalize w16.alloc (Obj.cells #[.int .i64 C.a, .int .i64 C.o, .string C.l] 26) = W17 at *
          generalize w16.heap.size = g27 at *
          have p0 : W17.cell? ⟨g27, 0, none⟩ = some (.int .i64 C.a) := hx17.cell 0
          have pl27 := hx17.lt
          clear hx17 hb16 c0 c1 c2 hgl ew
          by_cases hle : C.a ≤ t
          · obtain ⟨m1, m2⟩ := hMA.out hsg hle
            subst m1 m2
            have t1 : decide (C.a ≤ t) = true := decide_eq_true hle
            clear hle hsg hMA
            go_wp2_with fail
            go_roundw
            case rel => exact ⟨k + 1, by omega, by go_num, HB17⟩
            case measure => simp [intOf]; omega
          · have t1 : decide (C.a ≤ t) = false := decide_eq_false hle
            clear hle hsg hMA
            go_wp2_with fail
            go_roundw
            case rel => exact ⟨k + 1, by omega, by go_num, HB17⟩
            case measure => simp [intOf]; omega
        · have HB17 := Lib.hid ((below_then HB15.out hb16).alloc (below_then HB15.out hb16).size (Obj.cells #[.int .i64 0, .int .i64 0, .string ⟨#[]⟩] 26))
          have tE : (E == 0) = false := by rw [beq_eq_false_iff_ne]; exact hE
          clear hE hb16 c0 c1 c2 hgl ew hMA
          go_wp2_with fail
          go_roundw
          case rel => exact ⟨k + 1, by omega, by go_num, HB17⟩
          case measure => simp [intOf]; omega
      · rw [if_neg ht] at HO1 HO2
        clear ht
        go_upto_region 26 with (go_at_call 21; refine HO1.out.mono ?_; rintro e w14 ⟨rfl, hb14⟩)
        have HW14 := Lib.hid (below_then HWr.out hb14)
        have HY14 := Lib.hid (HYr.out.below hb14)
        have HB14 := Lib.hid (below_then hbr.out hb14)
        clear x0 x1 x2 hxl hgs y0 hb14 HO1 HXr HZr HYr
        have c0 : w14.cell? ⟨g + 1, 0, none⟩ = some (.string na) := HY14.out.cell 0
        have c1 : w14.cell? ⟨g + 1, 1, none⟩ = some (.int .i64 fa) := HY14.out.cell 1
        have c2 : w14.cell? ⟨g + 1, 2, none⟩ = some (.slice Ab lb.length cb) := HY14.out.cell 2
        have hgl := HY14.out.lt
        go_upto_region 27 with (go_at_call 21; refine (HO2.out _ HW14.out).mono ?_; rintro e w15 ⟨rfl, hb15⟩)
        have HW15 := Lib.hid (below_then HW14.out hb15)
        have HY15 := Lib.hid (HY14.out.below hb15)
        have HB15 := Lib.hid (below_then HB14.out hb15)
        clear c0 c1 c2 hgl hb15 HO2 HY14 HW14 HB14
        have c0 : w15.cell? ⟨g + 1, 0, none⟩ = some (.string na) := HY15.out.cell 0
        have c1 : w15.cell? ⟨g + 1, 1, none⟩ = some (.int .i64 fa) := HY15.out.cell 1
        have c2 : w15.cell? ⟨g + 1, 2, none⟩ = some (.slice Ab lb.length cb) := HY15.out.cell 2
        have hgl := HY15.out.lt
        go_upto_region 28 with (go_at_call 22; refine (HNx.out _ HW15.out).mono ?_; rintro e w16 ⟨hb16, ⟨_, hsg, rfl⟩ | ⟨E, hE, rfl⟩⟩)
        · have HB17 := Lib.hid ((below_then HB15.out hb16).alloc (below_then HB15.out hb16).size (Obj.cells #[.int .i64 C.a, .int .i64 C.o, .string C.l] 26))
          have hx17 := Box.new w16 26 #[.int .i64 C.a, .int .i64 C.o, .string C.l]
          generalize w16.alloc (Obj.cells #[.int .i64 C.a, .int .i64 C.o, .string C.l] 26) = W17 at *
          generalize w16.heap.size = g27 at *
          have p0 : W17.cell? ⟨g27, 0, none⟩ = some (.int .i64 C.a) := hx17.cell 0
          have pl27 := hx17.lt
          clear hx17 hb16 c0 c1 c2 hgl ew
          clear hsg hMA
          go_wp2_with fail
          go_roundw
          case rel => exact ⟨k + 1, by omega, by go_num, HB17⟩
          case measure => simp [intOf]; omega
        · have HB17 := Lib.hid ((below_then HB15.out hb16).alloc (below_then HB15.out hb16).size (Obj.cells #[.int .i64 0, .int .i64 0, .string ⟨#[]⟩] 26))
          have tE : (E == 0) = false := by rw [beq_eq_false_iff_ne]; exact hE
          clear hE hb16 c0 c1 c2 hgl ew hMA
          go_wp2_with fail
          go_roundw
          case rel => exact ⟨k + 1, by omega, by go_num, HB17⟩
          case measure => simp [intOf]; omega
    · go_wp2_with fail
      go_ret
      exact ⟨rfl, HWr.out⟩

set_option maxRecDepth 100000 in
theorem walk {H : Type} {enc : TypeId × Value → H} {base : Nat} {W : World} (v0 : Value) (d0 : DataW H) (p0 : List MemPlace) (hv0 : Value.okWide Tryd.prog W .any base 24 v0) (h0 : DataW.Trod enc Tryd.prog W 0 (fun _ => true) true 24 v0 d0 p0)
    (v1 : Value) (d1 : DataW H) (p1 : List MemPlace) (hv1 : Value.okWide Tryd.prog W .any base 24 v1) (h1 : DataW.Trod enc Tryd.prog W 0 (fun _ => true) true 24 v1 d1 p1)
    (a2 : Int) (w2 : (Lit.int .i64 a2).wf = true) (a3 : Int) (w3 : (Lit.int .i64 a3).wf = true) (hL : laidMet Tryd.prog Rows.bureauLastRow.laid W) (hsh : W.ShapedOpen Tryd.prog) :
    Calls Tryd.prog 5 #[v0, v1, .int .i64 a2, .int .i64 a3] W fun e w' => e = .returned (.bool true) ∧ Below W.heap.size W w' := by
  obtain ⟨na, fa, Aa, la, ca, rfl, hza⟩ := zone_open hv0 h0
  obtain ⟨nb, fb, Ab, lb, cb, rfl, hzb⟩ := zone_open hv1 h1
  exact core na fa Aa la ca nb fb Ab lb cb a2 a3 W hza hzb (wf_bounds w2).1 (wf_bounds w2).2 (pow_of hL.tail.tail) (laysM146.s1_3 W hsh)
end Go.Proofs.YtifhlmakacoicaaDoor.bureauLast
