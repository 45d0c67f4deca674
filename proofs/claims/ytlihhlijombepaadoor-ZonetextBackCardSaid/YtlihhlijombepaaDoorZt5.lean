/- Contract of zonetext.row at a line of a change that was written. -/
import Derived.Test.YtlihhlijombepaaDoorZt4
import Derived.Test.YtlihhlijombepaaDoorFlowA
import Derived.Deep.DeepCutAuto
import Derived.BigQuiet
namespace Go.Proofs.YtlihhlijombepaaDoor
open Go.RowKit
set_option linter.unusedVariables false

def RowAtQ (gz : Nat) (nm : ByteArray) (first : Int) (n : Nat) (xs : List Value) (w : World) (e : Ending) (w' : World) : Prop :=
  ∃ (A : Option Addr) (c : Nat), e = .returned (.bool true) ∧ Box w' gz 24 #[.string nm, .int .i64 first, .slice A (n + 1) c] ∧ w'.ownsRow (gz + 1) 26 3 (.slice A (n + 1) c) (n + 1) xs ∧ Below gz w w'
set_option maxHeartbeats 2000000 in
set_option maxRecDepth 100000 in
theorem row_at (gz : Nat) (nm : ByteArray) (first : Int) (A : Option Addr) (n c : Nat) (xs : List Value) (d ms o : Int) (l : ByteArray) (w : World) (hx : Box w gz 24 #[.string nm, .int .i64 first, .slice A n c])
    (hown : w.ownsRow (gz + 1) 26 3 (.slice A n c) n xs) (hn : n ≤ 10000) (hd1 : -4000000 ≤ d) (hd2 : d ≤ 4000000) (hm1 : 0 ≤ ms) (hm2 : ms < 86400000) (ho : OffOk o) (hl : LabelOk l) (hsh : Shp w) (hp : Pow w) :
    Calls Tryd.prog 88 #[.pointer (some ⟨gz, 0, none⟩), .string (str (lineW d ms o l)), .bool false] w (RowAtQ gz nm first n (xs ++ [.int .i64 (d * 86400000 + ms), .int .i64 o, .string l]) w) := by
  obtain ⟨i0, hi0, hz0, hz1, hz2⟩ := info_parts chg_info
  have hll : l.data.toList.length = l.size := Array.length_toList
  have l1 := itoa_len d 8 (Nat.lt_of_lt_of_le (show _ < 100000000 by omega) (by decide)) (by omega)
  have l2 := itoa_len ms 8 (Nat.lt_of_lt_of_le (show _ < 100000000 by omega) (by decide)) (by omega)
  have HS := Lib.hid (splitw_any 32 [97, 116] [Lib.itoa d, Lib.itoa ms, offL o, l.data.toList] (fun x hx b hb => by
    simp at hx
    rcases hx with rfl | rfl | rfl | rfl | rfl
    · revert b; decide
    · exact (plain_itoa d b hb).1
    · exact (plain_itoa ms b hb).1
    · exact (plain_off o ho b hb).1
    · exact (plain_label l hl b hb).1) (by simp [joinW, offL_len, hll]; have := hl.2.2; omega) w hsh)
  have HO := Lib.hid (fun W => readOff_yes o W ho)
  have HN1 := Lib.hid (fun W (hW : Below w.heap.size w W) => number_yes d W (by omega) (hp.next hW))
  have HN2 := Lib.hid (fun W (hW : Below w.heap.size w W) => number_yes ms W (by omega) (hp.next hW))
  rw [show ([[97, 116], Lib.itoa d, Lib.itoa ms, offL o, l.data.toList].map str).map Value.string = [.string ⟨#[97, 116]⟩, .string (str (Lib.itoa d)), .string (str (Lib.itoa ms)), .string (str (offL o)), .string l] from by simp [str_own]; rfl, show [Lib.itoa d, Lib.itoa ms, offL o, l.data.toList].length + 1 = 5 from rfl] at HS
  unfold RowAtQ
  unfold lineW
  generalize str (joinW 32 [97, 116] [Lib.itoa d, Lib.itoa ms, offL o, l.data.toList]) = S at *
  generalize str (Lib.itoa d) = sd at *
  generalize str (Lib.itoa ms) = sm at *
  generalize str (offL o) = so at *
  have HX := Lib.hid hx
  have HW := Lib.hid hown
  obtain ⟨_, o1, o2⟩ := ho
  have t1 : decide (ms < 0) = false := decide_eq_false (by omega)
  have t2 : decide (86400000 ≤ ms) = false := decide_eq_false (by omega)
  clear hsh hx hll hp hl hown l1 l2
  go_enter Tryd.func88, Tryd.ntmps88
  go_wp2_with fail
  refine HS.out.mono ?_
  rintro e w1 ⟨rfl, hw1⟩
  have hp : Box w1 w.heap.size 9 #[.string ⟨#[97, 116]⟩, .string sd, .string sm, .string so, .string l] := by rw [hw1]; exact Box.new _ _ _
  have HB1 : Hid (Below w.heap.size w w1) := by rw [hw1]; exact below_alloc1 _ _
  generalize hgp : w.heap.size = gp at *
  have HGP := Lib.hid hgp
  have hgz : gz < gp := by rw [← hgp]; exact HX.out.lt
  clear hw1 hgp HS
  have hl1 : gp < w1.heap.size := hp.lt
  have y0 : w1.cell? ⟨gp, 0, none⟩ = some (.string ⟨#[97, 116]⟩) := hp.cell 0
  have y1 : w1.cell? ⟨gp, 1, none⟩ = some (.string sd) := hp.cell 1
  have HP1 := Lib.hid hp
  clear hp
  go_wp2_with fail
  refine (HN1.out _ HB1.out).mono ?_
  rintro e w2 ⟨rfl, hb⟩
  have HB2 := Lib.hid (HB1.out.trans (hb.mono (by omega)))
  have HP2 := Lib.hid (HP1.out.below hb)
  clear hb HB1 HP1 y0 y1 hl1
  have hl2 : gp < w2.heap.size := HP2.out.lt
  have y2 : w2.cell? ⟨gp, 2, none⟩ = some (.string sm) := HP2.out.cell 2
  go_wp2_with fail
  refine (HN2.out _ HB2.out).mono ?_
  rintro e w3 ⟨rfl, hb⟩
  have HB3 := Lib.hid (HB2.out.trans (hb.mono (by omega)))
  have HP3 := Lib.hid (HP2.out.below hb)
  clear hb HB2 HP2 y2 hl2
  have hl3 : gp < w3.heap.size := HP3.out.lt
  have y3 : w3.cell? ⟨gp, 3, none⟩ = some (.string so) := HP3.out.cell 3
  go_wp2_with fail
  refine (HO.out _).mono ?_
  rintro e w4 ⟨rfl, hb⟩
  have HB4 := Lib.hid (HB3.out.trans (hb.mono (by omega)))
  have HP4 := Lib.hid (HP3.out.below hb)
  have HX4 := Lib.hid (HX.out.below (w' := w4) (by rw [HGP.out]; exact HB4.out))
  have HW4 := Lib.hid (own_next HW.out (w' := w4) (by rw [HGP.out]; exact HB4.out))
  clear hb HB3 HP3 y3 hl3 HX HW
  have e1 : IntKind.i64.wrap (d * 86400000) = d * 86400000 := IntWalk.i64_in _ (by omega)
  have e2 : IntKind.i64.wrap (d * 86400000 + ms) = d * 86400000 + ms := IntWalk.i64_in _ (by omega)
  go_upto_region 15 with (go_at_call 94; refine (is_yes _ _ (by omega) (by omega)).mono ?_; rintro e w' ⟨rfl, rfl⟩)
  have c2 : ∀ W, Below w4.heap.size w4 W → W.cell? ⟨gz, 2, none⟩ = some (.slice A n c) := fun W hW => (HX4.out.below hW).cell 2
  have c4 : ∀ W, Below w4.heap.size w4 W → W.cell? ⟨gp, 4, none⟩ = some (.string l) := fun W hW => (HP4.out.below hW).cell 4
  have hW4 := HW4.out
  have hX5 := HX4.out
  have hB4 := HB4.out
  have hbl : ∀ b, (Value.slice A n c).ownBlock = some b → b < w4.heap.size := fun b hb => (own_lt hW4 b hb).2
  have d2 : ∀ W, w4.grownBy W (Value.slice A n c).ownBlock → W.cell? ⟨gz, 2, none⟩ = some (.slice A n c) := fun W hW => (hX5.grown hW (fun e => by have := own_lt hW4 gz e.symm; omega)).cell 2
  have d4 : ∀ W, w4.grownBy W (Value.slice A n c).ownBlock → W.cell? ⟨gp, 4, none⟩ = some (.string l) := fun W hW => (HP4.out.grown hW (fun e => ownApart hW4 HP4.out (by decide) gp e.symm rfl)).cell 4
  clear c2 c4
  refine flowG_begin_tail 18 15 (Value.slice A n c).ownBlock (tellOf []) (by kernel_rfl) (by kernel_rfl) ?_
  simp only [List.take_succ_cons, List.take_zero, List.drop_succ_cons, List.drop_zero]
  repeat (first | (refine flowG_val (v := ?_) (by rfl) (by rfl) (fun w hb => ?_) ?_; rotate_left; (· ((go_simp) <;> ((repeat' apply And.intro) <;> with_reducible rfl))); try simp only [Act.put, List.setIfInBounds_toArray, List.set_cons_zero, List.set_cons_succ, Nat.reduceAdd]) | (refine flowG_skip (by rfl) (by rfl) ?_; try simp only [Act.put, List.setIfInBounds_toArray, List.set_cons_zero, List.set_cons_succ, Nat.reduceAdd]))
  refine flowG_lits (n := ?_) (c := ?_) (t := ?_) (cs := ?_) hbl (by rfl) (by rfl) (fun w hb => ?_) (fun g14 hg14 => ?_); rotate_left 4; (· ((go_simp) <;> ((repeat' apply And.intro) <;> with_reducible rfl))); try simp only [Act.put, List.setIfInBounds_toArray, List.set_cons_zero, List.set_cons_succ, Nat.reduceAdd]
  refine flowG_app [14] (by kernel_rfl) rfl (by rfl) (by rfl) (.tmp 103) (.tmp 113) 22 rfl (gz + 1) 26 i0 (.agg #[.int .i64 0, .int .i64 0, .string ⟨#[]⟩]) 3 32 Tryd.underlying22 hi0 hz0 hz1 hz2 rfl (by decide) (.slice A n c) n xs rfl rfl hW4 (by have := hX5.lt; omega) ⟨g14, 0, none⟩ 1 1 [.int .i64 (d * 86400000 + ms), .int .i64 o, .string l] rfl rfl (fun w hb hu => World.news_of_block (cs := #[.int .i64 (d * 86400000 + ms), .int .i64 o, .string l]) (t := 26) (fr := (0, 0)) (usef_head hu)) (by simp [Value.oneCell']) (by simp only [maxLen]; omega) (by omega) fun A15 cap => ?_
  try simp only [Act.put, List.setIfInBounds_toArray, List.set_cons_zero, List.set_cons_succ, Nat.reduceAdd]
  repeat (first | (refine flowG_val (v := ?_) (by rfl) (by rfl) (fun w hb => ?_) ?_; rotate_left; (· ((go_simp) <;> ((repeat' apply And.intro) <;> with_reducible rfl))); try simp only [Act.put, List.setIfInBounds_toArray, List.set_cons_zero, List.set_cons_succ, Nat.reduceAdd]) | (refine flowG_skip (by rfl) (by rfl) ?_; try simp only [Act.put, List.setIfInBounds_toArray, List.set_cons_zero, List.set_cons_succ, Nat.reduceAdd]))
  refine flowG_nil fun w6 hgrow hf => ?_
  have hown6 : w6.ownsRow (gz + 1) 26 3 (.slice A15 (n + 1) cap) (n + 1) (xs ++ [.int .i64 (d * 86400000 + ms), .int .i64 o, .string l]) := hf.1
  have hne : some gz ≠ (Value.slice A n c).ownBlock := fun e => by have := own_lt hW4 gz e.symm; omega
  have hx6 := hX5.grown hgrow hne
  have hb6 : Below gz w w6 := (hB4.mono (by omega)).grown hgrow (by have := hX5.lt; omega) (fun k hk => by have := own_lt hW4 k hk; omega)
  have hg6 : gz < w6.heap.size := hx6.lt
  have hf6 : w6.frozen? ⟨gz, 2, none⟩ = false := hx6.free 2
  have hc6 : w6.cell? ⟨gz, 2, none⟩ = some (.slice A n c) := hx6.cell 2
  have HX7 : Hid (Box (w6.setCell ⟨gz, 2, none⟩ (.slice A15 (n + 1) cap)) gz 24 #[.string nm, .int .i64 first, .slice A15 (n + 1) cap]) := hx6.set_ 2 _
  have HO7 : Hid ((w6.setCell ⟨gz, 2, none⟩ (.slice A15 (n + 1) cap)).ownsRow (gz + 1) 26 3 (.slice A15 (n + 1) cap) (n + 1) (xs ++ [.int .i64 (d * 86400000 + ms), .int .i64 o, .string l])) := own_heap hown6 fun b hb => by
    have h := ownApart hown6 hx6 (by decide) b hb
    rw [Below.heap_setCell _ _ _ b h]
  have HB7 := Lib.hid (hb6.setCell (p := ⟨gz, 2, none⟩) (Nat.le_refl _) (.slice A15 (n + 1) cap))
  clear hown6 hgrow hne hx6 hb6 hX5 hW4 hB4 hf d2 d4
  refine wpList_step fun K hK => ?_
  rw [if_pos (by rfl)]
  go_simp
  refine hK _ _ (wpList_nil ?_)
  clear hK K hg6 hf6 hc6
  generalize w6.setCell ⟨gz, 2, none⟩ (.slice A15 (n + 1) cap) = W7 at *
  go_wp2_with fail
  go_ret
  exact ⟨_, _, rfl, HX7.out, HO7.out, HB7.out⟩
end Go.Proofs.YtlihhlijombepaaDoor
