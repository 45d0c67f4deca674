/- Contracts of Free, List and, at a room with the one booking, Drop. -/
import Derived.Test.YtfindembancjdaaRoom4
import Derived.Test.YtfindembancjdaaRoom8
namespace Go.Proofs.Ytfindembancjdaa
open Go.RowKit
set_option linter.unusedVariables false

def ListQ (l : List Bk) (w : World) (e : Ending) (w' : World) : Prop := ∃ A c, e = .returned (.tuple #[.slice A l.length c, .int .i64 0]) ∧ Row w' w'.heap.size A (l.flatMap bkF) ∧ Below w.heap.size w w'
theorem IdxS.same {nms : List ByteArray} {x : ByteArray} {i : Int} {k : Nat} (hi : IdxS nms x i) (hk : IdxS nms x (k : Int)) : i = (k : Int) := by
  rcases hi with ⟨h, h2⟩ | ⟨a, rfl, ha, hat, haf⟩
  · rcases hk with ⟨h3, _⟩ | ⟨a, _, ha, hat, _⟩
    · omega
    · rw [h2 a ha] at hat; cases hat
  · have := IdxS.one (.inr ⟨a, rfl, ha, hat, haf⟩) hk
    omega

set_option maxHeartbeats 1000000 in
set_option maxRecDepth 100000 in
theorem rlist_any {base g gB : Nat} {An : Option Addr} {cn : Nat} {nms : List ByteArray} {vs : List Value} {ls : List (List Bk)} (x : ByteArray) (k : Nat) (w : World) (h : Rms w base g gB An cn nms vs ls) (hn : nms.length ≤ 20) (hk : k < nms.length) (hx : IdxS nms x (k : Int)) (hl : (ls.getD k []).length ≤ 1000) :
    Calls Try.prog 26 #[.pointer (some ⟨g, 0, none⟩), .string x] w (ListQ (ls.getD k []) w) := by
  have HF := Lib.hid (find_any x w h hn)
  have HX := Lib.hid hx
  obtain ⟨A, c, hv, hcn, hcm⟩ := own_form (h.rows k hk)
  have x1 : w.cell? ⟨g, 1, none⟩ = some (.slice (some ⟨gB, 0, none⟩) nms.length nms.length) := h.bx.cell 1
  have x2 : w.cell? ⟨gB, k, none⟩ = some (.slice A (ls.getD k []).length c) := by
    rw [h.bk.cell k, ← hv]
    have : k < vs.length := by rw [h.lv]; exact hk
    simp [List.getD, List.getElem?_eq_getElem this]
  have HC := Lib.hid (clone_bks base _ (ls.getD k []) w (h.rows k hk) (by omega))
  rw [hv] at HC
  have kk0 : (0 : Int) ≤ (k : Int) := by omega
  have kk1 : (k : Int) < (nms.length : Int) := by omega
  clear h hx hv hcn hcm
  generalize ls.getD k [] = l at *
  go_enter Try.func26, Try.ntmps26
  go_wp2_with fail
  refine HF.out.mono ?_
  rintro e w' ⟨i, rfl, hi, rfl⟩
  obtain rfl : i = (k : Int) := hi.same HX.out
  clear hi
  have k0 : ¬ ((k : Int) < 0) := by omega
  have t0 : decide ((k : Int) < 0) = false := decide_eq_false k0
  go_wp2_with fail
  refine HC.out.mono ?_
  rintro e w1 ⟨A1, c1, rfl, hr, hb⟩
  have HR := Lib.hid hr
  have HB := Lib.hid hb
  clear hr hb HC
  go_wp2_with fail
  go_ret2
  exact ⟨A1, c1, rfl, HR.out, HB.out⟩

def FreeQ (l : List Bk) (fr tt : Int) (w : World) (e : Ending) (w' : World) : Prop := ∃ (r : Bool) (E : Int), e = .returned (.tuple #[.bool r, .int .i64 E]) ∧ (E = 0 ↔ InstOk fr ∧ InstOk tt ∧ fr < tt) ∧ (E = 0 → r = !(l.any (fun x => x.over fr tt))) ∧ Below w.heap.size w w'
set_option maxHeartbeats 1000000 in
set_option maxRecDepth 100000 in
theorem free_room {base g gB : Nat} {An : Option Addr} {cn : Nat} {nms : List ByteArray} {vs : List Value} {ls : List (List Bk)} (x : ByteArray) (k : Nat) (fr tt : Int) (w : World) (h : Rms w base g gB An cn nms vs ls) (hn : nms.length ≤ 20) (hk : k < nms.length) (hx : IdxS nms x (k : Int)) (hl : (ls.getD k []).length ≤ 1000)
    (h1 : -9223372036854775808 ≤ fr) (h2 : fr ≤ 9223372036854775807) (h3 : -9223372036854775808 ≤ tt) (h4 : tt ≤ 9223372036854775807) :
    Calls Try.prog 27 #[.pointer (some ⟨g, 0, none⟩), .string x, .int .i64 fr, .int .i64 tt] w (FreeQ (ls.getD k []) fr tt w) := by
  have HF := Lib.hid (find_any x w h hn)
  have HX := Lib.hid hx
  have HS := Lib.hid (fun w => stretch_any fr tt w h1 h2 h3 h4)
  have HT := Lib.hid (fun W hW => taken_any k fr tt W (h.next hW) hn hk hl)
  clear h hx
  generalize ls.getD k [] = l at *
  go_enter Try.func27, Try.ntmps27
  go_wp2_with fail
  refine HF.out.mono ?_
  rintro e w' ⟨i, rfl, hi, rfl⟩
  obtain rfl : i = (k : Int) := hi.same HX.out
  clear hi
  have k0 : ¬ ((k : Int) < 0) := by omega
  have t0 : decide ((k : Int) < 0) = false := decide_eq_false k0
  go_wp2_with fail
  refine (HS.out _).mono ?_
  rintro e w' ⟨E, rfl, hE, n, rfl⟩
  have HE := Lib.hid hE
  have HB1 := Lib.hid (below_drewN w n)
  have HT2 := Lib.hid (HT.out _ HB1.out)
  clear hE HS HT
  generalize w.drewN n = w1 at *
  by_cases e0 : E = 0
  · subst e0
    have HST := Lib.hid (HE.out.1 rfl)
    clear HE
    go_wp2_with fail
    refine HT2.out.mono ?_
    rintro e w2 ⟨rfl, hb⟩
    have HB2 := Lib.hid (below_then HB1.out hb)
    clear hb HT2
    go_wp2_with fail
    go_ret2
    exact ⟨_, 0, rfl, ⟨fun _ => HST.out, fun _ => rfl⟩, fun _ => rfl, HB2.out⟩
  · have HE0 := Lib.hid e0
    go_wp2_with fail
    go_ret2
    exact ⟨false, E, rfl, HE.out, fun h => absurd h HE0.out, HB1.out⟩

set_option maxHeartbeats 1000000 in
set_option maxRecDepth 100000 in
theorem indexFunc_one (g : Nat) (cb : Array Value) (S : World → Prop) (A : Option Addr) (c : Nat) (b : Bk) (w : World) (hS : S w) (eg : ∀ args w, (callFunc g args).run Try.prog w = .ok (.enter g args) w)
    (hr : ∀ W, S W → Row W W.heap.size A (bkF b))
    (hf : ∀ W, S W → Calls Try.prog g (#[Bk.val b] ++ cb) W fun e w' => e = .returned (.bool true) ∧ S w') :
    Calls Try.prog 60 #[.slice A 1 c, .func (.func g) #[] cb] w fun e w' => e = .returned (.int .i64 0) ∧ S w' := by
  have HF := Lib.hid hf
  have HRr := Lib.hid hr
  have HS := Lib.hid hS
  clear hf hr hS
  go_enter Try.func60, Try.ntmps60
  go_wp2_with fail
  go_loopw [5, 8] (fun _ i wr => i = .int .i64 0 ∧ Hid (S wr)) (fun _ i _ => 1 - (intOf i).toNat)
  case atStart => exact ⟨rfl, HS⟩
  case round =>
    obtain ⟨rfl, HSr⟩ := hrel
    obtain ⟨b0, o, rfl, _, hcs⟩ := (HRr.out _ HSr.out).open_ (by simp [bkF])
    have hc0 := hcs 0 _ rfl
    have hc1 := hcs 1 _ rfl
    have hc2 := hcs 2 _ rfl
    have hc3 := hcs 3 _ rfl
    rw [Nat.add_zero] at hc0
    have HCl := Lib.hid (HF.out _ HSr.out)
    clear hcs
    go_wp2_with (go_at_fn g; refine HCl.out.mono ?_; rintro e w' ⟨rfl, hs'⟩)
    go_ret
    exact ⟨rfl, hs'⟩

set_option maxRecDepth 100000 in
theorem drop_fn (g1 : Nat) (fr : Int) (x : Bk) (W : World) (h1 : W.cell? ⟨g1, 0, none⟩ = some (.int .i64 fr)) (hx : x.fr = fr) :
    Calls Try.prog 61 (#[x.val] ++ #[.pointer (some ⟨g1, 0, none⟩)]) W fun e w' => e = .returned (.bool true) ∧ Below W.heap.size W w' := by
  have l1 : g1 < W.heap.size := block_lt_of_cell h1
  have q1 : (W.alloc (Obj.cells x.cells 55)).cell? ⟨g1, 0, none⟩ = some (.int .i64 fr) := ((below_alloc1 W _).cell (p := ⟨g1, 0, none⟩) l1).trans h1
  have HB := Lib.hid (below_alloc1 W (Obj.cells x.cells 55))
  subst hx
  go_enter Try.func61, Try.ntmps61
  go_wp2_with fail
  go_ret
  exact ⟨rfl, HB.out⟩

def DropQ (base g gB : Nat) (An : Option Addr) (cn : Nat) (nms : List ByteArray) (ls : List (List Bk)) (k : Nat) (w : World) (e : Ending) (w' : World) : Prop :=
  ∃ (vs' : List Value), e = .returned (.int .i64 0) ∧ Rms w' base g gB An cn nms vs' (ls.set k []) ∧ Below base w w' ∧ w.heap.size ≤ w'.heap.size
set_option maxHeartbeats 1000000 in
set_option maxRecDepth 100000 in
theorem drop_one {base g gB : Nat} {An : Option Addr} {cn : Nat} {nms : List ByteArray} {vs : List Value} {ls : List (List Bk)} (x : ByteArray) (k : Nat) (b : Bk) (fr : Int) (w : World) (h : Rms w base g gB An cn nms vs ls) (hn : nms.length ≤ 20) (hgB : base ≤ gB) (hbase : base ≤ w.heap.size) (hk : k < nms.length) (hx : IdxS nms x (k : Int)) (hl : ls.getD k [] = [b]) (hfr : b.fr = fr) :
    Calls Try.prog 25 #[.pointer (some ⟨g, 0, none⟩), .string x, .int .i64 fr] w (DropQ base g gB An cn nms ls k w) := by
  have HW := Lib.hid (below_alloc1 w (Obj.cells #[.int .i64 fr] 3))
  have hX := Box.new w 3 #[.int .i64 fr]
  have H1 := Lib.hid (h.next HW.out)
  have HXb := Lib.hid hX
  have HF := Lib.hid (find_any x _ H1.out hn)
  have HX := Lib.hid hx
  have HFR := Lib.hid hfr
  have HLQ := Lib.hid hl
  clear h hX hx hfr hl
  go_enter Try.func25, Try.ntmps25
  go_wp2_with fail
  refine HF.out.mono ?_
  rintro e w' ⟨i, rfl, hi, rfl⟩
  obtain rfl : i = (k : Int) := hi.same HX.out
  clear hi
  have k0 : ¬ ((k : Int) < 0) := by omega
  have t0 : decide ((k : Int) < 0) = false := decide_eq_false k0
  have kk0 : (0 : Int) ≤ (k : Int) := by omega
  have kk1 : (k : Int) < (nms.length : Int) := by omega
  generalize hw1 : w.alloc (Obj.cells #[.int .i64 fr] 3) = w1 at *
  generalize hgb : w.heap.size = gb at *
  obtain ⟨A, c, hv, hcn, hcm⟩ := own_form (H1.out.rows k hk)
  have hown := H1.out.rows k hk
  rw [HLQ.out] at hv hown
  rw [hv] at hown
  obtain ⟨gr, rfl, hgr1, hgr2⟩ : ∃ gr, A = some ⟨gr, 0, none⟩ ∧ base ≤ gr ∧ gr < w1.heap.size := by
    rcases hown.2 with ⟨hn, h0⟩ | ⟨g, cap, cur, hv, hbg, rest⟩
    · cases h0
    · injection hv with e1 e2 e3
      exact ⟨g, e1, hbg, (own_lt hown g (by rw [e1]; rfl)).2⟩
  have HV := Lib.hid hv
  have HOWN := Lib.hid hown
  have x1 : w1.cell? ⟨g, 1, none⟩ = some (.slice (some ⟨gB, 0, none⟩) nms.length nms.length) := H1.out.bx.cell 1
  have x2 : w1.cell? ⟨gB, k, none⟩ = some (.slice (some ⟨gr, 0, none⟩) 1 c) := by
    rw [H1.out.bk.cell k]
    have hh := HV.out
    have : k < vs.length := by rw [H1.out.lv]; exact hk
    simp only [List.getD, List.getElem?_eq_getElem this, Option.getD_some] at hh
    simp [List.getElem?_eq_getElem this, hh]
  have HROW := Lib.hid (row_ownB hown)
  have HC := Lib.hid (indexFunc_one 61 #[.pointer (some ⟨gb, 0, none⟩)] (Below w1.heap.size w1) (some ⟨gr, 0, none⟩) c b w1 (Below.refl _ _) (fun _ _ => rfl) (fun W hW => by have := HROW.out.next hW; simpa using this)
    (fun W hW => (drop_fn gb fr b W ((HXb.out.below hW).cell 0) HFR.out).mono fun e w' ⟨he, hb⟩ => ⟨he, below_then hW hb⟩))
  clear hv hown
  go_wp2_with fail
  refine HC.out.mono ?_
  rintro e w2 ⟨rfl, hb2⟩
  have HB2 := Lib.hid hb2
  have HM := Lib.hid (H1.out.next hb2)
  have HOW2 := Lib.hid (own_next HOWN.out hb2)
  clear hb2 HC x1 x2
  go_upto_region 7 with fail
  have hrl : ∀ bb, (some gr : Option Nat) = some bb → bb < w2.heap.size := fun bb h => by
    have := Option.some.inj h
    have := (own_lt HOW2.out gr rfl).2
    omega
  have hk1 : gr ≠ g := fun e => by
    obtain ⟨cur, hcc⟩ := own_kind HOW2.out (b := gr) rfl
    exact HM.out.bx.other hcc (by decide) e.symm
  have hk2 : gr ≠ gB := fun e => by
    obtain ⟨cur, hcc⟩ := own_kind HOW2.out (b := gr) rfl
    exact HM.out.bk.other hcc (by decide) e.symm
  have c1 : ∀ W, w2.grownBy W (some gr) → W.cell? ⟨g, 1, none⟩ = some (.slice (some ⟨gB, 0, none⟩) nms.length nms.length) := fun W hW => (HM.out.bx.grown hW (fun e => hk1 (Option.some.inj e).symm)).cell 1
  have hkv : k < vs.length := by rw [HM.out.lv]; exact hk
  have hvk : vs[k] = .slice (some ⟨gr, 0, none⟩) 1 c := by
    have hh := HV.out
    simp only [List.getD, List.getElem?_eq_getElem hkv, Option.getD_some] at hh
    exact hh
  have c2 : ∀ W, w2.grownBy W (some gr) → W.cell? ⟨gB, k, none⟩ = some (.slice (some ⟨gr, 0, none⟩) 1 c) := fun W hW => by
    rw [(HM.out.bk.grown hW (fun e => hk2 (Option.some.inj e).symm)).cell k]
    simp [List.getElem?_eq_getElem hkv, hvk]
  clear hvk hk1 hk2
  refine flowG_begin_tail 17 15 (some gr) (tellOf [(15, ⟨fun v => v = .slice (some ⟨gr, 0, none⟩) 0 c, fun v W => W.ownsRow base 55 4 v 0 []⟩)]) (by kernel_rfl) (by kernel_rfl) ?_
  simp only [List.take_succ_cons, List.take_zero, List.drop_succ_cons, List.drop_zero]
  repeat (first | (refine flowG_val (v := ?_) (by rfl) (by rfl) (fun w hb => ?_) ?_; rotate_left; (· ((go_simp) <;> ((repeat' apply And.intro) <;> with_reducible rfl))); try simp only [Act.put, List.setIfInBounds_toArray, List.set_cons_zero, List.set_cons_succ, Nat.reduceAdd]) | (refine flowG_skip (by rfl) (by rfl) ?_; try simp only [Act.put, List.setIfInBounds_toArray, List.set_cons_zero, List.set_cons_succ, Nat.reduceAdd]))
  refine flowG_call (f := ?_) (args := ?_) [] (by kernel_rfl) (by rfl) (by rfl) (by rfl) ?_ ?_ (fun w hb => ?_) (fun w hb hu => ?_) ?_; rotate_left 4; (· ((go_simp) <;> ((repeat' apply And.intro) <;> with_reducible rfl)))
  · have hbe := hb
    have how := own_next HOW2.out hb
    rcases how.2 with ⟨_, h0⟩ | ⟨g', cap, cur, hv', hbg, hg, h1', h2', h3', _⟩
    · cases h0
    · injection hv' with e1 e2 e3
      injection e1 with e1
      injection e1 with e1
      subst e1 e3
      refine (delete_one base gr c cur w hg h3' h1' h2' hbg).mono fun e w' ⟨he, ho, hgw⟩ => ⟨_, he, rfl, ho, hgw⟩
  · rintro v rfl
    try simp only [Act.put, List.setIfInBounds_toArray, List.set_cons_zero, List.set_cons_succ, Nat.reduceAdd]
    repeat (first | (refine flowG_val (v := ?_) (by rfl) (by rfl) (fun w hb => ?_) ?_; rotate_left; (· ((go_simp) <;> ((repeat' apply And.intro) <;> with_reducible rfl))); try simp only [Act.put, List.setIfInBounds_toArray, List.set_cons_zero, List.set_cons_succ, Nat.reduceAdd]) | (refine flowG_skip (by rfl) (by rfl) ?_; try simp only [Act.put, List.setIfInBounds_toArray, List.set_cons_zero, List.set_cons_succ, Nat.reduceAdd]))
    refine flowG_nil fun w5 hg5 hf => ?_
    have hgv : (vs.getD k undef).ownBlock = some gr := by rw [HV.out]; rfl
    have RP := Lib.hid (HM.out.put k hk (by rw [hgv]; exact hg5) [] _ hf.1 (fun bb h => .inl (by rw [hgv]; exact h)))
    have RB := Lib.hid (HM.out.put_below hgB k hk (by rw [hgv]; exact hg5) (by have := HB2.out.size; have := HW.out.size; omega) (.slice (some ⟨gr, 0, none⟩) 0 c))
    have hbk5 := HM.out.bk.grown hg5 (fun e => by
      obtain ⟨cur, hcc⟩ := own_kind HOW2.out (b := gr) rfl
      exact HM.out.bk.other hcc (by decide) (Option.some.inj e))
    have xk : w5.cell? ⟨gB, k, none⟩ = some vs[k] := by
      rw [hbk5.cell k]
      simp [hkv]
    have xf : w5.frozen? ⟨gB, k, none⟩ = false := hbk5.free k
    have RSZ : w.heap.size ≤ (w5.setCell ⟨gB, k, none⟩ (.slice (some ⟨gr, 0, none⟩) 0 c)).heap.size := by
      have h1 := HB2.out.size
      have h2 := hg5.size
      have h3 := HW.out.size
      rw [World.size_setCell]
      omega
    have BASE : Below base w w2 := HW.out.mono (by omega) |>.trans (HB2.out.mono (by have := HW.out.size; omega))
    clear hf hg5 c1 c2 hrl hbk5 hgv
    generalize vs[k] = vk at *
    refine wpList_step fun K hK => ?_
    rw [if_pos (by rfl)]
    go_simp
    refine hK _ _ (wpList_nil ?_)
    go_wp2_with fail
    go_ret
    exact ⟨vs.set k (.slice (some ⟨gr, 0, none⟩) 0 c), rfl, RP.out, BASE.trans RB.out, RSZ⟩
  · exact ⟨_, rfl⟩
  · exact fun v w w' hb ho => own_next ho hb
end Go.Proofs.Ytfindembancjdaa
