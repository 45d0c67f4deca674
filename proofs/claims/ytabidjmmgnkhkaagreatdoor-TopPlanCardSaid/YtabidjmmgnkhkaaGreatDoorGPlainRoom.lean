/- Room1, Room2, Room3, Room4, Room8, Room9, Room6, Room5, PlainRoom, Room7, BkArg -/
import Derived.Test.YtabidjmmgnkhkaaGreatDoorGIns1
import Derived.Test.YtabidjmmgnkhkaaGreatDoorGSliceFind
/- Contracts of package rooms: stretch, taken; slices.IndexFunc, ContainsFunc at []Booking. -/
namespace Go.Proofs.YtabidjmmgnkhkaaGreatDoor
open Go.RowKit
set_option linter.unusedVariables false
set_option maxHeartbeats 1000000 in
set_option maxRecDepth 100000 in
theorem indexFunc_bks (g : Nat) (cb : Array Value) (p : Bk → Bool) (S : World → Prop) (A : Option Addr) (c : Nat) (l : List Bk) (w : World) (hS : S w) (hl : l.length ≤ 1000000) (eg : ∀ args w, (callFunc g args).run Tryz.prog w = .ok (.enter g args) w)
  (hr : ∀ W, S W → Row W W.heap.size A (l.flatMap bkF))
  (hf : ∀ W x, S W → Calls Tryz.prog g (#[Bk.val x] ++ cb) W fun e w' => e = .returned (.bool (p x)) ∧ S w') :
  Calls Tryz.prog 95 #[.slice A l.length c, .func (.func g) #[] cb] w (IsIdxF (l.any p = true) S) := by
 have HF := Lib.hid hf
 have HRr := Lib.hid hr
 have HS := Lib.hid hS
 obtain ⟨P, hP⟩ : ∃ P : Prop, P = (l.any p = true) := ⟨_, rfl⟩
 rw [← hP]
 have HP := Lib.hid hP
 clear hP hf hr hS
 go_enter Tryz.func95, Tryz.ntmps95
 go_wp2_with fail
 go_loopw [5, 8] (fun _ i wr => ∃ k : Nat, k ≤ l.length ∧ i = .int .i64 (k : Int) ∧ Hid (∀ j, j < k → p (l.getD j bk0) = false) ∧ Hid (S wr)) (fun _ i _ => l.length - (intOf i).toNat)
 case atStart => exact ⟨0, by omega, rfl, fun j hj => by omega, HS⟩
 case round =>
  obtain ⟨k, hk, rfl, hall, HSr⟩ := hrel
  by_cases hlt : k < l.length
  ·obtain ⟨b, o, rfl, _, hcs⟩ := (HRr.out _ HSr.out).open_ (flat_ne bkF_len (by omega) l (by omega))
   have hc0 := flat_cell bkF_len bk0 hcs k 0 hlt (by omega) _ rfl
   have hc1 := flat_cell bkF_len bk0 hcs k 1 hlt (by omega) _ rfl
   have hc2 := flat_cell bkF_len bk0 hcs k 2 hlt (by omega) _ rfl
   have hc3 := flat_cell bkF_len bk0 hcs k 3 hlt (by omega) _ rfl
   have hmem : Hid (l.getD k bk0 ∈ l) := by unfold Hid; simp [List.getD, List.getElem?_eq_getElem hlt]
   have HX : Hid (p (l.getD k bk0) = false → ∀ j, j < k + 1 → p (l.getD j bk0) = false) := fun h j hj => by
    by_cases e : j = k
    ·subst e; exact h
    ·exact hall.out j (by omega)
   have hcall := HF.out _ (l.getD k bk0) HSr.out
   clear hcs
   generalize l.getD k bk0 = y at *
   rw [Nat.add_zero] at hc0
   cases hp : p y <;> rw [hp] at hcall
   ·have HPy := Lib.hid hp
    clear hp
    have HCl := Lib.hid hcall
    clear hcall
    go_wp2_with (go_at_fn g; refine HCl.out.mono ?_; rintro e w' ⟨rfl, hs'⟩)
    go_roundw
    case rel => exact ⟨k + 1, by omega, by go_num, HX.out HPy.out, hs'⟩
    case measure => simp [intOf]; omega
   ·have HPy := Lib.hid hp
    clear hp
    have HCl := Lib.hid hcall
    clear hcall
    go_wp2_with (go_at_fn g; refine HCl.out.mono ?_; rintro e w' ⟨rfl, hs'⟩)
    go_ret
    exact ⟨(k : Int), rfl, ⟨fun _ => by rw [HP.out]; exact List.any_eq_true.2 ⟨y, hmem.out, HPy.out⟩, fun _ => by omega⟩, hs'⟩
  ·go_wp2_with fail
   go_ret
   refine ⟨-1, rfl, ⟨fun h => by omega, fun h => ?_⟩, HSr.out⟩
   rw [HP.out] at h
   obtain ⟨y, hy, hpy⟩ := List.any_eq_true.1 h
   obtain ⟨i, hi, e⟩ := List.getElem_of_mem hy
   have := hall.out i (by omega)
   simp [List.getD, List.getElem?_eq_getElem hi, e, hpy] at this
set_option maxRecDepth 100000 in
theorem containsFunc_bks (g : Nat) (cb : Array Value) (p : Bk → Bool) (S : World → Prop) (A : Option Addr) (c : Nat) (l : List Bk) (w : World) (hS : S w) (hl : l.length ≤ 1000000) (eg : ∀ args w, (callFunc g args).run Tryz.prog w = .ok (.enter g args) w)
  (hr : ∀ W, S W → Row W W.heap.size A (l.flatMap bkF))
  (hf : ∀ W x, S W → Calls Tryz.prog g (#[Bk.val x] ++ cb) W fun e w' => e = .returned (.bool (p x)) ∧ S w') :
  Calls Tryz.prog 58 #[.slice A l.length c, .func (.func g) #[] cb] w fun e w' => e = .returned (.bool (l.any p)) ∧ S w' := by
 have HI := Lib.hid (indexFunc_bks g cb p S A c l w hS hl eg hr hf)
 obtain ⟨R, hR⟩ : ∃ R, R = l.any p := ⟨_, rfl⟩
 rw [← hR]
 have HR := Lib.hid hR
 clear hR hl hS hr hf
 go_enter Tryz.func58, Tryz.ntmps58
 go_wp2_with fail
 refine HI.out.mono ?_
 rintro e w' ⟨i, rfl, hi, hs'⟩
 have HH := Lib.hid hi
 have HS' := Lib.hid hs'
 clear hi HI hs'
 by_cases h0 : 0 ≤ i
 ·go_wp2_with fail
  go_ret
  exact ⟨by rw [HR.out, HH.out.1 h0]; simp, HS'.out⟩
 ·have t1 : decide (0 ≤ i) = false := decide_eq_false h0
  have hf : l.any p = false := by
   cases h : l.any p
   ·rfl
   ·exact absurd (HH.out.2 h) h0
  have HFF := Lib.hid hf
  clear hf
  go_wp2_with fail
  go_ret
  exact ⟨by rw [HR.out, HFF.out]; rfl, HS'.out⟩
def Bk.over (b : Bk) (fr tt : Int) : Bool := decide (b.fr < tt) && decide (fr < b.to)
set_option maxRecDepth 100000 in
theorem taken_one (g1 g2 : Nat) (fr tt : Int) (x : Bk) (W : World) (h1 : W.cell? ⟨g1, 0, none⟩ = some (.int .i64 tt)) (h2 : W.cell? ⟨g2, 0, none⟩ = some (.int .i64 fr)) :
  Calls Tryz.prog 59 (#[x.val] ++ #[.pointer (some ⟨g1, 0, none⟩), .pointer (some ⟨g2, 0, none⟩)]) W fun e w' => e = .returned (.bool (x.over fr tt)) ∧ Below W.heap.size W w' := by
 have l1 : g1 < W.heap.size := block_lt_of_cell h1
 have l2 : g2 < W.heap.size := block_lt_of_cell h2
 have q1 : (W.alloc (Obj.cells x.cells 53)).cell? ⟨g1, 0, none⟩ = some (.int .i64 tt) := ((below_alloc1 W _).cell (p := ⟨g1, 0, none⟩) l1).trans h1
 have q2 : (W.alloc (Obj.cells x.cells 53)).cell? ⟨g2, 0, none⟩ = some (.int .i64 fr) := ((below_alloc1 W _).cell (p := ⟨g2, 0, none⟩) l2).trans h2
 have HB := Lib.hid (below_alloc1 W (Obj.cells x.cells 53))
 unfold Bk.over
 by_cases a1 : x.fr < tt
 ·have t1 : decide (x.fr < tt) = true := decide_eq_true a1
  rw [t1, Bool.true_and]
  go_enter Tryz.func59, Tryz.ntmps59
  go_wp2_with fail
  go_ret
  exact ⟨rfl, HB.out⟩
 ·have t1 : decide (x.fr < tt) = false := decide_eq_false a1
  rw [t1, Bool.false_and]
  go_enter Tryz.func59, Tryz.ntmps59
  go_wp2_with fail
  go_ret
  exact ⟨rfl, HB.out⟩
end Go.Proofs.YtabidjmmgnkhkaaGreatDoor
/- Contracts of package rooms: stretch; slices.Index at []string. -/
namespace Go.Proofs.YtabidjmmgnkhkaaGreatDoor
open Go.RowKit
set_option linter.unusedVariables false
def strs (l : List ByteArray) : List Value := l.map .string
def bs0 : ByteArray := ⟨#[]⟩
def IdxS (l : List ByteArray) (x : ByteArray) (i : Int) : Prop :=
 (i = -1 ∧ ∀ j, j < l.length → (x.toList == (l.getD j bs0).toList) = false) ∨ ∃ k : Nat, i = k ∧ k < l.length ∧ (x.toList == (l.getD k bs0).toList) = true ∧ ∀ j, j < k → (x.toList == (l.getD j bs0).toList) = false
set_option maxHeartbeats 1000000 in
set_option maxRecDepth 100000 in
theorem index_strs (A : Option Addr) (c : Nat) (l : List ByteArray) (x : ByteArray) (w : World) (hr : Row w w.heap.size A (strs l)) (hl : l.length ≤ 1000000) :
  Calls Tryz.prog 48 #[.slice A l.length c, .string x] w fun e w' => ∃ i : Int, e = .returned (.int .i64 i) ∧ IdxS l x i ∧ w = w' := by
 have MK1 : Hid ((∀ j, j < l.length → (x.toList == (l.getD j bs0).toList) = false) → IdxS l x (-1)) := fun h => .inl ⟨rfl, h⟩
 have MK2 : Hid (∀ k : Nat, k < l.length → (x.toList == (l.getD k bs0).toList) = true → (∀ j, j < k → (x.toList == (l.getD j bs0).toList) = false) → IdxS l x (k : Int)) := fun k h1 h2 h3 => .inr ⟨k, rfl, h1, h2, h3⟩
 go_enter Tryz.func48, Tryz.ntmps48
 go_wp2_with fail
 go_loop [5, 8] (fun _ i => ∃ k : Nat, k ≤ l.length ∧ i = .int .i64 (k : Int) ∧ Hid (∀ j, j < k → (x.toList == (l.getD j bs0).toList) = false)) (fun _ i => l.length - (intOf i).toNat)
 case atStart => exact ⟨0, by omega, rfl, fun j hj => by omega⟩
 case round =>
  obtain ⟨k, hk, rfl, hall⟩ := hrel
  by_cases hlt : k < l.length
  ·have hne : strs l ≠ [] := fun h => by have := congrArg List.length h; simp [strs] at this; rw [this] at hlt; simp at hlt
   obtain ⟨b, o, rfl, _, hcs⟩ := hr.open_ hne
   have hc := hcs k (.string (l.getD k bs0)) (by simp [strs, List.getElem?_eq_getElem hlt])
   have HX : Hid ((x.toList == (l.getD k bs0).toList) = false → ∀ j, j < k + 1 → (x.toList == (l.getD j bs0).toList) = false) := fun h j hj => by
    by_cases e : j = k
    ·subst e; exact h
    ·exact hall.out j (by omega)
   have HM := Lib.hid (fun h => MK2.out k hlt h hall.out)
   clear hcs hr hne
   generalize l.getD k bs0 = y at *
   cases he : (x.toList == y.toList) with
   | true =>
    have HH := Lib.hid (HM.out he)
    go_wp2_with fail
    go_ret
    exact ⟨(k : Int), rfl, HH.out, rfl⟩
   | false =>
    have HA := Lib.hid (HX.out he)
    go_wp2_with fail
    go_round
    case rel => exact ⟨k + 1, by omega, by go_num, HA⟩
    case measure => simp [intOf]; omega
  ·have HH := Lib.hid (MK1.out (fun j hj => hall.out j (by omega)))
   clear hall
   go_wp2_with fail
   go_ret
   exact ⟨-1, rfl, HH.out, rfl⟩
set_option maxRecDepth 100000 in
theorem stretch_any (fr tt : Int) (w : World) (h1 : -9223372036854775808 ≤ fr) (h2 : fr ≤ 9223372036854775807) (h3 : -9223372036854775808 ≤ tt) (h4 : tt ≤ 9223372036854775807) :
  Calls Tryz.prog 34 #[.int .i64 fr, .int .i64 tt] w (ErrsQ (InstOk fr ∧ InstOk tt ∧ fr < tt) w) := by
 by_cases a1 : InstOk fr
 case neg =>
  have HN := Lib.hid a1
  have HI := Lib.hid (fun w => isInstant_no fr w h1 h2 a1)
  clear a1
  go_enter Tryz.func34, Tryz.ntmps34
  go_wp2_with (go_at_call 27; refine (HI.out _).mono ?_; rintro e w' ⟨rfl, n, rfl⟩)
  go_ret
  exact ⟨3, rfl, ⟨fun h => by omega, fun h => absurd h.1 HN.out⟩, _, rfl⟩
 have HI := Lib.hid (fun w => isInstant_yes fr w a1)
 by_cases a2 : InstOk tt
 case neg =>
  have HN := Lib.hid a2
  have HI2 := Lib.hid (fun w => isInstant_no tt w h3 h4 a2)
  clear a1 a2
  go_enter Tryz.func34, Tryz.ntmps34
  go_wp2_with (first | (go_at_call 27; ((with_reducible refine (HI.out _).mono ?_)); rintro e w' ⟨rfl, n, rfl⟩) | (go_at_call 27; ((with_reducible refine (HI2.out _).mono ?_)); rintro e w' ⟨rfl, n2, rfl⟩))
  go_ret
  exact ⟨3, rfl, ⟨fun h => by omega, fun h => absurd h.2.1 HN.out⟩, n + n2, rfl⟩
 have HI2 := Lib.hid (fun w => isInstant_yes tt w a2)
 have A1 := Lib.hid a1
 have A2 := Lib.hid a2
 clear a1 a2
 by_cases a3 : tt ≤ fr
 ·have t3 : decide (tt ≤ fr) = true := decide_eq_true a3
  go_enter Tryz.func34, Tryz.ntmps34
  go_wp2_with (first | (go_at_call 27; ((with_reducible refine (HI.out _).mono ?_)); rintro e w' ⟨rfl, n, rfl⟩) | (go_at_call 27; ((with_reducible refine (HI2.out _).mono ?_)); rintro e w' ⟨rfl, n2, rfl⟩))
  go_ret
  exact ⟨9, rfl, ⟨fun h => by omega, fun h => by have := h.2.2; omega⟩, n + n2, rfl⟩
 ·have t3 : decide (tt ≤ fr) = false := decide_eq_false a3
  go_enter Tryz.func34, Tryz.ntmps34
  go_wp2_with (first | (go_at_call 27; ((with_reducible refine (HI.out _).mono ?_)); rintro e w' ⟨rfl, n, rfl⟩) | (go_at_call 27; ((with_reducible refine (HI2.out _).mono ?_)); rintro e w' ⟨rfl, n2, rfl⟩))
  go_ret
  exact ⟨0, rfl, ⟨fun _ => ⟨A1.out, A2.out, by omega⟩, fun _ => rfl⟩, n + n2, rfl⟩
end Go.Proofs.YtabidjmmgnkhkaaGreatDoor
/- Rooms in memory; contracts of find and taken. -/
namespace Go.Proofs.YtabidjmmgnkhkaaGreatDoor
open Go.RowKit
set_option linter.unusedVariables false
structure Rms (w : World) (base g gB : Nat) (An : Option Addr) (cn : Nat) (nms : List ByteArray) (vs : List Value) (ls : List (List Bk)) : Prop where
 bx : Box w g 77 #[.slice An nms.length cn, .slice (some ⟨gB, 0, none⟩) nms.length nms.length]
 nm : w.ownsRow base 9 1 (.slice An nms.length cn) nms.length (strs nms)
 bk : Box w gB 87 vs.toArray
 lv : vs.length = nms.length
 ll : ls.length = nms.length
 rows : ∀ k, k < nms.length → w.ownsRow base 53 4 (vs.getD k undef) (ls.getD k []).length ((ls.getD k []).flatMap bkF)
 apart : ∀ i j b, i < nms.length → j < nms.length → i ≠ j → (vs.getD i undef).ownBlock = some b → (vs.getD j undef).ownBlock ≠ some b
theorem Rms.next {w w' : World} {base g gB : Nat} {An : Option Addr} {cn : Nat} {nms : List ByteArray} {vs : List Value} {ls : List (List Bk)} (h : Rms w base g gB An cn nms vs ls) (hb : Below w.heap.size w w') : Rms w' base g gB An cn nms vs ls :=
 ⟨h.bx.below hb, own_next h.nm hb, h.bk.below hb, h.lv, h.ll, fun k hk => own_next (h.rows k hk) hb, h.apart⟩
theorem row_ownB {w : World} {base : Nat} {e : TypeId} {s : Nat} {A : Option Addr} {n c : Nat} {xs : List Value} (h : w.ownsRow base e s (.slice A n c) n xs) : Row w w.heap.size A xs := by
 by_cases hn : 0 < n
 ·obtain ⟨g, cap, hv, _, hlt⟩ := h.form hn
  have hA : A = some ⟨g, 0, none⟩ := by injection hv
  subst hA
  refine .inr ⟨g, 0, rfl, hlt, fun j v hv => ?_⟩
  have := h.cells (g := g) rfl j v hv
  rw [Nat.zero_add]
  rw [addPlain, Nat.zero_add] at this
  exact this
 ·have h0 : n = 0 := by omega
  subst h0
  have := h.1
  exact .inl (List.eq_nil_of_length_eq_zero (by simpa using this))
set_option maxRecDepth 100000 in
theorem find_any {base g gB : Nat} {An : Option Addr} {cn : Nat} {nms : List ByteArray} {vs : List Value} {ls : List (List Bk)} (x : ByteArray) (w : World) (h : Rms w base g gB An cn nms vs ls) (hn : nms.length ≤ 20) :
  Calls Tryz.prog 33 #[.pointer (some ⟨g, 0, none⟩), .string x] w fun e w' => ∃ i : Int, e = .returned (.int .i64 i) ∧ IdxS nms x i ∧ w = w' := by
 have x0 : w.cell? ⟨g, 0, none⟩ = some (.slice An nms.length cn) := h.bx.cell 0
 have HI := Lib.hid (index_strs An cn nms x w (row_ownB h.nm) (by omega))
 clear h
 go_enter Tryz.func33, Tryz.ntmps33
 go_wp2_with fail
 refine HI.out.mono ?_
 rintro e w' ⟨i, rfl, hi, rfl⟩
 have HH := Lib.hid hi
 clear hi
 go_wp2_with fail
 go_ret
 exact ⟨i, rfl, HH.out, rfl⟩
set_option maxHeartbeats 400000 in
set_option maxRecDepth 100000 in
theorem taken_any {base g gB : Nat} {An : Option Addr} {cn : Nat} {nms : List ByteArray} {vs : List Value} {ls : List (List Bk)} (k : Nat) (fr tt : Int) (w : World) (h : Rms w base g gB An cn nms vs ls) (hn : nms.length ≤ 20) (hk : k < nms.length) (hl : (ls.getD k []).length ≤ 1000) :
  Calls Tryz.prog 35 #[.pointer (some ⟨g, 0, none⟩), .int .i64 (k : Int), .int .i64 fr, .int .i64 tt] w fun e w' => e = .returned (.bool ((ls.getD k []).any (fun x => x.over fr tt))) ∧ Below w.heap.size w w' := by
 have HB := Lib.hid (below_alloc2 w (Obj.cells #[.int .i64 fr] 3) (Obj.cells #[.int .i64 tt] 3))
 have h2 := h.next HB.out
 have y1 := (Box.new w 3 #[.int .i64 fr]).alloc (Obj.cells #[.int .i64 tt] 3)
 have y2 := Box.new (w.alloc (Obj.cells #[.int .i64 fr] 3)) 3 #[.int .i64 tt]
 rw [World.size_alloc] at y2
 obtain ⟨A, c, hv, _, _⟩ := own_form (h.rows k hk)
 have x1 : ((w.alloc (Obj.cells #[.int .i64 fr] 3)).alloc (Obj.cells #[.int .i64 tt] 3)).cell? ⟨g, 1, none⟩ = some (.slice (some ⟨gB, 0, none⟩) nms.length nms.length) := h2.bx.cell 1
 have x2 : ((w.alloc (Obj.cells #[.int .i64 fr] 3)).alloc (Obj.cells #[.int .i64 tt] 3)).cell? ⟨gB, k, none⟩ = some (.slice A (ls.getD k []).length c) := by
  rw [h2.bk.cell k, ← hv]
  have : k < vs.length := by rw [h.lv]; exact hk
  simp [List.getD, List.getElem?_eq_getElem this]
 have hrow := row_ownB (by have := h2.rows k hk; rwa [hv] at this)
 have HC : Hid (Calls Tryz.prog 58 #[.slice A (ls.getD k []).length c, .func (.func 59) #[] #[.pointer (some ⟨w.heap.size + 1, 0, none⟩), .pointer (some ⟨w.heap.size, 0, none⟩)]] ((w.alloc (Obj.cells #[.int .i64 fr] 3)).alloc (Obj.cells #[.int .i64 tt] 3)) fun e w' => e = .returned (.bool ((ls.getD k []).any (fun x => x.over fr tt))) ∧ Below ((w.alloc (Obj.cells #[.int .i64 fr] 3)).alloc (Obj.cells #[.int .i64 tt] 3)).heap.size ((w.alloc (Obj.cells #[.int .i64 fr] 3)).alloc (Obj.cells #[.int .i64 tt] 3)) w') :=
  containsFunc_bks _ _ (fun x => x.over fr tt) _ A c (ls.getD k []) _ (Below.refl _ _) (by omega) (fun _ _ => rfl) (fun W hW => hrow.next hW)
   (fun W x hW => (taken_one (w.heap.size + 1) w.heap.size fr tt x W ((y2.below hW).cell 0) ((y1.below hW).cell 0)).mono fun e w' ⟨he, hb⟩ => ⟨he, below_then hW hb⟩)
 have k0 : (0 : Int) ≤ (k : Int) := by omega
 have k1 : (k : Int) < (nms.length : Int) := by omega
 clear h h2 y1 y2 hrow hv
 generalize (ls.getD k []).any (fun x => x.over fr tt) = R at *
 generalize (ls.getD k []).length = m at *
 go_enter Tryz.func35, Tryz.ntmps35
 go_wp2_with fail
 refine HC.out.mono ?_
 rintro e w1 ⟨rfl, hb1⟩
 replace HB := Lib.hid (below_then HB.out hb1)
 clear x1 x2 hb1 HC
 go_wp2_with fail
 go_ret
 exact ⟨rfl, HB.out⟩
end Go.Proofs.YtabidjmmgnkhkaaGreatDoor
/- Contract of Book. -/
namespace Go.Proofs.YtabidjmmgnkhkaaGreatDoor
open Go.RowKit
set_option linter.unusedVariables false
section
variable {w w' : World} {base : Nat} {e : TypeId} {s : Nat} {v : Value} {n : Nat} {xs : List Value}
theorem own_kind (h : w.ownsRow base e s v n xs) {b : Nat} (hb : v.ownBlock = some b) : ∃ cur, Box w b e cur := by
 rcases h.2 with ⟨hn, _⟩ | ⟨g, cap, cur, hv, hbb, hg, rest⟩
 ·rw [hn] at hb; cases hb
 ·rw [hv] at hb
  obtain rfl : g = b := by simpa [Value.ownBlock] using hb
  exact ⟨cur, hg⟩
theorem own_kept {row : Option Nat} (h : w.ownsRow base e s v n xs) (hg : w.grownBy w' row) (hne : ∀ b, v.ownBlock = some b → row ≠ some b) : w'.ownsRow base e s v n xs :=
 own_heap h fun b hb => hg.block b (own_lt h b hb).2 (fun e => hne b hb e.symm)
theorem Box.other {w : World} {g g' : Nat} {t t' : TypeId} {cs cs' : Array Value} (h : Box w g t cs) (h' : Box w g' t' cs') (hne : t ≠ t') : g ≠ g' := fun e => by
 subst e
 have := h.symm.trans h'
 simp at this
 exact hne this.2
end
section
variable {w w1 : World} {base g gB : Nat} {An : Option Addr} {cn : Nat} {nms : List ByteArray} {vs : List Value} {ls : List (List Bk)}
theorem getD_set_eq {α : Type} {l : List α} {k : Nat} {x d : α} (h : k < l.length) : (l.set k x).getD k d = x := by simp [List.getD, h]
theorem getD_set_other {α : Type} {l : List α} {k j : Nat} {x d : α} (h : k ≠ j) : (l.set k x).getD j d = l.getD j d := by simp [List.getD, h]
theorem Rms.put (h : Rms w base g gB An cn nms vs ls) (k : Nat) (hk : k < nms.length) (hg : w.grownBy w1 (vs.getD k undef).ownBlock) (l' : List Bk) (v' : Value) (ho : w1.ownsRow base 53 4 v' l'.length (l'.flatMap bkF))
  (hnear : ∀ b, v'.ownBlock = some b → (vs.getD k undef).ownBlock = some b ∨ w.heap.size ≤ b) : Rms (w1.setCell ⟨gB, k, none⟩ v') base g gB An cn nms (vs.set k v') (ls.set k l') := by
 have hkind : ∀ b, (vs.getD k undef).ownBlock = some b → ∃ cur, Box w b 53 cur := fun b hb => own_kind (h.rows k hk) hb
 have hbx1 : Box w1 g _ _ := h.bx.grown hg (fun e => by obtain ⟨cur, hc⟩ := hkind g e.symm; exact h.bx.other hc (by decide) rfl)
 have hbk1 : Box w1 gB _ _ := h.bk.grown hg (fun e => by obtain ⟨cur, hc⟩ := hkind gB e.symm; exact h.bk.other hc (by decide) rfl)
 have hnm1 := own_kept h.nm hg (fun b hb e => by
  obtain ⟨cur, hc⟩ := hkind b e
  obtain ⟨cur', hc'⟩ := own_kind h.nm hb
  exact hc'.other hc (by decide) rfl)
 have hset : ∀ {e : TypeId} {s : Nat} {v : Value} {n : Nat} {xs : List Value}, w1.ownsRow base e s v n xs → e ≠ 87 → (w1.setCell ⟨gB, k, none⟩ v').ownsRow base e s v n xs := fun hh hne => own_heap hh fun b hb => by
  obtain ⟨cur, hc⟩ := own_kind hh hb
  exact Below.heap_setCell w1 _ _ b (hc.other hbk1 hne)
 have hkv : k < vs.length := by rw [h.lv]; exact hk
 have hkl : k < ls.length := by rw [h.ll]; exact hk
 refine ⟨hbx1.far (hbx1.other hbk1 (by decide)) _, hset hnm1 (by decide), ?_, by simp [h.lv], by simp [h.ll], fun j hj => ?_, fun i j b hi hj hij hb => ?_⟩
 ·have := hbk1.set_ k v'
  simpa using this
 ·by_cases e : k = j
  ·subst e
   rw [getD_set_eq hkv, getD_set_eq hkl]
   exact hset ho (by decide)
  ·rw [getD_set_other e, getD_set_other e]
   exact hset (own_kept (h.rows j hj) hg (fun b hb e' => h.apart k j b hk hj e e' hb)) (by decide)
 ·by_cases e1 : k = i
  ·subst e1
   rw [getD_set_eq hkv] at hb
   rw [getD_set_other hij]
   rcases hnear b hb with hh | hh
   ·exact h.apart k j b hk hj hij hh
   ·intro hb'
    have := (own_lt (h.rows j hj) b hb').2
    omega
  ·rw [getD_set_other e1] at hb
   by_cases e2 : k = j
   ·subst e2
    rw [getD_set_eq hkv]
    intro hb'
    rcases hnear b hb' with hh | hh
    ·exact h.apart i k b hi hk hij hb hh
    ·have := (own_lt (h.rows i hi) b hb).2
     omega
   ·rw [getD_set_other e2]
    exact h.apart i j b hi hj hij hb
theorem Rms.put_below (h : Rms w base g gB An cn nms vs ls) (hgB : base ≤ gB) (k : Nat) (hk : k < nms.length) (hg : w.grownBy w1 (vs.getD k undef).ownBlock) (hbase : base ≤ w.heap.size) (v' : Value) : Below base w (w1.setCell ⟨gB, k, none⟩ v') := by
 have h1 : Below base w w1 := ⟨hg.os, hg.tape, hg.output, hg.size, fun b hb => hg.block b (by omega) (fun e => by have := (own_lt (h.rows k hk) b e.symm).1; omega)⟩
 exact h1.setCell (p := ⟨gB, k, none⟩) hgB _
end
def insB (b : Bk) : List Bk → List Bk
 | [] => [b]
 | x :: l => if x.fr < b.fr then x :: insB b l else b :: x :: l
theorem insB_at (b : Bk) : ∀ (l : List Bk) (k : Nat), k ≤ l.length → (∀ j, j < k → (l.getD j bk0).fr < b.fr) → (k < l.length → ¬ (l.getD k bk0).fr < b.fr) → l.take k ++ [b] ++ l.drop k = insB b l
 | [], k, hk, _, _ => by have : k = 0 := by simpa using hk
                         subst this; rfl
 | x :: l, 0, _, _, h => by
  have := h (by simp)
  unfold insB
  rw [if_neg (by simpa using this)]
  simp
 | x :: l, k + 1, hk, h1, h2 => by
  have := h1 0 (by omega)
  unfold insB
  rw [if_pos (by simpa using this), ← insB_at b l k (by simpa using hk) (fun j hj => by have := h1 (j + 1) (by omega); simpa using this) (fun hk' => by have := h2 (by simpa using hk'); simpa using this)]
  simp
theorem insB_length (b : Bk) : ∀ l : List Bk, (insB b l).length = l.length + 1
 | [] => rfl
 | x :: l => by
  unfold insB
  split
  ·simp [insB_length b l]
  ·simp
structure BookOk (l : List Bk) (b : Bk) : Prop where
 who : NameOk b.who
 st : InstOk b.fr ∧ InstOk b.to ∧ b.fr < b.to
 free : l.any (fun x => x.over b.fr b.to) = false
 len : l.length < 200
def Booked (nms : List ByteArray) (ls : List (List Bk)) (b : Bk) (E : Int) (ls' : List (List Bk)) : Prop :=
 (E = 0 ∧ ∃ k, k < nms.length ∧ IdxS nms b.rm (k : Int) ∧ BookOk (ls.getD k []) b ∧ ls' = ls.set k (insB b (ls.getD k []))) ∨ (E ≠ 0 ∧ ls' = ls ∧ ∀ k : Nat, k < nms.length → IdxS nms b.rm (k : Int) → ¬ BookOk (ls.getD k []) b)
theorem IdxS.one {l : List ByteArray} {x : ByteArray} {k j : Nat} (h : IdxS l x (k : Int)) (h' : IdxS l x (j : Int)) : k = j := by
 rcases h with ⟨h, _⟩ | ⟨a, ha, _, hat, haf⟩
 ·omega
 rcases h' with ⟨h', _⟩ | ⟨b, hb, _, hbt, hbf⟩
 ·omega
 have e1 : k = a := by omega
 have e2 : j = b := by omega
 subst e1 e2
 rcases Nat.lt_trichotomy k j with hh | hh | hh
 ·rw [hbf k hh] at hat; cases hat
 ·exact hh
 ·rw [haf j hh] at hbt; cases hbt
end Go.Proofs.YtabidjmmgnkhkaaGreatDoor
/- slices.Delete of the one booking; slices.Clone at bookings. -/
namespace Go.Proofs.YtabidjmmgnkhkaaGreatDoor
open Go.RowKit Go.Lib
set_option linter.unusedVariables false
set_option maxHeartbeats 2000000 in
set_option maxRecDepth 100000 in
theorem clone_bks (base : Nat) (v : Value) (l : List Bk) (w : World) (hown : w.ownsRow base 53 4 v l.length (l.flatMap bkF)) (hn : l.length ≤ 1000000) :
  Calls Tryz.prog 94 #[v] w fun e w' => ∃ A c, e = .returned (.slice A l.length c) ∧ Row w' w'.heap.size A (l.flatMap bkF) ∧ Below w.heap.size w w' := by
 obtain ⟨i0, hi0, hz0, hz1, hz2⟩ := info_parts infoBk
 rcases hown.2 with ⟨hv, h0⟩ | ⟨g, cap, cur, hv, hbg, hg, hnc, hcm, hcs, htake⟩
 ·subst hv
  have hl : l = [] := List.eq_nil_of_length_eq_zero h0
  subst hl
  have hnil : ∀ w, (binOp .eql 87 (.slice none 0 0) (.slice none 0 0)).run Tryz.prog w = .ok (.bool true) w := fun w => Lib.run_eql_slice_nil w 87 _ _ _ _ _ _ Tryz.underlying87
  clear hown
  go_enter Tryz.func94, Tryz.ntmps94
  go_wp2_with fail
  go_ret
  exact ⟨none, 0, rfl, .inl rfl, Below.refl _ _⟩
 ·subst hv
  have hrow := row_ownB hown
  have hcell : ∀ j v, (l.flatMap bkF)[j]? = some v → w.cell? ⟨g, 0 + j, none⟩ = some v := by
   rcases hrow with he | ⟨b, o, hA, hb, hcs'⟩
   ·intro j v hv; rw [he] at hv; simp at hv
   ·have hA' : (⟨g, 0, none⟩ : Addr) = ⟨b, o, none⟩ := Option.some.inj hA
    injection hA' with e1 e2
    subst e1 e2
    exact hcs'
  have hglt : g < w.heap.size := (own_lt hown g rfl).2
  have HN := Lib.hid (row_news (w := w.alloc (.cells #[] 53)) (fun j v hv => (World.cell?_alloc_lt w _ ⟨g, 0 + j, none⟩ hglt).trans (hcell j v hv)))
  have HO : Hid ((w.alloc (.cells #[] 53)).ownsRow w.heap.size 53 4 (.slice (some ⟨w.heap.size, 0, none⟩) 0 0) 0 []) := World.ownsRow_made w #[] 0 (Nat.le_refl _) (by unfold maxLen; omega) (by simp)
  have hil := Lib.hid (flat_length bkF_len l)
  have hnil : ∀ w, (binOp .eql 87 (.slice (some ⟨g, 0, none⟩) l.length cap) (.slice none 0 0)).run Tryz.prog w = .ok (.bool false) w := fun w => Lib.run_eql_slice_nil w 87 _ _ _ _ _ _ Tryz.underlying87
  clear hown hg hcs htake hrow hcell
  go_enter Tryz.func94, Tryz.ntmps94
  go_wp2_with (at_builtin; refine wpList_append_own _ rfl (.tmp 5) (.tmp 6) 87 rfl w.heap.size 53 i0 (.agg #[.string ⟨#[]⟩, .int .i64 0, .int .i64 0, .string ⟨#[]⟩]) 4 48 Tryz.underlying87 hi0 hz0 hz1 hz2 rfl (by decide) _ 0 [] rfl HO.out ⟨g, 0, none⟩ l.length cap (l.flatMap bkF) rfl ?c0 ?c1 ?c2 ?c3 ?c4 ?c5 ?_)
  case c0 => rw [hil.out]
  case c1 => exact HN.out
  case c2 => exact bks_one l
  case c3 => simp only [maxLen]; omega
  case c4 => omega
  case c5 => simp
  intro v' w3 hown' hgrow _
  have hB : Below w.heap.size w w3 := (below_alloc1 w _).grown hgrow (by simp) (fun k hk => by simp [Value.ownBlock] at hk; omega)
  try simp only [Nat.zero_add, List.nil_append] at hown'
  obtain ⟨A', c', hv', _, _⟩ := own_form hown'
  subst hv'
  have HRW := Lib.hid (row_ownB hown')
  clear hgrow hown'
  go_wp2_with fail
  go_ret
  exact ⟨A', c', rfl, HRW.out, hB⟩
end Go.Proofs.YtabidjmmgnkhkaaGreatDoor
/- Contracts of Free, List and, at a room with the one booking, Drop. -/
namespace Go.Proofs.YtabidjmmgnkhkaaGreatDoor
open Go.RowKit
set_option linter.unusedVariables false
def ListQ (l : List Bk) (w : World) (e : Ending) (w' : World) : Prop := ∃ A c, e = .returned (.tuple #[.slice A l.length c, .int .i64 0]) ∧ Row w' w'.heap.size A (l.flatMap bkF) ∧ Below w.heap.size w w'
theorem IdxS.same {nms : List ByteArray} {x : ByteArray} {i : Int} {k : Nat} (hi : IdxS nms x i) (hk : IdxS nms x (k : Int)) : i = (k : Int) := by
 rcases hi with ⟨h, h2⟩ | ⟨a, rfl, ha, hat, haf⟩
 ·rcases hk with ⟨h3, _⟩ | ⟨a, _, ha, hat, _⟩
  ·omega
  ·rw [h2 a ha] at hat; cases hat
 ·have := IdxS.one (.inr ⟨a, rfl, ha, hat, haf⟩) hk
  omega
set_option maxHeartbeats 1000000 in
set_option maxRecDepth 100000 in
theorem rlist_any {base g gB : Nat} {An : Option Addr} {cn : Nat} {nms : List ByteArray} {vs : List Value} {ls : List (List Bk)} (x : ByteArray) (k : Nat) (w : World) (h : Rms w base g gB An cn nms vs ls) (hn : nms.length ≤ 20) (hk : k < nms.length) (hx : IdxS nms x (k : Int)) (hl : (ls.getD k []).length ≤ 1000) :
  Calls Tryz.prog 57 #[.pointer (some ⟨g, 0, none⟩), .string x] w (ListQ (ls.getD k []) w) := by
 have HF := Lib.hid (find_any x w h hn)
 have HX := Lib.hid hx
 obtain ⟨A, c, hv, hcn, hcm⟩ := own_form (h.rows k hk)
 have x1 : w.cell? ⟨g, 1, none⟩ = some (.slice (some ⟨gB, 0, none⟩) nms.length nms.length) := h.bx.cell 1
 have x2 : w.cell? ⟨gB, k, none⟩ = some (.slice A (ls.getD k []).length c) := by
  rw [h.bk.cell k, ← hv]
  have : k < vs.length := by rw [h.lv]; exact hk
  simp [List.getD, List.getElem?_eq_getElem this]
 have HC := Lib.hid (clone_bks base _ (ls.getD k []) w (h.rows k hk) (by omega))
 rw [hv] at HC
 have kk0 : (0 : Int) ≤ (k : Int) := by omega
 have kk1 : (k : Int) < (nms.length : Int) := by omega
 clear h hx hv hcn hcm
 generalize ls.getD k [] = l at *
 go_enter Tryz.func57, Tryz.ntmps57
 go_wp2_with fail
 refine HF.out.mono ?_
 rintro e w' ⟨i, rfl, hi, rfl⟩
 obtain rfl : i = (k : Int) := hi.same HX.out
 clear hi
 have k0 : ¬ ((k : Int) < 0) := by omega
 have t0 : decide ((k : Int) < 0) = false := decide_eq_false k0
 go_wp2_with fail
 refine HC.out.mono ?_
 rintro e w1 ⟨A1, c1, rfl, hr, hb⟩
 have HR := Lib.hid hr
 have HB := Lib.hid hb
 clear hr hb HC
 go_wp2_with fail
 go_ret2
 exact ⟨A1, c1, rfl, HR.out, HB.out⟩
def FreeQ (l : List Bk) (fr tt : Int) (w : World) (e : Ending) (w' : World) : Prop := ∃ (r : Bool) (E : Int), e = .returned (.tuple #[.bool r, .int .i64 E]) ∧ (E = 0 ↔ InstOk fr ∧ InstOk tt ∧ fr < tt) ∧ (E = 0 → r = !(l.any (fun x => x.over fr tt))) ∧ Below w.heap.size w w'
set_option maxHeartbeats 1000000 in
set_option maxRecDepth 100000 in
theorem free_room {base g gB : Nat} {An : Option Addr} {cn : Nat} {nms : List ByteArray} {vs : List Value} {ls : List (List Bk)} (x : ByteArray) (k : Nat) (fr tt : Int) (w : World) (h : Rms w base g gB An cn nms vs ls) (hn : nms.length ≤ 20) (hk : k < nms.length) (hx : IdxS nms x (k : Int)) (hl : (ls.getD k []).length ≤ 1000)
  (h1 : -9223372036854775808 ≤ fr) (h2 : fr ≤ 9223372036854775807) (h3 : -9223372036854775808 ≤ tt) (h4 : tt ≤ 9223372036854775807) :
  Calls Tryz.prog 31 #[.pointer (some ⟨g, 0, none⟩), .string x, .int .i64 fr, .int .i64 tt] w (FreeQ (ls.getD k []) fr tt w) := by
 have HF := Lib.hid (find_any x w h hn)
 have HX := Lib.hid hx
 have HS := Lib.hid (fun w => stretch_any fr tt w h1 h2 h3 h4)
 have HT := Lib.hid (fun W hW => taken_any k fr tt W (h.next hW) hn hk hl)
 clear h hx
 generalize ls.getD k [] = l at *
 go_enter Tryz.func31, Tryz.ntmps31
 go_wp2_with fail
 refine HF.out.mono ?_
 rintro e w' ⟨i, rfl, hi, rfl⟩
 obtain rfl : i = (k : Int) := hi.same HX.out
 clear hi
 have k0 : ¬ ((k : Int) < 0) := by omega
 have t0 : decide ((k : Int) < 0) = false := decide_eq_false k0
 go_wp2_with fail
 refine (HS.out _).mono ?_
 rintro e w' ⟨E, rfl, hE, n, rfl⟩
 have HE := Lib.hid hE
 have HB1 := Lib.hid (below_drewN w n)
 have HT2 := Lib.hid (HT.out _ HB1.out)
 clear hE HS HT
 generalize w.drewN n = w1 at *
 by_cases e0 : E = 0
 ·subst e0
  have HST := Lib.hid (HE.out.1 rfl)
  clear HE
  go_wp2_with fail
  refine HT2.out.mono ?_
  rintro e w2 ⟨rfl, hb⟩
  have HB2 := Lib.hid (below_then HB1.out hb)
  clear hb HT2
  go_wp2_with fail
  go_ret2
  exact ⟨_, 0, rfl, ⟨fun _ => HST.out, fun _ => rfl⟩, fun _ => rfl, HB2.out⟩
 ·have HE0 := Lib.hid e0
  go_wp2_with fail
  go_ret2
  exact ⟨false, E, rfl, HE.out, fun h => absurd h HE0.out, HB1.out⟩
end Go.Proofs.YtabidjmmgnkhkaaGreatDoor
/- Contract of rooms.New; slices.Clone, Contains at []string. -/
namespace Go.Proofs.YtabidjmmgnkhkaaGreatDoor
open Go.RowKit Go.Lib
set_option linter.unusedVariables false
theorem infoStr : (Tryz.prog.info? 9).map (fun i => (i.zero, i.size, i.bytes)) = some (some (.string ⟨#[]⟩), 1, 16) := by kernel_rfl
theorem strs_one (l : List ByteArray) : ∀ u ∈ strs l, u.oneCell' = true := fun u hu => by
 obtain ⟨x, _, rfl⟩ := List.mem_map.1 hu; rfl
theorem strs_length (l : List ByteArray) : (strs l).length = l.length := by simp [strs]
theorem strs_ne (l : List ByteArray) (h : 0 < l.length) : strs l ≠ [] := fun e => by
 have := congrArg List.length e; simp [strs] at this; rw [this] at h; simp at h
set_option maxHeartbeats 2000000 in
set_option maxRecDepth 100000 in
theorem clone_strs (A : Option Addr) (c : Nat) (l : List ByteArray) (w : World) (hr : Row w w.heap.size A (strs l)) (h0 : 0 < l.length) (hn : l.length ≤ 1000000) :
  Calls Tryz.prog 25 #[.slice A l.length c] w fun e w' => ∃ v, e = .returned v ∧ w'.ownsRow w.heap.size 9 1 v l.length (strs l) ∧ Below w.heap.size w w' := by
 obtain ⟨i0, hi0, hz0, hz1, hz2⟩ := info_parts infoStr
 obtain ⟨b, o, rfl, hb, hcs⟩ := hr.open_ (strs_ne l h0)
 have HN := Lib.hid (row_news (w := w.alloc (.cells #[] 9)) (fun j v hv => (World.cell?_alloc_lt w _ ⟨b, o + j, none⟩ hb).trans (hcs j v hv)))
 have HO : Hid ((w.alloc (.cells #[] 9)).ownsRow w.heap.size 9 1 (.slice (some ⟨w.heap.size, 0, none⟩) 0 0) 0 []) := World.ownsRow_made w #[] 0 (Nat.le_refl _) (by unfold maxLen; omega) (by simp)
 have hil := Lib.hid (strs_length l)
 clear hcs hr
 have hnil : ∀ w, (binOp .eql 27 (.slice (some ⟨b, o, none⟩) l.length c) (.slice none 0 0)).run Tryz.prog w = .ok (.bool false) w := fun w => Lib.run_eql_slice_nil w 27 _ _ _ _ _ _ Tryz.underlying27
 go_enter Tryz.func25, Tryz.ntmps25
 go_wp2_with (at_builtin; refine wpList_append_own _ rfl (.tmp 5) (.tmp 6) 27 rfl w.heap.size 9 i0 (.string ⟨#[]⟩) 1 16 Tryz.underlying27 hi0 hz0 hz1 hz2 rfl (by decide) _ 0 [] rfl HO.out ⟨b, o, none⟩ l.length c (strs l) rfl ?c0 ?c1 ?c2 ?c3 ?c4 ?c5 ?_)
 case c0 => rw [hil.out]; omega
 case c1 => exact HN.out
 case c2 => exact strs_one l
 case c3 => simp only [maxLen]; omega
 case c4 => omega
 case c5 => simp
 intro v' w3 hown' hgrow _
 have hB : Below w.heap.size w w3 := (below_alloc1 w _).grown hgrow (by simp) (fun k hk => by simp [Value.ownBlock] at hk; omega)
 try simp only [Nat.zero_add, List.nil_append] at hown'
 clear hgrow
 go_wp2_with fail
 go_ret
 exact ⟨v', rfl, hown', hB⟩
set_option maxRecDepth 100000 in
theorem contains_strs (A : Option Addr) (c : Nat) (l : List ByteArray) (x : ByteArray) (w : World) (hr : Row w w.heap.size A (strs l)) (hl : l.length ≤ 1000000) (hno : ∀ j, j < l.length → (x.toList == (l.getD j bs0).toList) = false) :
  Calls Tryz.prog 24 #[.slice A l.length c, .string x] w fun e w' => e = .returned (.bool false) ∧ w = w' := by
 have HI := Lib.hid (index_strs A c l x w hr hl)
 have HN := Lib.hid hno
 clear hno hr
 go_enter Tryz.func24, Tryz.ntmps24
 go_wp2_with fail
 refine HI.out.mono ?_
 rintro e w' ⟨i, rfl, hi, rfl⟩
 have h1 : i = -1 := by
  rcases hi with ⟨h, _⟩ | ⟨k, rfl, hk, ht, _⟩
  ·exact h
  ·rw [HN.out k hk] at ht; cases ht
 subst h1
 clear hi
 go_wp2_with fail
 go_ret
 exact ⟨rfl, rfl⟩
theorem infoBks : (Tryz.prog.info? 87).map (fun i => (i.zero, i.size, i.bytes)) = some (some (.slice none 0 0), 1, 24) := by kernel_rfl
theorem made_nils (n : Nat) : madeCells #[.slice none 0 0] n = (List.replicate n (Value.slice none 0 0)).toArray := by
 apply Array.ext
 ·simp [madeCells]
 intro i h1 h2
 simp [madeCells, Nat.mod_one]
structure NmsOk (nms : List ByteArray) : Prop where
 n1 : 1 ≤ nms.length
 n2 : nms.length ≤ 20
 ok : ∀ k, k < nms.length → NameOk (nms.getD k bs0)
 no : ∀ k j, j < k → k < nms.length → ((nms.getD k bs0).toList == (nms.getD j bs0).toList) = false
def NewQ (nms : List ByteArray) (w : World) (e : Ending) (w' : World) : Prop := ∃ (g gB : Nat) (An : Option Addr) (cn : Nat), w.heap.size ≤ g ∧ w.heap.size ≤ gB ∧ e = .returned (.tuple #[.pointer (some ⟨g, 0, none⟩), .int .i64 0]) ∧ Rms w' w.heap.size g gB An cn nms (List.replicate nms.length (.slice none 0 0)) (List.replicate nms.length []) ∧ Below w.heap.size w w'
set_option maxHeartbeats 1000000 in
set_option maxRecDepth 100000 in
theorem roomsNew_any (A : Option Addr) (c : Nat) (nms : List ByteArray) (w : World) (hr : Row w w.heap.size A (strs nms)) (hok : NmsOk nms) (hcn : nms.length ≤ c) (hc : (c : Int) ≤ 9223372036854775807) :
  Calls Tryz.prog 8 #[.slice A nms.length c] w (NewQ nms w) := by
 have n1 := hok.n1
 have n2 := hok.n2
 have HK := Lib.hid hok
 clear hok
 go_enter Tryz.func8, Tryz.ntmps8
 go_wp2_with fail
 go_loop [4, 5, 16] (fun _ _ i => ∃ k : Nat, k ≤ nms.length ∧ i = .int .i64 (k : Int)) (fun _ _ i => nms.length - (intOf i).toNat)
 case atStart => exact ⟨0, by omega, rfl⟩
 case round =>
  obtain ⟨k, hk, rfl⟩ := hrel
  by_cases hlt : k < nms.length
  ·obtain ⟨b, o, rfl, hb, hcs⟩ := hr.open_ (strs_ne nms (by omega))
   have hck := hcs k (.string (nms.getD k bs0)) (by simp [strs, List.getElem?_eq_getElem hlt])
   have HN := Lib.hid (isName_any (nms.getD k bs0) w (by have := (HK.out.ok k hlt).2.1; unfold maxLen; omega))
   have HNO := Lib.hid (HK.out.ok k hlt)
   have HC := Lib.hid (contains_strs (some ⟨b, o, none⟩) c (nms.take k) (nms.getD k bs0) w (.inr ⟨b, o, rfl, hb, fun j v hv => hcs j v (by
    simp only [strs, List.map_take, List.getElem?_take] at hv
    split at hv
    ·exact hv
    ·cases hv)⟩) (by simp; omega) (fun j hj => by
    have hjk : j < k := by simp at hj; omega
    have := HK.out.no k j hjk hlt
    rwa [show (nms.take k).getD j bs0 = nms.getD j bs0 from by simp [List.getD, hjk]]))
   rw [show (nms.take k).length = k from by simp; omega] at HC
   clear hcs
   generalize nms.getD k bs0 = y at *
   have k0 : (0 : Int) ≤ (k : Int) := by omega
   have k1 : (k : Int) < (nms.length : Int) := by omega
   have k2 : (k : Int) ≤ (nms.length : Int) := by omega
   have k3 : (k : Int) ≤ (c : Int) := by omega
   go_wp2_with fail
   refine HN.out.mono ?_
   rintro e w' ⟨bb, rfl, hbb, rfl⟩
   obtain rfl : bb = true := hbb.2 HNO.out
   clear hbb
   go_wp2_with fail
   refine HC.out.mono ?_
   rintro e w' ⟨rfl, rfl⟩
   go_wp2_with fail
   go_round
   case rel => exact ⟨k + 1, by omega, by go_num⟩
   case measure => simp [intOf]; omega
  ·obtain rfl : k = nms.length := by omega
   have HCl := Lib.hid (fun W (hb : Below w.heap.size w W) => clone_strs A c nms W (hr.next hb) (by omega) (by omega))
   go_wp2_with fail
   have hmk : ∀ W, (Instr.makeSlice 75 (.int .i64 (nms.length : Int)) (.int .i64 (nms.length : Int))).run Tryz.prog W = .ok (.slice (some ⟨W.heap.size, 0, none⟩) nms.length nms.length) (W.alloc (.cells (List.replicate nms.length (Value.slice none 0 0)).toArray 87)) := fun W => by
    obtain ⟨i0, hi0, hz0, hz1, hz2⟩ := info_parts infoBks
    have := run_make (P := Tryz.prog) W 75 87 i0 (.slice none 0 0) Tryz.underlying75 hi0 hz0 .i64 .i64 (nms.length : Int) (nms.length : Int) (by omega) (by omega) (by rw [hz2]; omega) (by omega)
    rw [hz1, Int.toNat_natCast, Nat.mul_one, show (Value.slice none 0 0).cells = #[.slice none 0 0] from rfl, made_nils] at this
    exact this
   generalize hwB : w.heap.size = B at *
   refine flow_begin_tail 7 (tellOf [(1, ⟨fun v => ∃ A' c', v = .slice A' nms.length c', fun v W => W.ownsRow B 9 1 v nms.length (strs nms)⟩)]) (by kernel_rfl) (by kernel_rfl) ?_
   simp only [List.take_succ_cons, List.take_zero, List.drop_succ_cons, List.drop_zero]
   repeat (first | (refine flow_val (v := ?_) (by rfl) (by rfl) (fun w hb => ?_) ?_; rotate_left; (· ((go_simp) <;> ((repeat' apply And.intro) <;> with_reducible rfl))); try simp only [Act.put, List.setIfInBounds_toArray, List.set_cons_zero, List.set_cons_succ, Nat.reduceAdd]) | (refine flow_skip (by rfl) (by rfl) ?_; try simp only [Act.put, List.setIfInBounds_toArray, List.set_cons_zero, List.set_cons_succ, Nat.reduceAdd]))
   refine flow_told (f := ?_) (args := ?_) [] (by kernel_rfl) (by rfl) (by rfl) ?_ ?_ (fun w hb => ?_) (fun w hb hu => ?_) ?_; rotate_left 4; (· ((go_simp) <;> ((repeat' apply And.intro) <;> with_reducible rfl)))
   ·refine (HCl.out w (by rw [← hwB]; exact hb)).mono ?_
    rintro e w' ⟨v, he, ho, hb'⟩
    obtain ⟨A', c', hv', _, _⟩ := own_form ho
    exact ⟨v, he, ⟨A', c', hv'⟩, own_lower ho (by have := hb.size; omega), hb'⟩
   ·rintro v ⟨A1, c1, rfl⟩
    try simp only [Act.put, List.setIfInBounds_toArray, List.set_cons_zero, List.set_cons_succ, Nat.reduceAdd]
    repeat (first | (refine flow_val (v := ?_) (by rfl) (by rfl) (fun w hb => ?_) ?_; rotate_left; (· ((go_simp) <;> ((repeat' apply And.intro) <;> with_reducible rfl))); try simp only [Act.put, List.setIfInBounds_toArray, List.set_cons_zero, List.set_cons_succ, Nat.reduceAdd]) | (refine flow_skip (by rfl) (by rfl) ?_; try simp only [Act.put, List.setIfInBounds_toArray, List.set_cons_zero, List.set_cons_succ, Nat.reduceAdd]))
    refine flow_lits (n := ?_) (c := ?_) (t := ?_) (cs := ?_) (by rfl) (by rfl) (fun w hb => ?_) (fun gB hgB => ?_); rotate_left 4; (· ((go_simp) <;> ((repeat' apply And.intro) <;> with_reducible rfl))); try simp only [Act.put, List.setIfInBounds_toArray, List.set_cons_zero, List.set_cons_succ, Nat.reduceAdd]
    repeat (first | (refine flow_val (v := ?_) (by rfl) (by rfl) (fun w hb => ?_) ?_; rotate_left; (· ((go_simp) <;> ((repeat' apply And.intro) <;> with_reducible rfl))); try simp only [Act.put, List.setIfInBounds_toArray, List.set_cons_zero, List.set_cons_succ, Nat.reduceAdd]) | (refine flow_skip (by rfl) (by rfl) ?_; try simp only [Act.put, List.setIfInBounds_toArray, List.set_cons_zero, List.set_cons_succ, Nat.reduceAdd]))
    refine flow_box (t := ?_) (cs := ?_) (by rfl) (by rfl) (fun w hb => ?_) (fun gR hgR => ?_); rotate_left 2; (· ((go_simp) <;> ((repeat' apply And.intro) <;> with_reducible rfl))); try simp only [Act.put, List.setIfInBounds_toArray, List.set_cons_zero, List.set_cons_succ, Nat.reduceAdd]
    refine flow_nil fun w1 hb1 hf => ?_
    have hx := Lib.hid hf.1
    have hbk := Lib.hid hf.2.1
    have hnm := Lib.hid hf.2.2.1
    have HB1 := Lib.hid hb1
    have hw0 := Lib.hid hwB
    clear hf hb1 hmk hwB
    go_wp2_with fail
    go_ret2
    have HL : ∀ k, k < nms.length → (List.replicate nms.length (Value.slice none 0 0)).getD k undef = .slice none 0 0 := fun k hk => by simp [List.getD, hk]
    have hB := hw0.out
    subst hB
    refine ⟨gR, gB, A1, c1, hgR, hgB, rfl, ⟨hx.out, hnm.out, ?_, by simp, by simp, fun k hk => ?_, fun i j b hi hj hij h => by rw [HL i hi] at h; cases h⟩, HB1.out⟩
    ·simpa using hbk.out
    ·rw [HL k hk, show (List.replicate nms.length ([] : List Bk)).getD k [] = [] from by simp [List.getD, hk]]
     exact ⟨rfl, .inl ⟨rfl, rfl⟩⟩
   ·exact ⟨.slice none nms.length 0, none, 0, rfl⟩
   ·exact fun v w w' hb ho => own_next ho hb
end Go.Proofs.YtabidjmmgnkhkaaGreatDoor
/- Contract of Book: the walk. -/
namespace Go.Proofs.YtabidjmmgnkhkaaGreatDoor
open Go.RowKit
set_option linter.unusedVariables false
def BookK (base g gB : Nat) (An : Option Addr) (cn : Nat) (nms : List ByteArray) (vs : List Value) (ls : List (List Bk)) (b : Bk) (w : World) (e : Ending) (w' : World) : Prop :=
 ∃ (E : Int) (vs' : List Value) (ls' : List (List Bk)), e = .returned (.int .i64 E) ∧ Booked nms ls b E ls' ∧ Rms w' base g gB An cn nms vs' ls' ∧ Below base w w' ∧ w.heap.size ≤ w'.heap.size ∧ ∀ x, x < w.heap.size → x ≠ gB → (∀ j, j < nms.length → (vs.getD j undef).ownBlock ≠ some x) → w'.heap[x]? = w.heap[x]?
set_option maxHeartbeats 1000000 in
set_option maxRecDepth 100000 in
theorem book_keep {base g gB : Nat} {An : Option Addr} {cn : Nat} {nms : List ByteArray} {vs : List Value} {ls : List (List Bk)} (b : Bk) (w : World) (h : Rms w base g gB An cn nms vs ls) (hn : nms.length ≤ 20) (hgB : base ≤ gB) (hbase : base ≤ w.heap.size) (hl : ∀ k, (ls.getD k []).length ≤ 1000)
  (hw : b.who.size ≤ maxLen) (h1 : -9223372036854775808 ≤ b.fr) (h2 : b.fr ≤ 9223372036854775807) (h3 : -9223372036854775808 ≤ b.to) (h4 : b.to ≤ 9223372036854775807) :
  Calls Tryz.prog 14 #[.pointer (some ⟨g, 0, none⟩), b.val] w (BookK base g gB An cn nms vs ls b w) := by
 have NO : Hid (∀ (E : Int) (W : World), E ≠ 0 → Below w.heap.size w W → (∀ k : Nat, k < nms.length → IdxS nms b.rm (k : Int) → ¬ BookOk (ls.getD k []) b) → BookK base g gB An cn nms vs ls b w (.returned (.int .i64 E)) W) := fun E W hE hb hno =>
  ⟨E, vs, ls, rfl, .inr ⟨hE, rfl, hno⟩, h.next hb, hb.mono hbase, hb.size, fun x hx _ _ => hb.block x hx⟩
 have HW := Lib.hid (below_alloc1 w (Obj.cells b.cells 53))
 have hX := Box.new w 53 b.cells
 have H1 := Lib.hid (h.next HW.out)
 have HX := Lib.hid hX
 have x0 : (w.alloc (Obj.cells b.cells 53)).cell? ⟨w.heap.size, 0, none⟩ = some (.string b.rm) := hX.cell 0
 have x3 : (w.alloc (Obj.cells b.cells 53)).cell? ⟨w.heap.size, 3, none⟩ = some (.string b.who) := hX.cell 3
 have HF := Lib.hid (find_any b.rm _ H1.out hn)
 have HN := Lib.hid (fun w => isName_any b.who w hw)
 have HH := Lib.hid h
 clear h hX
 go_enter Tryz.func14, Tryz.ntmps14
 go_wp2_with fail
 refine HF.out.mono ?_
 rintro e w' ⟨i, rfl, hi, rfl⟩
 generalize hw1 : w.alloc (Obj.cells b.cells 53) = w1 at *
 generalize hgb : w.heap.size = gb at *
 have HI := Lib.hid hi
 rcases hi with ⟨rfl, hno⟩ | ⟨k, rfl, hk, -, -⟩
 ·clear hno
  go_wp2_with fail
  go_ret
  refine NO.out 5 _ (by decide) HW.out (fun k hk hk' => ?_)
  rcases HI.out with ⟨_, hno⟩ | ⟨a, ha, _⟩
  ·rcases hk' with ⟨h, _⟩ | ⟨a, ha, ha', hat, _⟩
   ·omega
   ·obtain rfl : k = a := by omega
    rw [hno k hk] at hat; cases hat
  ·omega
 have k0 : ¬ ((k : Int) < 0) := by omega
 have t0 : decide ((k : Int) < 0) = false := decide_eq_false k0
 have ONE : Hid (∀ j : Nat, IdxS nms b.rm (j : Int) → j = k) := fun j hj => hj.one HI.out
 by_cases an : NameOk b.who
 case neg =>
  have HA := Lib.hid an
  clear an
  go_wp2_with fail
  refine (HN.out _).mono ?_
  rintro e w' ⟨bb, rfl, hbb, rfl⟩
  have hf : bb = false := by
   cases bb
   ·rfl
   ·exact absurd (hbb.1 rfl) HA.out
  subst hf
  clear hbb
  go_wp2_with fail
  go_ret
  exact NO.out 5 _ (by decide) HW.out (fun j hj hj' hok => HA.out hok.who)
 have HS := Lib.hid (stretch_any b.fr b.to w1 h1 h2 h3 h4)
 have X1 : Hid (∀ W, Below w1.heap.size w1 W → W.cell? ⟨gb, 1, none⟩ = some (.int .i64 b.fr)) := fun W hW => (HX.out.below hW).cell 1
 have X2 : Hid (∀ W, Below w1.heap.size w1 W → W.cell? ⟨gb, 2, none⟩ = some (.int .i64 b.to)) := fun W hW => (HX.out.below hW).cell 2
 have x1 := X1.out _ (Below.refl _ _)
 have x2 := X2.out _ (Below.refl _ _)
 have HA := Lib.hid an
 clear an
 go_wp2_with fail
 refine (HN.out _).mono ?_
 rintro e w' ⟨bb, rfl, hbb, rfl⟩
 obtain rfl : bb = true := hbb.2 HA.out
 clear hbb
 go_wp2_with fail
 refine HS.out.mono ?_
 rintro e w' ⟨E, rfl, hE, n, rfl⟩
 have HE := Lib.hid hE
 clear hE HS
 by_cases e0 : E = 0
 case neg =>
  go_wp2_with fail
  go_ret
  exact NO.out E _ e0 (below_drew HW.out n) (fun j hj hj' hok => e0 (HE.out.2 hok.st))
 subst e0
 have HST := Lib.hid (HE.out.1 rfl)
 have HB2 := Lib.hid (below_drewN w1 n)
 generalize w1.drewN n = w2 at *
 replace x1 := X1.out _ HB2.out
 replace x2 := X2.out _ HB2.out
 have HT := Lib.hid (taken_any k b.fr b.to w2 (H1.out.next HB2.out) hn hk (hl k))
 clear HE
 have hle : gb ≤ w1.heap.size := by have := HW.out.size; omega
 have NO1 : Hid (∀ (E : Int) (W : World), E ≠ 0 → Below w1.heap.size w1 W → ¬ BookOk (ls.getD k []) b → BookK base g gB An cn nms vs ls b w (.returned (.int .i64 E)) W) := fun E W hE hb hno =>
  NO.out E W hE (HW.out.trans (hb.mono hle)) (fun j hj hj' hok => by rw [ONE.out j hj'] at hok; exact hno hok)
 clear NO
 go_wp2_with fail
 refine HT.out.mono ?_
 rintro e w3 ⟨rfl, hb3⟩
 replace HB2 := Lib.hid (below_then HB2.out hb3)
 clear hb3 x1 x2 HT
 cases hR : (ls.getD k []).any (fun x => x.over b.fr b.to)
 case true =>
  have HR := Lib.hid hR
  clear hR
  go_wp2_with fail
  go_ret
  exact NO1.out 7 _ (by decide) HB2.out (fun hok => by rw [hok.free] at HR; exact absurd HR.out (by decide))
 have HR := Lib.hid hR
 clear hR
 have HM := Lib.hid (H1.out.next HB2.out)
 obtain ⟨A, c, hv, hcn, hcm⟩ := own_form (HM.out.rows k hk)
 have x1 : w3.cell? ⟨g, 1, none⟩ = some (.slice (some ⟨gB, 0, none⟩) nms.length nms.length) := HM.out.bx.cell 1
 have x2 : w3.cell? ⟨gB, k, none⟩ = some (.slice A (ls.getD k []).length c) := by
  rw [HM.out.bk.cell k, ← hv]
  have : k < vs.length := by rw [HM.out.lv]; exact hk
  simp [List.getD, List.getElem?_eq_getElem this]
 have kk0 : (0 : Int) ≤ (k : Int) := by omega
 have kk1 : (k : Int) < (nms.length : Int) := by omega
 have HV := Lib.hid hv
 have HL := Lib.hid (hl k)
 have HROW := Lib.hid (show Row w3 w3.heap.size A ((ls.getD k []).flatMap bkF) from row_ownB (by have := HM.out.rows k hk; rwa [hv] at this))
 clear hv hl hcn hcm
 generalize hlq : ls.getD k [] = l at *
 have HLQ := Lib.hid hlq
 clear hlq
 by_cases a200 : (200 : Int) ≤ (l.length : Int)
 ·have t200 : decide ((200 : Int) ≤ (l.length : Int)) = true := decide_eq_true a200
  have A200 := Lib.hid a200
  clear a200
  go_wp2_with fail
  go_ret
  exact NO1.out 2 _ (by decide) HB2.out (fun hok => by have := hok.len; have := A200.out; omega)
 have t200 : decide ((200 : Int) ≤ (l.length : Int)) = false := decide_eq_false a200
 have OK : Hid (BookOk l b) := ⟨HA.out, HST.out, HR.out, by omega⟩
 go_wp2_with fail
 go_loopw [8] (fun i wr => ∃ q : Nat, q ≤ l.length ∧ i = .int .i64 (q : Int) ∧ Hid (∀ j, j < q → (l.getD j bk0).fr < b.fr) ∧ Hid (Below w3.heap.size w3 wr)) (fun i _ => l.length - (intOf i).toNat)
 case atStart => exact ⟨0, by omega, rfl, fun j hj => by omega, Below.refl _ _⟩
 case round =>
  obtain ⟨q, hq, rfl, hall, hbr⟩ := hrel
  go_upto_region 13 with fail
  go_cut [59] (fun s wx => ∃ C : Bool, s = .bool C ∧ (C = true ↔ q < l.length ∧ (l.getD q bk0).fr < b.fr) ∧ Hid (Below w3.heap.size w3 wx))
  case first =>
   have y1 : wr.cell? ⟨gb, 1, none⟩ = some (.int .i64 b.fr) := X1.out _ (HB2.out.trans (hbr.out.mono HB2.out.size))
   have q0 : (0 : Int) ≤ (q : Int) := by omega
   by_cases hlt : q < l.length
   ·have tl : decide ((q : Int) < (l.length : Int)) = true := decide_eq_true (by omega)
    have q1 : (q : Int) < (l.length : Int) := by omega
    obtain ⟨b0, o, rfl, _, hcs⟩ := (HROW.out.next hbr.out).open_ (flat_ne bkF_len (by omega) l (by omega))
    have hc1 := flat_cell bkF_len bk0 hcs q 1 hlt (by omega) _ rfl
    clear hcs HROW
    by_cases hc : (l.getD q bk0).fr < b.fr
    ·have tc : decide ((l.getD q bk0).fr < b.fr) = true := decide_eq_true hc
     have HC := Lib.hid hc
     clear hc
     generalize l.getD q bk0 = y at *
     go_quiet (fail)
     go_wp2_with fail
     go_meet
     exact ⟨true, rfl, ⟨fun _ => ⟨hlt, HC.out⟩, fun _ => rfl⟩, below_drew hbr.out _⟩
    ·have tc : decide ((l.getD q bk0).fr < b.fr) = false := decide_eq_false hc
     have HC := Lib.hid hc
     clear hc
     generalize l.getD q bk0 = y at *
     go_quiet (fail)
     go_wp2_with fail
     go_meet
     exact ⟨false, rfl, ⟨(fun h => by cases h), fun h => by have := h.2; have := HC.out; omega⟩, below_drew hbr.out _⟩
   ·have tl : decide ((q : Int) < (l.length : Int)) = false := decide_eq_false (by omega)
    clear HROW
    go_quiet (fail)
    go_wp2_with fail
    go_meet
    exact ⟨false, rfl, ⟨(fun h => by cases h), fun h => absurd h.1 hlt⟩, below_drew hbr.out _⟩
  case rest =>
   obtain ⟨C, rfl, hC, hbx⟩ := hcut
   have HC := Lib.hid hC
   clear hC
   cases C
   case true =>
    have hC := HC.out.1 rfl
    have hqi : q + 1 ≤ l.length := by omega
    have HX' : Hid (∀ j, j < q + 1 → (l.getD j bk0).fr < b.fr) := fun j hj => by
     by_cases e : j = q
     ·subst e; exact hC.2
     ·exact hall.out j (by omega)
    clear hC
    go_wp2_with fail
    go_roundw
    case rel =>
     exact ⟨q + 1, hqi, by go_num, HX', hbx⟩
    case measure => simp [intOf]; omega
   case false =>
    have hqs : Hid (q < l.length → ¬ (l.getD q bk0).fr < b.fr) := fun h hh => by have := HC.out.2 ⟨h, hh⟩; cases this
    have HMc := Lib.hid (HM.out.next hbx.out)
    have HBc := Lib.hid (below_then HB2.out hbx.out)
    have HXc := Lib.hid (HX.out.below HBc.out)
    have hRL := HMc.out.rows k hk
    rw [HLQ.out, HV.out] at hRL
    have HRL := Lib.hid hRL
    clear hRL x1 x2 HC
    go_upto_region 15 with fail
    have hrl : ∀ bb, (Value.slice A l.length c).ownBlock = some bb → bb < wc.heap.size := fun bb h => (own_lt HRL.out bb h).2
    have c1 : ∀ W, wc.grownBy W (Value.slice A l.length c).ownBlock → W.cell? ⟨g, 1, none⟩ = some (.slice (some ⟨gB, 0, none⟩) nms.length nms.length) := fun W hW => (HMc.out.bx.grown hW (fun e => by
     obtain ⟨cur, hcc⟩ := own_kind HRL.out e.symm
     exact HMc.out.bx.other hcc (by decide) rfl)).cell 1
    have c2 : ∀ W, wc.grownBy W (Value.slice A l.length c).ownBlock → Box W gb 53 b.cells := fun W hW => HXc.out.grown hW (fun e => by
     have hh := HH.out.rows k hk
     rw [HLQ.out, HV.out] at hh
     have := (own_lt hh gb e.symm).2
     omega)
    have d0 : ∀ W, wc.grownBy W (Value.slice A l.length c).ownBlock → W.cell? ⟨gb, 0, none⟩ = some (.string b.rm) := fun W hW => (c2 W hW).cell 0
    have d1 : ∀ W, wc.grownBy W (Value.slice A l.length c).ownBlock → W.cell? ⟨gb, 1, none⟩ = some (.int .i64 b.fr) := fun W hW => (c2 W hW).cell 1
    have d2 : ∀ W, wc.grownBy W (Value.slice A l.length c).ownBlock → W.cell? ⟨gb, 2, none⟩ = some (.int .i64 b.to) := fun W hW => (c2 W hW).cell 2
    have d3 : ∀ W, wc.grownBy W (Value.slice A l.length c).ownBlock → W.cell? ⟨gb, 3, none⟩ = some (.string b.who) := fun W hW => (c2 W hW).cell 3
    clear c2
    refine flowG_begin_tail 11 9 (Value.slice A l.length c).ownBlock (tellOf [(9, ⟨fun v => (∃ A' c', v = .slice A' (l.length + 1) c') ∧ ∀ bb, v.ownBlock = some bb → (Value.slice A l.length c).ownBlock = some bb ∨ wc.heap.size ≤ bb, fun v W => W.ownsRow base 53 4 v (l.length + 1) ((l.take q ++ [b] ++ l.drop q).flatMap bkF)⟩)]) (by kernel_rfl) (by kernel_rfl) ?_
    simp only [List.take_succ_cons, List.take_zero, List.drop_succ_cons, List.drop_zero]
    repeat (first | (refine flowG_val (v := ?_) (by rfl) (by rfl) (fun w hb => ?_) ?_; rotate_left; (· ((go_simp) <;> ((repeat' apply And.intro) <;> with_reducible rfl))); try simp only [Act.put, List.setIfInBounds_toArray, List.set_cons_zero, List.set_cons_succ, Nat.reduceAdd]) | (refine flowG_skip (by rfl) (by rfl) ?_; try simp only [Act.put, List.setIfInBounds_toArray, List.set_cons_zero, List.set_cons_succ, Nat.reduceAdd]))
    refine flowG_lits (n := ?_) (c := ?_) (t := ?_) (cs := ?_) hrl (by rfl) (by rfl) (fun w hb => ?_) (fun g8 hg8 => ?_); rotate_left 4; (· ((go_simp) <;> ((repeat' apply And.intro) <;> with_reducible rfl))); try simp only [Act.put, List.setIfInBounds_toArray, List.set_cons_zero, List.set_cons_succ, Nat.reduceAdd]
    refine flowG_call (f := ?_) (args := ?_) [8] (by kernel_rfl) (by rfl) (by rfl) (by rfl) ?_ ?_ (fun w hb => ?_) (fun w hb hu => ?_) ?_; rotate_left 4; (· ((go_simp) <;> ((repeat' apply And.intro) <;> with_reducible rfl)))
    ·have hbx8 := usef_at (k := 8) rfl hu (by decide)
     have hgr : wc.grownBy w (Value.slice A l.length c).ownBlock := grown_bel hb
     have := insert_any base g8 q (.slice A l.length c) l b w (own_next HRL.out hb) hbx8 (fun e => by have := hrl g8 e; omega) (by have := hb.size; have := HBc.out.size; omega) hq (by have := HL.out; omega)
     refine this.mono fun e w' ⟨v', he, ho, hg, hn⟩ => ⟨v', he, ⟨?_, fun bb h => (hn bb h).imp id fun h' => by have := hb.size; omega⟩, ho, hg⟩
     obtain ⟨A', c', hv', _, _⟩ := own_form ho
     exact ⟨A', c', hv'⟩
    ·rintro v ⟨⟨A9, c9, rfl⟩, hnear⟩
     try simp only [Act.put, List.setIfInBounds_toArray, List.set_cons_zero, List.set_cons_succ, Nat.reduceAdd]
     repeat (first | (refine flowG_val (v := ?_) (by rfl) (by rfl) (fun w hb => ?_) ?_; rotate_left; (· ((go_simp) <;> ((repeat' apply And.intro) <;> with_reducible rfl))); try simp only [Act.put, List.setIfInBounds_toArray, List.set_cons_zero, List.set_cons_succ, Nat.reduceAdd]) | (refine flowG_skip (by rfl) (by rfl) ?_; try simp only [Act.put, List.setIfInBounds_toArray, List.set_cons_zero, List.set_cons_succ, Nat.reduceAdd]))
     refine flowG_nil fun w5 hg5 hf => ?_
     have hinb := insB_at b l q hq hall.out hqs.out
     have ho : w5.ownsRow base 53 4 (.slice A9 (l.length + 1) c9) (insB b l).length ((insB b l).flatMap bkF) := by
      rw [insB_length, ← hinb]; exact hf.1
     have RP := Lib.hid (HMc.out.put k hk (by rw [HV.out]; exact hg5) (insB b l) _ ho (by rw [HV.out]; exact hnear))
     have RB := Lib.hid (HMc.out.put_below hgB k hk (by rw [HV.out]; exact hg5) (by have := HBc.out.size; omega) (.slice A9 (l.length + 1) c9))
     have hbk5 := HMc.out.bk.grown hg5 (fun e => by
      obtain ⟨cur, hcc⟩ := own_kind HRL.out e.symm
      exact HMc.out.bk.other hcc (by decide) rfl)
     have hkv : k < vs.length := by rw [HMc.out.lv]; exact hk
     have xk : w5.cell? ⟨gB, k, none⟩ = some vs[k] := by
      rw [hbk5.cell k]
      simp [hkv]
     have xf : w5.frozen? ⟨gB, k, none⟩ = false := hbk5.free k
     clear hbk5
     generalize vs[k] = vk at *
     have RSZ : w.heap.size ≤ (w5.setCell ⟨gB, k, none⟩ (.slice A9 (l.length + 1) c9)).heap.size := by
      have h1 := HBc.out.size
      have h2 := hg5.size
      rw [World.size_setCell]
      omega
     have BASE : Below base w wc := HW.out.mono (by omega) |>.trans (HBc.out.mono (by have := HW.out.size; omega))
     have KEEP : Hid (∀ x, x < gb → x ≠ gB → (∀ j, j < nms.length → (vs.getD j undef).ownBlock ≠ some x) → (w5.setCell ⟨gB, k, none⟩ (.slice A9 (l.length + 1) c9)).heap[x]? = w.heap[x]?) := fun x hx hxg hr => by
      rw [Below.heap_setCell _ _ _ x hxg]
      have h1 := HW.out.size
      have h2 := HBc.out.size
      exact (hg5.block x (by omega) (fun e => hr k hk (by rw [HV.out]; exact e.symm))).trans ((HBc.out.block x (by omega)).trans (HW.out.block x (by omega)))
     clear hf ho hg5 hinb c1 d0 d1 d2 d3 hrl
     refine wpList_step fun K hK => ?_
     rw [if_pos (by rfl)]
     go_simp
     refine hK _ _ (wpList_nil ?_)
     go_wp2_with fail
     go_ret
     refine ⟨0, vs.set k (.slice A9 (l.length + 1) c9), ls.set k (insB b l), rfl, .inl ⟨rfl, k, hk, HI.out, ?_, ?_⟩, RP.out, BASE.trans RB.out, RSZ, fun x hx => KEEP.out x (by rw [← hgb]; exact hx)⟩
     ·rw [HLQ.out]; exact OK.out
     ·rw [HLQ.out]
    ·exact ⟨.slice none (l.length + 1) 0, ⟨none, 0, rfl⟩, fun bb h => by cases h⟩
    ·exact fun v w w' hb ho => own_next ho hb
end Go.Proofs.YtabidjmmgnkhkaaGreatDoor
/- Plain law of the rooms: the first free time, sorted bookings. -/
namespace Go.Proofs.YtabidjmmgnkhkaaGreatDoor
set_option linter.unusedVariables false
def Apart : List Bk → Prop
 | [] => True
 | b :: l => b.fr < b.to ∧ (∀ x ∈ l, b.to ≤ x.fr) ∧ Apart l
theorem mem_insB {b x : Bk} {l : List Bk} : x ∈ insB b l ↔ x = b ∨ x ∈ l := by
 induction l with
 | nil => simp [insB]
 | cons y l ih =>
  unfold insB
  split
  ·simp only [List.mem_cons, ih]
   constructor
   ·rintro (h | h | h)
    ·exact .inr (.inl h)
    ·exact .inl h
    ·exact .inr (.inr h)
   ·rintro (h | h | h)
    ·exact .inr (.inl h)
    ·exact .inl h
    ·exact .inr (.inr h)
  ·simp
theorem over_no {b : Bk} {fr tt : Int} (h : b.over fr tt = false) : tt ≤ b.fr ∨ b.to ≤ fr := by
 unfold Bk.over at h
 by_cases h1 : b.fr < tt
 ·by_cases h2 : fr < b.to
  ·simp [h1, h2] at h
  ·omega
 ·omega
theorem Apart.insB {b : Bk} {l : List Bk} (h : Apart l) (hb : b.fr < b.to) (hno : l.any (fun x => x.over b.fr b.to) = false) : Apart (insB b l) := by
 induction l with
 | nil => exact ⟨hb, (fun x hx => by cases hx), trivial⟩
 | cons y l ih =>
  obtain ⟨h1, h2, h3⟩ := h
  simp only [List.any_cons, Bool.or_eq_false_iff] at hno
  have hy := over_no hno.1
  unfold Go.Proofs.YtabidjmmgnkhkaaGreatDoor.insB
  split
  ·rename_i hlt
   refine ⟨h1, fun x hx => ?_, ih h3 hno.2⟩
   rcases mem_insB.1 hx with rfl | hx
   ·omega
   ·exact h2 x hx
  ·rename_i hlt
   refine ⟨hb, fun x hx => ?_, h1, h2, h3⟩
   rcases List.mem_cons.1 hx with rfl | hx
   ·omega
   ·have := h2 x hx; omega
end Go.Proofs.YtabidjmmgnkhkaaGreatDoor
/- Contract of Find. -/
namespace Go.Proofs.YtabidjmmgnkhkaaGreatDoor
open Go.RowKit
set_option linter.unusedVariables false
def Insts (l : List Bk) : Prop := ∀ b ∈ l, InstOk b.fr ∧ InstOk b.to
end Go.Proofs.YtabidjmmgnkhkaaGreatDoor
/- Bookings that came in as an argument, read; the rooms' invariant. -/
namespace Go.Proofs.YtabidjmmgnkhkaaGreatDoor
open Go.RowKit Go.Joins Go.ChangeShapes Go.WideShapes Go.Deep
set_option linter.unusedVariables false
structure BkFit (b : Bk) : Prop where
 f1 : -9223372036854775808 ≤ b.fr
 f2 : b.fr ≤ 9223372036854775807
 t1 : -9223372036854775808 ≤ b.to
 t2 : b.to ≤ 9223372036854775807
section
variable {H : Type} {enc : TypeId × Value → H} {W : World}
end
structure RInv (n : Nat) (ls : List (List Bk)) : Prop where
 ap : ∀ k, Apart (ls.getD k [])
 ins : ∀ k, Insts (ls.getD k [])
 len : ∀ k, (ls.getD k []).length ≤ n
theorem RInv.nil (m : Nat) : RInv 0 (List.replicate m []) := by
 have h : ∀ k, (List.replicate m ([] : List Bk)).getD k [] = [] := fun k => by
  simp only [List.getD, List.getElem?_replicate]
  split <;> rfl
 refine ⟨fun k => ?_, fun k => ?_, fun k => ?_⟩
 ·rw [h k]; trivial
 ·rw [h k]; intro b hb; cases hb
 ·rw [h k]; simp
theorem Insts.insB {b : Bk} {l : List Bk} (h : Insts l) (h1 : InstOk b.fr) (h2 : InstOk b.to) : Insts (insB b l) := fun x hx => by
 rcases mem_insB.1 hx with rfl | hx
 ·exact ⟨h1, h2⟩
 ·exact h x hx
theorem RInv.next {n : Nat} {nms : List ByteArray} {ls ls' : List (List Bk)} {b : Bk} {E : Int} (h : RInv n ls) (hl : ls.length = nms.length) (hb : Booked nms ls b E ls') : RInv (n + 1) ls' := by
 rcases hb with ⟨_, k, hk, _, hok, rfl⟩ | ⟨_, rfl, _⟩
 ·refine ⟨fun j => ?_, fun j => ?_, fun j => ?_⟩
  ·by_cases e : k = j
   ·subst e; rw [getD_set_eq (by omega)]; exact (h.ap k).insB hok.st.2.2 hok.free
   ·rw [getD_set_other e]; exact h.ap j
  ·by_cases e : k = j
   ·subst e; rw [getD_set_eq (by omega)]; exact (h.ins k).insB hok.st.1 hok.st.2.1
   ·rw [getD_set_other e]; exact h.ins j
  ·by_cases e : k = j
   ·subst e; rw [getD_set_eq (by omega), insB_length]; have := h.len k; omega
   ·rw [getD_set_other e]; have := h.len j; omega
 ·exact ⟨h.ap, h.ins, fun k => by have := h.len k; omega⟩
theorem Booked.length {nms : List ByteArray} {ls ls' : List (List Bk)} {b : Bk} {E : Int} (hb : Booked nms ls b E ls') : ls'.length = ls.length := by
 rcases hb with ⟨_, k, hk, _, hok, rfl⟩ | ⟨_, rfl, _⟩
 ·simp
 ·rfl
def nOne : ByteArray := ⟨#[111, 110, 101]⟩
def nMe : ByteArray := ⟨#[109, 101]⟩
theorem me_ok : NameOk nMe := by
 refine ⟨by decide, by decide, by rw [nMe, Lib.toList_data]; decide, by rw [nMe, Lib.toList_data]; decide, by rw [nMe, Lib.toList_data]; decide, by rw [nMe, Lib.toList_data]; decide, fun k hk => ?_⟩
 have : k = 0 ∨ k = 1 := by
  have : nMe.size = 2 := by decide
  omega
 rcases this with rfl | rfl <;> decide +revert
theorem one_nok : NameOk nOne := by
 refine ⟨by decide, by decide, by rw [nOne, Lib.toList_data]; decide, by rw [nOne, Lib.toList_data]; decide, by rw [nOne, Lib.toList_data]; decide, by rw [nOne, Lib.toList_data]; decide, fun k hk => ?_⟩
 have : k = 0 ∨ k = 1 ∨ k = 2 := by
  have : nOne.size = 3 := by decide
  omega
 rcases this with rfl | rfl | rfl <;> decide +revert
end Go.Proofs.YtabidjmmgnkhkaaGreatDoor
