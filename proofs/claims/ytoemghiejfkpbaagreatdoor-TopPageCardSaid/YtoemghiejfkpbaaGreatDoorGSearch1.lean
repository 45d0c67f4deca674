/- Search1 -/
import Derived.Deep.LoopGhost
import Derived.LoopTactic
import Derived.Shelf.Abstract
import Derived.Test.YtoemghiejfkpbaaGreatDoorGBase
import Derived.Test.YtoemghiejfkpbaaGreatDoorGPlainMoon
/- Contracts of sort.Search (at any closure that keeps a predicate of worlds) and sort.SearchInts. -/
namespace Go.Proofs.YtoemghiejfkpbaaGreatDoor
open Go.RowKit
set_option linter.unusedVariables false
def IsFirst (n : Nat) (p : Nat → Bool) (S : World → Prop) (e : Ending) (w' : World) : Prop :=
 ∃ k : Nat, e = .returned (.int .i64 (k : Int)) ∧ k ≤ n ∧ (∀ t, t < k → p t = false) ∧ (∀ t, k ≤ t → t < n → p t = true) ∧ S w'
def Between (n : Nat) (p : Nat → Bool) (lo hi : Nat) : Prop := (∀ t, t < lo → p t = false) ∧ (∀ t, hi ≤ t → t < n → p t = true)
set_option maxHeartbeats 1000000 in
set_option maxRecDepth 100000 in
theorem search_any (g : Nat) (cb : Array Value) (n : Nat) (p : Nat → Bool) (S : World → Prop) (w : World) (hS : S w) (hsz : n ≤ 4611686018427387903) (eg : ∀ args w, (callFunc g args).run Tryz.prog w = .ok (.enter g args) w)
  (hf : ∀ W i, S W → i < n → Calls Tryz.prog g (#[.int .i64 (i : Int)] ++ cb) W fun e w' => e = .returned (.bool (p i)) ∧ S w')
  (hmono : ∀ a b, a ≤ b → b < n → p a = true → p b = true) :
  Calls Tryz.prog 119 #[.int .i64 (n : Int), .func (.func g) #[] cb] w (IsFirst n p S) := by
 have HF := Lib.hid hf
 have M := Lib.hid hmono
 have HS := Lib.hid hS
 clear hf hmono hS
 go_enter Tryz.func119, Tryz.ntmps119
 go_wp2
 go_loopg [5, 6] n (fun kx s5 s6 wr => ∃ (lo hi : Nat), s5 = .int .i64 lo ∧ s6 = .int .i64 hi ∧ lo ≤ hi ∧ hi ≤ n ∧ hi - lo ≤ kx ∧ Hid (Between n p lo hi) ∧ Hid (S wr))
 case atStart => exact ⟨0, n, rfl, rfl, Nat.zero_le _, Nat.le_refl _, by omega, ⟨fun t ht => absurd ht (Nat.not_lt_zero _), fun t h1 h2 => by omega⟩, HS⟩
 case round =>
  obtain ⟨lo, hi, rfl, rfl, hlh, hin, hg, I, HS'⟩ := hrel
  by_cases hlt : lo < hi
  ·have hc := HF.out _ ((lo + hi) / 2) HS'.out (by omega)
   rw [show (((lo + hi) / 2 : Nat) : Int) = ((lo : Int) + (hi : Int)) / 2 by omega] at hc
   cases hp : p ((lo + hi) / 2) <;> rw [hp] at hc
   ·have HP := Lib.hid hp
    clear hp
    go_wp2_with (go_at_fn g; refine hc.mono ?_; rintro e w' ⟨rfl, hs'⟩)
    go_roundg (hi - ((lo + hi) / 2 + 1))
    case measure => omega
    case rel =>
     have I2 : Hid (Between n p ((lo + hi) / 2 + 1) hi) := ⟨fun t ht => (by
      cases h : p t with
      | false => rfl
      | true => have := M.out t ((lo + hi) / 2) (by omega) (by omega) h; rw [HP.out] at this; cases this), I.out.2⟩
     exact ⟨(lo + hi) / 2 + 1, hi, by rw [show ((lo : Int) + (hi : Int)) / 2 + 1 = (((lo + hi) / 2 + 1 : Nat) : Int) by omega], rfl, by omega, hin, Nat.le_refl _, I2, hs'⟩
   ·have HP := Lib.hid hp
    clear hp
    go_wp2_with (go_at_fn g; refine hc.mono ?_; rintro e w' ⟨rfl, hs'⟩)
    go_roundg ((lo + hi) / 2 - lo)
    case measure => omega
    case rel =>
     have I2 : Hid (Between n p lo ((lo + hi) / 2)) := ⟨I.out.1, fun t ht htn => M.out ((lo + hi) / 2) t ht htn HP.out⟩
     exact ⟨lo, (lo + hi) / 2, rfl, by rw [show ((lo : Int) + (hi : Int)) / 2 = (((lo + hi) / 2 : Nat) : Int) by omega], by omega, by omega, Nat.le_refl _, I2, hs'⟩
  ·obtain rfl : hi = lo := by omega
   go_wp2
   go_ret
   exact ⟨hi, rfl, hin, I.out.1, I.out.2, HS'.out⟩
set_option maxHeartbeats 1000000 in
set_option maxRecDepth 100000 in
theorem searchInts_one (ba bx : Nat) (A : Option Addr) (c : Nat) (l : List Int) (x : Int) (i : Nat) (W : World) (hi : i < l.length) (hl : l.length ≤ 4611686018427387903)
  (ha : W.cell? ⟨ba, 0, none⟩ = some (.slice A l.length c)) (hx : W.cell? ⟨bx, 0, none⟩ = some (.int .i64 x)) (hr : Row W W.heap.size A (ints l)) :
  Calls Tryz.prog 157 (#[.int .i64 (i : Int)] ++ #[.pointer (some ⟨ba, 0, none⟩), .pointer (some ⟨bx, 0, none⟩)]) W fun e w' => e = .returned (.bool (decide (x ≤ l.getD i 0))) ∧ ∃ q, w' = W.drewN q := by
 obtain ⟨b, o, rfl, _, hcs⟩ := hr.open_ (ints_ne l (by omega))
 have hc := ints_cell hcs i hi
 clear hcs hr
 generalize l.getD i 0 = y at hc ⊢
 have hiz : (i : Int) < (l.length : Int) := by omega
 have hi0 : (0 : Int) ≤ (i : Int) := by omega
 go_enter Tryz.func157, Tryz.ntmps157
 go_wp2
 go_quiet (fail)
 go_wp2
 go_ret
 exact ⟨rfl, _, rfl⟩
set_option maxHeartbeats 1000000 in
set_option maxRecDepth 100000 in
theorem searchInts_any (A : Option Addr) (c : Nat) (l : List Int) (x : Int) (w : World) (hr : Row w w.heap.size A (ints l)) (hl : l.length ≤ 4611686018427387903)
  (hs : ∀ a b, a ≤ b → b < l.length → l.getD a 0 ≤ l.getD b 0) :
  Calls Tryz.prog 116 #[.slice A l.length c, .int .i64 x] w fun e w' => e = .returned (.int .i64 (cntL l x : Nat)) ∧ Below w.heap.size w w' := by
 have HR := Lib.hid hr
 have HS := Lib.hid hs
 clear hr hs
 go_enter Tryz.func116, Tryz.ntmps116
 go_wp2_with fail
 have hbx : Box ((w.alloc (.cells #[.slice A l.length c] 31)).alloc (.cells #[.int .i64 x] 3)) w.heap.size 31 #[.slice A l.length c] := (Box.new w _ _).alloc _
 have hby := Box.new (w.alloc (.cells #[.slice A l.length c] 31)) 3 #[.int .i64 x]
 have hB := below_alloc2 w (.cells #[.slice A l.length c] 31) (.cells #[.int .i64 x] 3)
 have hsz : (w.alloc (.cells #[.slice A l.length c] 31)).heap.size = w.heap.size + 1 := by simp
 rw [hsz] at hby
 generalize (w.alloc (.cells #[.slice A l.length c] 31)).alloc (.cells #[.int .i64 x] 3) = W0 at *
 refine (search_any 157 #[.pointer (some ⟨w.heap.size, 0, none⟩), .pointer (some ⟨w.heap.size + 1, 0, none⟩)] l.length (fun i => decide (x ≤ l.getD i 0)) (Below W0.heap.size W0) W0 (Below.refl _ _) hl (fun _ _ => rfl) ?_ ?_).mono ?_
 ·intro W i hb hi
  refine (searchInts_one w.heap.size (w.heap.size + 1) A c l x i W hi hl ((hbx.below hb).cell 0) ((hby.below hb).cell 0) ((HR.out.next hB).next hb)).mono ?_
  rintro e w' ⟨he, q, rfl⟩
  exact ⟨he, below_drew hb q⟩
 ·intro a b hab hb h
  have := HS.out a b hab hb
  have h' : x ≤ l.getD a 0 := of_decide_eq_true h
  exact decide_eq_true (by omega)
 ·rintro e w' ⟨k, rfl, hk, h1, h2, hb⟩
  have hcn := cnt_of x l k hk (fun t ht => by have := of_decide_eq_false (h1 t ht); omega) (fun t h3 h4 => of_decide_eq_true (h2 t h3 h4))
  go_wp2_with fail
  go_ret
  exact ⟨by rw [hcn]; rfl, below_then hB hb⟩
end Go.Proofs.YtoemghiejfkpbaaGreatDoor
