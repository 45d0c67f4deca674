/- FAll -/
import Derived.Test.YtabidjmmgnkhkaaGreatDoorGFExpr
/- Everything that is read of a feast's text, by its fuel. -/
namespace Go.Proofs.YtabidjmmgnkhkaaGreatDoor
open Go.RowKit
set_option linter.unusedVariables false
structure ReadsN (g : Nat) (S : ByteArray) (n : Nat) : Prop where
 ex : ∀ (k : Nat) (kk : Int) (o : Nat) (l : List UInt8) (r : Fr), ((k = 0 ∧ kk = 0) ∨ (k = 1 ∧ kk = 1) ∨ (k = 2 ∧ kk = 2)) → o ≤ 20 → rd n (.ex k) o l = some r → ∀ W, Fd W g S l (o : Int) → Calls Tryz.prog 40 #[.pointer (some ⟨g, 0, none⟩), .int .i64 kk] W (FExQ g S (o : Int) r W)
 on : ∀ (o : Nat) (l : List UInt8) (r : Fr), o ≤ 20 → rd n .on o l = some r → ∀ W, Fd W g S l (o : Int) → Calls Tryz.prog 67 #[.pointer (some ⟨g, 0, none⟩)] W (FExQ g S (o : Int) r W)
 sh : ∀ (o : Nat) (l : List UInt8) (r : Fr), o ≤ 20 → rd n .sh o l = some r → ∀ W, Fd W g S l (o : Int) → Calls Tryz.prog 68 #[.pointer (some ⟨g, 0, none⟩)] W (FExQ g S (o : Int) r W)
 lf : ∀ (o : Nat) (l : List UInt8) (r : Fr), o ≤ 20 → rd n .lf o l = some r → ∀ W, Fd W g S l (o : Int) → Calls Tryz.prog 105 #[.pointer (some ⟨g, 0, none⟩)] W (FExQ g S (o : Int) r W)
theorem read_all (g : Nat) (S : ByteArray) (hS : S.size ≤ 5000) : ∀ n, ReadsN g S n := by
 intro n
 induction n using Nat.strongRecOn with
 | _ n ih =>
  cases n with
  | zero => exact ⟨(fun k kk o l r _ _ h => by cases h), (fun o l r _ h => by cases h), (fun o l r _ h => by cases h), (fun o l r _ h => by cases h)⟩
  | succ n =>
   have I := ih n (Nat.lt_succ_self _)
   refine ⟨fun k kk o l r hk ho h W hW => ?_, fun o l r ho h W hW => ?_, fun o l r ho h W hW => ?_, fun o l r ho h W hW => ?_⟩
   ·rcases hk with hk | hk | ⟨rfl, rfl⟩
    ·exact expr_lp g S o n k kk l r W hS (.inl hk) hW h fun m hm l1 r1 h1 W1 hW1 i hi => (ih m (by omega)).ex (k + 1) i o l1 r1 (by omega) ho h1 W1 hW1
    ·exact expr_lp g S o n k kk l r W hS (.inr hk) hW h fun m hm l1 r1 h1 W1 hW1 i hi => (ih m (by omega)).ex (k + 1) i o l1 r1 (by omega) ho h1 W1 hW1
    ·exact expr_two g S o n l r W hS hW h fun r1 h1 W1 hW1 => I.on o l r1 ho h1 W1 hW1
   ·exact on_any g S o n l r W hS hW h (fun l1 r1 h1 W1 hW1 => I.on o l1 r1 ho h1 W1 hW1) (fun r1 h1 W1 hW1 => I.sh o l r1 ho h1 W1 hW1)
   ·exact shift_any g S o n l r W hS hW h fun r1 h1 W1 hW1 => I.lf o l r1 ho h1 W1 hW1
   ·rw [rd] at h
    by_cases h1 : tk l = [40]
    ·rw [if_pos h1] at h
     by_cases h2 : 20 < o + 1
     ·rw [if_pos h2] at h
      injection h with h
      rw [← h]
      exact leaf_large g S o l W hS (by omega) (by omega) hW h1
     ·rw [if_neg h2] at h
      cases hr : rd n (.ex 0) (o + 1) (nx l) with
      | none => rw [hr] at h; cases h
      | some r1 =>
       rw [hr] at h
       have e : r = parR r1 := by
        cases r1 with
        | no c => injection h with h; exact h.symm
        | yes x l' =>
         change (if tk l' = [41] then some (Fr.yes x (nx l')) else some (Fr.no 4)) = some r at h
         show r = (if tk l' = [41] then Fr.yes x (nx l') else Fr.no 4)
         by_cases h3 : tk l' = [41]
         ·rw [if_pos h3] at h ⊢; injection h with h; exact h.symm
         ·rw [if_neg h3] at h ⊢; injection h with h; exact h.symm
       rw [e]
       refine leaf_parF g S o l r1 W hS (by omega) (by omega) hW h1 fun W1 hW1 => ?_
       have := I.ex 0 0 (o + 1) (nx l) r1 (.inl ⟨rfl, rfl⟩) (by omega) hr W1 (by rw [show ((o + 1 : Nat) : Int) = (o : Int) + 1 from by omega]; exact hW1)
       rw [show ((o + 1 : Nat) : Int) = (o : Int) + 1 from by omega] at this
       exact this
    ·rw [if_neg h1] at h
     cases hk : leafK (tk l) with
     | none =>
      rw [hk] at h
      injection h with h
      rw [← h]
      exact leaf_none g S o l W hS hW h1 hk
     | some k =>
      rw [hk] at h
      have e : r = leafR k (nx l) := by
       unfold leafR
       change thenW (nameR (usN k) (nx l)) (fun s l1 => thenN (numR l1) fun a l2 => thenN (secR (usB k) l2) fun b l3 => some (.yes (.node k a b (str s) none 0 []) l3)) = some r at h
       cases e1 : nameR (usN k) (nx l) with
       | no c => rw [e1] at h; injection h with h; exact h.symm
       | yes s l1 =>
        rw [e1] at h
        change thenN (numR l1) (fun a l2 => thenN (secR (usB k) l2) fun b l3 => some (.yes (.node k a b (str s) none 0 []) l3)) = some r at h
        show r = (match numR l1 with | .no c => .no c | .yes a l2 => match secR (usB k) l2 with | .no c => .no c | .yes b l3 => .yes (.node k a b (str s) none 0 []) l3)
        cases e2 : numR l1 with
        | no c => rw [e2] at h; injection h with h; exact h.symm
        | yes a l2 =>
         rw [e2] at h
         change thenN (secR (usB k) l2) (fun b l3 => some (.yes (.node k a b (str s) none 0 []) l3)) = some r at h
         show r = (match secR (usB k) l2 with | .no c => .no c | .yes b l3 => .yes (.node k a b (str s) none 0 []) l3)
         cases e3 : secR (usB k) l2 with
         | no c => rw [e3] at h; injection h with h; exact h.symm
         | yes b l3 => rw [e3] at h; injection h with h; exact h.symm
      rw [e]
      exact leaf_some g S o l k W hS hW hk
end Go.Proofs.YtabidjmmgnkhkaaGreatDoor
