/- Contract of package rule: expr reads what was written. -/
import Derived.Test.YtbmbphikjainiaaDoorExpr5
namespace Go.Proofs.YtbmbphikjainiaaDoor
open Go.RowKit
set_option linter.unusedVariables false

theorem nd_up (L : Nat) (t : RE) (h : lev (kd t) ≠ L) : nd (L + 1) t = nd L t := by
  unfold nd
  by_cases h1 : lev (kd t) < L
  · rw [if_pos (by omega), if_pos h1]
  · rw [if_neg (by omega), if_neg h1]
theorem lev_le (k : Int) : lev k ≤ 7 := by
  unfold lev
  repeat' split
  all_goals omega
theorem lev_cases (k : Int) (h0 : 1 ≤ k) (h1 : k ≤ 13) : (lev k = 7 ↔ k = 1 ∨ k = 2) ∧ (lev k = 6 ↔ k = 3) ∧ (lev k = 2 ↔ k = 11) := by
  have : k = 1 ∨ k = 2 ∨ k = 3 ∨ k = 4 ∨ k = 5 ∨ k = 6 ∨ k = 7 ∨ k = 8 ∨ k = 9 ∨ k = 10 ∨ k = 11 ∨ k = 12 ∨ k = 13 := by omega
  rcases this with rfl | rfl | rfl | rfl | rfl | rfl | rfl | rfl | rfl | rfl | rfl | rfl | rfl <;> decide
theorem prT_zero (t : RE) : prT 0 t = prB t := by unfold prT parT; simp
theorem prT_own (L : Nat) (t : RE) (h : L ≤ lev (kd t)) : prT L t = prB t := by unfold prT parT; simp only; rw [if_neg (by omega)]
theorem prT_par (L : Nat) (t : RE) (h : lev (kd t) < L) : prT L t = [40] :: (prB t ++ [[41]]) := by unfold prT parT; simp only; rw [if_pos h]
theorem prB_one (k n : Int) (A : Option Addr) (c : Nat) (a : RE) (hk : k = 3 ∨ k = 11) : prB (.node k n A c [a]) = (if k = 3 then [45] else [110, 111, 116]) :: prT (if k = 3 then 6 else 2) a := by
  have e0 := prL_get [a] 0 (by simp)
  simp only [List.getD_cons_zero] at e0
  rcases hk with rfl | rfl
  · unfold prB
    rw [if_neg (by decide), if_neg (by decide), if_pos rfl, e0, if_pos rfl, if_pos rfl]
    rfl
  · unfold prB
    rw [if_neg (by decide), if_neg (by decide), if_neg (by decide), if_pos rfl, e0, if_neg (by decide), if_neg (by decide)]
    rfl
theorem expr_all (g : Nat) (S : ByteArray) (hS : S.size ≤ 5000) : ∀ m, IHyp g S m := by
  intro m
  induction m with
  | zero => intro L t op ts w hm; omega
  | succ m ih =>
    intro L t op ts w hm hL hok h0 hnd hgd h
    have hEx : ∀ {M : Nat} {u : RE} {o : Int} {r : List Tok} {W : World}, M ≠ 7 → ExprC M g S o u r W → Calls Tryd.prog 33 #[.pointer (some ⟨g, 0, none⟩), .int .i64 (M : Int)] W (ExprQ g S o u r W) := fun hM hC => by
      unfold ExprC at hC; rw [if_neg hM] at hC; exact hC
    have hcase : L = 7 ∨ L = 6 ∨ L = 2 ∨ (L = 0 ∨ L = 1 ∨ L = 3 ∨ L = 4 ∨ L = 5) := by omega
    rcases hcase with rfl | rfl | rfl | hLb
    · unfold ExprC
      rw [if_pos rfl]
      have hok' := hok
      cases hok with
      | @mk k n A c ks node kids =>
        have hlc := lev_cases k node.k0 node.k1
        by_cases h7 : lev k = 7
        · have hks : ks = [] := List.eq_nil_of_length_eq_zero (by rw [node.len]; unfold opsN; rw [if_pos (hlc.1.1 h7)])
          subst hks
          rw [prT_own 7 _ (by show 7 ≤ lev k; omega)] at h
          rcases hlc.1.1 h7 with rfl | rfl
          · rw [show prB (.node 1 n A c []) = [Lib.itoa n] from by unfold prB; rw [if_pos rfl]] at h
            have h2 := node.n1
            rw [if_pos rfl] at h2
            exact leaf_num g S op n A c ts w hS node.n0 h2 h
          · have hn : n = 0 := by have h1 := node.n0; have h2 := node.n1; rw [if_neg (by decide)] at h2; omega
            subst hn
            rw [show prB (.node 2 0 A c []) = [[121]] from by unfold prB; rw [if_neg (by decide), if_pos rfl]] at h
            exact leaf_year g S op A c ts w hS h
        · have hlt : lev (kd (RE.node k n A c ks)) < 7 := by have := lev_le k; show lev k < 7; omega
          rw [prT_par 7 _ hlt] at h hm
          simp only [List.length_cons, List.length_append, List.length_nil] at hm
          have e : nd 7 (.node k n A c ks) = ht (.node k n A c ks) := by unfold nd; rw [if_pos hlt]
          have e0 : nd 0 (.node k n A c ks) = ht (.node k n A c ks) - 1 := by unfold nd; rw [if_neg (by omega)]
          have hp := ht_pos (.node k n A c ks)
          rw [e] at hnd
          refine leaf_par g S op (.node k n A c ks) ts w hS h0 (by omega) (by rw [prT_zero]; simpa using h) fun W hW => ?_
          exact hEx (M := 0) (by omega) (ih 0 _ (op + 1) ([41] :: ts) W (by rw [prT_zero]; omega) (by omega) hok' (by omega) (by rw [e0]; omega) (good_close 0 ts) hW)
    · unfold ExprC
      rw [if_neg (by omega)]
      have hok' := hok
      cases hok with
      | @mk k n A c ks node kids =>
        have hlc := lev_cases k node.k0 node.k1
        by_cases h6 : lev k = 6
        · obtain rfl := hlc.2.1.1 h6
          have hl1 : ks.length = 1 := by rw [node.len]; decide
          obtain ⟨a, rfl⟩ : ∃ a, ks = [a] := by
            match ks, hl1 with
            | [a], _ => exact ⟨a, rfl⟩
          have hn : n = 0 := by have h1 := node.n0; have h2 := node.n1; rw [if_neg (by decide)] at h2; omega
          subst hn
          rw [prT_own 6 _ (by show 6 ≤ lev 3; decide), prB_one 3 0 A c a (.inl rfl), if_pos rfl, if_pos rfl] at h hm
          simp only [List.length_cons] at hm
          have hta := ht_kid 3 0 A c [a] a (by simp)
          have hnl := nd_le 6 a
          have e : nd 6 (.node 3 0 A c [a]) = ht (.node 3 0 A c [a]) - 1 := by unfold nd; rw [if_neg (by show ¬ lev 3 < 6; decide)]
          rw [e] at hnd
          refine expr_neg g S op a A c ts w hS h fun W hW => ?_
          exact hEx (M := 6) (by omega) (ih 6 a op ts W (by omega) (by omega) (kids a (by simp)) h0 (by omega) hgd hW)
        · have hne : lev (kd (RE.node k n A c ks)) ≠ 6 := h6
          obtain ⟨c1, r1, e1, _, e2⟩ := first_word _ hok' 7 (by omega)
          have hup : prT 6 (.node k n A c ks) = prT 7 (.node k n A c ks) := prT_up 6 _ hne
          rw [hup] at h hm
          refine expr_up6 g S op (.node k n A c ks) (prT 7 (.node k n A c ks) ++ ts) ts w hS h (by rw [e1]; exact e2 rfl) fun W hW => ?_
          have hC := ih 7 (.node k n A c ks) op ts W (by omega) (by omega) hok' h0 (by rw [nd_up 6 _ hne]; exact hnd) (hgd.more (by omega)) hW
          unfold ExprC at hC
          rw [if_pos rfl] at hC
          exact hC
    · unfold ExprC
      rw [if_neg (by omega)]
      have hok' := hok
      cases hok with
      | @mk k n A c ks node kids =>
        have hlc := lev_cases k node.k0 node.k1
        by_cases h2 : lev k = 2
        · obtain rfl := hlc.2.2.1 h2
          have hl1 : ks.length = 1 := by rw [node.len]; decide
          obtain ⟨a, rfl⟩ : ∃ a, ks = [a] := by
            match ks, hl1 with
            | [a], _ => exact ⟨a, rfl⟩
          have hn : n = 0 := by have h1 := node.n0; have h2 := node.n1; rw [if_neg (by decide)] at h2; omega
          subst hn
          rw [prT_own 2 _ (by show 2 ≤ lev 11; decide), prB_one 11 0 A c a (.inr rfl), if_neg (by decide), if_neg (by decide)] at h hm
          simp only [List.length_cons] at hm
          have hta := ht_kid 11 0 A c [a] a (by simp)
          have hnl := nd_le 2 a
          have e : nd 2 (.node 11 0 A c [a]) = ht (.node 11 0 A c [a]) - 1 := by unfold nd; rw [if_neg (by show ¬ lev 11 < 2; decide)]
          rw [e] at hnd
          refine expr_not g S op a A c ts w hS h fun W hW => ?_
          exact hEx (M := 2) (by omega) (ih 2 a op ts W (by omega) (by omega) (kids a (by simp)) h0 (by omega) hgd hW)
        · have hne : lev (kd (RE.node k n A c ks)) ≠ 2 := h2
          obtain ⟨c1, r1, e1, e2, _⟩ := first_word _ hok' 3 (by omega)
          have hup : prT 2 (.node k n A c ks) = prT 3 (.node k n A c ks) := prT_up 2 _ hne
          rw [hup] at h hm
          refine expr_up2 g S op (.node k n A c ks) (prT 3 (.node k n A c ks) ++ ts) ts w hS h (by rw [e1]; exact e2) fun W hW => ?_
          exact hEx (M := 3) (by omega) (ih 3 (.node k n A c ks) op ts W (by omega) (by omega) hok' h0 (by rw [nd_up 2 _ hne]; exact hnd) (hgd.more (by omega)) hW)
    · unfold ExprC
      rw [if_neg (by omega)]
      obtain ⟨x, ps, C⟩ := chain_of L hLb t hok
      have hwl := congrArg List.length C.words
      rw [List.length_append] at hwl
      have hndx : nd (L + 1) x ≤ nd L t := by
        rcases C.hx with ⟨_, e, hne⟩ | ⟨hlt, hl⟩
        · rw [e, nd_up L t hne]; exact Nat.le_refl _
        · have := nd_le (L + 1) x
          unfold nd
          rw [if_neg (show ¬ lev (kd t) < L by omega)]
          have h1 : nd (L + 1) x ≤ ht t - 1 := by omega
          unfold nd at h1
          exact h1
      have hcast : ((L + 1 : Nat) : Int) = (L : Int) + 1 := by omega
      rw [C.words, List.append_assoc] at h
      refine expr_bin g S op L hLb t x (prT (L + 1) x) ps C.okp C.shape C.one ts w hS h hgd (fun W r hg hW => ?_) (fun p hp W r hg hW => ?_)
      · have := hEx (M := L + 1) (by omega) (ih (L + 1) x op r W (by omega) (by omega) C.okx h0 (by omega) hg hW)
        rw [hcast] at this
        exact this
      · have hndp : nd (L + 1) p.2 ≤ nd L t := by
          have h1 := C.hp p hp
          have h2 := nd_le (L + 1) p.2
          rcases C.hx with ⟨e, _, _⟩ | ⟨_, hl⟩
          · rw [e] at hp; cases hp
          · have h3 : nd L t = ht t - 1 := by unfold nd; rw [if_neg (by omega)]
            omega
        have hpl : (prT (L + 1) p.2).length < (prT L t).length := by
          have h1 : 0 < (prT (L + 1) x).length := prT_ne _ x C.okx
          have h2 : (prT (L + 1) p.2).length ≤ (flatP L ps).length := by
            have : ∀ (l : List (Int × RE)), p ∈ l → (prT (L + 1) p.2).length ≤ (flatP L l).length := by
              intro l
              induction l with
              | nil => intro h; cases h
              | cons q l ihl =>
                intro h
                have e : (flatP L (q :: l)).length = (prT (L + 1) q.2).length + 1 + (flatP L l).length := by simp [flatP]; omega
                rcases List.mem_cons.1 h with rfl | h
                · omega
                · have := ihl h; omega
            exact this ps hp
          omega
        have := hEx (M := L + 1) (by omega) (ih (L + 1) p.2 op r W (by omega) (by omega) (C.okp p hp).2.2 h0 (by omega) hg hW)
        rw [hcast] at this
        exact this
/-- an expression that was written is read -/
theorem expr_read (g : Nat) (S : ByteArray) (hS : S.size ≤ 5000) (t : RE) (hok : ReOk t) (hht : ht t ≤ 12) (ts : List Tok) (hgd : Good 0 ts) (w : World) (h : RdOk w g S 0 (prB t ++ ts)) :
    Calls Tryd.prog 33 #[.pointer (some ⟨g, 0, none⟩), .int .i64 0] w (ExprQ g S 0 t ts w) := by
  have hn : nd 0 t ≤ 12 := by have := nd_le 0 t; omega
  have hC := expr_all g S hS _ 0 t 0 ts w (Nat.lt_succ_self _) (by omega) hok (by omega) (by omega) hgd (by rw [prT_zero]; exact h)
  unfold ExprC at hC
  rw [if_neg (by omega)] at hC
  exact hC
/-- .. in parentheses -/
theorem expr_paren (g : Nat) (S : ByteArray) (hS : S.size ≤ 5000) (t : RE) (hok : ReOk t) (hht : ht t ≤ 12) : ∀ (j L : Nat), L + j = 7 → ∀ (ts : List Tok), Good L ts → ∀ w : World, RdOk w g S 0 ([40] :: (prB t ++ [41] :: ts)) → ExprC L g S 0 t ts w := by
  intro j
  induction j with
  | zero =>
    intro L hL ts hgd w h
    obtain rfl : L = 7 := by omega
    unfold ExprC
    rw [if_pos rfl]
    refine leaf_par g S 0 t ts w hS (by omega) (by omega) (by rw [prT_zero]; exact h) fun W hW => ?_
    have hn : nd 0 t ≤ 11 := by have := ht_pos t; unfold nd; rw [if_neg (by omega)]; omega
    have hC := expr_all g S hS _ 0 t (0 + 1) ([41] :: ts) W (Nat.lt_succ_self _) (by omega) hok (by omega) (by omega) (good_close 0 ts) hW
    unfold ExprC at hC
    rw [if_neg (by omega)] at hC
    exact hC
  | succ j ih =>
    intro L hL ts hgd w h
    have hn7 : L ≠ 7 := by omega
    unfold ExprC
    rw [if_neg hn7]
    have hcase : L = 6 ∨ L = 2 ∨ (L = 0 ∨ L = 1 ∨ L = 3 ∨ L = 4 ∨ L = 5) := by omega
    rcases hcase with rfl | rfl | hLb
    · refine expr_up6 g S 0 t ([40] :: (prB t ++ [41] :: ts)) ts w hS h (by show ([40] : Tok) ≠ [45]; decide) fun W hW => ?_
      have hC := ih 7 (by omega) ts (hgd.more (by omega)) W hW
      unfold ExprC at hC
      rw [if_pos rfl] at hC
      exact hC
    · refine expr_up2 g S 0 t ([40] :: (prB t ++ [41] :: ts)) ts w hS h (by show ([40] : Tok) ≠ [110, 111, 116]; decide) fun W hW => ?_
      have hC := ih 3 (by omega) ts (hgd.more (by omega)) W hW
      unfold ExprC at hC
      rw [if_neg (by omega)] at hC
      exact hC
    · have hcast : ((L + 1 : Nat) : Int) = (L : Int) + 1 := by omega
      refine expr_bin g S 0 L hLb t t ([40] :: (prB t ++ [[41]])) [] (fun p hp => by cases hp) rfl (fun _ => by simp) ts w hS (by simpa [flatP] using h) hgd (fun W r hg hW => ?_) (fun p hp => by cases hp)
      have hC := ih (L + 1) (by omega) r hg W (by simpa using hW)
      unfold ExprC at hC
      rw [if_neg (by omega), hcast] at hC
      exact hC
end Go.Proofs.YtbmbphikjainiaaDoor
