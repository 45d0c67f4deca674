/- A region with one call that writes a row of one's own: all else only grows. -/
import Derived.Test.YtbmbphikjainiaaDoorFlow2
import Derived.Test.YtbmbphikjainiaaDoorOwn
namespace Go.Proofs.YtbmbphikjainiaaDoor
open Go.RowKit
set_option linter.unusedVariables false

theorem grown_bel {w w' : World} {row : Option Nat} (h : Below w.heap.size w w') : w.grownBy w' row := ⟨h.os, h.tape, h.output, h.size, fun k hk _ => h.block k hk⟩
/-- operation m may write the row, all others grow -/
def transG (m : Nat) (row : Option Nat) (j : Nat) (w w' : World) : Prop := if j = m then w.grownBy w' row else bel w w'
/-- as long as m has not run, the world has only grown -/
def capG (m : Nat) (w0 : World) (row : Option Nat) (k : Nat) (w : World) : Prop := if k = m then Below w0.heap.size w0 w else w0.grownBy w row
theorem capG_grown {m k : Nat} {w0 w : World} {row : Option Nat} (h : capG m w0 row k w) : w0.grownBy w row := by
  unfold capG at h
  split at h
  · exact grown_bel h
  · exact h
theorem transG_bel {m k : Nat} {w w' : World} {row : Option Nat} (h : Below w.heap.size w w') : transG m row k w w' := by
  unfold transG
  split
  · exact grown_bel h
  · exact h
theorem transG_grown {m k : Nat} {w w' : World} {row : Option Nat} (h : transG m row k w w') : w.grownBy w' row := by
  unfold transG at h
  split at h
  · exact h
  · exact grown_bel h
theorem capG_next {m : Nat} {w0 : World} {row : Option Nat} (j k : Nat) (w w' : World) (hjk : j ≠ k) (ht : transG m row j w w') (h : capG m w0 row k w) : capG m w0 row k w' := by
  unfold capG at *
  split
  · rename_i e
    rw [if_pos e] at h
    unfold transG at ht
    rw [if_neg (fun e' => hjk (e'.trans e.symm))] at ht
    exact below_then h ht
  · rename_i e
    rw [if_neg e] at h
    exact World.grownBy.trans h (transG_grown ht)

abbrev FlowG (P : Program) (ops : Array Oper) (m : Nat) (w0 : World) (row : Option Nat) (R : Nat → Option Told) (E : Act → World → Prop) (l : List Oper) (k : Nat) (a : Act) (L : List Fact) : Prop :=
  wpFlow P ops (transG m row) (capG m w0 row) R E l k a (lf L)
section
variable {P : Program} {ops : Array Oper} {m : Nat} {row : Option Nat} {w0 : World} {R : Nat → Option Told} {E : Act → World → Prop} {o : Oper} {rest : List Oper} {k : Nat} {a : Act} {L : List Fact}

theorem flowG_nil (h : ∀ w, w0.grownBy w row → allf L w → E a w) : FlowG P ops m w0 row R E [] k a L := fun w hb hl => h w (capG_grown hb) (allf_of L hl)
theorem flowG_val {v : Value} (hR : R k = none) (hw : Region.wanted o (yielded ops a.tmps) = true)
    (h : ∀ w, w0.grownBy w row → (execOp a.eval o).run P w = .ok (.value v) w) (hr : FlowG P ops m w0 row R E rest (k + 1) (a.put o.dst v) L) : FlowG P ops m w0 row R E (o :: rest) k a L := by
  refine ⟨⟨fun u => u = v, fun _ _ => True⟩, ⟨v, rfl⟩, ⟨fun t' ht => (by rw [hR] at ht; cases ht), fun w hc _ => ?_, fun _ w hc _ => ?_, fun _ _ _ _ _ _ _ h => h⟩, fun u hu => ?_⟩
  · unfold Gives; rw [if_pos hw, h w (capG_grown hc)]; exact ⟨rfl, trivial, transG_bel (Below.refl _ _)⟩
  · unfold Gives0; rw [if_pos hw, h w (capG_grown hc)]; exact ⟨rfl, trivial, transG_bel (Below.refl _ _)⟩
  · subst hu; exact wpFlow.mono _ _ _ _ _ (fun i w h => h.1) hr
theorem flowG_skip (hR : R k = none) (hw : Region.wanted o (yielded ops a.tmps) = false) (hr : FlowG P ops m w0 row R E rest (k + 1) (a.put o.dst undef) L) : FlowG P ops m w0 row R E (o :: rest) k a L := by
  have hw' : ¬ Region.wanted o (yielded ops a.tmps) = true := by rw [hw]; simp
  refine ⟨⟨fun u => u = undef, fun _ _ => True⟩, ⟨undef, rfl⟩, ⟨fun t' ht => (by rw [hR] at ht; cases ht), fun w hc _ => ?_, fun _ w hc _ => ?_, fun _ _ _ _ _ _ _ h => h⟩, fun u hu => ?_⟩
  · unfold Gives; rw [if_neg hw']; exact ⟨rfl, trivial, transG_bel (Below.refl _ _)⟩
  · unfold Gives0; rw [if_neg hw']; exact ⟨rfl, trivial, transG_bel (Below.refl _ _)⟩
  · subst hu; exact wpFlow.mono _ _ _ _ _ (fun i w h => h.1) hr
/-- a new row of literals -/
theorem flowG_lits {n c : Nat} {t : TypeId} {cs : Array Value} (hrow : ∀ b, row = some b → b < w0.heap.size) (hR : R k = none) (hw : Region.wanted o (yielded ops a.tmps) = true)
    (h : ∀ w, w0.grownBy w row → (execOp a.eval o).run P w = .ok (.value (.slice (some ⟨w.heap.size, 0, none⟩) n c)) (w.alloc (.cells cs t)))
    (hr : ∀ g, w0.heap.size ≤ g → FlowG P ops m w0 row R E rest (k + 1) (a.put o.dst (.slice (some ⟨g, 0, none⟩) n c)) ((k, fun w => Box w g t cs) :: L)) : FlowG P ops m w0 row R E (o :: rest) k a L := by
  refine ⟨⟨fun u => ∃ g, w0.heap.size ≤ g ∧ u = .slice (some ⟨g, 0, none⟩) n c, fun u w => ∀ g, w0.heap.size ≤ g → u = .slice (some ⟨g, 0, none⟩) n c → Box w g t cs⟩, ⟨_, w0.heap.size, Nat.le_refl _, rfl⟩, ⟨fun t' ht => (by rw [hR] at ht; cases ht), fun w hc _ => ?_, fun _ w hc _ => ?_, fun j hne hp u w w' ht h g hg e => (h g hg e).grown (transG_grown ht) (fun e' => absurd (hrow g e'.symm) (by omega))⟩, fun u hu => ?_⟩
  · unfold Gives; rw [if_pos hw, h w (capG_grown hc)]; exact ⟨⟨_, (capG_grown hc).size, rfl⟩, fun g hg e => (show w.heap.size = g from by simpa using e) ▸ Box.new _ _ _, transG_bel (below_alloc1 _ _)⟩
  · unfold Gives0; rw [if_pos hw, h w (capG_grown hc)]; exact ⟨⟨_, (capG_grown hc).size, rfl⟩, fun g hg e => (show w.heap.size = g from by simpa using e) ▸ Box.new _ _ _, transG_bel (below_alloc1 _ _)⟩
  · obtain ⟨g, hg, rfl⟩ := hu
    exact wpFlow.mono _ _ _ _ _ (fun i w h => lf_cons i w ⟨h.1, fun e => h.2 e g hg rfl⟩) (hr g hg)
/-- the call that writes -/
theorem flowG_call {t : Told} {f : FuncId} {args : Array Value} (use : List Nat) (hu : pastB ops k use = true) (hk : k = m) (hR : R k = some t) (hw : Region.wanted o (yielded ops a.tmps) = true) (hs : ∃ v, t.V v) (hst : ∀ v w w', Below w.heap.size w w' → t.F v w → t.F v w')
    (h : ∀ w, Below w0.heap.size w0 w → (execOp a.eval o).run P w = .ok (.enter f args) w)
    (hc : ∀ w, Below w0.heap.size w0 w → usef use L w → Calls P f args w fun e w' => ∃ v, e = .returned v ∧ t.V v ∧ t.F v w' ∧ w.grownBy w' row)
    (hr : ∀ v, t.V v → FlowG P ops m w0 row R E rest (k + 1) (a.put o.dst v) ((k, t.F v) :: L)) : FlowG P ops m w0 row R E (o :: rest) k a L := by
  subst hk
  refine ⟨t, hs, ⟨fun t' ht => (by rw [hR] at ht; exact Option.some.inj ht), fun w hc' hp => ?_, fun hk => (by rw [hR] at hk; cases hk), fun j hne hp v w w' ht h => hst v w w' (by unfold transG at ht; rw [if_neg hne] at ht; exact ht) h⟩, fun u hu => ?_⟩
  · unfold capG at hc'
    rw [if_pos rfl] at hc'
    unfold Gives
    rw [if_pos hw, h w hc']
    refine Calls.mono (hc w hc' (usef_of L fun i hi => hp i (pastB_spec hu i hi))) fun e w' ⟨v, he, h1, h2, h3⟩ => ?_
    subst he
    exact ⟨h1, h2, by unfold transG; rw [if_pos rfl]; exact h3⟩
  · exact wpFlow.mono _ _ _ _ _ (fun i w h => lf_cons i w ⟨h.1, h.2⟩) (hr u hu)
theorem flowG_begin_tail {id : Nat} {Q : Exit → Act → World → Prop} {w : World} {l : List Oper} (n m : Nat) (row : Option Nat) (R : Nat → Option Told) (hm : P.follows .mixedOrders = true) (hB : Region.lexTailB .any l.toArray n = true)
    (h : FlowG P l.toArray m w row R (fun a' w' => wpList P l.toArray Q (l.drop n) a' w') (l.take n) 0 a []) : (Code.region id l.toArray true).wp P Q a w :=
  wp_flow_tail n (transG m row) (capG m w row) R hm hB (fun j k w1 w2 hjk ht h' => capG_next j k w1 w2 hjk ht h') (fun k => by
    unfold capG
    split
    · exact below_drew (Below.refl _ _) 1
    · exact grown_bel (below_drew (Below.refl _ _) 1)) (wpFlow.mono _ _ _ _ _ (fun i w _ q hq => by cases hq) h)
end
end Go.Proofs.YtbmbphikjainiaaDoor
