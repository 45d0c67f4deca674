/- The steps of a flow (Flow.lean): values, passed operations, new blocks, calls; worlds that only grow. -/
import Derived.Test.YtbmbphikjainiaaDoorFlow
import Derived.Test.YtbmbphikjainiaaDoorWords
namespace Go.Proofs.YtbmbphikjainiaaDoor
open Go.RowKit
set_option linter.unusedVariables false

/-- what comes before j, gathered from j - 1 down -/
def pastGo (ops : Array Oper) : Nat → List Nat → List Nat
  | 0, S => S
  | i + 1, S => pastGo ops i (if S.any (fun x => Region.waitsFor .any ops x i) then i :: S else S)
def pastB (ops : Array Oper) (j : Nat) (use : List Nat) : Bool := use.all fun i => decide (i ≠ j) && (pastGo ops j [j]).contains i
theorem pastGo_spec {ops : Array Oper} {j : Nat} : ∀ (n : Nat) (S : List Nat), (∀ x ∈ S, x = j ∨ Past ops x j) → ∀ x ∈ pastGo ops n S, x = j ∨ Past ops x j
  | 0, _, h => h
  | n + 1, S, h => by
    refine pastGo_spec n _ ?_
    split
    · rename_i hs
      intro x hx
      rcases List.mem_cons.1 hx with rfl | hx
      · obtain ⟨y, hy, hw⟩ := List.any_eq_true.1 hs
        obtain ⟨oj, hoj, e, he, hb, hon⟩ := Region.waitsFor_spec hw
        have hp : Past ops x y := hon ▸ Past.edge hoj he hb
        rcases h y hy with rfl | h2
        · exact .inr hp
        · exact .inr (hp.trans h2)
      · exact h x hx
    · exact h
theorem pastB_spec {ops : Array Oper} {j : Nat} {use : List Nat} (h : pastB ops j use = true) (i : Nat) (hi : i ∈ use) : Past ops i j := by
  have := List.all_eq_true.1 h i hi
  simp only [Bool.and_eq_true, decide_eq_true_eq, List.contains_iff_mem] at this
  exact (pastGo_spec j [j] (fun x hx => .inl (by simpa using hx)) i this.2).resolve_left this.1

abbrev Fact := Nat × (World → Prop)
/-- the facts as a list -/
def lf (l : List Fact) : Nat → World → Prop := fun i w => ∀ p ∈ l, p.1 = i → p.2 w
/-- those that are used -/
def usef (use : List Nat) : List Fact → World → Prop
  | [], _ => True
  | p :: l, w => (if p.1 ∈ use then p.2 w else True) ∧ usef use l w
theorem usef_of {use : List Nat} {w : World} : ∀ (l : List Fact), (∀ i, i ∈ use → lf l i w) → usef use l w
  | [], _ => trivial
  | p :: l, h => ⟨by split; · rename_i hp; exact h _ hp p (List.mem_cons_self ..) rfl
                     · trivial, usef_of l fun i hi q hq e => h i hi q (List.mem_cons_of_mem _ hq) e⟩
theorem usef_head {use : List Nat} {k : Nat} {p : World → Prop} {l : List Fact} {w : World} (h : usef (k :: use) ((k, p) :: l) w) : p w := by
  have := h.1
  rwa [if_pos (List.mem_cons_self ..)] at this
theorem usef_at {use : List Nat} {k : Nat} {p : World → Prop} {w : World} : ∀ {l : List Fact}, (l.find? fun q => q.1 == k) = some (k, p) → usef (use) l w → k ∈ use → p w
  | [], h, _, _ => by simp at h
  | q :: l, h, hu, hk => by
    rw [List.find?_cons] at h
    split at h
    · cases h
      have := hu.1
      rwa [if_pos hk] at this
    · exact usef_at h hu.2 hk
theorem usef_tail {use : List Nat} {q : Fact} {l : List Fact} {w : World} (h : usef use (q :: l) w) : usef use l w := h.2
theorem lf_cons {L : List Fact} {k : Nat} {p : World → Prop} (i : Nat) (w : World) (h : addF (lf L) k p i w) : lf ((k, p) :: L) i w := by
  intro q hq e
  rcases List.mem_cons.1 hq with rfl | hq
  · exact h.2 e.symm
  · exact h.1 q hq e
def allf : List Fact → World → Prop
  | [], _ => True
  | p :: l, w => p.2 w ∧ allf l w
theorem allf_of {w : World} : ∀ (l : List Fact), (∀ i, lf l i w) → allf l w
  | [], _ => trivial
  | p :: l, h => ⟨h p.1 p (List.mem_cons_self ..) rfl, allf_of l fun i q hq e => h i q (List.mem_cons_of_mem _ hq) e⟩

/-- the world has only grown -/
def bel (w w' : World) : Prop := Below w.heap.size w w'

/-- a writer's own transition, or growth -/
def trans (S : Nat → Option (World → World → Prop)) (j : Nat) (w w' : World) : Prop := match S j with | none => bel w w' | some T => T w w'
theorem trans_bel {S : Nat → Option (World → World → Prop)} {j : Nat} {w w' : World} (h : S j = none) (hb : Below w.heap.size w w') : trans S j w w' := by unfold trans; rw [h]; exact hb
theorem trans_some {S : Nat → Option (World → World → Prop)} {j : Nat} {w w' : World} {T : World → World → Prop} (h : S j = some T) (hb : T w w') : trans S j w w' := by unfold trans; rw [h]; exact hb
/-- a fact that growth keeps, and each writer that may come later -/
def Keeps (ops : Array Oper) (S : Nat → Option (World → World → Prop)) (k : Nat) (p : World → Prop) : Prop := ∀ j T, S j = some T → j ≠ k → ¬ Past ops j k → ∀ w w', T w w' → p w → p w'
theorem keeps_trans {ops : Array Oper} {S : Nat → Option (World → World → Prop)} {k : Nat} {p : World → Prop} (hb : ∀ w w', Below w.heap.size w w' → p w → p w') (hk : Keeps ops S k p) (j : Nat) (hne : j ≠ k) (hp : ¬ Past ops j k) (w w' : World) (h : trans S j w w') (hw : p w) : p w' := by
  unfold trans at h
  split at h
  · exact hb _ _ h hw
  · rename_i T hT; exact hk j T hT hne hp _ _ h hw

abbrev FlowW (P : Program) (ops : Array Oper) (S : Nat → Option (World → World → Prop)) (w0 : World) (R : Nat → Option Told) (E : Act → World → Prop) (l : List Oper) (k : Nat) (a : Act) (L : List Fact) : Prop :=
  wpFlow P ops (trans S) (fun _ => Below w0.heap.size w0) R E l k a (lf L)
/-- no operation writes -/
def noW (_ : Nat) : Option (World → World → Prop) := none
abbrev FlowB (P : Program) (ops : Array Oper) (w0 : World) (R : Nat → Option Told) (E : Act → World → Prop) (l : List Oper) (k : Nat) (a : Act) (L : List Fact) : Prop :=
  FlowW P ops noW w0 R E l k a L
theorem keeps_noW {ops : Array Oper} {k : Nat} {p : World → Prop} : Keeps ops noW k p := fun j T h => by cases h

/-- a call that gives one value -/
def det (v : Value) : Told := ⟨fun u => u = v, fun _ _ => True⟩
def tellOf (l : List (Nat × Told)) (k : Nat) : Option Told := l.lookup k
def writeOf (l : List (Nat × (World → World → Prop))) (k : Nat) : Option (World → World → Prop) := l.lookup k

theorem writeOf_one {m j : Nat} {T T' : World → World → Prop} (h : writeOf [(m, T)] j = some T') : j = m ∧ T' = T := by
  unfold writeOf at h
  simp only [List.lookup] at h
  split at h
  · rename_i e; exact ⟨by simpa using e, (Option.some.inj h).symm⟩
  · cases h
theorem keeps_one {ops : Array Oper} {m k : Nat} {T : World → World → Prop} {p : World → Prop} (h : ∀ w w', T w w' → p w → p w') : Keeps ops (writeOf [(m, T)]) k p := fun j T' hT _ _ w w' hw hp => by
  obtain ⟨_, rfl⟩ := writeOf_one hT
  exact h _ _ hw hp
theorem keeps_own {ops : Array Oper} {m : Nat} {T : World → World → Prop} {p : World → Prop} : Keeps ops (writeOf [(m, T)]) m p := fun j T' hT hne _ _ _ _ _ => absurd (writeOf_one hT).1 hne
theorem keeps_past {ops : Array Oper} {m k : Nat} {T : World → World → Prop} {p : World → Prop} (h : pastB ops k [m] = true) : Keeps ops (writeOf [(m, T)]) k p := fun j T' hT _ hp _ _ _ _ => by
  obtain ⟨rfl, _⟩ := writeOf_one hT
  exact absurd (pastB_spec h j (List.mem_cons_self ..)) hp

section
variable {P : Program} {ops : Array Oper} {S : Nat → Option (World → World → Prop)} {w0 : World} {R : Nat → Option Told} {E : Act → World → Prop} {o : Oper} {rest : List Oper} {k : Nat} {a : Act} {L : List Fact}

theorem flow_nil (h : ∀ w, Below w0.heap.size w0 w → allf L w → E a w) : FlowW P ops S w0 R E [] k a L := fun w hb hl => h w hb (allf_of L hl)

/-- a value, the world as it was -/
theorem flowW_val {v : Value} (hS : S k = none) (hR : R k = none) (hw : Region.wanted o (yielded ops a.tmps) = true)
    (h : ∀ w, Below w0.heap.size w0 w → (execOp a.eval o).run P w = .ok (.value v) w) (hr : FlowW P ops S w0 R E rest (k + 1) (a.put o.dst v) L) : FlowW P ops S w0 R E (o :: rest) k a L := by
  refine ⟨⟨fun u => u = v, fun _ _ => True⟩, ⟨v, rfl⟩, ⟨fun t' ht => (by rw [hR] at ht; cases ht), fun w hc _ => ?_, fun _ w hc _ => ?_, fun _ _ _ _ _ _ _ h => h⟩, fun u hu => ?_⟩
  · unfold Gives; rw [if_pos hw, h w hc]; exact ⟨rfl, trivial, trans_bel hS (Below.refl _ _)⟩
  · unfold Gives0; rw [if_pos hw, h w hc]; exact ⟨rfl, trivial, trans_bel hS (Below.refl _ _)⟩
  · subst hu; exact wpFlow.mono _ _ _ _ _ (fun i w h => h.1) hr
/-- a value, by the forerunners' facts -/
theorem flowW_use (use : List Nat) {v : Value} (hu : pastB ops k use = true) (hS : S k = none) (hR : R k = none) (hw : Region.wanted o (yielded ops a.tmps) = true)
    (h : ∀ w, Below w0.heap.size w0 w → usef use L w → (execOp a.eval o).run P w = .ok (.value v) w) (hr : FlowW P ops S w0 R E rest (k + 1) (a.put o.dst v) L) : FlowW P ops S w0 R E (o :: rest) k a L := by
  refine ⟨⟨fun u => u = v, fun _ _ => True⟩, ⟨v, rfl⟩, ⟨fun t' ht => (by rw [hR] at ht; cases ht), fun w hc hp => ?_, fun _ w hc hp => ?_, fun _ _ _ _ _ _ _ h => h⟩, fun u hu => ?_⟩
  · unfold Gives; rw [if_pos hw, h w hc (usef_of L fun i hi => hp i (pastB_spec hu i hi))]; exact ⟨rfl, trivial, trans_bel hS (Below.refl _ _)⟩
  · unfold Gives0; rw [if_pos hw, h w hc (usef_of L fun i hi => hp i (pastB_spec hu i hi))]; exact ⟨rfl, trivial, trans_bel hS (Below.refl _ _)⟩
  · subst hu; exact wpFlow.mono _ _ _ _ _ (fun i w h => h.1) hr
/-- an operation that is not wanted -/
theorem flowW_skip (hS : S k = none) (hR : R k = none) (hw : Region.wanted o (yielded ops a.tmps) = false) (hr : FlowW P ops S w0 R E rest (k + 1) (a.put o.dst undef) L) : FlowW P ops S w0 R E (o :: rest) k a L := by
  have hw' : ¬ Region.wanted o (yielded ops a.tmps) = true := by rw [hw]; simp
  refine ⟨⟨fun u => u = undef, fun _ _ => True⟩, ⟨undef, rfl⟩, ⟨fun t' ht => (by rw [hR] at ht; cases ht), fun w hc _ => ?_, fun _ w hc _ => ?_, fun _ _ _ _ _ _ _ h => h⟩, fun u hu => ?_⟩
  · unfold Gives; rw [if_neg hw']; exact ⟨rfl, trivial, trans_bel hS (Below.refl _ _)⟩
  · unfold Gives0; rw [if_neg hw']; exact ⟨rfl, trivial, trans_bel hS (Below.refl _ _)⟩
  · subst hu; exact wpFlow.mono _ _ _ _ _ (fun i w h => h.1) hr
/-- a new block: its value is mk of the block's number -/
theorem flowW_new (mk : Nat → Value) {t : TypeId} {cs : Array Value} (hK : ∀ g, Keeps ops S k (fun w => Box w g t cs)) (hS : S k = none) (hR : R k = none) (hw : Region.wanted o (yielded ops a.tmps) = true) (hmk : ∀ g g', mk g = mk g' → g = g')
    (h : ∀ w, Below w0.heap.size w0 w → (execOp a.eval o).run P w = .ok (.value (mk w.heap.size)) (w.alloc (.cells cs t)))
    (hr : ∀ g, w0.heap.size ≤ g → FlowW P ops S w0 R E rest (k + 1) (a.put o.dst (mk g)) ((k, fun w => Box w g t cs) :: L)) : FlowW P ops S w0 R E (o :: rest) k a L := by
  refine ⟨⟨fun u => ∃ g, w0.heap.size ≤ g ∧ u = mk g, fun u w => ∀ g, u = mk g → Box w g t cs⟩, ⟨_, w0.heap.size, Nat.le_refl _, rfl⟩, ⟨fun t' ht => (by rw [hR] at ht; cases ht), fun w hc _ => ?_, fun _ w hc _ => ?_, fun j hne hp u w w' ht h g e => keeps_trans (fun _ _ hb hx => hx.below hb) (hK g) j hne hp _ _ ht (h g e)⟩, fun u hu => ?_⟩
  · unfold Gives; rw [if_pos hw, h w hc]; exact ⟨⟨_, hc.size, rfl⟩, fun g e => hmk _ _ e ▸ Box.new _ _ _, trans_bel hS (below_alloc1 _ _)⟩
  · unfold Gives0; rw [if_pos hw, h w hc]; exact ⟨⟨_, hc.size, rfl⟩, fun g e => hmk _ _ e ▸ Box.new _ _ _, trans_bel hS (below_alloc1 _ _)⟩
  · obtain ⟨g, hg, rfl⟩ := hu
    exact wpFlow.mono _ _ _ _ _ (fun i w h => lf_cons i w ⟨h.1, fun e => h.2 e g rfl⟩) (hr g hg)
theorem flowW_box {t : TypeId} {cs : Array Value} (hK : ∀ g, Keeps ops S k (fun w => Box w g t cs)) (hS : S k = none) (hR : R k = none) (hw : Region.wanted o (yielded ops a.tmps) = true)
    (h : ∀ w, Below w0.heap.size w0 w → (execOp a.eval o).run P w = .ok (.value (.pointer (some ⟨w.heap.size, 0, none⟩))) (w.alloc (.cells cs t)))
    (hr : ∀ g, w0.heap.size ≤ g → FlowW P ops S w0 R E rest (k + 1) (a.put o.dst (.pointer (some ⟨g, 0, none⟩))) ((k, fun w => Box w g t cs) :: L)) : FlowW P ops S w0 R E (o :: rest) k a L :=
  flowW_new (fun g => .pointer (some ⟨g, 0, none⟩)) hK hS hR hw (fun g g' e => by simpa using e) h hr
theorem flowW_lits {n c : Nat} {t : TypeId} {cs : Array Value} (hK : ∀ g, Keeps ops S k (fun w => Box w g t cs)) (hS : S k = none) (hR : R k = none) (hw : Region.wanted o (yielded ops a.tmps) = true)
    (h : ∀ w, Below w0.heap.size w0 w → (execOp a.eval o).run P w = .ok (.value (.slice (some ⟨w.heap.size, 0, none⟩) n c)) (w.alloc (.cells cs t)))
    (hr : ∀ g, w0.heap.size ≤ g → FlowW P ops S w0 R E rest (k + 1) (a.put o.dst (.slice (some ⟨g, 0, none⟩) n c)) ((k, fun w => Box w g t cs) :: L)) : FlowW P ops S w0 R E (o :: rest) k a L :=
  flowW_new (fun g => .slice (some ⟨g, 0, none⟩) n c) hK hS hR hw (fun g g' e => by simpa using e) h hr
/-- a call that gives what is told of it -/
theorem flowW_told {t : Told} {f : FuncId} {args : Array Value} (use : List Nat) (hu : pastB ops k use = true) (hK : ∀ v, Keeps ops S k (t.F v)) (hS : S k = none) (hR : R k = some t) (hw : Region.wanted o (yielded ops a.tmps) = true) (hs : ∃ v, t.V v) (hst : ∀ v w w', Below w.heap.size w w' → t.F v w → t.F v w')
    (h : ∀ w, Below w0.heap.size w0 w → (execOp a.eval o).run P w = .ok (.enter f args) w)
    (hc : ∀ w, Below w0.heap.size w0 w → usef use L w → Calls P f args w fun e w' => ∃ v, e = .returned v ∧ t.V v ∧ t.F v w' ∧ Below w.heap.size w w')
    (hr : ∀ v, t.V v → FlowW P ops S w0 R E rest (k + 1) (a.put o.dst v) ((k, t.F v) :: L)) : FlowW P ops S w0 R E (o :: rest) k a L := by
  refine ⟨t, hs, ⟨fun t' ht => (by rw [hR] at ht; exact Option.some.inj ht), fun w hc' hp => ?_, fun hk => (by rw [hR] at hk; cases hk), fun j hne hp v w w' ht h => keeps_trans (hst v) (hK v) j hne hp _ _ ht h⟩, fun u hu => ?_⟩
  · unfold Gives
    rw [if_pos hw, h w hc']
    refine Calls.mono (hc w hc' (usef_of L fun i hi => hp i (pastB_spec hu i hi))) fun e w' ⟨v, he, h1, h2, h3⟩ => ?_
    subst he
    exact ⟨h1, h2, trans_bel hS h3⟩
  · exact wpFlow.mono _ _ _ _ _ (fun i w h => lf_cons i w ⟨h.1, h.2⟩) (hr u hu)
/-- a call that gives one value -/
theorem flowW_call {v : Value} {f : FuncId} {args : Array Value} (use : List Nat) (hu : pastB ops k use = true) (hS : S k = none) (hR : R k = some (det v)) (hw : Region.wanted o (yielded ops a.tmps) = true)
    (h : ∀ w, Below w0.heap.size w0 w → (execOp a.eval o).run P w = .ok (.enter f args) w)
    (hc : ∀ w, Below w0.heap.size w0 w → usef use L w → Calls P f args w fun e w' => e = .returned v ∧ Below w.heap.size w w')
    (hr : FlowW P ops S w0 R E rest (k + 1) (a.put o.dst v) L) : FlowW P ops S w0 R E (o :: rest) k a L := by
  refine flowW_told use hu (fun v j T _ _ _ _ _ _ h => h) hS hR hw ⟨v, rfl⟩ (fun _ _ _ _ h => h) h (fun w hb hl => (hc w hb hl).mono fun e w' ⟨he, hb'⟩ => ⟨v, he, rfl, trivial, hb'⟩) fun u hu => ?_
  subst hu
  exact wpFlow.mono _ _ _ _ _ (fun i w h q hq e => h q (List.mem_cons_of_mem _ hq) e) hr
/-- a writer that calls nothing: what is told of its value, its own transition -/
theorem flowW_write {t : Told} {T : World → World → Prop} (use : List Nat) (hu : pastB ops k use = true) (hK : ∀ v, Keeps ops S k (t.F v)) (hS : S k = some T) (hR : R k = none) (hw : Region.wanted o (yielded ops a.tmps) = true) (hs : ∃ v, t.V v) (hst : ∀ v w w', Below w.heap.size w w' → t.F v w → t.F v w')
    (h : ∀ w, Below w0.heap.size w0 w → usef use L w → ∃ v w', (execOp a.eval o).run P w = .ok (.value v) w' ∧ t.V v ∧ t.F v w' ∧ T w w')
    (hr : ∀ v, t.V v → FlowW P ops S w0 R E rest (k + 1) (a.put o.dst v) ((k, t.F v) :: L)) : FlowW P ops S w0 R E (o :: rest) k a L := by
  refine ⟨t, hs, ⟨fun t' ht => (by rw [hR] at ht; cases ht), fun w hc hp => ?_, fun _ w hc hp => ?_, fun j hne hp v w w' ht h => keeps_trans (hst v) (hK v) j hne hp _ _ ht h⟩, fun u hu => ?_⟩
  · obtain ⟨v, w', hrun, h1, h2, h3⟩ := h w hc (usef_of L fun i hi => hp i (pastB_spec hu i hi))
    unfold Gives; rw [if_pos hw, hrun]; exact ⟨h1, h2, trans_some hS h3⟩
  · obtain ⟨v, w', hrun, h1, h2, h3⟩ := h w hc (usef_of L fun i hi => hp i (pastB_spec hu i hi))
    unfold Gives0; rw [if_pos hw, hrun]; exact ⟨h1, h2, trans_some hS h3⟩
  · exact wpFlow.mono _ _ _ _ _ (fun i w h => lf_cons i w ⟨h.1, h.2⟩) (hr u hu)
end

section
variable {P : Program} {ops : Array Oper} {w0 : World} {R : Nat → Option Told} {E : Act → World → Prop} {o : Oper} {rest : List Oper} {k : Nat} {a : Act} {L : List Fact}
theorem flow_val {v : Value} (hR : R k = none) (hw : Region.wanted o (yielded ops a.tmps) = true)
    (h : ∀ w, Below w0.heap.size w0 w → (execOp a.eval o).run P w = .ok (.value v) w) (hr : FlowB P ops w0 R E rest (k + 1) (a.put o.dst v) L) : FlowB P ops w0 R E (o :: rest) k a L := flowW_val rfl hR hw h hr
theorem flow_use (use : List Nat) {v : Value} (hu : pastB ops k use = true) (hR : R k = none) (hw : Region.wanted o (yielded ops a.tmps) = true)
    (h : ∀ w, Below w0.heap.size w0 w → usef use L w → (execOp a.eval o).run P w = .ok (.value v) w) (hr : FlowB P ops w0 R E rest (k + 1) (a.put o.dst v) L) : FlowB P ops w0 R E (o :: rest) k a L := flowW_use use hu rfl hR hw h hr
theorem flow_skip (hR : R k = none) (hw : Region.wanted o (yielded ops a.tmps) = false) (hr : FlowB P ops w0 R E rest (k + 1) (a.put o.dst undef) L) : FlowB P ops w0 R E (o :: rest) k a L := flowW_skip rfl hR hw hr
theorem flow_box {t : TypeId} {cs : Array Value} (hR : R k = none) (hw : Region.wanted o (yielded ops a.tmps) = true)
    (h : ∀ w, Below w0.heap.size w0 w → (execOp a.eval o).run P w = .ok (.value (.pointer (some ⟨w.heap.size, 0, none⟩))) (w.alloc (.cells cs t)))
    (hr : ∀ g, w0.heap.size ≤ g → FlowB P ops w0 R E rest (k + 1) (a.put o.dst (.pointer (some ⟨g, 0, none⟩))) ((k, fun w => Box w g t cs) :: L)) : FlowB P ops w0 R E (o :: rest) k a L := flowW_box (fun _ => keeps_noW) rfl hR hw h hr
theorem flow_lits {n c : Nat} {t : TypeId} {cs : Array Value} (hR : R k = none) (hw : Region.wanted o (yielded ops a.tmps) = true)
    (h : ∀ w, Below w0.heap.size w0 w → (execOp a.eval o).run P w = .ok (.value (.slice (some ⟨w.heap.size, 0, none⟩) n c)) (w.alloc (.cells cs t)))
    (hr : ∀ g, w0.heap.size ≤ g → FlowB P ops w0 R E rest (k + 1) (a.put o.dst (.slice (some ⟨g, 0, none⟩) n c)) ((k, fun w => Box w g t cs) :: L)) : FlowB P ops w0 R E (o :: rest) k a L := flowW_lits (fun _ => keeps_noW) rfl hR hw h hr
theorem flow_told {t : Told} {f : FuncId} {args : Array Value} (use : List Nat) (hu : pastB ops k use = true) (hR : R k = some t) (hw : Region.wanted o (yielded ops a.tmps) = true) (hs : ∃ v, t.V v) (hst : ∀ v w w', Below w.heap.size w w' → t.F v w → t.F v w')
    (h : ∀ w, Below w0.heap.size w0 w → (execOp a.eval o).run P w = .ok (.enter f args) w)
    (hc : ∀ w, Below w0.heap.size w0 w → usef use L w → Calls P f args w fun e w' => ∃ v, e = .returned v ∧ t.V v ∧ t.F v w' ∧ Below w.heap.size w w')
    (hr : ∀ v, t.V v → FlowB P ops w0 R E rest (k + 1) (a.put o.dst v) ((k, t.F v) :: L)) : FlowB P ops w0 R E (o :: rest) k a L := flowW_told use hu (fun _ => keeps_noW) rfl hR hw hs hst h hc hr
theorem flow_call {v : Value} {f : FuncId} {args : Array Value} (use : List Nat) (hu : pastB ops k use = true) (hR : R k = some (det v)) (hw : Region.wanted o (yielded ops a.tmps) = true)
    (h : ∀ w, Below w0.heap.size w0 w → (execOp a.eval o).run P w = .ok (.enter f args) w)
    (hc : ∀ w, Below w0.heap.size w0 w → usef use L w → Calls P f args w fun e w' => e = .returned v ∧ Below w.heap.size w w')
    (hr : FlowB P ops w0 R E rest (k + 1) (a.put o.dst v) L) : FlowB P ops w0 R E (o :: rest) k a L := flowW_call use hu rfl hR hw h hc hr

theorem with_lex {id : Nat} {Q : Exit → Act → World → Prop} {w : World} {l : List Oper} (hB : Region.lexAllB l.toArray = true) (h : Hid (Region.lexAllB l.toArray = true) → (Code.region id l.toArray true).wp P Q a w) : (Code.region id l.toArray true).wp P Q a w := h hB
/-- the beginning -/
theorem flowW_begin {id : Nat} {Q : Exit → Act → World → Prop} {w : World} {l : List Oper} (S : Nat → Option (World → World → Prop)) (R : Nat → Option Told) (hm : P.follows .mixedOrders = true) (hB : Region.lexAllB l.toArray = true)
    (hS : ∀ j T, S j = some T → ∀ w1 w2, T w1 w2 → Below w.heap.size w w1 → Below w.heap.size w w2)
    (h : FlowW P l.toArray S w R (fun a' w' => Q .normal a' w') l 0 a []) : (Code.region id l.toArray true).wp P Q a w :=
  wp_flow (trans S) (fun _ => Below w.heap.size w) R hm hB (fun j k w1 w2 _ ht h' => by
    unfold trans at ht
    split at ht
    · exact below_then h' ht
    · rename_i T hT; exact hS j T hT _ _ ht h') (fun _ => below_drew (Below.refl _ _) 1) (wpFlow.mono _ _ _ _ _ (fun i w _ q hq => by cases hq) h)
theorem flowW_begin_tail {id : Nat} {Q : Exit → Act → World → Prop} {w : World} {l : List Oper} (n : Nat) (S : Nat → Option (World → World → Prop)) (R : Nat → Option Told) (hm : P.follows .mixedOrders = true) (hB : Region.lexTailB .any l.toArray n = true)
    (hS : ∀ j T, S j = some T → ∀ w1 w2, T w1 w2 → Below w.heap.size w w1 → Below w.heap.size w w2)
    (h : FlowW P l.toArray S w R (fun a' w' => wpList P l.toArray Q (l.drop n) a' w') (l.take n) 0 a []) : (Code.region id l.toArray true).wp P Q a w :=
  wp_flow_tail n (trans S) (fun _ => Below w.heap.size w) R hm hB (fun j k w1 w2 _ ht h' => by
    unfold trans at ht
    split at ht
    · exact below_then h' ht
    · rename_i T hT; exact hS j T hT _ _ ht h') (fun _ => below_drew (Below.refl _ _) 1) (wpFlow.mono _ _ _ _ _ (fun i w _ q hq => by cases hq) h)
theorem flow_begin {id : Nat} {Q : Exit → Act → World → Prop} {w : World} {l : List Oper} (R : Nat → Option Told) (hm : P.follows .mixedOrders = true) (hB : Region.lexAllB l.toArray = true)
    (h : FlowB P l.toArray w R (fun a' w' => Q .normal a' w') l 0 a []) : (Code.region id l.toArray true).wp P Q a w :=
  flowW_begin noW R hm hB (fun j T h => by cases h) h
theorem flow_begin_tail {id : Nat} {Q : Exit → Act → World → Prop} {w : World} {l : List Oper} (n : Nat) (R : Nat → Option Told) (hm : P.follows .mixedOrders = true) (hB : Region.lexTailB .any l.toArray n = true)
    (h : FlowB P l.toArray w R (fun a' w' => wpList P l.toArray Q (l.drop n) a' w') (l.take n) 0 a []) : (Code.region id l.toArray true).wp P Q a w :=
  flowW_begin_tail n noW R hm hB (fun j T h => by cases h) h
end
end Go.Proofs.YtbmbphikjainiaaDoor
