/- FlowS, FlowM, FlowN, FlowV -/
import Derived.Test.YtifhlmakacoicaaDoorGMem
/- A drawn region in which one operation stores; append to a nil slice. -/
namespace Go.Proofs.YtifhlmakacoicaaDoor
open Go.RowKit
set_option linter.unusedVariables false

theorem bel_grown {w w' : World} (h : w.grownBy w' none) : Below w.heap.size w w' := ⟨h.os, h.tape, h.output, h.size, fun k hk => h.block k hk (by simp)⟩
theorem grown_set (w : World) (g i : Nat) (v : Value) : w.grownBy (w.setCell ⟨g, i, none⟩ v) (some g) := by
  have h := Below.setCell (B := 0) (Below.refl 0 w) (p := ⟨g, i, none⟩) (Nat.zero_le _) v
  refine ⟨h.os, h.tape, h.output, h.size, fun k hk hne => Below.heap_setCell w _ v k ?_⟩
  intro e
  exact hne (by rw [e])
section
variable {P : Program} {ops : Array Oper} {m : Nat} {row : Option Nat} {w0 : World} {R : Nat → Option Told} {E : Act → World → Prop} {o : Oper} {rest : List Oper} {k : Nat} {a : Act} {L : List Fact}
theorem flowG_begin {id : Nat} {Q : Exit → Act → World → Prop} {w : World} {l : List Oper} (m : Nat) (row : Option Nat) (R : Nat → Option Told) (hm : P.follows .mixedOrders = true) (hB : Region.lexAllB l.toArray = true)
    (h : FlowG P l.toArray m w row R (fun a' w' => Q .normal a' w') l 0 a []) : (Code.region id l.toArray true).wp P Q a w :=
  wp_flow (transG m row) (capG m w row) R hm hB (fun j k w1 w2 hjk ht h' => capG_next j k w1 w2 hjk ht h') (fun k => by
    unfold capG
    split
    · exact below_drew (Below.refl _ _) 1
    · exact grown_bel (below_drew (Below.refl _ _) 1)) (wpFlow.mono _ _ _ _ _ (fun i w _ q hq => by cases hq) h)
/-- the operation that stores -/
theorem flowG_store {F : World → Prop} (use : List Nat) (hu : pastB ops k use = true) (hk : k = m) (hR : R k = none) (hw : Region.wanted o (yielded ops a.tmps) = true) (hst : ∀ w w', Below w.heap.size w w' → F w → F w')
    (h : ∀ w, Below w0.heap.size w0 w → usef use L w → ∃ w', (execOp a.eval o).run P w = .ok .skip w' ∧ F w' ∧ w.grownBy w' row)
    (hr : FlowG P ops m w0 row R E rest (k + 1) (a.put o.dst undef) ((k, F) :: L)) : FlowG P ops m w0 row R E (o :: rest) k a L := by
  subst hk
  refine ⟨⟨fun u => u = undef, fun _ => F⟩, ⟨undef, rfl⟩, ⟨fun t' ht => (by rw [hR] at ht; cases ht), fun w hc hp => ?_, fun _ w hc hp => ?_, fun j hne hp v w w' ht h => hst w w' (by unfold transG at ht; rw [if_neg hne] at ht; exact ht) h⟩, fun u hu => ?_⟩
  · unfold capG at hc
    rw [if_pos rfl] at hc
    obtain ⟨w', hrun, h2, h3⟩ := h w hc (usef_of L fun i hi => hp i (pastB_spec hu i hi))
    unfold Gives; rw [if_pos hw, hrun]; exact ⟨rfl, h2, by unfold transG; rw [if_pos rfl]; exact h3⟩
  · unfold capG at hc
    rw [if_pos rfl] at hc
    obtain ⟨w', hrun, h2, h3⟩ := h w hc (usef_of L fun i hi => hp i (pastB_spec hu i hi))
    unfold Gives0; rw [if_pos hw, hrun]; exact ⟨rfl, h2, by unfold transG; rw [if_pos rfl]; exact h3⟩
  · subst hu
    exact wpFlow.mono _ _ _ _ _ (fun i w h => lf_cons i w ⟨h.1, h.2⟩) hr
/-- append to a nil slice: a new row -/
theorem flow_app_nil (use : List Nat) (hu : pastB ops k use = true) (hR : R k = none) (hw : Region.wanted o (yielded ops a.tmps) = true) (s x : Operand) (t : TypeId)
    (ho : o.op = .call { callee := .builtin .append, args := #[s, x], argTypes := #[t, t] }) (e : TypeId) (i : TypeInfo) (z : Value) (size bytes : Nat) (ht : P.underlying t = some (.slice e)) (hi : P.info? e = some i) (hz : i.zero = some z)
    (hsize : i.size = size) (hby : i.bytes = bytes) (hzs : z.cells.size = size) (hsz : 0 < size) (hs : a.eval s = .slice none 0 0)
    (ad : Addr) (q c : Nat) (news : List Value) (hx : a.eval x = .slice (some ad) q c) (hl : news.length = q * size) (hnews : ∀ w, Below w0.heap.size w0 w → usef use L w → ∀ j u, news[j]? = some u → w.cell? (ad.add j) = some u) (h1 : ∀ u ∈ news, u.oneCell' = true)
    (h63 : 0 + q ≤ maxLen) (hbytes : (0 + q) * bytes ≤ 140737488355328)
    (hr : ∀ A c, FlowB P ops w0 R E rest (k + 1) (a.put o.dst (.slice A (0 + q) c)) ((k, fun w => w.ownsRow w0.heap.size e size (.slice A (0 + q) c) (0 + q) ([] ++ news)) :: L)) : FlowB P ops w0 R E (o :: rest) k a L := by
  have H : ∀ w, Below w0.heap.size w0 w → usef use L w → ∃ v w', (execOp a.eval o).run P w = .ok (.value v) w' ∧ (∃ A c, v = .slice A (0 + q) c) ∧ w'.ownsRow w0.heap.size e size v (0 + q) ([] ++ news) ∧ Below w.heap.size w w' := fun w hb hl' => by
    obtain ⟨v', w', r1, r2, r3, _⟩ := run_append_own (P := P) w w0.heap.size t o.type e i z size bytes ht hi hz hsize hby hzs hsz (.slice none 0 0) 0 [] (World.ownsRow_nil _ _ _ _) ad q c news hl (hnews w hb hl') h1 h63 hbytes hb.size
    obtain ⟨A, c', rfl, _⟩ := own_form r2
    exact ⟨_, w', run_app_op s x t t ho _ _ _ hs hx r1, ⟨A, c', rfl⟩, r2, bel_grown r3⟩
  refine ⟨⟨fun u => ∃ A c, u = .slice A (0 + q) c, fun v w => w.ownsRow w0.heap.size e size v (0 + q) ([] ++ news)⟩, ⟨_, none, 0, rfl⟩, ⟨fun t' ht => (by rw [hR] at ht; cases ht), fun w hc hp => ?_, fun _ w hc hp => ?_, fun j hne hp v w w' ht h => own_next h ht⟩, fun u hu => ?_⟩
  · obtain ⟨v, w', hrun, h1, h2, h3⟩ := H w hc (usef_of L fun i hi => hp i (pastB_spec hu i hi))
    unfold Gives; rw [if_pos hw, hrun]; exact ⟨h1, h2, trans_bel rfl h3⟩
  · obtain ⟨v, w', hrun, h1, h2, h3⟩ := H w hc (usef_of L fun i hi => hp i (pastB_spec hu i hi))
    unfold Gives0; rw [if_pos hw, hrun]; exact ⟨h1, h2, trans_bel rfl h3⟩
  · obtain ⟨A, c, rfl⟩ := hu
    exact wpFlow.mono _ _ _ _ _ (fun i w h => lf_cons i w ⟨h.1, h.2⟩) (hr A c)
end
end Go.Proofs.YtifhlmakacoicaaDoor

/- A drawn region with one writer: what comes before it may read what it writes. -/
namespace Go.Proofs.YtifhlmakacoicaaDoor
open Go.RowKit
set_option linter.unusedVariables false

section
variable {P : Program} {ops : Array Oper} {Q : Exit → Act → World → Prop} {T : Nat → World → World → Prop} {C : Nat → World → Prop} {R : Nat → Option Told} {n : Nat} {D : Array Bool → Act → (Nat → World → Prop) → Prop}
theorem wpAny_of_FM {g : Nat} (hC : ∀ j k w w', j ≠ k → ¬ Past ops k j → T j w w' → C k w → C k w') (hCn : ∀ j w w', T j w w' → C n w → C n w') (hD : ∀ listed a L, D listed a L → ∀ w, C n w → (∀ i, L i w) → wpAny P .any ops Q g listed a w) :
    ∀ (f : Nat) (listed : Array Bool) (a : Act) (L : Nat → World → Prop) (w : World), HeadInv .any ops n listed → ((∀ k, listed.getD k true = false → C k w) ∧ C n w) → (∀ i, L i w) → (∀ i, listed.getD i false = false → ∀ w, L i w) → (∀ i j, j ≠ i → ¬ Past ops j i → ∀ w w', T j w w' → L i w → L i w') → wpAnyF P ops T C R n D f listed a L → wpAny P .any ops Q (f + g) listed a w
  | 0, listed, a, L, w, _, hc, hl, _, hst, h => by rw [Nat.zero_add]; exact hD _ _ _ h w hc.2 hl
  | f + 1, listed, a, L, w, inv, hc, hl, hun, hst, h => by
    rw [show f + 1 + g = (f + g) + 1 by omega]
    refine ⟨fun h0 => absurd h0 h.1, fun j hj => ?_⟩
    obtain ⟨hn, o, ho, t, hm, hr⟩ := h.2 j hj
    have hjun := (mem_ready.1 hj).1
    refine (hm.step w (hc.1 j hjun) (fun i _ => hl i)).wpOp ho fun v w' ⟨hv, hF, hTw⟩ => ?_
    have hA : ∀ i, L i w' := fun i => by
      by_cases hij : listed.getD i false = false
      · exact hun i hij w'
      · have hil : listed.getD i false = true := by simpa using hij
        refine hst i j (fun e => ?_) (fun hp => ?_) _ _ hTw (hl i)
        · rw [← e, getD_both hjun] at hil; cases hil
        · have := hp.listed inv hil; rw [getD_both hjun] at this; cases this
    have hU : ∀ i, (listed.setIfInBounds j true).getD i false = false → ∀ w, addF L j (t.F v) i w := fun i hi w1 => by
      have hij : j ≠ i := fun e => by
        subst e
        have hlt : j < listed.size := by
          rcases Nat.lt_or_ge j listed.size with h' | h'
          · exact h'
          · simp [Array.getElem?_eq_none h'] at hjun
        simp [hlt] at hi
      rw [getD_set_ne false hij] at hi
      exact ⟨hun i hi w1, fun e => absurd e.symm hij⟩
    have hCC : (∀ k, (listed.setIfInBounds j true).getD k true = false → C k w') ∧ C n w' := ⟨fun k hk => by
      have hjk : j ≠ k := fun e => by
        subst e
        rcases Nat.lt_or_ge j listed.size with h' | h'
        · simp [h'] at hk
        · simp [Array.getElem?_eq_none (show (listed.setIfInBounds j true).size ≤ j by simpa using h')] at hk
      rw [getD_set_ne true hjk] at hk
      exact hC j k _ _ hjk (fun hp => by have := hp.ready inv hj; rw [getD_both hk] at this; cases this) hTw (hc.1 k hk), hCn j _ _ hTw hc.2⟩
    exact wpAny_of_FM hC hCn hD f _ _ _ w' (inv.set hj hn) hCC (fun i => ⟨hA i, fun e => hF⟩) hU (fun i k hne hnp w1 w2 h12 h1 => ⟨hst i k hne hnp _ _ h12 h1.1, fun e => hm.stable k (e ▸ hne) (e ▸ hnp) _ _ _ h12 (h1.2 e)⟩) (hr v hv)

theorem wp_flow_tailM {id : Nat} {a : Act} {w : World} {l : List Oper} (n : Nat) (T : Nat → World → World → Prop) (C : Nat → World → Prop) (R : Nat → Option Told) (hm : P.follows .mixedOrders = true) (hB : Region.lexTailB .any l.toArray n = true)
    (hC : ∀ j k w w', j ≠ k → ¬ Past l.toArray k j → T j w w' → C k w → C k w') (hCn : ∀ j w w', T j w w' → C n w → C n w') (hc : ∀ k, C k w.drew)
    (h : wpFlow P l.toArray T C R (fun a' w' => wpList P l.toArray Q (l.drop n) a' w') (l.take n) 0 a (fun _ _ => True)) : (Code.region id l.toArray true).wp P Q a w := by
  simp only [Region.lexTailB, Bool.and_eq_true, decide_eq_true_eq] at hB
  obtain ⟨⟨⟨⟨hsel, hn⟩, hs⟩, hch⟩, hlex⟩ := hB
  have hn' : n < l.length := by simpa using hn
  have htl : (l.take n).length = n := by simp; omega
  have hdl : (l.drop n).length = l.toArray.size - n := by simp
  have inv0 : HeadInv .any l.toArray n (Array.replicate l.toArray.size false) :=
    ⟨by simp, fun j oj _ hl => (by rw [getD_replicate_false] at hl; cases hl), fun t _ ht => getD_in (by simpa using ht) (getD_replicate_false _ _)⟩
  have H := wpAnyF_lex (g := l.toArray.size - n) (n := n) hsel (fun listed i inv hi hun s hs' => tail_waits hs hch hn inv _ i rfl hi hun s hs') (l.take n) 0 _ a _ (fun j hj => by
    have hj' : j < n := by rw [htl] at hj; exact hj
    simp [hj']) (by simpa using htl) inv0 (by rw [htl]; exact hlex) h
  refine wp_region_any hm ?_
  have := wpAny_of_FM (Q := Q) (g := l.toArray.size - n) hC hCn (fun listed a' L hL w' hc' hl => by
    have := wpAny_of_seq (md := .any) (Q' := Q) (l.drop n) n listed a' w' (fun j => by simp [List.getElem?_drop]) (by rw [hdl]; exact hL.1) (hL.2 w' hc' hl)
    rwa [hdl] at this) _ _ _ _ w.drew inv0 ⟨fun k _ => hc k, hc _⟩ (fun _ => trivial) (fun _ _ _ => trivial) (fun _ _ _ _ _ _ _ h => h) H
  rw [htl, show n + (l.toArray.size - n) = l.toArray.size by omega] at this
  exact this
end

/-- the operations of pre come before the writer: for them the world has only grown -/
def capM (pre : List Nat) (w0 : World) (row : Option Nat) (k : Nat) (w : World) : Prop := if k ∈ pre then Below w0.heap.size w0 w else w0.grownBy w row
theorem capM_grown {pre : List Nat} {k : Nat} {w0 w : World} {row : Option Nat} (h : capM pre w0 row k w) : w0.grownBy w row := by
  unfold capM at h
  split at h
  · exact grown_bel h
  · exact h
theorem capM_next {ops : Array Oper} {pre : List Nat} {m : Nat} {w0 : World} {row : Option Nat} (hpre : pastB ops m (pre.filter fun k => k != m) = true) (j k : Nat) (w w' : World) (hjk : j ≠ k) (hp : ¬ Past ops k j) (ht : transG m row j w w') (h : capM pre w0 row k w) : capM pre w0 row k w' := by
  unfold capM at *
  split
  · rename_i e
    rw [if_pos e] at h
    unfold transG at ht
    by_cases hj : j = m
    · exfalso
      subst hj
      exact hp (pastB_spec hpre k (List.mem_filter.2 ⟨e, by simpa using fun e' => hjk e'.symm⟩))
    · rw [if_neg hj] at ht
      exact below_then h ht
  · rename_i e
    rw [if_neg e] at h
    exact World.grownBy.trans h (transG_grown ht)
abbrev FlowM (P : Program) (ops : Array Oper) (m : Nat) (pre : List Nat) (w0 : World) (row : Option Nat) (R : Nat → Option Told) (E : Act → World → Prop) (l : List Oper) (k : Nat) (a : Act) (L : List Fact) : Prop :=
  wpFlow P ops (transG m row) (capM pre w0 row) R E l k a (lf L)
section
variable {P : Program} {ops : Array Oper} {m : Nat} {pre : List Nat} {row : Option Nat} {w0 : World} {R : Nat → Option Told} {E : Act → World → Prop} {o : Oper} {rest : List Oper} {k : Nat} {a : Act} {L : List Fact}
theorem flowM_begin_tail {id : Nat} {Q : Exit → Act → World → Prop} {w : World} {l : List Oper} (n m : Nat) (pre : List Nat) (row : Option Nat) (R : Nat → Option Told) (hm : P.follows .mixedOrders = true) (hB : Region.lexTailB .any l.toArray n = true) (hpre : pastB l.toArray m (pre.filter fun k => k != m) = true) (hn : n ∉ pre)
    (h : FlowM P l.toArray m pre w row R (fun a' w' => wpList P l.toArray Q (l.drop n) a' w') (l.take n) 0 a []) : (Code.region id l.toArray true).wp P Q a w :=
  wp_flow_tailM n (transG m row) (capM pre w row) R hm hB (fun j k w1 w2 hjk hp ht h' => capM_next hpre j k w1 w2 hjk hp ht h') (fun j w1 w2 ht h' => by
    unfold capM at *
    rw [if_neg hn] at *
    exact World.grownBy.trans h' (transG_grown ht)) (fun k => by
    unfold capM
    split
    · exact below_drew (Below.refl _ _) 1
    · exact grown_bel (below_drew (Below.refl _ _) 1)) (wpFlow.mono _ _ _ _ _ (fun i w _ q hq => by cases hq) h)
theorem flowM_nil (h : ∀ w, w0.grownBy w row → allf L w → E a w) : FlowM P ops m pre w0 row R E [] k a L := fun w hb hl => h w (capM_grown hb) (allf_of L hl)
theorem flowM_val {v : Value} (hR : R k = none) (hw : Region.wanted o (yielded ops a.tmps) = true)
    (h : ∀ w, w0.grownBy w row → (execOp a.eval o).run P w = .ok (.value v) w) (hr : FlowM P ops m pre w0 row R E rest (k + 1) (a.put o.dst v) L) : FlowM P ops m pre w0 row R E (o :: rest) k a L := by
  refine ⟨⟨fun u => u = v, fun _ _ => True⟩, ⟨v, rfl⟩, ⟨fun t' ht => (by rw [hR] at ht; cases ht), fun w hc _ => ?_, fun _ w hc _ => ?_, fun _ _ _ _ _ _ _ h => h⟩, fun u hu => ?_⟩
  · unfold Gives; rw [if_pos hw, h w (capM_grown hc)]; exact ⟨rfl, trivial, transG_bel (Below.refl _ _)⟩
  · unfold Gives0; rw [if_pos hw, h w (capM_grown hc)]; exact ⟨rfl, trivial, transG_bel (Below.refl _ _)⟩
  · subst hu; exact wpFlow.mono _ _ _ _ _ (fun i w h => h.1) hr
/-- a value that is read before the writer writes -/
theorem flowM_pre {v : Value} (hk : k ∈ pre) (hR : R k = none) (hw : Region.wanted o (yielded ops a.tmps) = true)
    (h : ∀ w, Below w0.heap.size w0 w → (execOp a.eval o).run P w = .ok (.value v) w) (hr : FlowM P ops m pre w0 row R E rest (k + 1) (a.put o.dst v) L) : FlowM P ops m pre w0 row R E (o :: rest) k a L := by
  refine ⟨⟨fun u => u = v, fun _ _ => True⟩, ⟨v, rfl⟩, ⟨fun t' ht => (by rw [hR] at ht; cases ht), fun w hc _ => ?_, fun _ w hc _ => ?_, fun _ _ _ _ _ _ _ h => h⟩, fun u hu => ?_⟩
  · unfold capM at hc; rw [if_pos hk] at hc; unfold Gives; rw [if_pos hw, h w hc]; exact ⟨rfl, trivial, transG_bel (Below.refl _ _)⟩
  · unfold capM at hc; rw [if_pos hk] at hc; unfold Gives0; rw [if_pos hw, h w hc]; exact ⟨rfl, trivial, transG_bel (Below.refl _ _)⟩
  · subst hu; exact wpFlow.mono _ _ _ _ _ (fun i w h => h.1) hr
theorem flowM_lits {n c : Nat} {t : TypeId} {cs : Array Value} (hrow : ∀ b, row = some b → b < w0.heap.size) (hR : R k = none) (hw : Region.wanted o (yielded ops a.tmps) = true)
    (h : ∀ w, w0.grownBy w row → (execOp a.eval o).run P w = .ok (.value (.slice (some ⟨w.heap.size, 0, none⟩) n c)) (w.alloc (.cells cs t)))
    (hr : ∀ g, w0.heap.size ≤ g → FlowM P ops m pre w0 row R E rest (k + 1) (a.put o.dst (.slice (some ⟨g, 0, none⟩) n c)) ((k, fun w => Box w g t cs) :: L)) : FlowM P ops m pre w0 row R E (o :: rest) k a L := by
  refine ⟨⟨fun u => ∃ g, w0.heap.size ≤ g ∧ u = .slice (some ⟨g, 0, none⟩) n c, fun u w => ∀ g, w0.heap.size ≤ g → u = .slice (some ⟨g, 0, none⟩) n c → Box w g t cs⟩, ⟨_, w0.heap.size, Nat.le_refl _, rfl⟩, ⟨fun t' ht => (by rw [hR] at ht; cases ht), fun w hc _ => ?_, fun _ w hc _ => ?_, fun j hne hp u w w' ht h g hg e => (h g hg e).grown (transG_grown ht) (fun e' => absurd (hrow g e'.symm) (by omega))⟩, fun u hu => ?_⟩
  · unfold Gives; rw [if_pos hw, h w (capM_grown hc)]; exact ⟨⟨_, (capM_grown hc).size, rfl⟩, fun g hg e => (show w.heap.size = g from by simpa using e) ▸ Box.new _ _ _, transG_bel (below_alloc1 _ _)⟩
  · unfold Gives0; rw [if_pos hw, h w (capM_grown hc)]; exact ⟨⟨_, (capM_grown hc).size, rfl⟩, fun g hg e => (show w.heap.size = g from by simpa using e) ▸ Box.new _ _ _, transG_bel (below_alloc1 _ _)⟩
  · obtain ⟨g, hg, rfl⟩ := hu
    exact wpFlow.mono _ _ _ _ _ (fun i w h => lf_cons i w ⟨h.1, fun e => h.2 e g hg rfl⟩) (hr g hg)
/-- a told call before the writer -/
theorem flowM_told {t : Told} {f : FuncId} {args : Array Value} (use : List Nat) (hu : pastB ops k use = true) (hk : k ∈ pre) (hR : R k = some t) (hw : Region.wanted o (yielded ops a.tmps) = true) (hs : ∃ v, t.V v) (hst : ∀ v w w', w.grownBy w' row → t.F v w → t.F v w')
    (h : ∀ w, Below w0.heap.size w0 w → (execOp a.eval o).run P w = .ok (.enter f args) w)
    (hc : ∀ w, Below w0.heap.size w0 w → usef use L w → Calls P f args w fun e w' => ∃ v, e = .returned v ∧ t.V v ∧ t.F v w' ∧ Below w.heap.size w w')
    (hr : ∀ v, t.V v → FlowM P ops m pre w0 row R E rest (k + 1) (a.put o.dst v) ((k, t.F v) :: L)) : FlowM P ops m pre w0 row R E (o :: rest) k a L := by
  refine ⟨t, hs, ⟨fun t' ht => (by rw [hR] at ht; exact Option.some.inj ht), fun w hc' hp => ?_, fun hk => (by rw [hR] at hk; cases hk), fun j hne hp v w w' ht h => hst v w w' (transG_grown ht) h⟩, fun u hu => ?_⟩
  · unfold capM at hc'
    rw [if_pos hk] at hc'
    unfold Gives
    rw [if_pos hw, h w hc']
    refine Calls.mono (hc w hc' (usef_of L fun i hi => hp i (pastB_spec hu i hi))) fun e w' ⟨v, he, h1, h2, h3⟩ => ?_
    subst he
    exact ⟨h1, h2, transG_bel h3⟩
  · exact wpFlow.mono _ _ _ _ _ (fun i w h => lf_cons i w ⟨h.1, h.2⟩) (hr u hu)
/-- append to a nil slice, before the writer -/
theorem flowM_app_nil (old : Option Nat) (use : List Nat) (hu : pastB ops k use = true) (hk : k ∈ pre) (hrow : ∀ b, row = some b → b < w0.heap.size) (hR : R k = none) (hw : Region.wanted o (yielded ops a.tmps) = true) (s x : Operand) (t : TypeId)
    (ho : o.op = .call { callee := .builtin .append, args := #[s, x], argTypes := #[t, t] }) (e : TypeId) (i : TypeInfo) (z : Value) (size bytes : Nat) (ht : P.underlying t = some (.slice e)) (hi : P.info? e = some i) (hz : i.zero = some z)
    (hsize : i.size = size) (hby : i.bytes = bytes) (hzs : z.cells.size = size) (hsz : 0 < size) (hs : a.eval s = .slice none 0 0)
    (ad : Addr) (q c : Nat) (news : List Value) (hx : a.eval x = .slice (some ad) q c) (hl : news.length = q * size) (hnews : ∀ w, Below w0.heap.size w0 w → usef use L w → ∀ j u, news[j]? = some u → w.cell? (ad.add j) = some u) (h1 : ∀ u ∈ news, u.oneCell' = true)
    (h63 : 0 + q ≤ maxLen) (hbytes : (0 + q) * bytes ≤ 140737488355328)
    (hold : ∀ w, Below w0.heap.size w0 w → usef use L w → ∀ b, old = some b → b < w.heap.size)
    (hr : ∀ A c, FlowM P ops m pre w0 row R E rest (k + 1) (a.put o.dst (.slice A (0 + q) c)) ((k, fun w => w.ownsRow w0.heap.size e size (.slice A (0 + q) c) (0 + q) ([] ++ news) ∧ ∀ b, old = some b → (Value.slice A (0 + q) c).ownBlock ≠ some b) :: L)) : FlowM P ops m pre w0 row R E (o :: rest) k a L := by
  have H : ∀ w, Below w0.heap.size w0 w → usef use L w → ∃ v w', (execOp a.eval o).run P w = .ok (.value v) w' ∧ (∃ A c, v = .slice A (0 + q) c) ∧ (w'.ownsRow w0.heap.size e size v (0 + q) ([] ++ news) ∧ ∀ b, old = some b → v.ownBlock ≠ some b) ∧ Below w.heap.size w w' := fun w hb hl' => by
    obtain ⟨v', w', r1, r2, r3, _⟩ := run_append_own (P := P) w w.heap.size t o.type e i z size bytes ht hi hz hsize hby hzs hsz (.slice none 0 0) 0 [] (World.ownsRow_nil _ _ _ _) ad q c news hl (hnews w hb hl') h1 h63 hbytes (Nat.le_refl _)
    obtain ⟨A, c', rfl, _⟩ := own_form r2
    exact ⟨_, w', run_app_op s x t t ho _ _ _ hs hx r1, ⟨A, c', rfl⟩, ⟨own_lower r2 hb.size, fun b hb' e => by have h1 := hold w hb hl' b hb'; have h2 := own_lt r2 b e; omega⟩, bel_grown r3⟩
  refine ⟨⟨fun u => ∃ A c, u = .slice A (0 + q) c, fun v w => w.ownsRow w0.heap.size e size v (0 + q) ([] ++ news) ∧ ∀ b, old = some b → v.ownBlock ≠ some b⟩, ⟨_, none, 0, rfl⟩, ⟨fun t' ht => (by rw [hR] at ht; cases ht), fun w hc hp => ?_, fun _ w hc hp => ?_, fun j hne hp v w w' ht h => ⟨own_heap h.1 fun b hb => (transG_grown ht).block b (own_lt h.1 b hb).2 (fun e => absurd (hrow b e.symm) (by have := own_lt h.1 b hb; omega)), h.2⟩⟩, fun u hu => ?_⟩
  · unfold capM at hc
    rw [if_pos hk] at hc
    obtain ⟨v, w', hrun, h1, h2, h3⟩ := H w hc (usef_of L fun i hi => hp i (pastB_spec hu i hi))
    unfold Gives; rw [if_pos hw, hrun]; exact ⟨h1, h2, transG_bel h3⟩
  · unfold capM at hc
    rw [if_pos hk] at hc
    obtain ⟨v, w', hrun, h1, h2, h3⟩ := H w hc (usef_of L fun i hi => hp i (pastB_spec hu i hi))
    unfold Gives0; rw [if_pos hw, hrun]; exact ⟨h1, h2, transG_bel h3⟩
  · obtain ⟨A, c, rfl⟩ := hu
    exact wpFlow.mono _ _ _ _ _ (fun i w h => lf_cons i w ⟨h.1, h.2⟩) (hr A c)
/-- the writer stores -/
theorem flowM_store {F : World → Prop} (use : List Nat) (hu : pastB ops k use = true) (hk : k = m) (hkp : k ∈ pre) (hR : R k = none) (hw : Region.wanted o (yielded ops a.tmps) = true) (hst : ∀ w w', Below w.heap.size w w' → F w → F w')
    (h : ∀ w, Below w0.heap.size w0 w → usef use L w → ∃ w', (execOp a.eval o).run P w = .ok .skip w' ∧ F w' ∧ w.grownBy w' row)
    (hr : FlowM P ops m pre w0 row R E rest (k + 1) (a.put o.dst undef) ((k, F) :: L)) : FlowM P ops m pre w0 row R E (o :: rest) k a L := by
  subst hk
  refine ⟨⟨fun u => u = undef, fun _ => F⟩, ⟨undef, rfl⟩, ⟨fun t' ht => (by rw [hR] at ht; cases ht), fun w hc hp => ?_, fun _ w hc hp => ?_, fun j hne hp v w w' ht h => hst w w' (by unfold transG at ht; rw [if_neg hne] at ht; exact ht) h⟩, fun u hu => ?_⟩
  · unfold capM at hc
    rw [if_pos hkp] at hc
    obtain ⟨w', hrun, h2, h3⟩ := h w hc (usef_of L fun i hi => hp i (pastB_spec hu i hi))
    unfold Gives; rw [if_pos hw, hrun]; exact ⟨rfl, h2, by unfold transG; rw [if_pos rfl]; exact h3⟩
  · unfold capM at hc
    rw [if_pos hkp] at hc
    obtain ⟨w', hrun, h2, h3⟩ := h w hc (usef_of L fun i hi => hp i (pastB_spec hu i hi))
    unfold Gives0; rw [if_pos hw, hrun]; exact ⟨rfl, h2, by unfold transG; rw [if_pos rfl]; exact h3⟩
  · subst hu
    exact wpFlow.mono _ _ _ _ _ (fun i w h => lf_cons i w ⟨h.1, h.2⟩) hr
end
end Go.Proofs.YtifhlmakacoicaaDoor

/- A drawn region with several writers, each of which writes one block. -/
namespace Go.Proofs.YtifhlmakacoicaaDoor
open Go.RowKit
set_option linter.unusedVariables false

/-- the world has grown; of the old blocks only those of the list may have been written -/
structure GrownL (l : List (Option Nat)) (w w' : World) : Prop where
  os : w'.os = w.os
  tape : w'.tape = w.tape
  output : w'.output = w.output
  size : w.heap.size ≤ w'.heap.size
  block : ∀ k, k < w.heap.size → some k ∉ l → w'.heap[k]? = w.heap[k]?
theorem GrownL.of_bel {l : List (Option Nat)} {w w' : World} (h : Below w.heap.size w w') : GrownL l w w' := ⟨h.os, h.tape, h.output, h.size, fun k hk _ => h.block k hk⟩
theorem GrownL.bel {w w' : World} (h : GrownL [] w w') : Below w.heap.size w w' := ⟨h.os, h.tape, h.output, h.size, fun k hk => h.block k hk (by simp)⟩
theorem GrownL.trans_by {l : List (Option Nat)} {w w1 w2 : World} {r : Option Nat} (h : GrownL l w w1) (g : w1.grownBy w2 r) (hr : r ∈ l ∨ r = none) : GrownL l w w2 :=
  ⟨g.os.trans h.os, g.tape.trans h.tape, g.output.trans h.output, Nat.le_trans h.size g.size, fun k hk hn => (g.block k (Nat.lt_of_lt_of_le hk h.size) (fun e => by
    rcases hr with hr | hr
    · exact hn (e ▸ hr)
    · rw [hr] at e; cases e)).trans (h.block k hk hn)⟩
theorem GrownL.mono {l l' : List (Option Nat)} {w w' : World} (h : GrownL l w w') (hl : ∀ r ∈ l, r ∈ l') : GrownL l' w w' := ⟨h.os, h.tape, h.output, h.size, fun k hk hn => h.block k hk fun e => hn (hl _ e)⟩
theorem GrownL.box {l : List (Option Nat)} {w w' : World} {g : Nat} {t : TypeId} {cs : Array Value} (h : GrownL l w w') (hx : Box w g t cs) (hn : some g ∉ l) : Box w' g t cs := (h.block g hx.lt hn).trans hx
theorem GrownL.own {l : List (Option Nat)} {w w' : World} {base : Nat} {e : TypeId} {s n : Nat} {v : Value} {xs : List Value} (h : GrownL l w w') (ho : w.ownsRow base e s v n xs) (hn : ∀ b, v.ownBlock = some b → some b ∉ l) : w'.ownsRow base e s v n xs :=
  own_heap ho fun b hb => h.block b (own_lt ho b hb).2 (hn b hb)
theorem GrownL.below {l : List (Option Nat)} {B : Nat} {w w1 w2 : World} (hB : Below B w w1) (h : GrownL l w1 w2) (hs : B ≤ w1.heap.size) (hl : ∀ b, some b ∈ l → B ≤ b) : Below B w w2 :=
  ⟨h.os.trans hB.os, h.tape.trans hB.tape, h.output.trans hB.output, Nat.le_trans hB.size h.size, fun k hk => (h.block k (by omega) (fun e => by have := hl k e; omega)).trans (hB.block k hk)⟩

/-- writer j may write the block row j, all others grow -/
def transN (ms : List Nat) (row : Nat → Option Nat) (j : Nat) (w w' : World) : Prop := w.grownBy w' (if j ∈ ms then row j else none)
def mayN (ms : List Nat) (caps : List (Nat × List Nat)) (k : Nat) : List Nat := match caps.lookup k with | some l => l | none => ms
def capN (ms : List Nat) (caps : List (Nat × List Nat)) (row : Nat → Option Nat) (w0 : World) (k : Nat) (w : World) : Prop := GrownL ((mayN ms caps k).map row) w0 w
/-- a writer that may not come before k comes after it -/
def capsB (ops : Array Oper) (ms : List Nat) (caps : List (Nat × List Nat)) : Bool := caps.all fun p => ms.all fun j => p.2.contains j || (j == p.1 || pastB ops j [p.1])
theorem capN_next {ops : Array Oper} {ms : List Nat} {caps : List (Nat × List Nat)} {row : Nat → Option Nat} {w0 : World} (hcap : capsB ops ms caps = true) (j k : Nat) (w w' : World) (hjk : j ≠ k) (hp : ¬ Past ops k j) (ht : transN ms row j w w') (h : capN ms caps row w0 k w) : capN ms caps row w0 k w' := by
  unfold capN at *
  unfold transN at ht
  refine h.trans_by ht ?_
  by_cases hj : j ∈ ms
  · rw [if_pos hj]
    refine .inl (List.mem_map.2 ⟨j, ?_, rfl⟩)
    unfold mayN
    split
    · rename_i l hl
      have h1 : (k, l) ∈ caps := by
        clear hcap h hp ht
        induction caps with
        | nil => cases hl
        | cons q r ih =>
          rw [List.lookup_cons] at hl
          split at hl
          · rename_i e
            have e1 : k = q.1 := by simpa using e
            have e2 : q.2 = l := Option.some.inj hl
            rw [e1, ← e2]
            exact List.mem_cons_self ..
          · exact List.mem_cons_of_mem _ (ih hl)
      have h2 := List.all_eq_true.1 (List.all_eq_true.1 hcap _ h1) j hj
      simp only [Bool.or_eq_true, List.contains_iff_mem, beq_iff_eq] at h2
      rcases h2 with h2 | h2 | h2
      · exact h2
      · exact absurd h2 hjk
      · exact absurd (pastB_spec h2 k (List.mem_cons_self ..)) hp
    · exact hj
  · rw [if_neg hj]
    exact .inr rfl
abbrev FlowN (P : Program) (ops : Array Oper) (ms : List Nat) (caps : List (Nat × List Nat)) (row : Nat → Option Nat) (w0 : World) (R : Nat → Option Told) (E : Act → World → Prop) (l : List Oper) (k : Nat) (a : Act) (L : List Fact) : Prop :=
  wpFlow P ops (transN ms row) (capN ms caps row w0) R E l k a (lf L)
section
variable {P : Program} {ops : Array Oper} {ms : List Nat} {caps : List (Nat × List Nat)} {row : Nat → Option Nat} {w0 : World} {R : Nat → Option Told} {E : Act → World → Prop} {o : Oper} {rest : List Oper} {k : Nat} {a : Act} {L : List Fact}
theorem flowN_begin_tail {id : Nat} {Q : Exit → Act → World → Prop} {w : World} {l : List Oper} (n : Nat) (ms : List Nat) (caps : List (Nat × List Nat)) (row : Nat → Option Nat) (R : Nat → Option Told) (hm : P.follows .mixedOrders = true) (hB : Region.lexTailB .any l.toArray n = true) (hcap : capsB l.toArray ms caps = true) (hn : caps.lookup n = none)
    (h : FlowN P l.toArray ms caps row w R (fun a' w' => wpList P l.toArray Q (l.drop n) a' w') (l.take n) 0 a []) : (Code.region id l.toArray true).wp P Q a w :=
  wp_flow_tailM n (transN ms row) (capN ms caps row w) R hm hB (fun j k w1 w2 hjk hp ht h' => capN_next hcap j k w1 w2 hjk hp ht h') (fun j w1 w2 ht h' => by
    unfold capN mayN at *
    rw [hn] at *
    unfold transN at ht
    refine h'.trans_by ht ?_
    by_cases hj : j ∈ ms
    · rw [if_pos hj]; exact .inl (List.mem_map.2 ⟨j, hj, rfl⟩)
    · rw [if_neg hj]; exact .inr rfl) (fun k => GrownL.of_bel (below_drew (Below.refl _ _) 1)) (wpFlow.mono _ _ _ _ _ (fun i w _ q hq => by cases hq) h)
theorem capN_all {LA : List (Option Nat)} {k : Nat} {w : World} (hc : caps.lookup k = none) (hl : ∀ j ∈ ms, row j ∈ LA) (h : capN ms caps row w0 k w) : GrownL LA w0 w := by
  unfold capN mayN at h
  rw [hc] at h
  exact h.mono fun r hr => by obtain ⟨j, hj, e⟩ := List.mem_map.1 hr; exact e ▸ hl j hj
theorem capN_some {LK : List (Option Nat)} {k : Nat} {js : List Nat} {w : World} (hc : caps.lookup k = some js) (hl : ∀ j ∈ js, row j ∈ LK) (h : capN ms caps row w0 k w) : GrownL LK w0 w := by
  unfold capN mayN at h
  rw [hc] at h
  exact h.mono fun r hr => by obtain ⟨j, hj, e⟩ := List.mem_map.1 hr; exact e ▸ hl j hj
theorem flowN_nil (LA : List (Option Nat)) (hc : caps.lookup k = none) (hl : ∀ j ∈ ms, row j ∈ LA) (h : ∀ w, GrownL LA w0 w → allf L w → E a w) : FlowN P ops ms caps row w0 R E [] k a L := fun w hb hl' => h w (capN_all hc hl hb) (allf_of L hl')
theorem transN_bel {j : Nat} {w w' : World} (h : Below w.heap.size w w') : transN ms row j w w' := grown_bel h
theorem flowN_val {v : Value} (LA : List (Option Nat)) (hc : caps.lookup k = none) (hl : ∀ j ∈ ms, row j ∈ LA) (hR : R k = none) (hw : Region.wanted o (yielded ops a.tmps) = true)
    (h : ∀ w, GrownL LA w0 w → (execOp a.eval o).run P w = .ok (.value v) w) (hr : FlowN P ops ms caps row w0 R E rest (k + 1) (a.put o.dst v) L) : FlowN P ops ms caps row w0 R E (o :: rest) k a L := by
  refine ⟨⟨fun u => u = v, fun _ _ => True⟩, ⟨v, rfl⟩, ⟨fun t' ht => (by rw [hR] at ht; cases ht), fun w hc' _ => ?_, fun _ w hc' _ => ?_, fun _ _ _ _ _ _ _ h => h⟩, fun u hu => ?_⟩
  · unfold Gives; rw [if_pos hw, h w (capN_all hc hl hc')]; exact ⟨rfl, trivial, transN_bel (Below.refl _ _)⟩
  · unfold Gives0; rw [if_pos hw, h w (capN_all hc hl hc')]; exact ⟨rfl, trivial, transN_bel (Below.refl _ _)⟩
  · subst hu; exact wpFlow.mono _ _ _ _ _ (fun i w h => h.1) hr
/-- a value that is read before some of the writers -/
theorem flowN_pre {v : Value} (LK : List (Option Nat)) (js : List Nat) (hc : caps.lookup k = some js) (hl : ∀ j ∈ js, row j ∈ LK) (hR : R k = none) (hw : Region.wanted o (yielded ops a.tmps) = true)
    (h : ∀ w, GrownL LK w0 w → (execOp a.eval o).run P w = .ok (.value v) w) (hr : FlowN P ops ms caps row w0 R E rest (k + 1) (a.put o.dst v) L) : FlowN P ops ms caps row w0 R E (o :: rest) k a L := by
  refine ⟨⟨fun u => u = v, fun _ _ => True⟩, ⟨v, rfl⟩, ⟨fun t' ht => (by rw [hR] at ht; cases ht), fun w hc' _ => ?_, fun _ w hc' _ => ?_, fun _ _ _ _ _ _ _ h => h⟩, fun u hu => ?_⟩
  · unfold Gives; rw [if_pos hw, h w (capN_some hc hl hc')]; exact ⟨rfl, trivial, transN_bel (Below.refl _ _)⟩
  · unfold Gives0; rw [if_pos hw, h w (capN_some hc hl hc')]; exact ⟨rfl, trivial, transN_bel (Below.refl _ _)⟩
  · subst hu; exact wpFlow.mono _ _ _ _ _ (fun i w h => h.1) hr
theorem flowN_lits {n c : Nat} {t : TypeId} {cs : Array Value} (LA : List (Option Nat)) (hc : caps.lookup k = none) (hl : ∀ j ∈ ms, row j ∈ LA) (hrow : ∀ j ∈ ms, ∀ b, row j = some b → b < w0.heap.size) (hR : R k = none) (hw : Region.wanted o (yielded ops a.tmps) = true)
    (h : ∀ w, GrownL LA w0 w → (execOp a.eval o).run P w = .ok (.value (.slice (some ⟨w.heap.size, 0, none⟩) n c)) (w.alloc (.cells cs t)))
    (hr : ∀ g, w0.heap.size ≤ g → FlowN P ops ms caps row w0 R E rest (k + 1) (a.put o.dst (.slice (some ⟨g, 0, none⟩) n c)) ((k, fun w => Box w g t cs) :: L)) : FlowN P ops ms caps row w0 R E (o :: rest) k a L := by
  refine ⟨⟨fun u => ∃ g, w0.heap.size ≤ g ∧ u = .slice (some ⟨g, 0, none⟩) n c, fun u w => ∀ g, w0.heap.size ≤ g → u = .slice (some ⟨g, 0, none⟩) n c → Box w g t cs⟩, ⟨_, w0.heap.size, Nat.le_refl _, rfl⟩, ⟨fun t' ht => (by rw [hR] at ht; cases ht), fun w hc' _ => ?_, fun _ w hc' _ => ?_, fun j hne hp u w w' ht h g hg e => ?_⟩, fun u hu => ?_⟩
  · unfold Gives; rw [if_pos hw, h w (capN_all hc hl hc')]; exact ⟨⟨_, (capN_all hc hl hc').size, rfl⟩, fun g hg e => (show w.heap.size = g from by simpa using e) ▸ Box.new _ _ _, transN_bel (below_alloc1 _ _)⟩
  · unfold Gives0; rw [if_pos hw, h w (capN_all hc hl hc')]; exact ⟨⟨_, (capN_all hc hl hc').size, rfl⟩, fun g hg e => (show w.heap.size = g from by simpa using e) ▸ Box.new _ _ _, transN_bel (below_alloc1 _ _)⟩
  · refine (h g hg e).grown ht fun e' => ?_
    by_cases hj : j ∈ ms
    · rw [if_pos hj] at e'; have := hrow j hj g e'.symm; omega
    · rw [if_neg hj] at e'; cases e'
  · obtain ⟨g, hg, rfl⟩ := hu
    exact wpFlow.mono _ _ _ _ _ (fun i w h => lf_cons i w ⟨h.1, fun e => h.2 e g hg rfl⟩) (hr g hg)
/-- append to a row of one's own -/
theorem flowN_app (old : Option Nat) (LK : List (Option Nat)) (js : List Nat) (hc : caps.lookup k = some js) (hl : ∀ j ∈ js, row j ∈ LK) (use : List Nat) (hu : pastB ops k use = true) (hk : k ∈ ms) (hR : R k = none) (hw : Region.wanted o (yielded ops a.tmps) = true) (s x : Operand) (t : TypeId)
    (ho : o.op = .call { callee := .builtin .append, args := #[s, x], argTypes := #[t, t] }) (base : Nat) (e : TypeId) (i : TypeInfo) (z : Value) (size bytes : Nat) (ht : P.underlying t = some (.slice e)) (hi : P.info? e = some i) (hz : i.zero = some z)
    (hsize : i.size = size) (hby : i.bytes = bytes) (hzs : z.cells.size = size) (hsz : 0 < size) (v : Value) (n : Nat) (xs : List Value) (hs : a.eval s = v) (hrow : row k = v.ownBlock) (hown : w0.ownsRow base e size v n xs) (hbase : base ≤ w0.heap.size) (hfree : ∀ b, v.ownBlock = some b → some b ∉ LK)
    (ad : Addr) (q c : Nat) (news : List Value) (hx : a.eval x = .slice (some ad) q c) (hlen : news.length = q * size) (hnews : ∀ w, GrownL LK w0 w → usef use L w → ∀ j u, news[j]? = some u → w.cell? (ad.add j) = some u) (h1 : ∀ u ∈ news, u.oneCell' = true)
    (h63 : n + q ≤ maxLen) (hbytes : (n + q) * bytes ≤ 140737488355328)
    (hold : ∀ w, GrownL LK w0 w → usef use L w → ∀ b, old = some b → b < w.heap.size ∧ v.ownBlock ≠ some b)
    (hlate : ∀ j ∈ ms, j ≠ k → ∀ b, row j = some b → v.ownBlock ≠ some b ∧ b < w0.heap.size)
    (hr : ∀ A c, FlowN P ops ms caps row w0 R E rest (k + 1) (a.put o.dst (.slice A (n + q) c)) ((k, fun w => w.ownsRow base e size (.slice A (n + q) c) (n + q) (xs ++ news) ∧ ((Value.slice A (n + q) c).ownBlock = v.ownBlock ∨ ∀ b, (Value.slice A (n + q) c).ownBlock = some b → w0.heap.size ≤ b) ∧ ∀ b, old = some b → (Value.slice A (n + q) c).ownBlock ≠ some b) :: L)) : FlowN P ops ms caps row w0 R E (o :: rest) k a L := by
  have H : ∀ w, GrownL LK w0 w → usef use L w → ∃ v' w', (execOp a.eval o).run P w = .ok (.value v') w' ∧ (∃ A c, v' = .slice A (n + q) c) ∧ (w'.ownsRow base e size v' (n + q) (xs ++ news) ∧ (v'.ownBlock = v.ownBlock ∨ ∀ b, v'.ownBlock = some b → w0.heap.size ≤ b) ∧ ∀ b, old = some b → v'.ownBlock ≠ some b) ∧ w.grownBy w' v.ownBlock := fun w hb hl' => by
    obtain ⟨v', w', r1, r2, r3, _, r5⟩ := run_append_own_at (P := P) w base t o.type e i z size bytes ht hi hz hsize hby hzs hsz v n xs (hb.own hown hfree) ad q c news hlen (hnews w hb hl') h1 h63 hbytes (Nat.le_trans hbase hb.size)
    obtain ⟨A, c', rfl, _⟩ := own_form r2
    refine ⟨_, w', run_app_op s x t t ho _ _ _ hs hx r1, ⟨A, c', rfl⟩, ⟨r2, ?_, fun b hb' e => ?_⟩, r3⟩
    · rcases r5 with r5 | r5
      · exact .inl r5
      · exact .inr fun b e => by have := hb.size; have e2 := Option.some.inj (r5.symm.trans e); omega
    · obtain ⟨a1, a2⟩ := hold w hb hl' b hb'
      rcases r5 with r5 | r5
      · exact a2 (r5.symm.trans e)
      · have e2 := Option.some.inj (r5.symm.trans e); omega
  refine ⟨⟨fun u => ∃ A c, u = .slice A (n + q) c, fun v' w => w.ownsRow base e size v' (n + q) (xs ++ news) ∧ (v'.ownBlock = v.ownBlock ∨ ∀ b, v'.ownBlock = some b → w0.heap.size ≤ b) ∧ ∀ b, old = some b → v'.ownBlock ≠ some b⟩, ⟨_, none, 0, rfl⟩, ⟨fun t' ht => (by rw [hR] at ht; cases ht), fun w hc' hp => ?_, fun _ w hc' hp => ?_, fun j hne hp v' w w' ht h => ⟨own_heap h.1 fun b hb => ht.block b (own_lt h.1 b hb).2 fun e' => ?_, h.2⟩⟩, fun u hu => ?_⟩
  · obtain ⟨v', w', hrun, h1, h2, h3⟩ := H w (capN_some hc hl hc') (usef_of L fun i hi => hp i (pastB_spec hu i hi))
    unfold Gives; rw [if_pos hw, hrun]; exact ⟨h1, h2, by unfold transN; rw [if_pos hk, hrow]; exact h3⟩
  · obtain ⟨v', w', hrun, h1, h2, h3⟩ := H w (capN_some hc hl hc') (usef_of L fun i hi => hp i (pastB_spec hu i hi))
    unfold Gives0; rw [if_pos hw, hrun]; exact ⟨h1, h2, by unfold transN; rw [if_pos hk, hrow]; exact h3⟩
  · by_cases hj : j ∈ ms
    · rw [if_pos hj] at e'
      obtain ⟨a1, a2⟩ := hlate j hj hne b e'.symm
      rcases h.2.1 with h' | h'
      · exact a1 (h'.symm.trans hb)
      · have := h' b hb; omega
    · rw [if_neg hj] at e'; cases e'
  · obtain ⟨A, c, rfl⟩ := hu
    exact wpFlow.mono _ _ _ _ _ (fun i w h => lf_cons i w ⟨h.1, h.2⟩) (hr A c)
/-- a writer stores -/
theorem flowN_store {F : World → Prop} (LK : List (Option Nat)) (js : List Nat) (hc : caps.lookup k = some js) (hl : ∀ j ∈ js, row j ∈ LK) (use : List Nat) (hu : pastB ops k use = true) (hk : k ∈ ms) (hR : R k = none) (hw : Region.wanted o (yielded ops a.tmps) = true) (hst : ∀ j, j ≠ k → ¬ Past ops j k → ∀ w w', transN ms row j w w' → F w → F w')
    (h : ∀ w, GrownL LK w0 w → usef use L w → ∃ w', (execOp a.eval o).run P w = .ok .skip w' ∧ F w' ∧ w.grownBy w' (row k))
    (hr : FlowN P ops ms caps row w0 R E rest (k + 1) (a.put o.dst undef) ((k, F) :: L)) : FlowN P ops ms caps row w0 R E (o :: rest) k a L := by
  refine ⟨⟨fun u => u = undef, fun _ => F⟩, ⟨undef, rfl⟩, ⟨fun t' ht => (by rw [hR] at ht; cases ht), fun w hc' hp => ?_, fun _ w hc' hp => ?_, fun j hne hp v w w' ht h => hst j hne hp w w' ht h⟩, fun u hu => ?_⟩
  · obtain ⟨w', hrun, h2, h3⟩ := h w (capN_some hc hl hc') (usef_of L fun i hi => hp i (pastB_spec hu i hi))
    unfold Gives; rw [if_pos hw, hrun]; exact ⟨rfl, h2, by unfold transN; rw [if_pos hk]; exact h3⟩
  · obtain ⟨w', hrun, h2, h3⟩ := h w (capN_some hc hl hc') (usef_of L fun i hi => hp i (pastB_spec hu i hi))
    unfold Gives0; rw [if_pos hw, hrun]; exact ⟨rfl, h2, by unfold transN; rw [if_pos hk]; exact h3⟩
  · subst hu
    exact wpFlow.mono _ _ _ _ _ (fun i w h => lf_cons i w ⟨h.1, h.2⟩) hr
end
end Go.Proofs.YtifhlmakacoicaaDoor

/- A drawn region with several writers, what each writes said exactly. -/
namespace Go.Proofs.YtifhlmakacoicaaDoor
open Go.RowKit
set_option linter.unusedVariables false

def transV (ms : List Nat) (T : Nat → World → World → Prop) (j : Nat) (w w' : World) : Prop := if j ∈ ms then T j w w' else w.grownBy w' none
theorem transV_N {ms : List Nat} {T : Nat → World → World → Prop} {row : Nat → Option Nat} (hT : ∀ j ∈ ms, ∀ w w', T j w w' → w.grownBy w' (row j)) {j : Nat} {w w' : World} (h : transV ms T j w w') : transN ms row j w w' := by
  unfold transV at h
  unfold transN
  by_cases hj : j ∈ ms
  · rw [if_pos hj] at h ⊢; exact hT j hj w w' h
  · rw [if_neg hj] at h ⊢; exact h
abbrev FlowV (P : Program) (ops : Array Oper) (ms : List Nat) (caps : List (Nat × List Nat)) (row : Nat → Option Nat) (T : Nat → World → World → Prop) (w0 : World) (R : Nat → Option Told) (E : Act → World → Prop) (l : List Oper) (k : Nat) (a : Act) (L : List Fact) : Prop :=
  wpFlow P ops (transV ms T) (capN ms caps row w0) R E l k a (lf L)
section
variable {P : Program} {ops : Array Oper} {ms : List Nat} {caps : List (Nat × List Nat)} {row : Nat → Option Nat} {T : Nat → World → World → Prop} {w0 : World} {R : Nat → Option Told} {E : Act → World → Prop} {o : Oper} {rest : List Oper} {k : Nat} {a : Act} {L : List Fact}
theorem flowV_begin_tail {id : Nat} {Q : Exit → Act → World → Prop} {w : World} {l : List Oper} (n : Nat) (ms : List Nat) (caps : List (Nat × List Nat)) (row : Nat → Option Nat) (T : Nat → World → World → Prop) (R : Nat → Option Told) (hm : P.follows .mixedOrders = true) (hB : Region.lexTailB .any l.toArray n = true) (hcap : capsB l.toArray ms caps = true) (hn : caps.lookup n = none)
    (hT : ∀ j ∈ ms, ∀ w w', T j w w' → w.grownBy w' (row j))
    (h : FlowV P l.toArray ms caps row T w R (fun a' w' => wpList P l.toArray Q (l.drop n) a' w') (l.take n) 0 a []) : (Code.region id l.toArray true).wp P Q a w :=
  wp_flow_tailM n (transV ms T) (capN ms caps row w) R hm hB (fun j k w1 w2 hjk hp ht h' => capN_next hcap j k w1 w2 hjk hp (transV_N hT ht) h') (fun j w1 w2 ht h' => by
    have ht := transV_N hT ht
    unfold capN mayN at *
    rw [hn] at *
    unfold transN at ht
    refine h'.trans_by ht ?_
    by_cases hj : j ∈ ms
    · rw [if_pos hj]; exact .inl (List.mem_map.2 ⟨j, hj, rfl⟩)
    · rw [if_neg hj]; exact .inr rfl) (fun k => GrownL.of_bel (below_drew (Below.refl _ _) 1)) (wpFlow.mono _ _ _ _ _ (fun i w _ q hq => by cases hq) h)
theorem flowV_nil (LA : List (Option Nat)) (hc : caps.lookup k = none) (hl : ∀ j ∈ ms, row j ∈ LA) (h : ∀ w, GrownL LA w0 w → allf L w → E a w) : FlowV P ops ms caps row T w0 R E [] k a L := fun w hb hl' => h w (capN_all hc hl hb) (allf_of L hl')
theorem flowV_val {v : Value} (LA : List (Option Nat)) (hc : caps.lookup k = none) (hk : k ∉ ms) (hl : ∀ j ∈ ms, row j ∈ LA) (hR : R k = none) (hw : Region.wanted o (yielded ops a.tmps) = true)
    (h : ∀ w, GrownL LA w0 w → (execOp a.eval o).run P w = .ok (.value v) w) (hr : FlowV P ops ms caps row T w0 R E rest (k + 1) (a.put o.dst v) L) : FlowV P ops ms caps row T w0 R E (o :: rest) k a L := by
  have hq : ∀ w, transV ms T k w w := fun w => by unfold transV; rw [if_neg hk]; exact World.grownBy.refl _ _
  refine ⟨⟨fun u => u = v, fun _ _ => True⟩, ⟨v, rfl⟩, ⟨fun t' ht => (by rw [hR] at ht; cases ht), fun w hc' _ => ?_, fun _ w hc' _ => ?_, fun _ _ _ _ _ _ _ h => h⟩, fun u hu => ?_⟩
  · unfold Gives; rw [if_pos hw, h w (capN_all hc hl hc')]; exact ⟨rfl, trivial, hq w⟩
  · unfold Gives0; rw [if_pos hw, h w (capN_all hc hl hc')]; exact ⟨rfl, trivial, hq w⟩
  · subst hu; exact wpFlow.mono _ _ _ _ _ (fun i w h => h.1) hr
/-- a value that is read before some of the writers -/
theorem flowV_pre {v : Value} (LK : List (Option Nat)) (js : List Nat) (hc : caps.lookup k = some js) (hk : k ∉ ms) (hl : ∀ j ∈ js, row j ∈ LK) (hR : R k = none) (hw : Region.wanted o (yielded ops a.tmps) = true)
    (h : ∀ w, GrownL LK w0 w → (execOp a.eval o).run P w = .ok (.value v) w) (hr : FlowV P ops ms caps row T w0 R E rest (k + 1) (a.put o.dst v) L) : FlowV P ops ms caps row T w0 R E (o :: rest) k a L := by
  have hq : ∀ w, transV ms T k w w := fun w => by unfold transV; rw [if_neg hk]; exact World.grownBy.refl _ _
  refine ⟨⟨fun u => u = v, fun _ _ => True⟩, ⟨v, rfl⟩, ⟨fun t' ht => (by rw [hR] at ht; cases ht), fun w hc' _ => ?_, fun _ w hc' _ => ?_, fun _ _ _ _ _ _ _ h => h⟩, fun u hu => ?_⟩
  · unfold Gives; rw [if_pos hw, h w (capN_some hc hl hc')]; exact ⟨rfl, trivial, hq w⟩
  · unfold Gives0; rw [if_pos hw, h w (capN_some hc hl hc')]; exact ⟨rfl, trivial, hq w⟩
  · subst hu; exact wpFlow.mono _ _ _ _ _ (fun i w h => h.1) hr
theorem flowV_store {F : World → Prop} (LK : List (Option Nat)) (js : List Nat) (hc : caps.lookup k = some js) (hl : ∀ j ∈ js, row j ∈ LK) (use : List Nat) (hu : pastB ops k use = true) (hk : k ∈ ms) (hR : R k = none) (hw : Region.wanted o (yielded ops a.tmps) = true) (hst : ∀ j, j ≠ k → ¬ Past ops j k → ∀ w w', transV ms T j w w' → F w → F w')
    (h : ∀ w, GrownL LK w0 w → usef use L w → ∃ w', (execOp a.eval o).run P w = .ok .skip w' ∧ F w' ∧ T k w w')
    (hr : FlowV P ops ms caps row T w0 R E rest (k + 1) (a.put o.dst undef) ((k, F) :: L)) : FlowV P ops ms caps row T w0 R E (o :: rest) k a L := by
  refine ⟨⟨fun u => u = undef, fun _ => F⟩, ⟨undef, rfl⟩, ⟨fun t' ht => (by rw [hR] at ht; cases ht), fun w hc' hp => ?_, fun _ w hc' hp => ?_, fun j hne hp v w w' ht h => hst j hne hp w w' ht h⟩, fun u hu => ?_⟩
  · obtain ⟨w', hrun, h2, h3⟩ := h w (capN_some hc hl hc') (usef_of L fun i hi => hp i (pastB_spec hu i hi))
    unfold Gives; rw [if_pos hw, hrun]; exact ⟨rfl, h2, by unfold transV; rw [if_pos hk]; exact h3⟩
  · obtain ⟨w', hrun, h2, h3⟩ := h w (capN_some hc hl hc') (usef_of L fun i hi => hp i (pastB_spec hu i hi))
    unfold Gives0; rw [if_pos hw, hrun]; exact ⟨rfl, h2, by unfold transV; rw [if_pos hk]; exact h3⟩
  · subst hu
    exact wpFlow.mono _ _ _ _ _ (fun i w h => lf_cons i w ⟨h.1, h.2⟩) hr
end
end Go.Proofs.YtifhlmakacoicaaDoor
