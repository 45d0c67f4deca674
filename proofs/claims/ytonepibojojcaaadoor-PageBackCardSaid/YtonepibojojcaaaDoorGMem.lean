/- Mem, OnlyT -/
import Derived.Test.YtonepibojojcaaaDoorGWords
import Derived.Test.YtonepibojojcaaaDoorGFlow
/- Words for rows of one's own: a call that gives one, in a region that draws its order. -/
namespace Go.Proofs.YtonepibojojcaaaDoor
open Go.RowKit
set_option linter.unusedVariables false

theorem ownApart {w : World} {base : Nat} {e : TypeId} {s : Nat} {v : Value} {n : Nat} {xs : List Value} {g : Nat} {ty : TypeId} {cs : Array Value} (h : w.ownsRow base e s v n xs) (hb : Box w g ty cs) (hne : e ≠ ty) (b : Nat) (hv : v.ownBlock = some b) : b ≠ g := by
  intro e'
  subst e'
  rcases h.2 with ⟨rfl, _⟩ | ⟨g', cap, cur, rfl, _, hg, _⟩
  · simp [Value.ownBlock] at hv
  · have : g' = b := by simpa [Value.ownBlock] using hv
    subst this
    unfold Box at hb
    rw [hg] at hb
    simp at hb
    exact hne hb.2
theorem newsOf {w : World} {b o : Nat} {cs : List Value} (h : ∀ j v, cs[j]? = some v → w.cell? ⟨b, o + j, none⟩ = some v) : ∀ j u, cs[j]? = some u → w.cell? ((⟨b, o, none⟩ : Addr).add j) = some u := fun j u hu => by
  have : (⟨b, o, none⟩ : Addr).add j = ⟨b, o + j, none⟩ := by unfold Addr.add; split <;> simp_all
  rw [this]; exact h j u hu
theorem newsRow {w : World} {B : Nat} {A : Addr} {cs : List Value} (h : Row w B (some A) cs) : ∀ j u, cs[j]? = some u → w.cell? (A.add j) = some u := by
  rcases h with rfl | ⟨b, o, e, _, hc⟩
  · intro j u hu; simp at hu
  · injection e with e; subst e; exact newsOf hc
/-- a row of one's own -/
def toldRows (e : TypeId) (s base n : Nat) (xs : List Value) : Told := ⟨fun v => ∃ A c, v = .slice A n c, fun v w => w.ownsRow base e s v n xs⟩
section
variable {P : Program} {ops : Array Oper} {w0 : World} {R : Nat → Option Told} {E : Act → World → Prop} {o : Oper} {rest : List Oper} {k : Nat} {a : Act} {L : List Fact}
theorem flow_rows {e : TypeId} {s base n : Nat} {xs : List Value} {f : FuncId} {args : Array Value} (use : List Nat) (hu : pastB ops k use = true) (hR : R k = some (toldRows e s base n xs)) (hw : Region.wanted o (yielded ops a.tmps) = true)
    (h : ∀ w, Below w0.heap.size w0 w → (execOp a.eval o).run P w = .ok (.enter f args) w)
    (hc : ∀ w, Below w0.heap.size w0 w → usef use L w → Calls P f args w fun e' w' => ∃ v, e' = .returned v ∧ w'.ownsRow base e s v n xs ∧ Below w.heap.size w w')
    (hr : ∀ A c, FlowB P ops w0 R E rest (k + 1) (a.put o.dst (.slice A n c)) ((k, fun w => w.ownsRow base e s (.slice A n c) n xs) :: L)) : FlowB P ops w0 R E (o :: rest) k a L := by
  refine flow_told (t := toldRows e s base n xs) use hu hR hw ⟨_, none, 0, rfl⟩ (fun v w w' hb hF => own_next hF hb) h (fun w hb hl => (hc w hb hl).mono fun e' w' ⟨v, he, ho, hb'⟩ => ⟨v, he, ?_, ho, hb'⟩) fun v hv => ?_
  · obtain ⟨A, c, rfl, _⟩ := own_form ho
    exact ⟨A, c, rfl⟩
  · obtain ⟨A, c, rfl⟩ := hv
    exact hr A c
end
end Go.Proofs.YtonepibojojcaaaDoor

/- What a step keeps of the memory: only some blocks may change. -/
namespace Go.Proofs.YtonepibojojcaaaDoor
open Go.RowKit
set_option linter.unusedVariables false

/-- only blocks of which p holds have changed; new ones may have come -/
structure Only (p : Nat → Prop) (w w' : World) : Prop where
  os : w'.os = w.os
  tape : w'.tape = w.tape
  output : w'.output = w.output
  size : w.heap.size ≤ w'.heap.size
  block : ∀ k, k < w.heap.size → ¬ p k → w'.heap[k]? = w.heap[k]?
theorem Only.trans {p : Nat → Prop} {a b c : World} (h : Only p a b) (k : Only p b c) : Only p a c :=
  ⟨k.os.trans h.os, k.tape.trans h.tape, k.output.trans h.output, Nat.le_trans h.size k.size, fun i hi hp => (k.block i (Nat.lt_of_lt_of_le hi h.size) hp).trans (h.block i hi hp)⟩
theorem only_grown {p : Nat → Prop} {w w' : World} {row : Option Nat} (h : w.grownBy w' row) (hp : ∀ k, row = some k → p k) : Only p w w' :=
  ⟨h.os, h.tape, h.output, h.size, fun k hk hn => h.block k hk (fun e => hn (hp k e.symm))⟩
theorem only_below {p : Nat → Prop} {w w' : World} (h : Below w.heap.size w w') : Only p w w' := ⟨h.os, h.tape, h.output, h.size, fun k hk _ => h.block k hk⟩
theorem only_set {p : Nat → Prop} (w : World) (g i : Nat) (v : Value) (hp : p g) : Only p w (w.setCell ⟨g, i, none⟩ v) :=
  ⟨rfl, rfl, rfl, by simp, fun k hk hn => Below.heap_setCell _ _ _ k (fun e => hn (by have : k = g := e; rw [this]; exact hp))⟩
theorem only_setnew {p : Nat → Prop} {w w1 : World} (h : Only p w w1) (g i : Nat) (v : Value) (hg : w.heap.size ≤ g) : Only p w (w1.setCell ⟨g, i, none⟩ v) :=
  ⟨h.os, h.tape, h.output, by simpa using h.size, fun k hk hn => (Below.heap_setCell _ _ _ k (show k ≠ g by omega)).trans (h.block k hk hn)⟩
theorem Only.more {p q : Nat → Prop} {w w' : World} (h : Only p w w') (hpq : ∀ k, k < w.heap.size → p k → q k) : Only q w w' := ⟨h.os, h.tape, h.output, h.size, fun k hk hn => h.block k hk fun hp => hn (hpq k hk hp)⟩
theorem Only.box {p : Nat → Prop} {w w' : World} (h : Only p w w') {b : Nat} {t : TypeId} {cs : Array Value} (hx : Box w b t cs) (hn : ¬ p b) : Box w' b t cs := (h.block b hx.lt hn).trans hx
end Go.Proofs.YtonepibojojcaaaDoor
