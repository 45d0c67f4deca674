/- Mem -/
import Derived.Test.YtcommodbjjdbmaaGreatDoorGNumShp
import Derived.Test.YtcommodbjjdbmaaGreatDoorGFlow
/- Words for rows of one's own: a call that gives one, in a region that draws its order. -/
namespace Go.Proofs.YtcommodbjjdbmaaGreatDoor
open Go.RowKit
set_option linter.unusedVariables false

theorem ownApart {w : World} {base : Nat} {e : TypeId} {s : Nat} {v : Value} {n : Nat} {xs : List Value} {g : Nat} {ty : TypeId} {cs : Array Value} (h : w.ownsRow base e s v n xs) (hb : Box w g ty cs) (hne : e ≠ ty) (b : Nat) (hv : v.ownBlock = some b) : b ≠ g := by
  intro e'
  subst e'
  rcases h.2 with ⟨rfl, _⟩ | ⟨g', cap, cur, rfl, _, hg, _⟩
  · simp [Value.ownBlock] at hv
  · have : g' = b := by simpa [Value.ownBlock] using hv
    subst this
    unfold Box at hb
    rw [hg] at hb
    simp at hb
    exact hne hb.2
theorem newsOf {w : World} {b o : Nat} {cs : List Value} (h : ∀ j v, cs[j]? = some v → w.cell? ⟨b, o + j, none⟩ = some v) : ∀ j u, cs[j]? = some u → w.cell? ((⟨b, o, none⟩ : Addr).add j) = some u := fun j u hu => by
  have : (⟨b, o, none⟩ : Addr).add j = ⟨b, o + j, none⟩ := by unfold Addr.add; split <;> simp_all
  rw [this]; exact h j u hu
theorem newsRow {w : World} {B : Nat} {A : Addr} {cs : List Value} (h : Row w B (some A) cs) : ∀ j u, cs[j]? = some u → w.cell? (A.add j) = some u := by
  rcases h with rfl | ⟨b, o, e, _, hc⟩
  · intro j u hu; simp at hu
  · injection e with e; subst e; exact newsOf hc
/-- a row of one's own -/
def toldRows (e : TypeId) (s base n : Nat) (xs : List Value) : Told := ⟨fun v => ∃ A c, v = .slice A n c, fun v w => w.ownsRow base e s v n xs⟩
section
variable {P : Program} {ops : Array Oper} {w0 : World} {R : Nat → Option Told} {E : Act → World → Prop} {o : Oper} {rest : List Oper} {k : Nat} {a : Act} {L : List Fact}
theorem flow_rows {e : TypeId} {s base n : Nat} {xs : List Value} {f : FuncId} {args : Array Value} (use : List Nat) (hu : pastB ops k use = true) (hR : R k = some (toldRows e s base n xs)) (hw : Region.wanted o (yielded ops a.tmps) = true)
    (h : ∀ w, Below w0.heap.size w0 w → (execOp a.eval o).run P w = .ok (.enter f args) w)
    (hc : ∀ w, Below w0.heap.size w0 w → usef use L w → Calls P f args w fun e' w' => ∃ v, e' = .returned v ∧ w'.ownsRow base e s v n xs ∧ Below w.heap.size w w')
    (hr : ∀ A c, FlowB P ops w0 R E rest (k + 1) (a.put o.dst (.slice A n c)) ((k, fun w => w.ownsRow base e s (.slice A n c) n xs) :: L)) : FlowB P ops w0 R E (o :: rest) k a L := by
  refine flow_told (t := toldRows e s base n xs) use hu hR hw ⟨_, none, 0, rfl⟩ (fun v w w' hb hF => own_next hF hb) h (fun w hb hl => (hc w hb hl).mono fun e' w' ⟨v, he, ho, hb'⟩ => ⟨v, he, ?_, ho, hb'⟩) fun v hv => ?_
  · obtain ⟨A, c, rfl, _⟩ := own_form ho
    exact ⟨A, c, rfl⟩
  · obtain ⟨A, c, rfl⟩ := hv
    exact hr A c
end
end Go.Proofs.YtcommodbjjdbmaaGreatDoor
