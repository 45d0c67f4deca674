/- Contract of Book. -/
import Derived.Test.YtfindembancjdaaRoom3
import Derived.Test.YtfindembancjdaaFlowG
namespace Go.Proofs.Ytfindembancjdaa
open Go.RowKit
set_option linter.unusedVariables false

section
variable {w w' : World} {base : Nat} {e : TypeId} {s : Nat} {v : Value} {n : Nat} {xs : List Value}
theorem own_kind (h : w.ownsRow base e s v n xs) {b : Nat} (hb : v.ownBlock = some b) : ∃ cur, Box w b e cur := by
  rcases h.2 with ⟨hn, _⟩ | ⟨g, cap, cur, hv, hbb, hg, rest⟩
  · rw [hn] at hb; cases hb
  · rw [hv] at hb
    obtain rfl : g = b := by simpa [Value.ownBlock] using hb
    exact ⟨cur, hg⟩
theorem own_kept {row : Option Nat} (h : w.ownsRow base e s v n xs) (hg : w.grownBy w' row) (hne : ∀ b, v.ownBlock = some b → row ≠ some b) : w'.ownsRow base e s v n xs :=
  own_heap h fun b hb => hg.block b (own_lt h b hb).2 (fun e => hne b hb e.symm)
theorem Box.other {w : World} {g g' : Nat} {t t' : TypeId} {cs cs' : Array Value} (h : Box w g t cs) (h' : Box w g' t' cs') (hne : t ≠ t') : g ≠ g' := fun e => by
  subst e
  have := h.symm.trans h'
  simp at this
  exact hne this.2
end

section
variable {w w1 : World} {base g gB : Nat} {An : Option Addr} {cn : Nat} {nms : List ByteArray} {vs : List Value} {ls : List (List Bk)}
theorem getD_set_eq {α : Type} {l : List α} {k : Nat} {x d : α} (h : k < l.length) : (l.set k x).getD k d = x := by simp [List.getD, h]
theorem getD_set_other {α : Type} {l : List α} {k j : Nat} {x d : α} (h : k ≠ j) : (l.set k x).getD j d = l.getD j d := by simp [List.getD, h]
/-- a room's row was changed, and its new slice laid into the rooms -/
theorem Rms.put (h : Rms w base g gB An cn nms vs ls) (k : Nat) (hk : k < nms.length) (hg : w.grownBy w1 (vs.getD k undef).ownBlock) (l' : List Bk) (v' : Value) (ho : w1.ownsRow base 55 4 v' l'.length (l'.flatMap bkF))
    (hnear : ∀ b, v'.ownBlock = some b → (vs.getD k undef).ownBlock = some b ∨ w.heap.size ≤ b) : Rms (w1.setCell ⟨gB, k, none⟩ v') base g gB An cn nms (vs.set k v') (ls.set k l') := by
  have hkind : ∀ b, (vs.getD k undef).ownBlock = some b → ∃ cur, Box w b 55 cur := fun b hb => own_kind (h.rows k hk) hb
  have hbx1 : Box w1 g _ _ := h.bx.grown hg (fun e => by obtain ⟨cur, hc⟩ := hkind g e.symm; exact h.bx.other hc (by decide) rfl)
  have hbk1 : Box w1 gB _ _ := h.bk.grown hg (fun e => by obtain ⟨cur, hc⟩ := hkind gB e.symm; exact h.bk.other hc (by decide) rfl)
  have hnm1 := own_kept h.nm hg (fun b hb e => by
    obtain ⟨cur, hc⟩ := hkind b e
    obtain ⟨cur', hc'⟩ := own_kind h.nm hb
    exact hc'.other hc (by decide) rfl)
  have hset : ∀ {e : TypeId} {s : Nat} {v : Value} {n : Nat} {xs : List Value}, w1.ownsRow base e s v n xs → e ≠ 49 → (w1.setCell ⟨gB, k, none⟩ v').ownsRow base e s v n xs := fun hh hne => own_heap hh fun b hb => by
    obtain ⟨cur, hc⟩ := own_kind hh hb
    exact Below.heap_setCell w1 _ _ b (hc.other hbk1 hne)
  have hkv : k < vs.length := by rw [h.lv]; exact hk
  have hkl : k < ls.length := by rw [h.ll]; exact hk
  refine ⟨hbx1.far (hbx1.other hbk1 (by decide)) _, hset hnm1 (by decide), ?_, by simp [h.lv], by simp [h.ll], fun j hj => ?_, fun i j b hi hj hij hb => ?_⟩
  · have := hbk1.set_ k v'
    simpa using this
  · by_cases e : k = j
    · subst e
      rw [getD_set_eq hkv, getD_set_eq hkl]
      exact hset ho (by decide)
    · rw [getD_set_other e, getD_set_other e]
      exact hset (own_kept (h.rows j hj) hg (fun b hb e' => h.apart k j b hk hj e e' hb)) (by decide)
  · by_cases e1 : k = i
    · subst e1
      rw [getD_set_eq hkv] at hb
      rw [getD_set_other hij]
      rcases hnear b hb with hh | hh
      · exact h.apart k j b hk hj hij hh
      · intro hb'
        have := (own_lt (h.rows j hj) b hb').2
        omega
    · rw [getD_set_other e1] at hb
      by_cases e2 : k = j
      · subst e2
        rw [getD_set_eq hkv]
        intro hb'
        rcases hnear b hb' with hh | hh
        · exact h.apart i k b hi hk hij hb hh
        · have := (own_lt (h.rows i hi) b hb).2
          omega
      · rw [getD_set_other e2]
        exact h.apart i j b hi hj hij hb
theorem Rms.put_below (h : Rms w base g gB An cn nms vs ls) (hgB : base ≤ gB) (k : Nat) (hk : k < nms.length) (hg : w.grownBy w1 (vs.getD k undef).ownBlock) (hbase : base ≤ w.heap.size) (v' : Value) : Below base w (w1.setCell ⟨gB, k, none⟩ v') := by
  have h1 : Below base w w1 := ⟨hg.os, hg.tape, hg.output, hg.size, fun b hb => hg.block b (by omega) (fun e => by have := (own_lt (h.rows k hk) b e.symm).1; omega)⟩
  exact h1.setCell (p := ⟨gB, k, none⟩) hgB _
end

/-- the bookings with one more, in order -/
def insB (b : Bk) : List Bk → List Bk
  | [] => [b]
  | x :: l => if x.fr < b.fr then x :: insB b l else b :: x :: l
theorem insB_at (b : Bk) : ∀ (l : List Bk) (k : Nat), k ≤ l.length → (∀ j, j < k → (l.getD j bk0).fr < b.fr) → (k < l.length → ¬ (l.getD k bk0).fr < b.fr) → l.take k ++ [b] ++ l.drop k = insB b l
  | [], k, hk, _, _ => by have : k = 0 := by simpa using hk
                          subst this; rfl
  | x :: l, 0, _, _, h => by
    have := h (by simp)
    unfold insB
    rw [if_neg (by simpa using this)]
    simp
  | x :: l, k + 1, hk, h1, h2 => by
    have := h1 0 (by omega)
    unfold insB
    rw [if_pos (by simpa using this), ← insB_at b l k (by simpa using hk) (fun j hj => by have := h1 (j + 1) (by omega); simpa using this) (fun hk' => by have := h2 (by simpa using hk'); simpa using this)]
    simp
theorem insB_length (b : Bk) : ∀ l : List Bk, (insB b l).length = l.length + 1
  | [] => rfl
  | x :: l => by
    unfold insB
    split
    · simp [insB_length b l]
    · simp

structure BookOk (l : List Bk) (b : Bk) : Prop where
  who : NameOk b.who
  st : InstOk b.fr ∧ InstOk b.to ∧ b.fr < b.to
  free : l.any (fun x => x.over b.fr b.to) = false
  len : l.length < 200
/-- what Book says and does -/
def Booked (nms : List ByteArray) (ls : List (List Bk)) (b : Bk) (E : Int) (ls' : List (List Bk)) : Prop :=
  (E = 0 ∧ ∃ k, k < nms.length ∧ IdxS nms b.rm (k : Int) ∧ BookOk (ls.getD k []) b ∧ ls' = ls.set k (insB b (ls.getD k []))) ∨ (E ≠ 0 ∧ ls' = ls ∧ ∀ k : Nat, k < nms.length → IdxS nms b.rm (k : Int) → ¬ BookOk (ls.getD k []) b)
def BookQ (base g gB : Nat) (An : Option Addr) (cn : Nat) (nms : List ByteArray) (ls : List (List Bk)) (b : Bk) (w : World) (e : Ending) (w' : World) : Prop :=
  ∃ (E : Int) (vs' : List Value) (ls' : List (List Bk)), e = .returned (.int .i64 E) ∧ Booked nms ls b E ls' ∧ Rms w' base g gB An cn nms vs' ls' ∧ Below base w w' ∧ w.heap.size ≤ w'.heap.size
theorem IdxS.one {l : List ByteArray} {x : ByteArray} {k j : Nat} (h : IdxS l x (k : Int)) (h' : IdxS l x (j : Int)) : k = j := by
  rcases h with ⟨h, _⟩ | ⟨a, ha, _, hat, haf⟩
  · omega
  rcases h' with ⟨h', _⟩ | ⟨b, hb, _, hbt, hbf⟩
  · omega
  have e1 : k = a := by omega
  have e2 : j = b := by omega
  subst e1 e2
  rcases Nat.lt_trichotomy k j with hh | hh | hh
  · rw [hbf k hh] at hat; cases hat
  · exact hh
  · rw [haf j hh] at hbt; cases hbt
end Go.Proofs.Ytfindembancjdaa
