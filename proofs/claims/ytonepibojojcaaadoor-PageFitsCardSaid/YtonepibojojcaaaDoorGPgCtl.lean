/- PgCtl, PgArg -/
import Derived.Test.YtonepibojojcaaaDoorGPg2
import Derived.Test.YtonepibojojcaaaDoorGPgMem
/- No control character in a text: none of its bytes is one. -/
namespace Go.Proofs.YtonepibojojcaaaDoor
open Go Go.Lib
set_option linter.unusedVariables false

theorem decN_cont (n b0 b1 b2 b3 : Nat) : (b0 < 128 → decodeN n b0 b1 b2 b3 = (b0, 1)) ∧ (1 < (decodeN n b0 b1 b2 b3).2 → b1 / 64 = 2) ∧ (2 < (decodeN n b0 b1 b2 b3).2 → b2 / 64 = 2) ∧ (3 < (decodeN n b0 b1 b2 b3).2 → b3 / 64 = 2) ∧ (decodeN n b0 b1 b2 b3).2 ≤ 4 := by
  refine ⟨fun h => by unfold decodeN; rw [if_pos h], ?_⟩
  unfold decodeN
  split
  · exact ⟨fun h => by simp at h, fun h => by simp at h, fun h => by simp at h, by simp⟩
  split
  · rename_i h
    split
    · exact ⟨fun _ => h.2.2, fun h => by simp at h, fun h => by simp at h, by simp⟩
    · exact ⟨fun h => by simp at h, fun h => by simp at h, fun h => by simp at h, by simp⟩
  split
  · rename_i h
    split
    · exact ⟨fun _ => h.2.1.2, fun _ => h.2.2.2, fun h => by simp at h, by simp⟩
    · exact ⟨fun h => by simp at h, fun h => by simp at h, fun h => by simp at h, by simp⟩
  split
  · rename_i h
    split
    · exact ⟨fun _ => h.2.1.2, fun _ => h.2.2.1.2, fun _ => h.2.2.2.2, by simp⟩
    · exact ⟨fun h => by simp at h, fun h => by simp at h, fun h => by simp at h, by simp⟩
  exact ⟨fun h => by simp at h, fun h => by simp at h, fun h => by simp at h, by simp⟩
theorem idx_bytes (p : Nat → Bool) (s : ByteArray) : ∀ (f pos : Nat), s.size ≤ pos + f → idxFuncFrom p true s f pos < 0 → ∀ j, pos ≤ j → j < s.size → (s.get! j).toNat < 128 → p (s.get! j).toNat = false
  | 0, pos, h, _, j, h1, h2, _ => by omega
  | f + 1, pos, h, hi, j, h1, h2, h3 => by
    unfold idxFuncFrom at hi
    rw [if_pos (show pos < s.size by omega)] at hi
    split at hi
    · omega
    · rename_i hp
      have hd := decode_at s pos
      obtain ⟨q0, q1, q2, q3, q4⟩ := decN_cont (s.size - pos) (s.get! pos).toNat (s.get! (pos + 1)).toNat (s.get! (pos + 2)).toNat (s.get! (pos + 3)).toNat
      have qp := decN_pos (s.size - pos) (s.get! pos).toNat (s.get! (pos + 1)).toNat (s.get! (pos + 2)).toNat (s.get! (pos + 3)).toNat
      rw [← hd] at q0 q1 q2 q3 q4 qp
      by_cases hj : j = pos
      · subst hj
        have := q0 h3
        rw [this] at hp
        simpa using hp
      · by_cases hj2 : j < pos + (Utf8.decode s pos).2
        · exfalso
          rcases (show j = pos + 1 ∨ j = pos + 2 ∨ j = pos + 3 by omega) with rfl | rfl | rfl
          · have := q1 (by omega); omega
          · have := q2 (by omega); omega
          · have := q3 (by omega); omega
        · exact idx_bytes p s f (pos + (Utf8.decode s pos).2) (by omega) hi j (by omega) h2 h3
theorem TxOk.byte {s : ByteArray} (h : TxOk s) : ∀ b ∈ s.data.toList, ¬ b.toNat < 32 ∧ b.toNat ≠ 127 := fun b hb => by
  obtain ⟨j, hj, e⟩ := List.getElem_of_mem hb
  have hj' : j < s.size := by rw [Array.length_toList] at hj; exact hj
  have eb : s.get! j = b := by
    rw [← e]
    show s.data[j]! = _
    rw [getElem!_pos s.data j hj']
    simp
  by_cases hlt : b.toNat < 128
  · have h2 := idx_bytes ctlR s s.size 0 (by omega) h.ctl j (by omega) hj' (by rw [eb]; exact hlt)
    rw [eb] at h2
    unfold ctlR at h2
    simp only [Bool.or_eq_false_iff, decide_eq_false_iff_not] at h2
    exact ⟨h2.1, h2.2⟩
  · exact ⟨by omega, by omega⟩
theorem TxOk.nl {s : ByteArray} (h : TxOk s) : ∀ b ∈ s.data.toList, b ≠ 10 := fun b hb e => by
  subst e
  exact (h.byte _ hb).1 (by decide)
/-- what the lines of the pages of a valid table are like -/
theorem TbOk.fit {t : Tb} (h : TbOk t) {wd : Nat} {gs : List (List Nat)} (hg : groupsR (wsT t) wd = some gs) (n : Nat) : ∀ p ∈ layP t gs n, LinesFit wd p ∧ p.length ≤ n + 2 := by
  have n1 := h.n1
  have hl := wsT_len t
  refine pages_fit (wsT t) wd n t.h.tx (t.rs.map SR.tx) gs hg (by omega) (fun i hi => ?_) fun r hr i hi => ?_
  · have h1 := h.cols t.h (List.mem_cons_self ..) i hi
    rw [wsT_len] at hi
    refine ⟨h1.2, ?_⟩
    rw [(h.col t.h (List.mem_cons_self ..) i hi).1]
    exact (h.text t.h (List.mem_cons_self ..) i hi).2.nl
  · obtain ⟨x, hx, rfl⟩ := List.mem_map.1 hr
    have h1 := h.cols x (List.mem_cons_of_mem _ hx) i hi
    rw [wsT_len] at hi
    refine ⟨h1.2, ?_⟩
    rw [(h.col x (List.mem_cons_of_mem _ hx) i hi).1]
    exact (h.text x (List.mem_cons_of_mem _ hx) i hi).2.nl
end Go.Proofs.YtonepibojojcaaaDoor

/- A table that came in as an argument, read. -/
namespace Go.Proofs.YtonepibojojcaaaDoor
open Go.RowKit Go.Joins Go.ChangeShapes Go.WideShapes Go.Deep
set_option linter.unusedVariables false

theorem sVs_flat (l : List ByteArray) : l.flatMap (fun s => [Value.string s]) = sVs l := by
  unfold sVs; induction l with
  | nil => rfl
  | cons a l ih => rw [List.flatMap_cons, ih]; rfl
theorem srV_flat (l : List SR) : l.flatMap (fun r => [srV r]) = l.map srV := by
  induction l with
  | nil => rfl
  | cons a l ih => rw [List.flatMap_cons, ih]; rfl
section
variable {H : Type} {enc : TypeId × Value → H} {W : World}
set_option maxRecDepth 100000 in
theorem sr_trod {n : Nat} {v : Value} {y : DataW H × List MemPlace} (h : DataW.trod enc Tryd.prog W 0 (fun _ => true) true n 22 [v] = some y) : ∃ r : SR, v = srV r ∧ SRIn W W.heap.size r := by
  obtain ⟨A, xs, c, e, h1, h2, h3, h4⟩ := list_trod (α := ByteArray) ⟨#[]⟩ (f := fun s => [Value.string s]) (s := 1) (fun _ => rfl) (by omega) (Fit := fun s => s.size ≤ maxLen) Tryd.underlying22 (show Tryd.prog.cellsOf 9 = 1 by kernel_rfl)
    (fun n cs y hy => by
      obtain ⟨nm, k0, _, wn⟩ := DataW.trod_string Tryd.underlying9 hy
      exact ⟨nm, k0, wn⟩) h
  rw [sVs_flat] at h3
  exact ⟨⟨A, c, xs⟩, e, h3, h1, h2, h4⟩
theorem sr_trod_any {n : Nat} {cs : List Value} {y : DataW H × List MemPlace} (h : DataW.trod enc Tryd.prog W 0 (fun _ => true) true n 22 cs = some y) : ∃ r : SR, cs = [srV r] ∧ SRIn W W.heap.size r := by
  rcases open_slice Tryd.underlying22 h with ⟨hcs, _⟩ | ⟨a, len, cap, m, n', D, Pl, hcs, _⟩
  · rw [hcs] at h ⊢
    obtain ⟨r, e, hr⟩ := sr_trod h
    exact ⟨r, by rw [e], hr⟩
  · rw [hcs] at h ⊢
    obtain ⟨r, e, hr⟩ := sr_trod h
    exact ⟨r, by rw [e], hr⟩
set_option maxRecDepth 100000 in
theorem table_open {base : Nat} {v : Value} {d : DataW H} {p : List MemPlace} (hv : Value.okWide Tryd.prog W .any base 25 v) (h : DataW.Trod enc Tryd.prog W 0 (fun _ => true) true 25 v d p) :
    ∃ t : Tb, v = t.val ∧ TbIn W W.heap.size t := by
  have hC : Tryd.prog.cellsOf 25 = 2 := by kernel_rfl
  obtain ⟨cs, rfl, hsz⟩ := okWide_struct Tryd.underlying25 hv
  obtain ⟨l⟩ := cs
  match l, hsz.trans hC with
  | [c0, c1], _ =>
    obtain ⟨fuel, hf⟩ := h
    obtain ⟨xs, n, _, hx, _, hlen, hg⟩ := DataW.trod_struct Tryd.underlying25 hf
    have e1 : Tryd.prog.cellsOf 22 = 1 := by kernel_rfl
    have e3 : Tryd.prog.cellsOf 23 = 1 := by kernel_rfl
    match xs, hlen with
    | [x0, x1], _ =>
      have h0 := hg 0 _ rfl
      have h1 := hg 1 _ rfl
      simp [e1, e3, Value.cells] at h0 h1
      obtain ⟨r, rfl, hr⟩ := sr_trod h0
      obtain ⟨A, rs, c, rfl, a1, a2, a3, a4⟩ := list_trod (α := SR) sr0 (f := fun r => [srV r]) (s := 1) (fun _ => rfl) (by omega) (Fit := fun r => SRIn W W.heap.size r) Tryd.underlying23 (show Tryd.prog.cellsOf 22 = 1 by kernel_rfl) (fun n cs y hy => sr_trod_any hy) h1
      rw [srV_flat] at a3
      exact ⟨⟨r, A, c, rs⟩, rfl, hr, a3, a1, a2, a4⟩
end
end Go.Proofs.YtonepibojojcaaaDoor
