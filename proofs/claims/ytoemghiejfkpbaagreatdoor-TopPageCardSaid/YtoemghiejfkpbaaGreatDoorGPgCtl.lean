/- PgCtl -/
import Derived.Test.YtoemghiejfkpbaaGreatDoorGPg1
/- No control character in a text: none of its bytes is one. -/
namespace Go.Proofs.YtoemghiejfkpbaaGreatDoor
open Go Go.Lib
set_option linter.unusedVariables false
theorem decN_cont (n b0 b1 b2 b3 : Nat) : (b0 < 128 → decodeN n b0 b1 b2 b3 = (b0, 1)) ∧ (1 < (decodeN n b0 b1 b2 b3).2 → b1 / 64 = 2) ∧ (2 < (decodeN n b0 b1 b2 b3).2 → b2 / 64 = 2) ∧ (3 < (decodeN n b0 b1 b2 b3).2 → b3 / 64 = 2) ∧ (decodeN n b0 b1 b2 b3).2 ≤ 4 := by
 refine ⟨fun h => by unfold decodeN; rw [if_pos h], ?_⟩
 unfold decodeN
 split
 ·exact ⟨fun h => by simp at h, fun h => by simp at h, fun h => by simp at h, by simp⟩
 split
 ·rename_i h
  split
  ·exact ⟨fun _ => h.2.2, fun h => by simp at h, fun h => by simp at h, by simp⟩
  ·exact ⟨fun h => by simp at h, fun h => by simp at h, fun h => by simp at h, by simp⟩
 split
 ·rename_i h
  split
  ·exact ⟨fun _ => h.2.1.2, fun _ => h.2.2.2, fun h => by simp at h, by simp⟩
  ·exact ⟨fun h => by simp at h, fun h => by simp at h, fun h => by simp at h, by simp⟩
 split
 ·rename_i h
  split
  ·exact ⟨fun _ => h.2.1.2, fun _ => h.2.2.1.2, fun _ => h.2.2.2.2, by simp⟩
  ·exact ⟨fun h => by simp at h, fun h => by simp at h, fun h => by simp at h, by simp⟩
 exact ⟨fun h => by simp at h, fun h => by simp at h, fun h => by simp at h, by simp⟩
theorem idx_bytes (p : Nat → Bool) (s : ByteArray) : ∀ (f pos : Nat), s.size ≤ pos + f → idxFuncFrom p true s f pos < 0 → ∀ j, pos ≤ j → j < s.size → (s.get! j).toNat < 128 → p (s.get! j).toNat = false
 | 0, pos, h, _, j, h1, h2, _ => by omega
 | f + 1, pos, h, hi, j, h1, h2, h3 => by
  unfold idxFuncFrom at hi
  rw [if_pos (show pos < s.size by omega)] at hi
  split at hi
  ·omega
  ·rename_i hp
   have hd := decode_at s pos
   obtain ⟨q0, q1, q2, q3, q4⟩ := decN_cont (s.size - pos) (s.get! pos).toNat (s.get! (pos + 1)).toNat (s.get! (pos + 2)).toNat (s.get! (pos + 3)).toNat
   have qp := decN_pos (s.size - pos) (s.get! pos).toNat (s.get! (pos + 1)).toNat (s.get! (pos + 2)).toNat (s.get! (pos + 3)).toNat
   rw [← hd] at q0 q1 q2 q3 q4 qp
   by_cases hj : j = pos
   ·subst hj
    have := q0 h3
    rw [this] at hp
    simpa using hp
   ·by_cases hj2 : j < pos + (Utf8.decode s pos).2
    ·exfalso
     rcases (show j = pos + 1 ∨ j = pos + 2 ∨ j = pos + 3 by omega) with rfl | rfl | rfl
     ·have := q1 (by omega); omega
     ·have := q2 (by omega); omega
     ·have := q3 (by omega); omega
    ·exact idx_bytes p s f (pos + (Utf8.decode s pos).2) (by omega) hi j (by omega) h2 h3
theorem TxOk.byte {s : ByteArray} (h : TxOk s) : ∀ b ∈ s.data.toList, ¬ b.toNat < 32 ∧ b.toNat ≠ 127 := fun b hb => by
 obtain ⟨j, hj, e⟩ := List.getElem_of_mem hb
 have hj' : j < s.size := by rw [Array.length_toList] at hj; exact hj
 have eb : s.get! j = b := by
  rw [← e]
  show s.data[j]! = _
  rw [getElem!_pos s.data j hj']
  simp
 by_cases hlt : b.toNat < 128
 ·have h2 := idx_bytes ctlR s s.size 0 (by omega) h.ctl j (by omega) hj' (by rw [eb]; exact hlt)
  rw [eb] at h2
  unfold ctlR at h2
  simp only [Bool.or_eq_false_iff, decide_eq_false_iff_not] at h2
  exact ⟨h2.1, h2.2⟩
 ·exact ⟨by omega, by omega⟩
theorem TxOk.nl {s : ByteArray} (h : TxOk s) : ∀ b ∈ s.data.toList, b ≠ 10 := fun b hb e => by
 subst e
 exact (h.byte _ hb).1 (by decide)
theorem TbOk.fit {t : Tb} (h : TbOk t) {wd : Nat} {gs : List (List Nat)} (hg : groupsR (wsT t) wd = some gs) (n : Nat) : ∀ p ∈ layP t gs n, LinesFit wd p ∧ p.length ≤ n + 2 := by
 have n1 := h.n1
 have hl := wsT_len t
 refine pages_fit (wsT t) wd n t.h.tx (t.rs.map SR.tx) gs hg (by omega) (fun i hi => ?_) fun r hr i hi => ?_
 ·have h1 := h.cols t.h (List.mem_cons_self ..) i hi
  rw [wsT_len] at hi
  refine ⟨h1.2, ?_⟩
  rw [(h.col t.h (List.mem_cons_self ..) i hi).1]
  exact (h.text t.h (List.mem_cons_self ..) i hi).2.nl
 ·obtain ⟨x, hx, rfl⟩ := List.mem_map.1 hr
  have h1 := h.cols x (List.mem_cons_of_mem _ hx) i hi
  rw [wsT_len] at hi
  refine ⟨h1.2, ?_⟩
  rw [(h.col x (List.mem_cons_of_mem _ hx) i hi).1]
  exact (h.text x (List.mem_cons_of_mem _ hx) i hi).2.nl
end Go.Proofs.YtoemghiejfkpbaaGreatDoor
