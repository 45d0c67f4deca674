/- Contract of recur.at. -/
import Derived.Test.YtfindembancjdaaRec3
namespace Go.Proofs.Ytfindembancjdaa
open Go.RowKit
set_option linter.unusedVariables false

set_option maxHeartbeats 400000 in
set_option maxRecDepth 100000 in
theorem at_any (m : Mm) (ok : MmOk m) (w : World) : Calls Try.prog 76 #[.int .i64 m.day] w fun e w' => e = .returned m.val ∧ Below w.heap.size w w' := by
  have HO := Lib.hid ok
  have h1 := ok.d1
  have h2 := ok.d2
  clear ok
  have HB := Lib.hid (below_alloc1 w (Obj.cells #[.int .i64 0, .int .i64 0, .int .i64 0, .int .i64 0, .int .i64 0, .int .i64 0] 134))
  have HX := Lib.hid (Box.new w 134 #[.int .i64 0, .int .i64 0, .int .i64 0, .int .i64 0, .int .i64 0, .int .i64 0])
  go_enter Try.func76, Try.ntmps76
  go_wp2_with fail
  refine (date_any _ _ h1 h2).mono ?_
  rintro e W1 ⟨y, k, d, rfl, hv, he, hb⟩
  obtain ⟨rfl, rfl, rfl⟩ := dayOf_inj _ _ _ _ _ _ hv HO.out.v (by rw [he, HO.out.e])
  have hx := HX.out.below hb
  replace HB := Lib.hid (below_then HB.out hb)
  clear HX
  go_upto_region 2 with fail
  have hd := Box.new W1 44 #[.int .i64 m.y, .int .i64 ((m.k : Int) + 1), .int .i64 m.d]
  replace hx := hx.alloc (Obj.cells #[.int .i64 m.y, .int .i64 ((m.k : Int) + 1), .int .i64 m.d] 44)
  have hB : Below w.heap.size w (W1.alloc (Obj.cells #[.int .i64 m.y, .int .i64 ((m.k : Int) + 1), .int .i64 m.d] 44)) := below_then HB.out (below_alloc1 _ _)
  have hgd : W1.heap.size ≠ w.heap.size := by have := HB.out.size; have := hx.lt; have := hb.size; simp at this; omega
  generalize W1.alloc (Obj.cells #[.int .i64 m.y, .int .i64 ((m.k : Int) + 1), .int .i64 m.d] 44) = W2 at *
  generalize W1.heap.size = gd at *
  clear HB hb he hv
  have hBd := Lib.hid hB
  have hk := HO.out.v.1
  have HMd : Hid (∀ W, Calls Try.prog 82 #[.int .i64 (m.day - 1), .int .i64 7] W fun e w' => e = .returned (.int .i64 ((m.day - 1) % 7)) ∧ Below W.heap.size W w') := fun W =>
    (mod_pos _ _ W (by omega) (by omega) (by omega) (by omega)).mono fun _ _ ⟨he, n, hn⟩ => ⟨he, by rw [hn]; exact below_drewN W n⟩
  have HLn : Hid (∀ W, Calls Try.prog 99 #[.int .i64 m.y] W fun e w' => e = .returned (.agg #[.int .i64 31, .int .i64 (feb m.y), .int .i64 31, .int .i64 30, .int .i64 31, .int .i64 30, .int .i64 31, .int .i64 31, .int .i64 30, .int .i64 31, .int .i64 30, .int .i64 31]) ∧ Below W.heap.size W w') := fun W => lengths_any _ W
  have HK : Hid (∀ W v0 v1 v2 v3 v4 v5, (Below w.heap.size w W ∧ W.cell? ⟨gd, 0, none⟩ = some (.int .i64 m.y) ∧ W.cell? ⟨gd, 1, none⟩ = some (.int .i64 ((m.k : Int) + 1)) ∧ W.cell? ⟨gd, 2, none⟩ = some (.int .i64 m.d)) → (Below w.heap.size w ((((((W.setCell ⟨w.heap.size, 0, none⟩ v0).setCell ⟨w.heap.size, 1, none⟩ v1).setCell ⟨w.heap.size, 2, none⟩ v2).setCell ⟨w.heap.size, 3, none⟩ v3).setCell ⟨w.heap.size, 4, none⟩ v4).setCell ⟨w.heap.size, 5, none⟩ v5) ∧ ((((((W.setCell ⟨w.heap.size, 0, none⟩ v0).setCell ⟨w.heap.size, 1, none⟩ v1).setCell ⟨w.heap.size, 2, none⟩ v2).setCell ⟨w.heap.size, 3, none⟩ v3).setCell ⟨w.heap.size, 4, none⟩ v4).setCell ⟨w.heap.size, 5, none⟩ v5).cell? ⟨gd, 0, none⟩ = some (.int .i64 m.y) ∧ ((((((W.setCell ⟨w.heap.size, 0, none⟩ v0).setCell ⟨w.heap.size, 1, none⟩ v1).setCell ⟨w.heap.size, 2, none⟩ v2).setCell ⟨w.heap.size, 3, none⟩ v3).setCell ⟨w.heap.size, 4, none⟩ v4).setCell ⟨w.heap.size, 5, none⟩ v5).cell? ⟨gd, 1, none⟩ = some (.int .i64 ((m.k : Int) + 1)) ∧ ((((((W.setCell ⟨w.heap.size, 0, none⟩ v0).setCell ⟨w.heap.size, 1, none⟩ v1).setCell ⟨w.heap.size, 2, none⟩ v2).setCell ⟨w.heap.size, 3, none⟩ v3).setCell ⟨w.heap.size, 4, none⟩ v4).setCell ⟨w.heap.size, 5, none⟩ v5).cell? ⟨gd, 2, none⟩ = some (.int .i64 m.d))) := fun W v0 v1 v2 v3 v4 v5 h => by
    refine ⟨((((((h.1.setCell (p := ⟨w.heap.size, 0, none⟩) (Nat.le_refl _) _).setCell (p := ⟨w.heap.size, 1, none⟩) (Nat.le_refl _) _).setCell (p := ⟨w.heap.size, 2, none⟩) (Nat.le_refl _) _).setCell (p := ⟨w.heap.size, 3, none⟩) (Nat.le_refl _) _).setCell (p := ⟨w.heap.size, 4, none⟩) (Nat.le_refl _) _).setCell (p := ⟨w.heap.size, 5, none⟩) (Nat.le_refl _) _), ?_, ?_, ?_⟩ <;> rw [cell_set1 hgd, cell_set1 hgd, cell_set1 hgd, cell_set1 hgd, cell_set1 hgd, cell_set1 hgd]
    · exact h.2.1
    · exact h.2.2.1
    · exact h.2.2.2
  have hS0 : (Below w.heap.size w W2.drew ∧ W2.drew.cell? ⟨gd, 0, none⟩ = some (.int .i64 m.y) ∧ W2.drew.cell? ⟨gd, 1, none⟩ = some (.int .i64 ((m.k : Int) + 1)) ∧ W2.drew.cell? ⟨gd, 2, none⟩ = some (.int .i64 m.d)) := ⟨below_drew hB 1, hd.cell 0, hd.cell 1, hd.cell 2⟩
  have HX0 : Hid (∀ W, Below W2.heap.size W2 W → Box W w.heap.size 134 #[.int .i64 0, .int .i64 0, .int .i64 0, .int .i64 0, .int .i64 0, .int .i64 0]) := fun W h => hx.below h
  have HD0 : Hid (∀ W, Below W2.heap.size W2 W → (Below w.heap.size w W ∧ W.cell? ⟨gd, 0, none⟩ = some (.int .i64 m.y) ∧ W.cell? ⟨gd, 1, none⟩ = some (.int .i64 ((m.k : Int) + 1)) ∧ W.cell? ⟨gd, 2, none⟩ = some (.int .i64 m.d))) := fun W h => ⟨below_then hBd.out h, (hd.below h).cell 0, (hd.below h).cell 1, (hd.below h).cell 2⟩
  have hb0 : Below W2.heap.size W2 W2.drew := below_drew (Below.refl _ _) 1
  clear hd hx hB
  have e1 : IntKind.i64.wrap (m.day - 1) = m.day - 1 := intFits _ (by omega) (by omega)
  have e2 : IntKind.i64.wrap (m.k : Int) = (m.k : Int) := intFits _ (by omega) (by omega)
  have hXa : ∀ W, (Instr.index 153 (.agg #[.int .i64 31, .int .i64 (feb m.y), .int .i64 31, .int .i64 30, .int .i64 31, .int .i64 30, .int .i64 31, .int .i64 31, .int .i64 30, .int .i64 31, .int .i64 30, .int .i64 31]) (.int .i64 (m.k : Int))).run Try.prog W = .ok (.int .i64 (len (feb m.y) m.k)) W := fun W => run_lens (feb m.y) m.k hk W
  go_region_held3 (fun W => Below w.heap.size w W ∧ W.cell? ⟨gd, 0, none⟩ = some (.int .i64 m.y) ∧ W.cell? ⟨gd, 1, none⟩ = some (.int .i64 ((m.k : Int) + 1)) ∧ W.cell? ⟨gd, 2, none⟩ = some (.int .i64 m.d)) (first | with_reducible assumption | (with_reducible refine HK.out _ _ _ _ _ _ _ ?_; with_reducible assumption))
    (first
      | (go_at_call 99; ((with_reducible refine (HLn.out _).mono ?_)); rintro e wB ⟨rfl, hbB⟩; have hbL := below_then (by assumption : Below W2.heap.size W2 _) hbB; have hsL := HD0.out _ hbL; have hz := HX0.out _ hbL; have q0 := hz.cell 0; have q1 := hz.cell 1; have q2 := hz.cell 2; have q3 := hz.cell 3; have q4 := hz.cell 4; have q5 := hz.cell 5; have qf := fun i => hz.free i; simp at q0 q1 q2 q3 q4 q5)
      | (go_at_call 82; ((with_reducible refine (HMd.out _).mono ?_)); rintro e wA ⟨rfl, hbA⟩; have hbM := below_then (by assumption : Below W2.heap.size W2 _) hbA; have hsM := HD0.out _ hbM; have hz := HX0.out _ hbM; have q0 := hz.cell 0; have q1 := hz.cell 1; have q2 := hz.cell 2; have q3 := hz.cell 3; have q4 := hz.cell 4; have q5 := hz.cell 5; have qf := fun i => hz.free i; simp at q0 q1 q2 q3 q4 q5))
  have hBx : Hid (Box wB w.heap.size 134 #[.int .i64 0, .int .i64 0, .int .i64 0, .int .i64 0, .int .i64 0, .int .i64 0]) := hz
  have hBb : Hid (Below w.heap.size w wB) := hsL.1
  clear hz q0 q1 q2 q3 q4 q5 qf
  have hy := ((((((hBx.out.set_ 0 (.int .i64 m.day)).set_ 1 (.int .i64 ((m.day - 1) % 7))).set_ 2 (.int .i64 m.y)).set_ 3 (.int .i64 ((m.k : Int) + 1))).set_ 4 (.int .i64 m.d)).set_ 5 (.int .i64 (len (feb m.y) m.k)))
  have q0 := hy.cell 0; have q1 := hy.cell 1; have q2 := hy.cell 2; have q3 := hy.cell 3; have q4 := hy.cell 4; have q5 := hy.cell 5
  simp at q0 q1 q2 q3 q4 q5
  have hQ : Hid (Below w.heap.size w _) := (HK.out _ (.int .i64 m.day) (.int .i64 ((m.day - 1) % 7)) (.int .i64 m.y) (.int .i64 ((m.k : Int) + 1)) (.int .i64 m.d) (.int .i64 (len (feb m.y) m.k)) hsL).1
  generalize ((((((wB.setCell ⟨w.heap.size, 0, none⟩ (.int .i64 m.day)).setCell ⟨w.heap.size, 1, none⟩ (.int .i64 ((m.day - 1) % 7))).setCell ⟨w.heap.size, 2, none⟩ (.int .i64 m.y)).setCell ⟨w.heap.size, 3, none⟩ (.int .i64 ((m.k : Int) + 1))).setCell ⟨w.heap.size, 4, none⟩ (.int .i64 m.d)).setCell ⟨w.heap.size, 5, none⟩ (.int .i64 (len (feb m.y) m.k))) = W9 at *
  go_wp2_with fail
  refine bodyPost_ret (v := m.val) (by simp [results, Try.results76, go_sem, q0, q1, q2, q3, q4, q5]) rfl ⟨rfl, hQ.out⟩
end Go.Proofs.Ytfindembancjdaa
