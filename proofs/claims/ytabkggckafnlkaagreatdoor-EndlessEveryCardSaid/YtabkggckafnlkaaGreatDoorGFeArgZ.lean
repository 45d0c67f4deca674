/- FeArgZ -/
import Derived.SizedLaws
import Derived.Test.YtabkggckafnlkaaGreatDoorGFePlain
import Derived.Test.YtabkggckafnlkaaGreatDoorGRuleArg
import Derived.Test.YtabkggckafnlkaaGreatDoorGIt1
/- An expression for days that came in as an argument, read as a tree, with its sizes. -/
namespace Go.Proofs.YtabkggckafnlkaaGreatDoor
open Go.RowKit Go.Joins Go.ChangeShapes Go.WideShapes Go.Deep
set_option linter.unusedVariables false

theorem weights_mem_all {H : Type} {P : Program} {e : TypeId} : ∀ {l : List (DataW H)} {d : DataW H}, d ∈ l → ∀ n ∈ d.weights P e, n ∈ DataW.weightsAll P e l
  | d0 :: l, d, hd, n, hn => by
    rw [DataW.weightsAll, List.mem_append]
    rcases List.mem_cons.1 hd with rfl | h
    · exact .inl hn
    · exact .inr (weights_mem_all h n hn)
section
variable {H : Type} {enc : TypeId × Value → H} {W : World}
set_option maxRecDepth 100000 in
/-- a slice of structs, as a list, with its size -/
theorem list_trodNZ {α : Type} (d0 : α) {f : α → List Value} {s : Nat} (hf : ∀ a, (f a).length = s) (hs : 0 < s) {Fit : α → Prop} {tS tE : TypeId} (hu : Tryz.prog.underlying tS = some (.slice tE)) (hC : Tryz.prog.cellsOf tE = s) {n : Nat}
    {v : Value} {y : DataW H × List MemPlace} (h : DataW.trod enc Tryz.prog W 0 (fun _ => true) true n tS [v] = some y)
    (hz : ∀ q ∈ y.1.weights Tryz.prog tS, q ≤ reachBytes)
    (he : ∀ (m : Nat) (cs : List Value) (y : DataW H × List MemPlace), m < n → DataW.trod enc Tryz.prog W 0 (fun _ => true) true m tE cs = some y → (∀ q ∈ y.1.weights Tryz.prog tE, q ≤ reachBytes) → ∃ x : α, cs = f x ∧ Fit x) :
    ∃ (A : Option Addr) (xs : List α) (c : Nat), v = .slice A xs.length c ∧ xs.length ≤ c ∧ c ≤ maxLen ∧ xs.length * Tryz.prog.bytesOf tE ≤ reachBytes ∧ Row W W.heap.size A (xs.flatMap f) ∧ ∀ x ∈ xs, Fit x := by
  rcases DataW.trod_slice hu h with ⟨hcs, _⟩ | ⟨a, len, cap, elems, rest, n', hn, hcs, hy, hb, hl, hm, hlen, hel, _, _⟩
  · simp only [List.cons.injEq, and_true] at hcs
    exact ⟨none, [], 0, hcs, by simp, by simp, by simp, .inl rfl, fun x hx => by cases hx⟩
  · simp only [List.cons.injEq, and_true] at hcs
    rw [hC] at hel
    have hw : y.1.weights Tryz.prog tS = ((elems.map (·.1)).length + (rest.map (·.1)).length) * Tryz.prog.bytesOf tE :: (DataW.weightsAll Tryz.prog tE (elems.map (·.1)) ++ DataW.weightsAll Tryz.prog tE (rest.map (·.1))) := by
      rw [hy]
      simp only [DataW.weights, hu]
    have hp : ∀ i, i < len → ∃ x : α, Fit x ∧ ∀ j v, (f x)[j]? = some v → W.cell? (a.add (i * s + j)) = some v := by
      intro i hil
      have key := hel i hil
      rw [List.getElem?_eq_getElem (by omega)] at key
      obtain ⟨cs', hc, ht⟩ := Option.bind_eq_some_iff.1 key
      obtain ⟨x, rfl, hx⟩ := he _ _ _ (by omega) ht (fun q hq => hz q (by
        rw [hw]
        refine List.mem_cons_of_mem _ (List.mem_append_left _ ?_)
        exact weights_mem_all (List.mem_map.2 ⟨_, List.getElem_mem (by omega), rfl⟩) q hq))
      obtain ⟨_, _, hat⟩ := World.cells?_some hc
      refine ⟨x, hx, fun j v hv => ?_⟩
      have hj : j < s := by rw [← hf x]; exact (List.getElem?_eq_some_iff.1 hv).1
      have h0 := hat j (by omega)
      rw [Go.Deep.add_add, hv] at h0
      exact h0
    obtain ⟨xs, hlen', hall⟩ := listOf d0 _ len hp
    have hzl : xs.length * Tryz.prog.bytesOf tE ≤ reachBytes := by
      refine Nat.le_trans (Nat.mul_le_mul_right _ ?_) (hz _ (by rw [hw]; exact List.mem_cons_self))
      rw [List.length_map]
      omega
    refine ⟨some a, xs, cap, by rw [hlen']; exact hcs, by omega, by omega, hzl, ?_, fun x hx => ?_⟩
    · by_cases h0 : len = 0
      · left
        have : xs = [] := List.eq_nil_of_length_eq_zero (by omega)
        rw [this]; rfl
      · obtain ⟨_, hc0⟩ := hall 0 (by omega)
        have hf0 := hf (xs.getD 0 d0)
        have hc0 := hc0 0 ((f (xs.getD 0 d0))[0]'(by omega)) (by simp)
        rw [Nat.zero_mul, Nat.add_zero] at hc0
        obtain ⟨b, off, spot⟩ := a
        have hspot : spot = none := by simpa [Addr.add] using World.cell?_spot hc0
        subst hspot
        refine .inr ⟨b, off, rfl, ?_, fun j v hv => ?_⟩
        · rw [addPlain] at hc0; exact block_lt_of_cell hc0
        · have hj : j < xs.length * s := by
            have := (List.getElem?_eq_some_iff.1 hv).1
            rwa [flat_length hf] at this
          have hr : j % s < s := Nat.mod_lt _ hs
          have hjd : j / s * s + j % s = j := by rw [Nat.mul_comm]; exact Nat.div_add_mod j s
          have hi' : j / s < xs.length := (Nat.div_lt_iff_lt_mul hs).2 hj
          have k0 := (hall (j / s) (by omega)).2 (j % s) v (by rw [← flat_get hf d0 xs (j / s) (j % s) hi' hr, hjd]; exact hv)
          rw [hjd, addPlain] at k0
          exact k0
    · obtain ⟨k, hk, e⟩ := List.getElem_of_mem hx
      have := (hall k (by omega)).1
      simp [List.getD, List.getElem?_eq_getElem hk, e] at this
      exact this
set_option maxRecDepth 100000 in
/-- an expression, with its sizes -/
theorem fe_of_trodZ : ∀ (N n : Nat) (cs : List Value) (y : DataW H × List MemPlace), n < N → DataW.trod enc Tryz.prog W 0 (fun _ => true) true n 24 cs = some y → (∀ q ∈ y.1.weights Tryz.prog 24, q ≤ reachBytes) → ∃ t : FE, cs = feF t ∧ FeIn W W.heap.size t ∧ FeSz t := by
  intro N
  induction N with
  | zero => intro n cs y h; omega
  | succ N ih =>
    intro n cs y hn h hz
    obtain ⟨xs, m, hm, hy, hlen, hxl, hf⟩ := DataW.trod_struct Tryz.underlying24 h
    have hC : Tryz.prog.cellsOf 24 = 5 := by kernel_rfl
    rw [hC] at hlen
    match cs, hlen with
    | [c0, c1, c2, c3, c4], _ =>
      have e0 : Tryz.prog.cellsOf 3 = 1 := by kernel_rfl
      have e1 : Tryz.prog.cellsOf 9 = 1 := by kernel_rfl
      have e2 : Tryz.prog.cellsOf 22 = 1 := by kernel_rfl
      have h0 := hf 0 _ rfl
      have h1 := hf 1 _ rfl
      have h2 := hf 2 _ rfl
      have h3 := hf 3 _ rfl
      have h4 := hf 4 _ rfl
      match xs, hxl with
      | [x0, x1, x2, x3, x4], _ =>
        simp [e0, e1, e2] at h0 h1 h2 h3 h4
        have hz4 : ∀ q ∈ x4.1.weights Tryz.prog 22, q ≤ reachBytes := fun q hq => hz q (by
          have hw : y.1 = .agg [x0.1, x1.1, x2.1, x3.1, x4.1] := by rw [hy]; rfl
          rw [hw]
          simp only [DataW.weights, Tryz.underlying24]
          exact DataW.weights_mem_each (j := 4) rfl rfl q hq)
        obtain ⟨k, ek, _, wk⟩ := DataW.trod_int Tryz.underlying3 h0
        obtain ⟨a, ea, _, wa⟩ := DataW.trod_int Tryz.underlying3 h1
        obtain ⟨b, eb, _, wb⟩ := DataW.trod_int Tryz.underlying3 h2
        obtain ⟨nm, en, _, wn⟩ := DataW.trod_string Tryz.underlying9 h3
        simp at ek ea eb en
        subst ek ea eb en
        obtain ⟨A, ks, c, e, k1, k2, kz, row, kids⟩ := list_trodNZ (Fit := fun t : FE => FeIn W W.heap.size t ∧ FeSz t) fe0 feF_len (by omega) Tryz.underlying22 hC h4 hz4 (fun m' cs y hm' hh hw => ih m' cs y (by omega) hh hw)
        subst e
        have hB : Tryz.prog.bytesOf 24 = 64 := by kernel_rfl
        rw [hB] at kz
        have hr : reachBytes ≤ 140737488355328 := Nat.le_of_lt (by have := reachBytes_lt; omega)
        exact ⟨.node k a b nm A c ks, rfl, .mk (bounds_i64 wk) (bounds_i64 wa) (bounds_i64 wb) wn (by omega) row (fun x hx => (kids x hx).1), .mk (by omega) (fun x hx => (kids x hx).2)⟩
set_option maxRecDepth 100000 in
theorem fe_openZ {base : Nat} {v : Value} {d : DataW H} {p : List MemPlace} (hv : Value.okWide Tryz.prog W .any base 24 v) (h : DataW.Trod enc Tryz.prog W 0 (fun _ => true) true 24 v d p) (hz : ∀ q ∈ d.weights Tryz.prog 24, q ≤ reachBytes) :
    ∃ t : FE, v = feV t ∧ FeIn W W.heap.size t ∧ FeSz t := by
  have hC : Tryz.prog.cellsOf 24 = 5 := by kernel_rfl
  obtain ⟨cs, rfl, hsz⟩ := okWide_struct Tryz.underlying24 hv
  obtain ⟨l⟩ := cs
  match l, hsz.trans hC with
  | [c0, c1, c2, c3, c4], _ =>
    obtain ⟨m', hm'⟩ := h
    obtain ⟨t, e, ht, hs⟩ := fe_of_trodZ _ m' _ _ (Nat.lt_succ_self _) hm' hz
    refine ⟨t, ?_, ht, hs⟩
    obtain ⟨k, a, b, nm, A, c, ks⟩ := t
    have hc : (Value.agg ⟨[c0, c1, c2, c3, c4]⟩).cells.toList = [c0, c1, c2, c3, c4] := rfl
    rw [hc] at e
    simp only [feF, List.cons.injEq, and_true] at e
    obtain ⟨rfl, rfl, rfl, rfl, rfl⟩ := e
    rfl
end
end Go.Proofs.YtabkggckafnlkaaGreatDoor
