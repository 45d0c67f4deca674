/- Laid, PlainItoa -/
import Derived.Test.YtcommodbjjdbmaaGreatDoorRows
import Derived.HandedShaped
import Derived.Handed
import Derived.LaidMore
import Derived.LaidHandle
import Derived.MakeChecks
import Derived.Stop.LaidErr
import Derived.Lib.LaidTab
import Derived.Lib.AppendIntMem
import Derived.Lib.ItoaNum
import Derived.Lib.ItoaLen
import Derived.Lib.AtoiTie
import Derived.Lib.IndexMore
/- What a row that lists variables hands to a walk: the list and the world's shape. -/
namespace Go.Proofs.YtcommodbjjdbmaaGreatDoor
open Go.ChangeShapes Go.WideShapes Go.RowKit
set_option linter.unusedVariables false

/-- a row that lists variables, and the world's shape -/
theorem handed_and_shaped {H : Type} {enc : TypeId × Value → H} {a : Assume} {C : Checked} {os : Os} {f : FuncId} {fn : Func} {s : ChangeSpec} {conds : List PathCond} {apart fresh handsOn again : Bool} {X : World → Array Value → Prop}
    (hX : ∀ (w w' : World) (args : Array Value), w.heap = w'.heap → X w args → X w' args)
    (own : ownKnob C.prog.godebug = none) (started : os.Started) (noInit : C.prog.inits.idxOf? f = none) (hfn : C.prog.funcs[f]? = some fn)
    (witness : ∃ (w : World) (tape : Tape) (i : Input), w.os = os ∧ (w.forCall tape i).Shaped C.prog ∧ i.vars = [] ∧ Input.okWide C.prog (w.forCall tape i) .any w.heap.size f i ∧
      ((s.pre enc C.prog fn conds apart (w.forCall tape i).memory i.args ∧ X (w.forCall tape i).memory i.args) ∧ sizedMet enc C.prog fn (OpenSpec.ofChange s) apart (w.forCall tape i).memory i.args) ∧ a.holds C.prog (lone (Frame.enter C.prog f i.args .normal) [] (w.forCall tape i)))
    (contract : ∀ (W : World) (base : Nat) (args : Array Value) (ds gs : List (DataW H)) (before : List MemPlace),
      (∀ (j : Nat) t v, fn.params[j]? = some t → args[j]? = some v → Value.okWide C.prog W .any base t v) →
      DataW.Whole enc C.prog fn.params.toList s.vars apart W args.toList ds gs before →
      conds.all (PathCond.test C.prog ⟨fn.params.toList, ds, s.plain.varTypes C.prog, gs⟩) = true →
      W.ShapedOpen C.prog → X W args →
      Calls C.prog f args W fun e W' => ∃ v, e = .returned v ∧ s.post enc C.prog fn apart fresh handsOn again W args v W') :
    ReturnsInHanded a C os f .any (fun w args => (s.pre enc C.prog fn conds apart w args ∧ X w args) ∧ sizedMet enc C.prog fn (OpenSpec.ofChange s) apart w args) (s.post enc C.prog fn apart fresh handsOn again) := by
  refine returnsInHanded_of_calls own started noInit witness ?_
  intro w tape i _ hsh _ hok hpre hholds
  obtain ⟨_, _, _, fn', hfn', _, _, _, _, hval⟩ := hok
  have e : fn' = fn := Option.some.inj (hfn'.symm.trans hfn)
  subst e
  obtain ⟨⟨⟨ds, gs, before, hw, hc⟩, hx⟩, hz⟩ := hpre
  have hw' := DataW.Whole.of_heap (w' := w.forCall tape i) (by rfl) hw
  refine (contract (w.forCall tape i) w.heap.size i.args ds gs before hval hw' hc hsh (hX _ _ _ (by rfl) hx)).mono fun e W' ⟨v, he, hp⟩ => ?_
  subst he
  exact ChangeSpec.post_blind hp

theorem gPow : Tryz.prog.globalNamed "internal/strconv.uint64pow10" = some 2 := by kernel_rfl
theorem pow_datum : (Rows.laid_internal_strconv_uint64pow10 : DataW Unit) = Lib.tabData .u64 Lib.pow10Tab := by kernel_rfl
/-- the table of the powers of ten, in every world that has only grown since -/
def Pow (w : World) : Prop := Lib.TabBelow Tryz.prog w.heap.size w "internal/strconv.uint64pow10" .u64 Lib.pow10Tab
theorem Pow.next {w w' : World} (h : Pow w) (hb : Below w.heap.size w w') : Pow w' := fun w2 h2 => h w2 (hb.trans (h2.mono hb.size))
theorem Pow.here {w : World} (h : Pow w) : Lib.TabIs Tryz.prog w "internal/strconv.uint64pow10" .u64 Lib.pow10Tab := Lib.TabBelow.here h
theorem gPowType : (Tryz.prog.globals[2]?).map (·.type) = some 243 := by kernel_rfl
set_option maxRecDepth 100000 in
theorem pow_of {W : World} {rest : List (String × DataW Unit)} (h : laidMet Tryz.prog (("internal/strconv.uint64pow10", Rows.laid_internal_strconv_uint64pow10) :: rest) W) : Pow W := by
  rw [pow_datum] at h
  exact Lib.tabBelow_of_tabIs (Lib.tabIs_of_head gPow gPowType Tryz.underlying243 Tryz.underlying178 (by kernel_rfl) (by kernel_rfl) h)
end Go.Proofs.YtcommodbjjdbmaaGreatDoor

/- Numerals: what is written is read. -/
namespace Go.Proofs.YtcommodbjjdbmaaGreatDoor
open Go.Lib
set_option linter.unusedVariables false

theorem decFrom_append : ∀ (l r : List UInt8) (acc : Nat), decFrom acc (l ++ r) = (decFrom acc l).bind (fun m => decFrom m r)
  | [], r, acc => rfl
  | b :: l, r, acc => by
    simp only [List.cons_append, decFrom]
    cases digitVal b with
    | none => rfl
    | some d => exact decFrom_append l r _
theorem digit_byte (d : Nat) (h : d < 10) : (UInt8.ofNat (48 + d)).toNat = 48 + d := by
  rw [UInt8.toNat_ofNat']
  omega
theorem digitVal_byte (d : Nat) (h : d < 10) : digitVal (UInt8.ofNat (48 + d)) = some d := by
  unfold digitVal
  rw [digit_byte d h, if_pos (by omega)]
  simp
theorem decFrom_dec : ∀ (u : Nat), decFrom 0 (decDigits u) = some u := by
  intro u
  induction u using Nat.strongRecOn with
  | _ u ih =>
    by_cases h : u < 10
    · rw [decDigits, dif_pos h]
      simp only [decFrom, digitVal_byte u h]
      simp
    · rw [decDigits, dif_neg h, decFrom_append, ih (u / 10) (by omega)]
      simp only [Option.bind_some, decFrom, digitVal_byte (u % 10) (by omega)]
      congr 1
      omega
theorem dec_ne (u : Nat) : decDigits u ≠ [] := fun e => by
  have := decDigits_length u
  rw [e] at this
  have := nDigits_pos u
  simp at *
  omega
theorem dec_digit (u : Nat) : ∀ b ∈ decDigits u, 48 ≤ b.toNat ∧ b.toNat ≤ 57 := by
  induction u using Nat.strongRecOn with
  | _ u ih =>
    intro b hb
    rw [decDigits] at hb
    split at hb
    · rename_i h
      obtain rfl := List.mem_singleton.1 hb
      rw [digit_byte u h]; omega
    · rename_i h
      rcases List.mem_append.1 hb with hb | hb
      · exact ih (u / 10) (by omega) b hb
      · obtain rfl := List.mem_singleton.1 hb
        rw [digit_byte _ (by omega)]; omega
theorem itoa_byte (n : Int) : ∀ b ∈ itoa n, b.toNat = 45 ∨ (48 ≤ b.toNat ∧ b.toNat ≤ 57) := by
  intro b hb
  unfold itoa at hb
  split at hb
  · rcases List.mem_cons.1 hb with rfl | hb
    · exact .inl rfl
    · exact .inr (dec_digit _ b hb)
  · exact .inr (dec_digit _ b hb)
theorem itoa_ne (n : Int) : itoa n ≠ [] := by
  unfold itoa
  split
  · simp
  · exact dec_ne _
theorem atoi_itoa (n : Int) : atoi (itoa n) = some n := by
  unfold itoa
  split
  · rename_i h
    unfold atoi
    simp only [beq_self_eq_true, if_true]
    rw [decNat, if_neg (by simpa using dec_ne _), decFrom_dec]
    simp
    omega
  · rename_i h
    have h1 := dec_ne n.toNat
    have h2 := dec_digit n.toNat
    have h3 := decFrom_dec n.toNat
    generalize decDigits n.toNat = l at *
    cases l with
    | nil => exact absurd rfl h1
    | cons b r =>
      have hb := h2 b (List.mem_cons_self ..)
      unfold atoi
      have e1 : (b == 45) = false := by
        rw [beq_eq_false_iff_ne]; rintro rfl; simp at hb
      have e2 : (b == 43) = false := by
        rw [beq_eq_false_iff_ne]; rintro rfl; simp at hb
      simp only [e1, e2, Bool.false_eq_true, if_false]
      rw [decNat, if_neg (by simp), h3]
      simp
      omega
theorem itoa_len (n : Int) (k : Nat) (h : n.natAbs < 10 ^ k) (hk : 1 ≤ k) : (itoa n).length ≤ k + 1 := by
  have hd : ∀ u : Nat, u < 10 ^ k → (decDigits u).length ≤ k := fun u hu => by
    rw [decDigits_length]
    rcases Nat.lt_or_ge k (nDigits u) with hlt | hge
    · exfalso
      have key : ∀ (u m : Nat), m < nDigits u → 1 ≤ m → 10 ^ m ≤ u := by
        intro u
        induction u using Nat.strongRecOn with
        | _ u ih =>
          intro m hm h1
          by_cases h : u < 10
          · rw [nDigits_small h] at hm; omega
          · rw [nDigits_big h] at hm
            obtain ⟨m', rfl⟩ : ∃ m', m = m' + 1 := ⟨m - 1, by omega⟩
            rw [Nat.pow_succ]
            by_cases h0 : m' = 0
            · subst h0; omega
            · have := ih (u / 10) (by omega) m' (by omega) (by omega)
              omega
      have := key u k hlt hk
      omega
    · exact hge
  unfold itoa
  split
  · have := hd n.natAbs h
    simp; omega
  · have := hd n.toNat (by omega)
    omega
theorem atoiAll_itoa (n : Int) (h : n.natAbs < 100000000000000000) : atoiAll (itoa n) = .ok n := by
  rw [atoiAll_short _ (by have := itoa_len n 17 (by simpa using h) (by omega); omega), atoi_itoa]
  rfl
theorem index_no (c : UInt8) : ∀ (l : List UInt8), (∀ b ∈ l, b ≠ c) → index l [c] = -1
  | [], _ => rfl
  | b :: l, h => by
    have hb : (c == b) = false := by rw [beq_eq_false_iff_ne]; exact fun e => h b (List.mem_cons_self ..) e.symm
    have ih := index_no c l fun x hx => h x (List.mem_cons_of_mem _ hx)
    simp [index, List.isPrefixOf, hb, ih]
theorem index_at (c : UInt8) (r : List UInt8) : ∀ (l : List UInt8), (∀ b ∈ l, b ≠ c) → index (l ++ c :: r) [c] = (l.length : Int)
  | [], _ => by simp [index, List.isPrefixOf]
  | b :: l, h => by
    have hb : (c == b) = false := by rw [beq_eq_false_iff_ne]; exact fun e => h b (List.mem_cons_self ..) e.symm
    have ih := index_at c r l fun x hx => h x (List.mem_cons_of_mem _ hx)
    have hne : ¬ ((l.length : Int) = -1) := by omega
    simp [index, List.isPrefixOf, hb, ih, hne]
theorem cut_no (c : UInt8) (l : List UInt8) (h : ∀ b ∈ l, b ≠ c) : cut l [c] = (l, [], false) := by
  unfold cut
  rw [index_no c l h, if_neg (by omega)]
theorem cut_at (c : UInt8) (l r : List UInt8) (h : ∀ b ∈ l, b ≠ c) : cut (l ++ c :: r) [c] = (l, r, true) := by
  unfold cut
  rw [index_at c r l h, if_pos (by omega)]
  simp
theorem itoa_no (n : Int) (c : UInt8) (h : c.toNat < 45 ∨ c.toNat = 46 ∨ c.toNat = 47 ∨ 57 < c.toNat) : ∀ b ∈ itoa n, b ≠ c := fun b hb e => by
  have := itoa_byte n b hb
  subst e
  omega
end Go.Proofs.YtcommodbjjdbmaaGreatDoor
