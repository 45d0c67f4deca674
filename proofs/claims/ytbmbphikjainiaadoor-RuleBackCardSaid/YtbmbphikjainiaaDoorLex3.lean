/- Contracts of package rule: number, binary. -/
import Derived.Test.YtbmbphikjainiaaDoorLex2
import Derived.Laws.Rows
namespace Go.Proofs.YtbmbphikjainiaaDoor
open Go.RowKit
set_option linter.unusedVariables false

/-- the words of a number -/
def numT (n : Int) : List Tok := if n < 0 then [[45], Lib.itoa (-n)] else [Lib.itoa n]
set_option maxRecDepth 100000 in
theorem number_at (g : Nat) (S : ByteArray) (op : Int) (n : Int) (ts : List Tok) (w : World) (h : Reads w g S op (numT n ++ ts)) (hS : S.size ≤ 5000) (h1 : -9999999999 ≤ n) (h2 : n ≤ 9999999999) :
    Calls Tryd.prog 32 #[.pointer (some ⟨g, 0, none⟩)] w (WordQ g S op (.int .i64 n) ts w) := by
  unfold numT at h
  by_cases hn : n < 0
  · rw [if_pos hn] at h
    obtain ⟨p, rfl⟩ : ∃ p, n = -p := ⟨-n, by omega⟩
    rw [Int.neg_neg] at h
    have HT := Lib.hid (take_yes g S op [45] (Lib.itoa p :: ts) w h hS)
    have HN := Lib.hid (fun W (hW : Reads W g S op (Lib.itoa p :: ts)) => natural_yes g S op p ts W hW hS (by omega) (by omega))
    unfold TakeQ at HT
    unfold WordQ at HN ⊢
    have hp0 : 0 < p := by omega
    have hp1 : p ≤ 9999999999 := by omega
    clear h h1 h2 hn
    generalize Lib.itoa p = it at *
    go_enter Tryd.func32, Tryd.ntmps32
    go_wp2_with fail
    refine HT.out.mono ?_
    rintro e w1 ⟨rfl, hr, hg⟩
    have HN1 := Lib.hid (HN.out w1 hr)
    have HG := Lib.hid hg
    clear hr hg
    go_wp2_with fail
    refine HN1.out.mono ?_
    rintro e w2 ⟨rfl, hr, hg⟩
    have HR := Lib.hid hr
    have HG2 : Hid (w.grownBy w2 (some g)) := World.grownBy.trans HG.out hg
    clear hr hg
    go_wp2_with fail
    go_ret2
    exact ⟨rfl, HR.out, HG2.out⟩
  · rw [if_neg hn] at h
    have hne : (Lib.itoa n :: ts).headD [] ≠ [45] := fun e => by
      have e' : Lib.itoa n = [45] := e
      have := itoa_dig n (by omega) 45 (by rw [e']; exact List.mem_cons_self ..)
      exact absurd this (by decide)
    have HT := Lib.hid (take_no g S op [45] (Lib.itoa n :: ts) w h hS hne)
    have HN := Lib.hid (fun W (hW : Reads W g S op (Lib.itoa n :: ts)) => natural_yes g S op n ts W hW hS (by omega) (by omega))
    unfold TakeQ at HT
    unfold WordQ at HN ⊢
    clear h hn hne
    generalize Lib.itoa n = it at *
    go_enter Tryd.func32, Tryd.ntmps32
    go_wp2_with fail
    refine HT.out.mono ?_
    rintro e w1 ⟨rfl, hr, hg⟩
    have HN1 := Lib.hid (HN.out w1 hr)
    have HG := Lib.hid hg
    clear hr hg
    go_wp2_with fail
    refine HN1.out.mono ?_
    rintro e w2 ⟨rfl, hr, hg⟩
    have HR := Lib.hid hr
    have HG2 : Hid (w.grownBy w2 (some g)) := World.grownBy.trans HG.out hg
    clear hr hg
    go_wp2_with fail
    go_ret2
    exact ⟨rfl, HR.out, HG2.out⟩

/-- the tables -/
def lvN (k : Nat) : Nat := if k = 0 then 0 else lev (k : Int)
def Sgs (w : World) : Prop := ∀ k, k < 14 → w.cell? ⟨1, k, none⟩ = some (.string (str (sgn (k : Int))))
def Lvs (w : World) : Prop := ∀ k, k < 14 → w.cell? ⟨0, k, none⟩ = some (.int .i64 (lvN k : Int))
theorem Sgs.next {w w' : World} (h : Sgs w) (hb : Below w.heap.size w w') : Sgs w' := fun k hk => (hb.cell (p := ⟨1, k, none⟩) (block_lt_of_cell (h k hk))).trans (h k hk)
theorem Lvs.next {w w' : World} (h : Lvs w) (hb : Below w.heap.size w w') : Lvs w' := fun k hk => (hb.cell (p := ⟨0, k, none⟩) (block_lt_of_cell (h k hk))).trans (h k hk)
def sgV : Array Value := #[.string ⟨#[]⟩, .string ⟨#[]⟩, .string ⟨#[]⟩, .string ⟨#[]⟩, .string ⟨#[43]⟩, .string ⟨#[45]⟩, .string ⟨#[42]⟩, .string ⟨#[47]⟩, .string ⟨#[37]⟩, .string ⟨#[60]⟩, .string ⟨#[61]⟩, .string ⟨#[]⟩, .string ⟨#[97, 110, 100]⟩, .string ⟨#[111, 114]⟩]
set_option maxRecDepth 100000 in
theorem run_sgV (k : Nat) (hk : k < 14) (W : World) : (Instr.index 83 (.agg sgV) (.int .i64 (k : Int))).run Tryd.prog W = .ok (.string (str (sgn (k : Int)))) W := by
  unfold sgV
  match k, hk with
  | 0, _ | 1, _ | 2, _ | 3, _ | 4, _ | 5, _ | 6, _ | 7, _ | 8, _ | 9, _ | 10, _ | 11, _ | 12, _ | 13, _ => (show _ = _; kernel_rfl)
theorem find_at (n : Nat) (p : Nat → Bool) (k : Nat) (hk : k < n) (h1 : ∀ j, j < k → p j = false) (h2 : p k = true) : (List.range n).find? p = some k := by
  rw [List.find?_range_eq_some]
  exact ⟨h2, List.mem_range.2 hk, fun j hj => by rw [h1 j hj]; rfl⟩
/-- the sign of level L: kind q, or none -/
def binK (c : Tok) (L : Nat) : Option Nat := (List.range 14).find? fun k => (sgn (k : Int) == c) && !(sgn (k : Int)).isEmpty && (lvN k == L)
def BinQ (c : Tok) (L : Nat) (w : World) (e : Ending) (w' : World) : Prop := (match binK c L with | some k => e = .returned (.tuple #[.int .i64 (k : Int), .bool true]) | none => e = .returned (.tuple #[.int .i64 0, .bool false])) ∧ w = w'
theorem bin_some {c : Tok} {L k : Nat} {w : World} (h : binK c L = some k) : BinQ c L w (.returned (.tuple #[.int .i64 (k : Int), .bool true])) w := by
  unfold BinQ; rw [h]; exact ⟨rfl, rfl⟩
theorem bin_none {c : Tok} {L : Nat} {w : World} (h : binK c L = none) : BinQ c L w (.returned (.tuple #[.int .i64 0, .bool false])) w := by
  unfold BinQ; rw [h]; exact ⟨rfl, rfl⟩
set_option maxHeartbeats 1000000 in
set_option maxRecDepth 100000 in
theorem binary_any (c : Tok) (L : Nat) (hL : L < 8) (w : World) (hs : Sgs w) (hv : Lvs w) :
    Calls Tryd.prog 51 #[.string (str c), .int .i64 (L : Int)] w (BinQ c L w) := by
  have HS := Lib.hid hs
  have HV := Lib.hid hv
  have s0 : w.cell? ⟨1, 0, none⟩ = some (.string ⟨#[]⟩) := hs 0 (by omega)
  have s1 : w.cell? ⟨1, 1, none⟩ = some (.string ⟨#[]⟩) := hs 1 (by omega)
  have s2 : w.cell? ⟨1, 2, none⟩ = some (.string ⟨#[]⟩) := hs 2 (by omega)
  have s3 : w.cell? ⟨1, 3, none⟩ = some (.string ⟨#[]⟩) := hs 3 (by omega)
  have s4 : w.cell? ⟨1, 4, none⟩ = some (.string ⟨#[43]⟩) := hs 4 (by omega)
  have s5 : w.cell? ⟨1, 5, none⟩ = some (.string ⟨#[45]⟩) := hs 5 (by omega)
  have s6 : w.cell? ⟨1, 6, none⟩ = some (.string ⟨#[42]⟩) := hs 6 (by omega)
  have s7 : w.cell? ⟨1, 7, none⟩ = some (.string ⟨#[47]⟩) := hs 7 (by omega)
  have s8 : w.cell? ⟨1, 8, none⟩ = some (.string ⟨#[37]⟩) := hs 8 (by omega)
  have s9 : w.cell? ⟨1, 9, none⟩ = some (.string ⟨#[60]⟩) := hs 9 (by omega)
  have s10 : w.cell? ⟨1, 10, none⟩ = some (.string ⟨#[61]⟩) := hs 10 (by omega)
  have s11 : w.cell? ⟨1, 11, none⟩ = some (.string ⟨#[]⟩) := hs 11 (by omega)
  have s12 : w.cell? ⟨1, 12, none⟩ = some (.string ⟨#[97, 110, 100]⟩) := hs 12 (by omega)
  have s13 : w.cell? ⟨1, 13, none⟩ = some (.string ⟨#[111, 114]⟩) := hs 13 (by omega)
  have hfind : Hid (∀ k : Nat, k < 14 → (∀ j : Nat, j < k → ((sgn (j : Int) == c) && !(sgn (j : Int)).isEmpty && (lvN j == L)) = false) → ((sgn (k : Int) == c) && !(sgn (k : Int)).isEmpty && (lvN k == L)) = true → binK c L = some k) := fun k hk h1 h2 => find_at 14 _ k hk h1 h2
  have hnone : Hid ((∀ j : Nat, j < 14 → ((sgn (j : Int) == c) && !(sgn (j : Int)).isEmpty && (lvN j == L)) = false) → binK c L = none) := fun h => by
    unfold binK
    rw [List.find?_eq_none]
    intro x hx
    rw [h x (List.mem_range.1 hx)]
    simp
  clear hs hv
  go_enter Tryd.func51, Tryd.ntmps51
  go_wp2_with fail
  clear s0 s1 s2 s3 s4 s5 s6 s7 s8 s9 s10 s11 s12 s13
  go_loop [6, 7, 9] (fun _ _ iv => ∃ k : Nat, k ≤ 14 ∧ iv = .int .i64 (k : Int) ∧ Hid (∀ j : Nat, j < k → ((sgn (j : Int) == c) && !(sgn (j : Int)).isEmpty && (lvN j == L)) = false)) (fun _ _ iv => 14 - (intOf iv).toNat)
  case atStart => exact ⟨0, by omega, rfl, fun j hj => by omega⟩
  case round =>
    obtain ⟨k, hk, rfl, hall⟩ := hrel
    by_cases hlt : k < 14
    · have hi := fun W => run_sgV k hlt W
      unfold sgV at hi
      have hv := HV.out k hlt
      have hfk := hfind.out k hlt hall.out
      have HN : Hid (((sgn (k : Int) == c) && !(sgn (k : Int)).isEmpty && (lvN k == L)) = false → ∀ j : Nat, j < k + 1 → ((sgn (j : Int) == c) && !(sgn (j : Int)).isEmpty && (lvN j == L)) = false) := fun h j hj => by
        by_cases e : j = k
        · subst e; exact h
        · exact hall.out j (by omega)
      have b1 : ((str (sgn (k : Int))).toList == (str c).toList) = (sgn (k : Int) == c) := by rw [str_toList, str_toList]
      have b2 : (str (sgn (k : Int))).toList.isEmpty = (sgn (k : Int)).isEmpty := by rw [str_toList]
      have b3 : ((lvN k : Int) == (L : Int)) = (lvN k == L) := by rw [Bool.eq_iff_iff, beq_iff_eq, beq_iff_eq]; omega
      have HFK := Lib.hid hfk
      clear hfk
      generalize str (sgn (k : Int)) = sk at *
      generalize (sgn (k : Int) == c) = p1 at *
      generalize (sgn (k : Int)).isEmpty = p2 at *
      generalize (lvN k == L) = p3 at *
      have hw := hv
      clear hv hall
      cases p1 with
      | false =>
        have HN2 := Lib.hid (HN.out rfl)
        go_wp2_with fail
        go_round
        case rel => exact ⟨k + 1, by omega, by go_num, HN2.out⟩
        case measure => simp [intOf]; omega
      | true =>
        cases p2 with
        | true =>
          have HN2 := Lib.hid (HN.out rfl)
          go_wp2_with fail
          go_round
          case rel => exact ⟨k + 1, by omega, by go_num, HN2.out⟩
          case measure => simp [intOf]; omega
        | false =>
          cases p3 with
          | false =>
            have HN2 := Lib.hid (HN.out rfl)
            go_wp2_with fail
            go_round
            case rel => exact ⟨k + 1, by omega, by go_num, HN2.out⟩
            case measure => simp [intOf]; omega
          | true =>
            have HB2 := Lib.hid (HFK.out rfl)
            go_wp2_with fail
            go_ret2
            exact bin_some HB2.out
    · obtain rfl : k = 14 := by omega
      have HB2 := Lib.hid (hnone.out hall.out)
      go_wp2_with fail
      go_ret2
      exact bin_none HB2.out

theorem bin_tab : ∀ j : Nat, j < 14 → (sgn (j : Int) ≠ [] ↔ ((4 ≤ j ∧ j ≤ 10) ∨ j = 12 ∨ j = 13)) := by decide
/-- an operator of level L -/
theorem binK_op (k : Int) (hk : isBin k) (L : Nat) (hl : lev k = L) : binK (sgn k) L = some k.toNat := by
  have hb := hk
  unfold isBin at hb
  have hkn : ((k.toNat : Nat) : Int) = k := by omega
  refine find_at 14 _ k.toNat (by omega) (fun j hj => ?_) ?_
  · by_cases h1 : sgn (j : Int) = sgn k
    · exfalso
      have hne : sgn (j : Int) ≠ [] := by rw [h1]; exact sgn_ne k hk
      have := (bin_tab j (by omega)).1 hne
      have := sgn_inj (j : Int) k (by unfold isBin; omega) hk h1
      omega
    · have : (sgn (j : Int) == sgn k) = false := by rw [beq_eq_false_iff_ne]; exact h1
      rw [this]; rfl
  · rw [hkn]
    have h1 : (sgn k == sgn k) = true := by simp
    have h2 : (sgn k).isEmpty = false := by
      have := sgn_ne k hk
      cases hs : sgn k with
      | nil => exact absurd hs this
      | cons _ _ => rfl
    have h3 : (lvN k.toNat == L) = true := by
      unfold lvN
      rw [if_neg (by omega), hkn, beq_iff_eq]
      exact hl
    rw [h1, h2, h3]; rfl
/-- no operator of level L -/
theorem binK_no (ts : List Tok) (L : Nat) (h : Good L ts) : binK (ts.headD []) L = none := by
  unfold binK
  rw [List.find?_eq_none]
  intro j hj hp
  rw [List.mem_range] at hj
  rw [Bool.and_eq_true, Bool.and_eq_true, beq_iff_eq, beq_iff_eq] at hp
  obtain ⟨⟨h1, h2⟩, h3⟩ := hp
  have hne : sgn (j : Int) ≠ [] := fun e => by rw [e] at h2; simp at h2
  have hb := (bin_tab j hj).1 hne
  have hbin : isBin (j : Int) := by unfold isBin; omega
  have hh : ts.head? = some (sgn (j : Int)) := by
    cases ts with
    | nil => exact absurd h1 hne
    | cons c r => rw [h1]; rfl
  have := h (j : Int) hbin hh
  unfold lvN at h3
  rw [if_neg (by omega)] at h3
  omega
end Go.Proofs.YtbmbphikjainiaaDoor
