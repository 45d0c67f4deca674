/- Contract of zonetext.Parse at a text that was written. -/
import Derived.Test.YtlihhlijombepaaDoorZt5
import Derived.Test.YtlihhlijombepaaDoorZt2
namespace Go.Proofs.YtlihhlijombepaaDoor
open Go.RowKit
set_option linter.unusedVariables false

theorem headL_eq (nm : ByteArray) (first : Int) : headL nm first = headW nm first ++ [10] := by simp [headL, headW, joinW]
theorem lineL_eq (c : Chg) : lineL c = lineW (c.a / 86400000) (c.a % 86400000) c.o c.l ++ [10] := by simp [lineL, lineW, joinW]
theorem no_join (a : List UInt8) : ∀ (l : List (List UInt8)), (∀ w ∈ a :: l, Plain w) → ∀ b ∈ joinW 32 a l, b ≠ 10 := by
  intro l
  induction l generalizing a with
  | nil => exact fun h b hb => (h a (List.mem_cons_self ..) b hb).2
  | cons x l ih =>
    intro h b hb
    have e : joinW 32 a (x :: l) = a ++ 32 :: joinW 32 x l := rfl
    rw [e] at hb
    rcases List.mem_append.1 hb with hb | hb
    · exact (h a (List.mem_cons_self ..) b hb).2
    rcases List.mem_cons.1 hb with rfl | hb
    · decide
    · exact ih x (fun w hw => h w (List.mem_cons_of_mem _ hw)) b hb
theorem headW_no (nm : ByteArray) (first : Int) (hn : NameOk nm) (ho : OffOk first) : ∀ b ∈ headW nm first, b ≠ 10 :=
  no_join _ _ (fun w hw => by
    simp at hw
    rcases hw with rfl | rfl | rfl
    · unfold Plain; decide
    · exact plain_name nm hn
    · exact plain_off first ho)
theorem lineW_no (d ms o : Int) (l : ByteArray) (ho : OffOk o) (hl : LabelOk l) : ∀ b ∈ lineW d ms o l, b ≠ 10 :=
  no_join _ _ (fun w hw => by
    simp at hw
    rcases hw with rfl | rfl | rfl | rfl | rfl
    · unfold Plain; decide
    · exact plain_itoa d
    · exact plain_itoa ms
    · exact plain_off o ho
    · exact plain_label l hl)
/-- what is left behind k lines -/
def restL (nm : ByteArray) (first : Int) (chs : List Chg) (k : Nat) : List UInt8 := if k = 0 then printL nm first chs else (chs.drop (k - 1)).flatMap lineL
/-- line k -/
def textL (nm : ByteArray) (first : Int) (chs : List Chg) (k : Nat) : List UInt8 := if k = 0 then headW nm first else lineW ((chs.getD (k - 1) chg0).a / 86400000) ((chs.getD (k - 1) chg0).a % 86400000) (chs.getD (k - 1) chg0).o (chs.getD (k - 1) chg0).l
theorem rest_step (nm : ByteArray) (first : Int) (chs : List Chg) (k : Nat) (hk : k ≤ chs.length) : restL nm first chs k = textL nm first chs k ++ 10 :: restL nm first chs (k + 1) := by
  unfold restL textL
  rw [if_neg (by omega : ¬ k + 1 = 0), show k + 1 - 1 = k from by omega]
  cases k with
  | zero => simp [printL, headL_eq]
  | succ k =>
    rw [if_neg (by omega), if_neg (by omega), show k + 1 - 1 = k from by omega]
    have e : chs.drop k = chs.getD k chg0 :: chs.drop (k + 1) := by
      rw [List.drop_eq_getElem_cons (by omega)]
      simp [List.getD, List.getElem?_eq_getElem (show k < chs.length by omega)]
    rw [e, List.flatMap_cons, lineL_eq]
    simp
theorem rest_end (nm : ByteArray) (first : Int) (chs : List Chg) : restL nm first chs (chs.length + 1) = [] := by
  unfold restL
  rw [if_neg (by omega), show chs.length + 1 - 1 = chs.length from by omega, List.drop_length]
  rfl
theorem text_no (nm : ByteArray) (first : Int) (chs : List Chg) (hok : ZoneOk nm first chs) (k : Nat) (hk : k ≤ chs.length) : ∀ b ∈ textL nm first chs k, b ≠ 10 := by
  unfold textL
  split
  · exact headW_no nm first hok.1 hok.2.1
  · have := hok.2.2.2 (k - 1) (by omega)
    exact lineW_no _ _ _ _ this.2.1 this.2.2.1
theorem print_len (nm : ByteArray) (first : Int) (chs : List Chg) (hok : ZoneOk nm first chs) : (printL nm first chs).length ≤ 15000 := by
  have h1 : (headL nm first).length ≤ 40 := by
    unfold headL
    simp only [List.length_append, List.length_cons, List.length_nil, offL_len]
    have : nm.data.toList.length = nm.size := Array.length_toList
    have := hok.1.2.1
    omega
  have h2 : ∀ (l : List Chg), (∀ x ∈ l, (lineL x).length ≤ 60) → (l.flatMap lineL).length ≤ 60 * l.length := by
    intro l
    induction l with
    | nil => simp
    | cons x l ih =>
      intro h
      have := ih fun y hy => h y (List.mem_cons_of_mem _ hy)
      have := h x (List.mem_cons_self ..)
      simp only [List.flatMap_cons, List.length_append, List.length_cons]
      omega
  have h3 := h2 chs (fun x hx => by
    obtain ⟨i, hi, rfl⟩ := List.getElem_of_mem hx
    have := hok.2.2.2 i hi
    have e : chs.getD i chg0 = chs[i] := by simp [List.getD, List.getElem?_eq_getElem hi]
    unfold ChgOk at this
    rw [e] at this
    exact lineL_len _ this.1 this.2.2.1)
  have := hok.2.2.1
  unfold printL
  rw [List.length_append]
  omega
theorem rest_len (nm : ByteArray) (first : Int) (chs : List Chg) (hok : ZoneOk nm first chs) (k : Nat) : (restL nm first chs k).length ≤ 15000 := by
  have h := print_len nm first chs hok
  unfold restL
  split
  · exact h
  · unfold printL at h
    rw [List.length_append] at h
    have h2 : ∀ (l : List Chg) (j : Nat), ((l.drop j).flatMap lineL).length ≤ (l.flatMap lineL).length := by
      intro l
      induction l with
      | nil => simp
      | cons x l ih =>
        intro j
        cases j with
        | zero => simp
        | succ j => have := ih j; simp; simp at this; omega
    have := h2 chs (k - 1)
    omega
end Go.Proofs.YtlihhlijombepaaDoor
