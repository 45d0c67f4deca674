/- Contracts of package rule: take, word, natural, number. -/
import Derived.Test.YtbmbphikjainiaaDoorLex1
namespace Go.Proofs.YtbmbphikjainiaaDoor
open Go.RowKit
set_option linter.unusedVariables false

theorem dec_len10 (u : Nat) (h : u ≤ 9999999999) : (Lib.decDigits u).length ≤ 10 := by
  by_cases h0 : u = 0
  · subst h0; rw [Lib.decDigits, dif_pos (by omega)]; simp
  · have := itoa_len (-(u : Int)) 10 (Nat.lt_of_lt_of_le (show _ < 10000000000 by omega) (by decide)) (by omega)
    unfold Lib.itoa at this
    rw [if_pos (by omega), show (-(u : Int)).natAbs = u from by omega] at this
    simpa using this
theorem itoa_nat_len (n : Int) (h1 : 0 ≤ n) (h2 : n ≤ 9999999999) : (Lib.itoa n).length ≤ 10 := by
  unfold Lib.itoa
  rw [if_neg (by omega)]
  exact dec_len10 n.toNat (by omega)
/-- the reader in memory, and the words that it has before it -/
def Reads (w : World) (g : Nat) (S : ByteArray) (op : Int) (ts : List Tok) : Prop := ∃ a n, Rd w g S a n op ∧ Lx S.data.toList a n ts
theorem Reads.lt {w : World} {g : Nat} {S : ByteArray} {op : Int} {ts : List Tok} (h : Reads w g S op ts) : g < w.heap.size := by
  obtain ⟨a, n, h, _⟩ := h; exact Box.lt h
theorem Reads.next {w w' : World} {g : Nat} {S : ByteArray} {op : Int} {ts : List Tok} (h : Reads w g S op ts) (hb : Below w.heap.size w w') : Reads w' g S op ts := by
  obtain ⟨a, n, h, h2⟩ := h; exact ⟨a, n, rd_next h hb, h2⟩
theorem Reads.drewN {w : World} {g : Nat} {S : ByteArray} {op : Int} {ts : List Tok} (h : Reads w g S op ts) (m : Nat) : Reads (w.drewN m) g S op ts := h.next (below_drewN w m)
theorem reads_ne {w : World} {g : Nat} {S : ByteArray} {op : Int} {c : Tok} {ts : List Tok} (h : Reads w g S op (c :: ts)) : c ≠ [] := by
  obtain ⟨a, n, _, h2⟩ := h; exact h2.ne c rfl
theorem tok_at (g : Nat) (S : ByteArray) (op : Int) (ts : List Tok) (w : World) (h : Reads w g S op ts) (hS : S.size ≤ 5000) :
    Calls Tryd.prog 35 #[.pointer (some ⟨g, 0, none⟩)] w fun e w' => e = .returned (.string (tokS ts)) ∧ ∃ m, w' = w.drewN m := by
  obtain ⟨a, n, h1, h2⟩ := h
  exact token_any g S a n op ts w h1 hS h2
theorem scan_at (g : Nat) (S : ByteArray) (op : Int) (c : Tok) (ts : List Tok) (w : World) (h : Reads w g S op (c :: ts)) (hS : S.size ≤ 5000) :
    Calls Tryd.prog 28 #[.pointer (some ⟨g, 0, none⟩)] w fun e w' => e = .returned (.tuple #[]) ∧ Reads w' g S op ts ∧ w.grownBy w' (some g) := by
  obtain ⟨a, n, h1, h2⟩ := h
  have hl : S.data.toList.length = S.size := Array.length_toList
  refine (scan_any g S a n op ts w h1 hS (by have := h2.ns; omega) h2.rest).mono ?_
  rintro e w' ⟨he, a', n', h3, h4, h5⟩
  exact ⟨he, ⟨a', n', h3, h4⟩, h5⟩
def TakeQ (g : Nat) (S : ByteArray) (op : Int) (b : Bool) (ts : List Tok) (w : World) (e : Ending) (w' : World) : Prop := e = .returned (.bool b) ∧ Reads w' g S op ts ∧ w.grownBy w' (some g)
set_option maxRecDepth 100000 in
theorem take_yes (g : Nat) (S : ByteArray) (op : Int) (c : Tok) (ts : List Tok) (w : World) (h : Reads w g S op (c :: ts)) (hS : S.size ≤ 5000) :
    Calls Tryd.prog 29 #[.pointer (some ⟨g, 0, none⟩), .string (str c)] w (TakeQ g S op true ts w) := by
  have HT := Lib.hid (tok_at g S op (c :: ts) w h hS)
  have HS := Lib.hid (fun W (hW : Below w.heap.size w W) => scan_at g S op c ts W (h.next hW) hS)
  have e : tokS (c :: ts) = str c := rfl
  rw [e] at HT
  clear e h
  unfold TakeQ
  generalize str c = s at *
  go_enter Tryd.func29, Tryd.ntmps29
  go_wp2_with fail
  refine HT.out.mono ?_
  rintro e w1 ⟨rfl, m, rfl⟩
  have HS1 := Lib.hid (HS.out _ (below_drewN w m))
  go_wp2_with fail
  refine HS1.out.mono ?_
  rintro e w2 ⟨rfl, hr, hg⟩
  have HR := Lib.hid hr
  have HG : Hid (w.grownBy w2 (some g)) := World.grownBy.trans (grown_bel (below_drewN w m)) hg
  clear hr hg
  go_wp2_with fail
  go_ret
  exact ⟨rfl, HR.out, HG.out⟩
set_option maxRecDepth 100000 in
theorem take_no (g : Nat) (S : ByteArray) (op : Int) (c : Tok) (ts : List Tok) (w : World) (h : Reads w g S op ts) (hS : S.size ≤ 5000) (hc : ts.headD [] ≠ c) :
    Calls Tryd.prog 29 #[.pointer (some ⟨g, 0, none⟩), .string (str c)] w (TakeQ g S op false ts w) := by
  have HT := Lib.hid (tok_at g S op ts w h hS)
  have HH := Lib.hid h
  have e : ((tokS ts).toList == (str c).toList) = false := by
    rw [beq_eq_false_iff_ne]
    unfold tokS
    rw [str_toList, str_toList]
    exact hc
  clear h hc
  unfold TakeQ
  generalize str c = s at *
  generalize tokS ts = t at *
  go_enter Tryd.func29, Tryd.ntmps29
  go_wp2_with fail
  refine HT.out.mono ?_
  rintro e w1 ⟨rfl, m, rfl⟩
  go_wp2_with fail
  go_ret
  exact ⟨rfl, HH.out.drewN m, grown_bel (below_drewN w m)⟩
def WordQ (g : Nat) (S : ByteArray) (op : Int) (v : Value) (ts : List Tok) (w : World) (e : Ending) (w' : World) : Prop := e = .returned (.tuple #[v, .bool true]) ∧ Reads w' g S op ts ∧ w.grownBy w' (some g)
set_option maxRecDepth 100000 in
theorem word_yes (g : Nat) (S : ByteArray) (op : Int) (c : Tok) (ts : List Tok) (w : World) (h : Reads w g S op (c :: ts)) (hS : S.size ≤ 5000) (hc : ∀ b ∈ c, isLow b = true) :
    Calls Tryd.prog 31 #[.pointer (some ⟨g, 0, none⟩)] w (WordQ g S op (.string (str c)) ts w) := by
  have HT := Lib.hid (tok_at g S op (c :: ts) w h hS)
  have HS := Lib.hid (fun W (hW : Below w.heap.size w W) => scan_at g S op c ts W (h.next hW) hS)
  have hne := reads_ne h
  have e : tokS (c :: ts) = str c := rfl
  rw [e] at HT
  obtain ⟨b, r, rfl⟩ : ∃ b r, c = b :: r := by
    cases c with
    | nil => exact absurd rfl hne
    | cons b r => exact ⟨b, r, rfl⟩
  have hb := hc b (List.mem_cons_self ..)
  unfold isLow at hb
  rw [Bool.and_eq_true, decide_eq_true_eq, decide_eq_true_eq] at hb
  have hs0 : 0 < (str (b :: r)).size := by rw [str_size]; simp
  have h0 : ∀ h : 0 < (str (b :: r)).size, (str (b :: r))[0] = b := fun _ => rfl
  have t0 : (str (b :: r)).toList.isEmpty = false := by rw [str_toList]; rfl
  have t1 : ((str (b :: r)).toList == []) = false := by rw [str_toList]; rfl
  have t2 : ¬ (str (b :: r)).toList = [] := by rw [str_toList]; simp
  clear e h hne hc
  unfold WordQ
  generalize str (b :: r) = s at *
  have h00 := h0 hs0
  have h1 : ¬ ((s[0].toNat : Int) < 97) := by rw [h00]; omega
  have h2 : ¬ ((122 : Int) < (s[0].toNat : Int)) := by rw [h00]; omega
  have h3 : decide (s[0].toNat < 97) = false := decide_eq_false (by omega)
  have h4 : decide (122 < s[0].toNat) = false := decide_eq_false (by omega)
  clear h0 h00
  go_enter Tryd.func31, Tryd.ntmps31
  go_wp2_with fail
  refine HT.out.mono ?_
  rintro e w1 ⟨rfl, m, rfl⟩
  have HS1 := Lib.hid (HS.out _ (below_drewN w m))
  go_wp2_with fail
  refine HS1.out.mono ?_
  rintro e w2 ⟨rfl, hr, hg⟩
  have HR := Lib.hid hr
  have HG : Hid (w.grownBy w2 (some g)) := World.grownBy.trans (grown_bel (below_drewN w m)) hg
  clear hr hg
  go_wp2_with fail
  go_ret2
  exact ⟨rfl, HR.out, HG.out⟩
set_option maxRecDepth 100000 in
theorem natural_yes (g : Nat) (S : ByteArray) (op : Int) (n : Int) (ts : List Tok) (w : World) (h : Reads w g S op (Lib.itoa n :: ts)) (hS : S.size ≤ 5000) (h1 : 0 ≤ n) (h2 : n ≤ 9999999999) :
    Calls Tryd.prog 49 #[.pointer (some ⟨g, 0, none⟩)] w (WordQ g S op (.int .i64 n) ts w) := by
  have HT := Lib.hid (tok_at g S op (Lib.itoa n :: ts) w h hS)
  have HS := Lib.hid (fun W (hW : Below w.heap.size w W) => scan_at g S op (Lib.itoa n) ts W (h.next hW) hS)
  have HA := Lib.hid (fun W => atoi_num n W (by omega))
  have e : tokS (Lib.itoa n :: ts) = str (Lib.itoa n) := rfl
  rw [e] at HT
  have hlen : (str (Lib.itoa n)).size ≤ 10 := by
    rw [str_size]
    have h := itoa_nat_len n h1 h2
    exact h
  obtain ⟨b, r, hbr⟩ : ∃ b r, Lib.itoa n = b :: r := by
    cases hi : Lib.itoa n with
    | nil => exact absurd hi (itoa_ne n)
    | cons b r => exact ⟨b, r, rfl⟩
  have hb := itoa_dig n h1 b (by rw [hbr]; exact List.mem_cons_self ..)
  unfold isDig at hb
  rw [Bool.and_eq_true, decide_eq_true_eq, decide_eq_true_eq] at hb
  have hs0 : 0 < (str (Lib.itoa n)).size := by rw [str_size, hbr]; simp
  have h0 : ∀ h : 0 < (str (Lib.itoa n)).size, (str (Lib.itoa n))[0] = b := by rw [hbr]; exact fun _ => rfl
  have t0 : (str (Lib.itoa n)).toList.isEmpty = false := by rw [str_toList, hbr]; rfl
  have t1 : ((str (Lib.itoa n)).toList == []) = false := by rw [str_toList, hbr]; rfl
  have t2 : ¬ (str (Lib.itoa n)).toList = [] := by rw [str_toList, hbr]; simp
  clear e h hbr
  unfold WordQ
  generalize str (Lib.itoa n) = s at *
  have h00 := h0 hs0
  have h1 : ¬ ((s[0].toNat : Int) < 48) := by rw [h00]; omega
  have h2 : ¬ ((57 : Int) < (s[0].toNat : Int)) := by rw [h00]; omega
  have h3 : decide (s[0].toNat < 48) = false := decide_eq_false (by omega)
  have h4 : decide (57 < s[0].toNat) = false := decide_eq_false (by omega)
  have h5 : decide ((10 : Int) < (s.size : Int)) = false := decide_eq_false (by omega)
  clear h0 h00
  go_enter Tryd.func49, Tryd.ntmps49
  go_wp2_with fail
  refine HT.out.mono ?_
  rintro e w1 ⟨rfl, m, rfl⟩
  go_wp2_with fail
  refine (HA.out _).mono ?_
  rintro e w2 ⟨rfl, hb2⟩
  have HB2 := Lib.hid ((below_drewN w m).trans hb2)
  have HS1 := Lib.hid (HS.out _ HB2.out)
  clear hb2
  go_wp2_with fail
  refine HS1.out.mono ?_
  rintro e w3 ⟨rfl, hr, hg⟩
  have HR := Lib.hid hr
  have HG : Hid (w.grownBy w3 (some g)) := World.grownBy.trans (grown_bel HB2.out) hg
  clear hr hg
  go_wp2_with fail
  go_ret2
  exact ⟨rfl, HR.out, HG.out⟩
end Go.Proofs.YtbmbphikjainiaaDoor
