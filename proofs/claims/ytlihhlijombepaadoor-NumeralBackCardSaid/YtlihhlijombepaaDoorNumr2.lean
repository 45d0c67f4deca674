/- Contract of numeral.Pad; plain law of the widths. -/
import Derived.Test.YtlihhlijombepaaDoorNumr1
namespace Go.Proofs.YtlihhlijombepaaDoor
open Go.RowKit
set_option linter.unusedVariables false

def padL (n : Int) (wd : Nat) : List UInt8 := List.replicate (wd - (Lib.itoa n).length) 48 ++ Lib.itoa n
theorem repeat_zero (c : Nat) : Lib.repeatL [48] c = List.replicate c 48 := by
  induction c with
  | zero => rfl
  | succ c ih => rw [Lib.repeatL, ih, List.replicate_succ]; rfl
theorem itoa_head (n : Int) (h : 0 ≤ n) : Lib.hasPrefix (Lib.itoa n) [45] = false ∧ Lib.trimPrefix (Lib.itoa n) [45] = Lib.itoa n := by
  have hp : Lib.hasPrefix (Lib.itoa n) [45] = false := by
    unfold Lib.hasPrefix Lib.itoa
    rw [if_neg (by omega)]
    have h1 := dec_ne n.toNat
    have h2 := dec_digit n.toNat
    generalize Lib.decDigits n.toNat = l at *
    cases l with
    | nil => exact absurd rfl h1
    | cons b r =>
      have hb := h2 b (List.mem_cons_self ..)
      have : ((45 : UInt8) == b) = false := by
        rw [beq_eq_false_iff_ne]; rintro rfl; simp at hb
      simp [List.isPrefixOf, this]
  refine ⟨hp, ?_⟩
  unfold Lib.trimPrefix
  rw [hp]
  simp

set_option maxHeartbeats 400000 in
set_option maxRecDepth 100000 in
theorem pad_pos (k : Nat) (hk : k < 9) (n : Int) (h1 : 0 ≤ n) (h2 : n ≤ 2147483647) (wd : Nat) (hw : wd ≤ 12) (w : World) (hp : Pow w) (hz : Zer w) (hu : U8 w) :
    Calls Tryd.prog 25 #[.int .i64 (k : Int), .int .i64 n, .int .i64 (wd : Int)] w fun e w' => e = .returned (.tuple #[.string (str (Lib.mapD (dgt (zerosL.getD k 0)) (padL n wd))), .int .i64 0]) ∧ Below w.heap.size w w' := by
  have HW := Lib.hid (writes_pos k hk n (by omega) h2 w)
  have HI := Lib.hid (itoa_any n w (by omega) (by omega) hp)
  have hsz := itoa_size n (by omega) (by omega)
  have HC := Lib.hid (fun W => strings_CutPrefix (str (Lib.itoa n)) ⟨#[45]⟩ W)
  rw [str_data, show (⟨#[45]⟩ : ByteArray).data.toList = [45] from rfl, (itoa_head n h1).1, (itoa_head n h1).2, show (⟨(Lib.itoa n).toArray⟩ : ByteArray) = str (Lib.itoa n) from rfl] at HC
  have hlen : (str (Lib.itoa n)).size = (Lib.itoa n).length := str_size _
  have t1 : decide ((k : Int) < 0) = false := decide_eq_false (by omega)
  have t2 : decide ((9 : Int) ≤ (k : Int)) = false := decide_eq_false (by omega)
  have t3 : decide ((wd : Int) < 0) = false := decide_eq_false (by omega)
  have t4 : decide ((12 : Int) < (wd : Int)) = false := decide_eq_false (by omega)
  have q1 : ¬ (k : Int) < 0 := by omega
  have q2 : ¬ (9 : Int) ≤ (k : Int) := by omega
  have q3 : ¬ (wd : Int) < 0 := by omega
  have q4 : ¬ (12 : Int) < (wd : Int) := by omega
  by_cases hlt : (str (Lib.itoa n)).size < wd
  · have HR := Lib.hid (fun W => strings_Repeat ⟨#[48]⟩ (wd - (str (Lib.itoa n)).size) W (by omega) (by rw [show (⟨#[48]⟩ : ByteArray).size = 1 from rfl]; omega))
    rw [show (⟨#[48]⟩ : ByteArray).data.toList = [48] from rfl, repeat_zero] at HR
    have hcat : str (List.replicate (wd - (str (Lib.itoa n)).size) 48) ++ str (Lib.itoa n) = str (padL n wd) := by rw [str_append, hlen]; rfl
    have HD := Lib.hid (fun W (hW : Below w.heap.size w W) => digits_any k hk (str (padL n wd)) (by rw [← hcat, ByteArray.size_append, str_size]; simp; omega) W (hz.next hW) (hu.next hW))
    rw [str_data] at HD
    have HE := Lib.hid hcat
    have e1 : (wd : Int) - ((str (Lib.itoa n)).size : Int) = ((wd - (str (Lib.itoa n)).size : Nat) : Int) := by omega
    have hrs : (str (List.replicate (wd - (str (Lib.itoa n)).size) 48)).size ≤ 12 := by rw [str_size]; simp; omega
    clear hp hz hu hcat hlen
    generalize dgt (zerosL.getD k 0) = f at *
    generalize Lib.mapD f (padL n wd) = R at *
    generalize str (padL n wd) = pl at *
    generalize str (Lib.itoa n) = s at *
    rw [show (⟨(List.replicate (wd - s.size) (48 : UInt8)).toArray⟩ : ByteArray) = str (List.replicate (wd - s.size) 48) from rfl] at HR
    generalize str (List.replicate (wd - s.size) 48) = zs at *
    go_enter Tryd.func25, Tryd.ntmps25
    go_wp2_with fail
    refine HW.out.mono ?_
    rintro e w' ⟨rfl, rfl⟩
    go_wp2_with fail
    refine HI.out.mono ?_
    rintro e w1 ⟨rfl, hb⟩
    have HB := Lib.hid hb
    clear hb HI
    go_wp2_with fail
    refine (HC.out _).mono ?_
    rintro e w' ⟨rfl, rfl⟩
    go_wp2_with fail
    refine (HR.out _).mono ?_
    rintro e w2 ⟨rfl, hb⟩
    have HB2 := Lib.hid (below_then HB.out hb)
    clear hb HR
    have HD2 := Lib.hid (HD.out w2 HB2.out)
    clear HD
    go_wp2_with fail
    rw [HE.out]
    refine HD2.out.mono ?_
    rintro e w3 ⟨rfl, hb⟩
    have HB3 := Lib.hid (below_then HB2.out hb)
    clear hb HD2
    go_wp2_with fail
    go_ret2
    exact ⟨rfl, HB3.out⟩
  · have hcat : str (padL n wd) = str (Lib.itoa n) := by
      unfold padL
      rw [show wd - (Lib.itoa n).length = 0 from by omega]
      rfl
    have hpl : padL n wd = Lib.itoa n := by
      unfold padL
      rw [show wd - (Lib.itoa n).length = 0 from by omega]
      rfl
    rw [hpl]
    have HD := Lib.hid (fun W (hW : Below w.heap.size w W) => digits_any k hk (str (Lib.itoa n)) (by omega) W (hz.next hW) (hu.next hW))
    rw [str_data] at HD
    have tl : decide (((str (Lib.itoa n)).size : Int) < (wd : Int)) = false := decide_eq_false (by omega)
    clear hp hz hu hcat hlen hpl
    generalize dgt (zerosL.getD k 0) = f at *
    generalize Lib.mapD f (Lib.itoa n) = R at *
    generalize str (Lib.itoa n) = s at *
    go_enter Tryd.func25, Tryd.ntmps25
    go_wp2_with fail
    refine HW.out.mono ?_
    rintro e w' ⟨rfl, rfl⟩
    go_wp2_with fail
    refine HI.out.mono ?_
    rintro e w1 ⟨rfl, hb⟩
    have HB := Lib.hid hb
    clear hb HI
    go_wp2_with fail
    refine (HC.out _).mono ?_
    rintro e w' ⟨rfl, rfl⟩
    have HD2 := Lib.hid (HD.out _ HB.out)
    clear HD
    go_wp2_with fail
    refine HD2.out.mono ?_
    rintro e w3 ⟨rfl, hb⟩
    have HB3 := Lib.hid (below_then HB.out hb)
    clear hb HD2
    go_wp2_with fail
    go_ret2
    exact ⟨rfl, HB3.out⟩

theorem flat_congr {α β : Type} (f g : α → List β) : ∀ (l : List α), (∀ b ∈ l, f b = g b) → l.flatMap f = l.flatMap g
  | [], _ => rfl
  | b :: l, h => by
    rw [List.flatMap_cons, List.flatMap_cons, h b (List.mem_cons_self ..), flat_congr f g l fun x hx => h x (List.mem_cons_of_mem _ hx)]
/-- the code points of a padded numeral -/
def runesOf (z : Int) (l : List UInt8) : List Nat := l.map (fun b => (dgt z (b.toNat : Int)).toNat)
theorem map_runes (k : Nat) (hk : k < 9) (l : List UInt8) (hl : ∀ b ∈ l, b.toNat = 45 ∨ (48 ≤ b.toNat ∧ b.toNat ≤ 57)) :
    Lib.mapD (dgt (zerosL.getD k 0)) l = encs (runesOf (zerosL.getD k 0) l) ∧ ∀ r ∈ runesOf (zerosL.getD k 0) l, Bmp r := by
  obtain ⟨z1, z2⟩ := zeros_in k hk
  have zz : zerosL.getD k 0 ∈ zerosL := by
    match k, hk with
    | 0, _ | 1, _ | 2, _ | 3, _ | 4, _ | 5, _ | 6, _ | 7, _ | 8, _ => decide
  have hd : ∀ b ∈ l, 0 ≤ dgt (zerosL.getD k 0) (b.toNat : Int) ∧ Bmp (dgt (zerosL.getD k 0) (b.toNat : Int)).toNat := fun b hb => by
    have := hl b hb
    simp only [zerosL, List.mem_cons, List.mem_nil_iff, or_false] at zz
    unfold dgt Bmp
    split
    · omega
    · rw [show ([48, 1632, 1776, 2406, 2534, 3664, 3872, 6112, 65296] : List Int) = zerosL from rfl] at zz
      omega
  constructor
  · rw [mapD_ascii _ l fun b hb => ⟨by have := hl b hb; omega, (hd b hb).1⟩]
    unfold encs runesOf
    rw [List.flatMap_map]
    exact flat_congr _ _ l fun b hb => by rw [Int.toNat_of_nonneg (hd b hb).1]
  · intro r hr
    obtain ⟨b, hb, rfl⟩ := List.mem_map.1 hr
    exact (hd b hb).2
theorem runes_len (z : Int) (l : List UInt8) : (runesOf z l).length = l.length := by simp [runesOf]
theorem pad_byte (n : Int) (wd : Nat) : ∀ b ∈ padL n wd, b.toNat = 45 ∨ (48 ≤ b.toNat ∧ b.toNat ≤ 57) := fun b hb => by
  rcases List.mem_append.1 hb with h | h
  · have := List.eq_of_mem_replicate h
    subst this
    right
    decide
  · exact itoa_byte n b h
theorem pad_suffix (k : Nat) (hk : k < 9) (n : Int) (wd : Nat) : Lib.hasSuffix (Lib.mapD (dgt (zerosL.getD k 0)) (padL n wd)) (Lib.mapD (dgt (zerosL.getD k 0)) (Lib.itoa n)) = true := by
  rw [(map_runes k hk (padL n wd) (pad_byte n wd)).1, (map_runes k hk (Lib.itoa n) (itoa_byte n)).1]
  unfold Lib.hasSuffix
  rw [List.isSuffixOf_iff_suffix]
  refine ⟨encs (runesOf (zerosL.getD k 0) (List.replicate (wd - (Lib.itoa n).length) 48)), ?_⟩
  unfold encs runesOf padL
  rw [List.map_append, List.flatMap_append]
theorem pad_count (k : Nat) (hk : k < 9) (n : Int) (wd : Nat) : Lib.runeCount (str (Lib.mapD (dgt (zerosL.getD k 0)) (padL n wd))) = max wd (Lib.itoa n).length := by
  obtain ⟨h1, h2⟩ := map_runes k hk (padL n wd) (pad_byte n wd)
  rw [h1]
  refine (runeCount_encs _ h2).trans ?_
  rw [runes_len]
  unfold padL
  rw [List.length_append, List.length_replicate]
  omega
theorem write_count (k : Nat) (hk : k < 9) (n : Int) : Lib.runeCount (str (Lib.mapD (dgt (zerosL.getD k 0)) (Lib.itoa n))) = (Lib.itoa n).length := by
  obtain ⟨h1, h2⟩ := map_runes k hk (Lib.itoa n) (itoa_byte n)
  rw [h1]
  refine (runeCount_encs _ h2).trans ?_
  rw [runes_len]
theorem map_size (k : Nat) (hk : k < 9) (l : List UInt8) (hl : ∀ b ∈ l, b.toNat = 45 ∨ (48 ≤ b.toNat ∧ b.toNat ≤ 57)) : (str (Lib.mapD (dgt (zerosL.getD k 0)) l)).size ≤ 3 * l.length := by
  obtain ⟨h1, h2⟩ := map_runes k hk l hl
  rw [h1, str_size]
  have := (encs_len _ h2).2
  rw [runes_len] at this
  exact this
end Go.Proofs.YtlihhlijombepaaDoor
