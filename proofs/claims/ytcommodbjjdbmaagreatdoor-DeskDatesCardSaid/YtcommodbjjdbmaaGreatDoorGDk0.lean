/- Dk0, Dk1, Dk2, Dk3, Dk4, Dk5, Dk6 -/
import Derived.Maps.Own
import Derived.Maps.OwnOps
import Derived.Lib.Join
import Derived.Deep.DeepCutAuto
import Derived.Deep.CutBlock
import Derived.Deep.AppendLies
import Derived.Test.YtcommodbjjdbmaaGreatDoorGLaid
import Derived.Test.YtcommodbjjdbmaaGreatDoorGBase
import Derived.Test.YtcommodbjjdbmaaGreatDoorGNumShp
import Derived.Test.YtcommodbjjdbmaaGreatDoorGShelf1
import Derived.Test.YtcommodbjjdbmaaGreatDoorGMem
import Derived.Test.YtcommodbjjdbmaaGreatDoorGFlow
import Derived.Test.YtcommodbjjdbmaaGreatDoorGAr1
import Derived.Test.YtcommodbjjdbmaaGreatDoorGLine1
import Derived.Test.YtcommodbjjdbmaaGreatDoorGCat1
import Derived.Test.YtcommodbjjdbmaaGreatDoorGBuild1
import Derived.Test.YtcommodbjjdbmaaGreatDoorGPlainSplit
import Derived.Test.YtcommodbjjdbmaaGreatDoorGCatOk
/- ephemeriskeep1.numeralText writes what strconv.Itoa writes; desk.form at the words of the commands on dates. -/
namespace Go.Proofs.YtcommodbjjdbmaaGreatDoor
open Go Go.RowKit Go.Maps Go.WideMaps
set_option linter.unusedVariables false

theorem enc_digit : ∀ d : Nat, d < 10 → Utf8.encode (48 + (d : Int)) = ⟨#[UInt8.ofNat (48 + d)]⟩ := by decide +kernel
theorem itoa_small (n : Int) (h0 : 0 ≤ n) (h1 : n < 10) : Utf8.encode (48 + n % 10) = ⟨(Lib.itoa n).toArray⟩ := by
  obtain ⟨d, rfl⟩ : ∃ d : Nat, n = (d : Int) := ⟨n.toNat, by omega⟩
  have hd : d < 10 := by omega
  rw [show ((d : Int) % 10) = (d : Int) from by omega, enc_digit d hd]
  unfold Lib.itoa
  rw [if_neg (by omega), show ((d : Int)).toNat = d from by omega, Lib.decDigits, dif_pos hd]
theorem itoa_big (n : Int) (h1 : 10 ≤ n) : (⟨(Lib.itoa (n / 10)).toArray⟩ : ByteArray) ++ Utf8.encode (48 + n % 10) = ⟨(Lib.itoa n).toArray⟩ := by
  obtain ⟨d, rfl⟩ : ∃ d : Nat, n = (d : Int) := ⟨n.toNat, by omega⟩
  have hd : ¬ d < 10 := by omega
  have e1 : ((d : Int) % 10) = ((d % 10 : Nat) : Int) := by omega
  have e2 : ((d : Int) / 10) = ((d / 10 : Nat) : Int) := by omega
  rw [e1, e2, enc_digit _ (Nat.mod_lt _ (by omega))]
  unfold Lib.itoa
  rw [if_neg (by omega), if_neg (by omega), show (((d / 10 : Nat) : Int)).toNat = d / 10 from by omega, show ((d : Int)).toNat = d from by omega]
  conv => rhs; rw [Lib.decDigits, dif_neg hd]
  apply ByteArray.ext
  rw [ByteArray.data_append]
  simp
theorem itoa_neg (n : Int) (h1 : n < 0) : (⟨#[45]⟩ : ByteArray) ++ ⟨(Lib.itoa (-n)).toArray⟩ = ⟨(Lib.itoa n).toArray⟩ := by
  unfold Lib.itoa
  rw [if_neg (by omega), if_pos h1]
  apply ByteArray.ext
  rw [ByteArray.data_append]
  rw [show (-n).toNat = n.natAbs from by omega]
  simp
set_option maxRecDepth 100000 in
theorem nt_pos : ∀ (k : Nat) (n : Int) (w : World), 0 ≤ n → n < 10 ^ (k + 1) → k ≤ 16 → Calls Tryz.prog 9 #[.int .i64 n] w fun e w' => e = .returned (.tuple #[.string ⟨(Lib.itoa n).toArray⟩, .bool true]) ∧ w' = w := by
  intro k
  induction k with
  | zero =>
    intro n w h0 h1 _
    have t1 : decide (n < 0) = false := decide_eq_false (by omega)
    have t2 : decide ((10 : Int) ≤ n) = false := decide_eq_false (by simp at h1; omega)
    have HF := Lib.hid (itoa_small n h0 (by simp at h1; omega))
    go_enter Tryz.func9, Tryz.ntmps9
    go_wp2_with fail
    go_ret2
    exact ⟨by rw [HF.out]; rfl, rfl⟩
  | succ k ih =>
    intro n w h0 h1 hk
    have t1 : decide (n < 0) = false := decide_eq_false (by omega)
    have hb : n < 1000000000000000000 := by
      have : (10 : Int) ^ (k + 1 + 1) ≤ 10 ^ 18 := by
        have : (10 : Nat) ^ (k + 1 + 1) ≤ 10 ^ 18 := Nat.pow_le_pow_right (by omega) (by omega)
        exact_mod_cast this
      omega
    by_cases hlt : n < 10
    · have t2 : decide ((10 : Int) ≤ n) = false := decide_eq_false (by omega)
      have HF := Lib.hid (itoa_small n h0 hlt)
      clear ih h1
      go_enter Tryz.func9, Tryz.ntmps9
      go_wp2_with fail
      go_ret2
      exact ⟨by rw [HF.out]; rfl, rfl⟩
    · have t2 : decide ((10 : Int) ≤ n) = true := decide_eq_true (by omega)
      have HF := Lib.hid (itoa_big n (by omega))
      have HI := Lib.hid (ih (n / 10) w (by omega) (by rw [Int.pow_succ] at h1; omega) (by omega))
      have hs : (⟨(Lib.itoa (n / 10)).toArray⟩ : ByteArray).size ≤ 21 := by
        show (Lib.itoa (n / 10)).toArray.size ≤ 21
        rw [List.size_toArray]
        exact Lib.itoa_length_le _ (by omega) (by omega)
      have hs2 : (Utf8.encode (48 + n % 10)).size ≤ 1 := by
        obtain ⟨d, hd⟩ : ∃ d : Nat, n % 10 = (d : Int) := ⟨(n % 10).toNat, by omega⟩
        rw [hd, enc_digit d (by omega)]
        exact Nat.le_refl _
      generalize hM : (⟨(Lib.itoa (n / 10)).toArray⟩ : ByteArray) = M at *
      clear ih h1 hM
      go_enter Tryz.func9, Tryz.ntmps9
      go_wp2_with (go_at_call 9; refine HI.out.mono ?_; rintro e w' ⟨rfl, rfl⟩)
      go_ret2
      exact ⟨by rw [HF.out]; rfl, rfl⟩
set_option maxRecDepth 100000 in
theorem ntext_any (n : Int) (w : World) (h0 : -10000000000000000 < n) (h1 : n < 10000000000000000) : Calls Tryz.prog 9 #[.int .i64 n] w fun e w' => e = .returned (.tuple #[.string ⟨(Lib.itoa n).toArray⟩, .bool true]) ∧ w' = w := by
  by_cases hn : n < 0
  · have t1 : decide (n < 0) = true := decide_eq_true hn
    have HF := Lib.hid (itoa_neg n hn)
    have HI := Lib.hid (nt_pos 15 (-n) w (by omega) (by show -n < 10 ^ 16; omega) (by omega))
    have hs : (⟨(Lib.itoa (-n)).toArray⟩ : ByteArray).size ≤ 21 := by
      show (Lib.itoa (-n)).toArray.size ≤ 21
      rw [List.size_toArray]
      exact Lib.itoa_length_le _ (by omega) (by omega)
    generalize hM : (⟨(Lib.itoa (-n)).toArray⟩ : ByteArray) = M at *
    clear hM
    go_enter Tryz.func9, Tryz.ntmps9
    go_wp2_with (go_at_call 9; refine HI.out.mono ?_; rintro e w' ⟨rfl, rfl⟩)
    go_ret2
    exact ⟨by rw [HF.out]; rfl, rfl⟩
  · exact nt_pos 15 n w (by omega) (by show n < 10 ^ 16; omega) (by omega)
set_option maxRecDepth 100000 in
theorem num_any (n : Int) (w : World) (h0 : -10000000000000000 < n) (h1 : n < 10000000000000000) : Calls Tryz.prog 8 #[.int .i64 n] w fun e w' => e = .returned (.string ⟨(Lib.itoa n).toArray⟩) ∧ w' = w := by
  have HI := Lib.hid (ntext_any n w h0 h1)
  go_enter Tryz.func8, Tryz.ntmps8
  go_wp2_with (go_at_call 9; refine HI.out.mono ?_; rintro e w' ⟨rfl, rfl⟩)
  go_ret
  exact ⟨rfl, rfl⟩
/-- a call of desk.form that says what follows -/
def FormQ (f : ByteArray) (w : World) (e : Ending) (w' : World) : Prop := e = .returned (.tuple #[.string f, .bool true]) ∧ Below w.heap.size w w'
set_option maxRecDepth 100000 in
theorem form_day (w : World) : Calls Tryz.prog 21 #[.string ⟨#[100, 97, 121]⟩] w (FormQ ⟨#[115, 110, 110, 110]⟩ w) := by
  unfold FormQ
  go_enter Tryz.func21, Tryz.ntmps21
  go_wp2_with fail
  go_ret2
  exact ⟨rfl, Below.refl _ _⟩
set_option maxRecDepth 100000 in
theorem form_turn (w : World) : Calls Tryz.prog 21 #[.string ⟨#[116, 117, 114, 110]⟩] w (FormQ ⟨#[115, 110, 110, 110, 115]⟩ w) := by
  unfold FormQ
  go_enter Tryz.func21, Tryz.ntmps21
  go_wp2_with fail
  go_ret2
  exact ⟨rfl, Below.refl _ _⟩
theorem dk_puts {w : World} {b n : Nat} {D : DataW Unit} (h : w.ownsMap Tryz.prog 9 (plainElem Tryz.prog 9) b n D) (hn : n < 100) (s k : ByteArray) (hs : s.size ≤ 100) (hk : k.size ≤ 100) :
    ∃ w', (Instr.mapUpdate 86 (.map (some b)) (.string s) (.string k)).run Tryz.prog w = .ok () w' ∧ w'.ownsMap Tryz.prog 9 (plainElem Tryz.prog 9) b (n + 1) (D.put (.string s.data.toList) (.lit (.string k.data.toList))) ∧ w.grownBy w' (some b) :=
  h.update (string_keyed Tryz.underlying9) Tryz.underlying86 (by unfold maxLen; omega) (keyOf_string_mk Tryz.underlying9 (by unfold maxLen; omega)) (plainElem_string Tryz.underlying9 (by unfold maxLen; omega))
set_option maxRecDepth 100000 in
theorem plain_str_inv {v : Value} {z : DataW Unit × List MemPlace} (h : plainElem Tryz.prog 9 v = some z) : ∃ s : ByteArray, v = .string s ∧ z = (.lit (.string s.data.toList), []) := by
  unfold plainElem at h
  rw [Tryz.underlying9] at h
  cases v <;> simp at h
  exact ⟨_, rfl, h.2.symm⟩
theorem ba_ext {a b : ByteArray} (h : a.data.toList = b.data.toList) : a = b := by
  cases a; cases b
  exact congrArg ByteArray.mk (Array.toList_inj.mp h)
set_option maxRecDepth 100000 in
theorem dk_look (w : World) : ∃ w1 w2 : World, (Instr.mapUpdate 86 (.map (some w.heap.size)) (.string ⟨#[100, 97, 116, 101]⟩) (.string ⟨#[115, 110]⟩)).run Tryz.prog (w.alloc (Obj.map #[] 0)) = .ok () w1 ∧ (Instr.mapUpdate 86 (.map (some w.heap.size)) (.string ⟨#[119, 101, 101, 107, 100, 97, 121]⟩) (.string ⟨#[110]⟩)).run Tryz.prog w1 = .ok () w2 ∧
    (Instr.lookup 86 (.map (some w.heap.size)) (.string ⟨#[100, 97, 116, 101]⟩) false).run Tryz.prog w2 = .ok (.string ⟨#[115, 110]⟩) w2 ∧ (Instr.lookup 86 (.map (some w.heap.size)) (.string ⟨#[119, 101, 101, 107, 100, 97, 121]⟩) false).run Tryz.prog w2 = .ok (.string ⟨#[110]⟩) w2 ∧ Below w.heap.size w w2 := by
  have h0 : (w.alloc (Obj.map #[] 0)).ownsMap Tryz.prog 9 (plainElem Tryz.prog 9) w.heap.size 0 (.map [] : DataW Unit) := World.ownsMap_made w Tryz.prog 9 _
  obtain ⟨w1, p1, h1, g1⟩ := dk_puts h0 (by omega) ⟨#[100, 97, 116, 101]⟩ ⟨#[115, 110]⟩ (by decide) (by decide)
  obtain ⟨w2, p2, h2, g2⟩ := dk_puts h1 (by omega) ⟨#[119, 101, 101, 107, 100, 97, 121]⟩ ⟨#[110]⟩ (by decide) (by decide)
  have hz : (zeroValue 9).run Tryz.prog w2 = .ok (.string ⟨#[]⟩) w2 := by kernel_rfl
  have hzd : plainElem (H := Unit) Tryz.prog 9 (.string ⟨#[]⟩) = some (.lit (.string []), []) := plainElem_string Tryz.underlying9 (by decide)
  have key : ∀ (k v : ByteArray), k.size ≤ 100 → (((DataW.map [] : DataW Unit).put (.string [100, 97, 116, 101]) (.lit (.string [115, 110]))).put (.string [119, 101, 101, 107, 100, 97, 121]) (.lit (.string [110]))).atKey (.string k.data.toList) (.lit (.string [])) = .lit (.string v.data.toList) → (Instr.lookup 86 (.map (some w.heap.size)) (.string k) false).run Tryz.prog w2 = .ok (.string v) w2 := fun k v hk hat => by
    obtain ⟨u, ps, hrun, hu⟩ := h2.lookup (string_keyed Tryz.underlying9) Tryz.underlying86 hz hzd (keyOf_string_mk Tryz.underlying9 (s := k) (by unfold maxLen; omega))
    obtain ⟨s, rfl, hs⟩ := plain_str_inv hu
    rw [hrun]
    injection hs with hs _
    have e : (DataW.lit (.string v.data.toList) : DataW Unit) = .lit (.string s.data.toList) := hat.symm.trans hs
    injection e with e
    injection e with e
    rw [ba_ext e]
  refine ⟨w1, w2, p1, p2, key _ _ (by decide) (by rfl), key _ _ (by decide) (by rfl), ?_⟩
  have g := g1.trans g2
  refine ⟨g.os, g.tape, g.output, ?_, fun b hb => ?_⟩
  · have := g.size
    rw [World.size_alloc] at this
    omega
  · rw [g.block b (by rw [World.size_alloc]; omega) (fun e => by injection e with e; omega)]
    exact (below_alloc1 w (Obj.map #[] 0)).block b hb
set_option maxRecDepth 100000 in
theorem form_date (w : World) : Calls Tryz.prog 21 #[.string ⟨#[100, 97, 116, 101]⟩] w (FormQ ⟨#[115, 110]⟩ w) := by
  obtain ⟨m1, m2, p1, p2, k1, k2, hb⟩ := dk_look w
  have HB := Lib.hid hb
  have hmm := @run_makeMap Tryz.prog
  unfold FormQ
  clear hb k2
  go_enter Tryz.func21, Tryz.ntmps21
  go_wp2_with fail
  go_ret2
  exact ⟨rfl, HB.out⟩
set_option maxRecDepth 100000 in
theorem form_weekday (w : World) : Calls Tryz.prog 21 #[.string ⟨#[119, 101, 101, 107, 100, 97, 121]⟩] w (FormQ ⟨#[110]⟩ w) := by
  obtain ⟨m1, m2, p1, p2, k1, k2, hb⟩ := dk_look w
  have HB := Lib.hid hb
  have hmm := @run_makeMap Tryz.prog
  unfold FormQ
  clear hb k1
  go_enter Tryz.func21, Tryz.ntmps21
  go_wp2_with fail
  go_ret2
  exact ⟨rfl, HB.out⟩
end Go.Proofs.YtcommodbjjdbmaaGreatDoor

/- Contract of desk.numbers. -/
namespace Go.Proofs.YtcommodbjjdbmaaGreatDoor
open Go Go.RowKit
set_option linter.unusedVariables false

theorem infoStrK : (Tryz.prog.info? 9).map (fun i => (i.zero, i.size, i.bytes)) = some (some (.string ⟨#[]⟩), 1, 16) := by kernel_rfl
/-- the numerals of a list -/
def dkB (l : List Int) : List ByteArray := l.map fun n => str (Lib.itoa n)
def dkV (l : List Int) : List Value := l.map fun n => .string (str (Lib.itoa n))
theorem dkV_take (l : List Int) (j : Nat) (h : j < l.length) : dkV (l.take (j + 1)) = dkV (l.take j) ++ [.string (str (Lib.itoa (l.getD j 0)))] := by
  unfold dkV
  rw [← List.take_append_getElem h, List.map_append]
  simp [List.getD, List.getElem?_eq_getElem h]
/-- the text of a list -/
def dkL (l : List Int) : List UInt8 := Lib.join (l.map Lib.itoa) [32]
theorem one_strK (x : ByteArray) : ∀ u ∈ [Value.string x], u.oneCell' = true := fun u hu => by simp at hu; subst hu; rfl
theorem lens_leK (k : Nat) : ∀ l : List (List UInt8), (∀ x ∈ l, x.length ≤ k) → Lib.lens l ≤ l.length * k
  | [], _ => by simp [Lib.lens]
  | x :: r, h => by
    have h1 := h x (by simp)
    have h2 := lens_leK k r (fun z hz => h z (by simp [hz]))
    unfold Lib.lens at h2 ⊢
    simp only [List.map_cons, List.sum_cons, List.length_cons]
    rw [Nat.add_mul]
    omega
theorem dk_join_len (l : List (List UInt8)) (k : Nat) (h : ∀ x ∈ l, x.length ≤ k) : (Lib.join l [32]).length ≤ l.length * (k + 1) := by
  cases l with
  | nil => simp [Lib.join_nil]
  | cons x r =>
    have h1 := lens_leK k (x :: r) h
    rw [Lib.join_length, Nat.mul_add]
    simp only [List.length_cons, List.length_nil] at h1 ⊢
    omega
theorem dkL_len (l : List Int) (h : ∀ x ∈ l, -9223372036854775808 ≤ x ∧ x ≤ 9223372036854775807) : (dkL l).length ≤ l.length * 22 := by
  have := dk_join_len (l.map Lib.itoa) 21 (fun x hx => by
    obtain ⟨n, hn, rfl⟩ := List.mem_map.1 hx
    exact Lib.itoa_length_le n (h n hn).1 (h n hn).2)
  simpa [dkL] using this
set_option maxHeartbeats 2000000 in
set_option maxRecDepth 100000 in
theorem numbers_any (A : Option Addr) (c : Nat) (l : List Int) (w : World) (hp : Pow w) (hr : Row w w.heap.size A (ints l)) (h0 : 0 < l.length) (hl : l.length ≤ 31) (hf : ∀ x ∈ l, -9223372036854775808 ≤ x ∧ x ≤ 9223372036854775807) :
    Calls Tryz.prog 46 #[.slice A l.length c] w fun e w' => e = .returned (.string (str (dkL l))) ∧ Below w.heap.size w w' := by
  obtain ⟨i0, hi0, hz0, hz1, hz2⟩ := info_parts infoStrK
  obtain ⟨b, o, rfl, hbl, hcs⟩ := hr.open_ (ints_ne l h0)
  have HCs := Lib.hid hcs
  have HIt := Lib.hid (fun j (hj : j < l.length) W (h : Below w.heap.size w W) => itoa_any (l.getD j 0) W (hf _ (by rw [List.getD_eq_getElem?_getD, List.getElem?_eq_getElem hj]; exact List.getElem_mem hj)).1 (hf _ (by rw [List.getD_eq_getElem?_getD, List.getElem?_eq_getElem hj]; exact List.getElem_mem hj)).2 (hp.next h))
  have HJl := Lib.hid (dkL_len l hf)
  clear hcs hr hp hf
  go_enter Tryz.func46, Tryz.ntmps46
  go_wp2_with fail
  go_loopw [3, 5, 8] (fun s3 _ i wr => ∃ j : Nat, j ≤ l.length ∧ i = .int .i64 (j : Int) ∧ Hid (wr.ownsRow w.heap.size 9 1 s3 j (dkV (l.take j))) ∧ Hid (Below w.heap.size w wr)) (fun _ _ i _ => l.length - (intOf i).toNat)
  case atStart => exact ⟨0, by omega, rfl, World.ownsRow_nil _ _ _ _, Below.refl _ _⟩
  case round =>
    obtain ⟨j, hj, rfl, hown, hbr⟩ := hrel
    by_cases hlt : j < l.length
    case neg =>
      have hje : j = l.length := by omega
      have HO : Hid (wr.ownsRow w.heap.size 9 1 u3 l.length (dkV l)) := by
        have h := hown.out
        rw [hje, List.take_length] at h
        exact h
      clear hown hje
      obtain ⟨n', hn'⟩ : ∃ n', l.length = n' + 1 := ⟨l.length - 1, by omega⟩
      have hform := HO.out.form h0
      obtain ⟨b2, cap, hv, hbb, hlt2⟩ := hform
      subst hv
      have hcap : l.length ≤ cap := by
        obtain ⟨_, _, e, q1, _⟩ := own_form HO.out
        injection e with _ _ e
        omega
      have HJ : Hid (Calls Tryz.prog 91 #[.slice (some ⟨b2, 0, none⟩) l.length cap, .string ⟨#[32]⟩] wr fun e w' => e = .returned (.string (str (dkL l))) ∧ Below wr.heap.size wr w') := by
        have hlen : (dkB l).length = l.length := by simp [dkB]
        have e1 : (dkB l).map (·.data.toList) = l.map Lib.itoa := by simp [dkB, str_data, Function.comp_def]
        have h := strings_Join b2 0 cap (dkB l) ⟨#[32]⟩ wr (fun j x hx => by
          have hx' : (dkV l)[j]? = some (.string x) := by
            unfold dkB at hx
            unfold dkV
            rw [List.getElem?_map] at hx ⊢
            cases h : l[j]? with
            | none => rw [h] at hx; cases hx
            | some y => rw [h] at hx; injection hx with hx; rw [← hx]; rfl
          obtain ⟨b', o', e, hb', hc⟩ := (Row.of_own HO.out).open_ (fun e => by rw [e] at hx'; cases hx')
          injection e with e
          injection e with e3 e4 _
          subst e3 e4
          exact hc j _ hx') hlt2 (by rw [hlen]; omega) (by rw [hlen]; exact hcap) (by
            rw [e1, show (⟨#[32]⟩ : ByteArray).data.toList = [32] from rfl]
            have := HJl.out
            unfold dkL at this
            omega)
        rw [hlen, e1] at h
        exact h
      clear hn' hlt2
      go_wp2_with fail
      refine HJ.out.mono ?_
      rintro e w2 ⟨rfl, hb2⟩
      have HB2 := Lib.hid (below_then hbr.out hb2)
      clear hb2 HJ
      go_wp2_with fail
      go_ret
      exact ⟨rfl, HB2.out⟩
    have hcell := (hbr.out.cell (p := ⟨b, o + j, none⟩) hbl).trans (ints_cell HCs.out j hlt)
    have HI := Lib.hid (HIt.out j hlt wr hbr.out)
    have HT := Lib.hid (dkV_take l j hlt)
    obtain ⟨x, hx⟩ : ∃ x, x = l.getD j 0 := ⟨_, rfl⟩
    rw [← hx] at hcell HI HT
    clear hx
    go_wp2_with fail
    refine HI.out.mono ?_
    rintro e w2 ⟨rfl, hb2⟩
    have hown2 := own_next hown.out hb2
    have HB2 := Lib.hid (below_then hbr.out hb2)
    have hsz2 := HB2.out.size
    clear hb2 HI hown hcell
    generalize str (Lib.itoa x) = X at *
    go_wp2_with (at_builtin; refine wpList_append_own _ rfl (.tmp 12) (.tmp 15) 33 rfl w.heap.size 9 i0 (.string ⟨#[]⟩) 1 16 Tryz.underlying33 hi0 hz0 hz1 hz2 rfl (by decide) u3 j _ rfl (hown2.alloc _) ⟨w2.heap.size, 0, none⟩ 1 1 [.string X] rfl rfl (cell_one_new _ _ _) (one_strK _) ?c3 ?c4 ?c5 ?_)
    case c3 => first | omega | (simp only [maxLen]; omega) | (simp; omega)
    case c4 => first | omega | (simp only [maxLen]; omega) | (simp; omega)
    case c5 => first | omega | (simp only [World.size_alloc]; omega) | (simp; omega)
    intro v' w6 hown6 hgrow _
    have HO : Hid (w6.ownsRow w.heap.size 9 1 v' (j + 1) (dkV (l.take (j + 1)))) := by
      unfold Hid
      rw [HT.out]
      exact hown6
    have HB6 : Hid (Below w.heap.size w w6) := (HB2.out.alloc hsz2 _).grown hgrow (by simp only [World.size_alloc]; omega) (fun k hk => (own_lt hown2 k hk).1)
    clear hown6 hgrow hown2 HT
    go_wp2_with fail
    go_roundw
    case rel => exact ⟨j + 1, by omega, by go_num, HO, HB6⟩
    case measure => simp [intOf]; omega
end Go.Proofs.YtcommodbjjdbmaaGreatDoor

/- Contract of desk.read at names and numbers. -/
namespace Go.Proofs.YtcommodbjjdbmaaGreatDoor
open Go Go.RowKit
set_option linter.unusedVariables false

/-- a word of a command: a name or a number -/
inductive DkIt where
  | s (t : List UInt8)
  | n (k : Int)
def DkIt.txt : DkIt → List UInt8
  | .s t => t
  | .n k => Lib.itoa k
def DkIt.form : DkIt → UInt8
  | .s _ => 115
  | .n _ => 110
def DkIt.ok : DkIt → Prop
  | .s t => (∀ b ∈ t, b ≠ 32) ∧ t.length ≤ 1000
  | .n k => -1000000000000000 ≤ k ∧ k ≤ 1000000000000000
def dkTx : List DkIt → List UInt8
  | [] => []
  | [a] => a.txt
  | a :: b :: l => a.txt ++ 32 :: dkTx (b :: l)
def dkNm : List DkIt → List (List UInt8)
  | [] => []
  | .s t :: l => t :: dkNm l
  | .n _ :: l => dkNm l
def dkNs : List DkIt → List Int
  | [] => []
  | .s _ :: l => dkNs l
  | .n k :: l => k :: dkNs l
theorem dkNm_app : ∀ (l r : List DkIt), dkNm (l ++ r) = dkNm l ++ dkNm r
  | [], r => rfl
  | .s t :: l, r => by show t :: dkNm (l ++ r) = t :: (dkNm l ++ dkNm r); rw [dkNm_app l r]
  | .n _ :: l, r => dkNm_app l r
theorem dkNs_app : ∀ (l r : List DkIt), dkNs (l ++ r) = dkNs l ++ dkNs r
  | [], r => rfl
  | .s _ :: l, r => dkNs_app l r
  | .n k :: l, r => by show k :: dkNs (l ++ r) = k :: (dkNs l ++ dkNs r); rw [dkNs_app l r]
theorem dkNm_len : ∀ l : List DkIt, (dkNm l).length ≤ l.length
  | [] => Nat.le_refl _
  | .s t :: l => by have := dkNm_len l; show (dkNm l).length + 1 ≤ l.length + 1; omega
  | .n _ :: l => by have := dkNm_len l; show (dkNm l).length ≤ l.length + 1; omega
theorem dkNs_len : ∀ l : List DkIt, (dkNs l).length ≤ l.length
  | [] => Nat.le_refl _
  | .s t :: l => by have := dkNs_len l; show (dkNs l).length ≤ l.length + 1; omega
  | .n _ :: l => by have := dkNs_len l; show (dkNs l).length + 1 ≤ l.length + 1; omega
theorem DkIt.ok.no {x : DkIt} (h : x.ok) : ∀ b ∈ x.txt, b ≠ 32 := by
  cases x with
  | s t => exact h.1
  | n k => exact itoa_no k 32 (by decide)
theorem DkIt.ok.len {x : DkIt} (h : x.ok) : x.txt.length ≤ 1000 := by
  cases x with
  | s t => exact h.2
  | n k =>
    have := Lib.itoa_length_le k (by unfold DkIt.ok at h; omega) (by unfold DkIt.ok at h; omega)
    show (Lib.itoa k).length ≤ 1000
    omega
theorem dkTx_len : ∀ l : List DkIt, (∀ x ∈ l, x.ok) → (dkTx l).length ≤ l.length * 1001
  | [], _ => Nat.le_refl _
  | [a], h => by have := (h a (by simp)).len; show a.txt.length ≤ 1 * 1001; omega
  | a :: b :: l, h => by
    have h1 := (h a (by simp)).len
    have h2 := dkTx_len (b :: l) (fun x hx => h x (by simp only [List.mem_cons] at hx ⊢; exact .inr hx))
    show (a.txt ++ 32 :: dkTx (b :: l)).length ≤ (l.length + 1 + 1) * 1001
    rw [List.length_append, List.length_cons]
    simp only [List.length_cons] at h2
    omega
theorem dk_cut (a : DkIt) (l : List DkIt) (h : a.ok) : Lib.cut (dkTx (a :: l)) [32] = (a.txt, dkTx l, !l.isEmpty) := by
  cases l with
  | nil => exact cut_no 32 a.txt h.no
  | cons b r => exact cut_at 32 a.txt (dkTx (b :: r)) h.no
theorem run_at (F : ByteArray) (j : Nat) (b : UInt8) (h : F.data.toList[j]? = some b) (W : World) : (Instr.index 9 (.string F) (.int .i64 (j : Int))).run Tryz.prog W = .ok (.int .u8 (b.toNat : Int)) W := by
  obtain ⟨hl, e⟩ := List.getElem?_eq_some_iff.1 h
  have hs : j < F.size := by simpa using hl
  have hj2 : F[j]? = some b := by
    rw [getElem?_pos F j hs]
    congr 1
  simp [Instr.index, run_underlying Tryz.underlying9, asIntOf, go_sem, hj2]
/-- the names as cells -/
def strV (l : List (List UInt8)) : List Value := l.map fun t => .string (str t)
theorem strV_snoc (l : List (List UInt8)) (x : List UInt8) : strV (l ++ [x]) = strV l ++ [.string (str x)] := by simp [strV]
theorem dk_ints_snoc (l : List Int) (x : Int) : ints (l ++ [x]) = ints l ++ [.int .i64 x] := by simp [ints]
/-- what lies in memory while read works -/
structure RdSt (w : World) (g : Nat) (wr : World) (ms : List (List UInt8)) (ss : List Int) (v u : Value) : Prop where
  bz : Box wr g 60 #[.slice none 0 0, .slice none 0 0, .string ⟨#[]⟩]
  bt : Box wr (g + 1) 60 #[v, u, .string ⟨#[]⟩]
  o1 : wr.ownsRow (g + 2) 9 1 v ms.length (strV ms)
  o2 : wr.ownsRow (g + 2) 3 1 u ss.length (ints ss)
  ap : ∀ b, v.ownBlock = some b → u.ownBlock ≠ some b
  gw : w.heap.size = g
  be : Below w.heap.size w wr
section
variable {w wr w' : World} {g : Nat} {ms : List (List UInt8)} {ss : List Int} {v u : Value}
theorem RdSt.next (h : RdSt w g wr ms ss v u) (hb : Below wr.heap.size wr w') : RdSt w g w' ms ss v u :=
  ⟨h.bz.below hb, h.bt.below hb, own_next h.o1 hb, own_next h.o2 hb, h.ap, h.gw, below_then h.be hb⟩
theorem RdSt.app1 (h : RdSt w g wr ms ss v u) (x : List UInt8) {gg cap : Nat} (hown : w'.ownsRow (g + 2) 9 1 (.slice (some ⟨gg, 0, none⟩) (ms.length + 1) cap) (ms.length + 1) (strV ms ++ [.string (str x)]))
    (hg : (wr.alloc (.cells #[.string (str x)] 9)).grownBy w' v.ownBlock) (hat : v.ownBlock = some gg ∨ gg = wr.heap.size + 1) :
    RdSt w g (w'.setCell ⟨g + 1, 0, none⟩ (.slice (some ⟨gg, 0, none⟩) (ms.length + 1) cap)) (ms ++ [x]) ss (.slice (some ⟨gg, 0, none⟩) (ms.length + 1) cap) u := by
  have hgt := h.bt.lt
  have hne : ∀ b, b ≤ g + 1 → some b ≠ v.ownBlock := fun b hb e => by have := (own_lt h.o1 b e.symm).1; omega
  have hgg : g + 2 ≤ gg := by
    rcases hat with e | e
    · exact (own_lt h.o1 gg e).1
    · omega
  refine ⟨((h.bz.alloc _).grown hg (hne g (by omega))).far (p := ⟨g + 1, 0, none⟩) (show g ≠ g + 1 by omega) _, ((h.bt.alloc _).grown hg (hne (g + 1) (by omega))).set_ 0 _, ?_, ?_, ?_, h.gw, ?_⟩
  · rw [strV_snoc, List.length_append]
    exact own_set hown _ _ (by show g + 1 < g + 2; omega)
  · refine own_set (own_heap h.o2 fun b hb => ?_) _ _ (by show g + 1 < g + 2; omega)
    have hbl := own_lt h.o2 b hb
    have hnv : some b ≠ v.ownBlock := fun e => h.ap b e.symm hb
    rw [hg.block b (by simp; omega) hnv]
    exact Below.heap_alloc wr _ b hbl.2
  · intro b hb hu
    have hb' : gg = b := by simpa [Value.ownBlock] using hb
    subst hb'
    rcases hat with e | e
    · exact h.ap gg e hu
    · have := (own_lt h.o2 gg hu).2; omega
  · have hz := h.be.size
    refine Below.setCell ((h.be.alloc hz _).grown hg (by simp; omega) (fun k hk => ?_)) (p := ⟨g + 1, 0, none⟩) (by show w.heap.size ≤ g + 1; have := h.gw; omega) _
    have := (own_lt h.o1 k hk).1
    have := h.gw
    omega
theorem RdSt.app2 (h : RdSt w g wr ms ss v u) (x : Int) {gg cap : Nat} (hown : w'.ownsRow (g + 2) 3 1 (.slice (some ⟨gg, 0, none⟩) (ss.length + 1) cap) (ss.length + 1) (ints ss ++ [.int .i64 x]))
    (hg : (wr.alloc (.cells #[.int .i64 x] 3)).grownBy w' u.ownBlock) (hat : u.ownBlock = some gg ∨ gg = wr.heap.size + 1) :
    RdSt w g (w'.setCell ⟨g + 1, 1, none⟩ (.slice (some ⟨gg, 0, none⟩) (ss.length + 1) cap)) ms (ss ++ [x]) v (.slice (some ⟨gg, 0, none⟩) (ss.length + 1) cap) := by
  have hgt := h.bt.lt
  have hne : ∀ b, b ≤ g + 1 → some b ≠ u.ownBlock := fun b hb e => by have := (own_lt h.o2 b e.symm).1; omega
  have hgg : g + 2 ≤ gg := by
    rcases hat with e | e
    · exact (own_lt h.o2 gg e).1
    · omega
  refine ⟨((h.bz.alloc _).grown hg (hne g (by omega))).far (p := ⟨g + 1, 1, none⟩) (show g ≠ g + 1 by omega) _, ((h.bt.alloc _).grown hg (hne (g + 1) (by omega))).set_ 1 _, ?_, ?_, ?_, h.gw, ?_⟩
  · refine own_set (own_heap h.o1 fun b hb => ?_) _ _ (by show g + 1 < g + 2; omega)
    have hbl := own_lt h.o1 b hb
    have hnv : some b ≠ u.ownBlock := fun e => h.ap b hb e.symm
    rw [hg.block b (by simp; omega) hnv]
    exact Below.heap_alloc wr _ b hbl.2
  · rw [dk_ints_snoc, List.length_append]
    exact own_set hown _ _ (by show g + 1 < g + 2; omega)
  · intro b hb hu
    have hb' : gg = b := by simpa [Value.ownBlock] using hu
    subst hb'
    rcases hat with e | e
    · exact h.ap gg hb e
    · have := (own_lt h.o1 gg hb).2; omega
  · have hz := h.be.size
    refine Below.setCell ((h.be.alloc hz _).grown hg (by simp; omega) (fun k hk => ?_)) (p := ⟨g + 1, 1, none⟩) (by show w.heap.size ≤ g + 1; have := h.gw; omega) _
    have := (own_lt h.o2 k hk).1
    have := h.gw
    omega
end
theorem infoIntK : (Tryz.prog.info? 3).map (fun i => (i.zero, i.size, i.bytes)) = some (some (.int .i64 0), 1, 8) := by kernel_rfl
theorem news_oneK (w : World) (x : Value) (t : TypeId) : ∀ j u, [x][j]? = some u → (w.alloc (.cells #[x] t)).cell? ((⟨w.heap.size, 0, none⟩ : Addr).add j) = some u :=
  World.news_of_block (cs := #[x]) (t := t) (fr := (0, 0)) (heap_alloc_new w _)
def ReadQ (nms : List (List UInt8)) (ns : List Int) (w : World) (e : Ending) (w' : World) : Prop :=
  ∃ (A1 : Option Addr) (c1 : Nat) (A2 : Option Addr) (c2 : Nat), e = .returned (.tuple #[.agg #[.slice A1 nms.length c1, .slice A2 ns.length c2, .string ⟨#[]⟩], .bool true]) ∧ Row w' w'.heap.size A1 (strV nms) ∧ Row w' w'.heap.size A2 (ints ns) ∧ Below w.heap.size w w'
set_option maxHeartbeats 8000000 in
set_option maxRecDepth 100000 in
theorem read_any (its : List DkIt) (h1 : 0 < its.length) (hl : its.length ≤ 8) (hok : ∀ x ∈ its, x.ok) (w : World) (hp : Pow w) (hsh : Shp w) :
    Calls Tryz.prog 22 #[.string (str (its.map DkIt.form)), .string (str (dkTx its)), .bool true] w (ReadQ (dkNm its) (dkNs its) w) := by
  obtain ⟨i0, hi0, hz0, hz1, hz2⟩ := info_parts infoStrK
  obtain ⟨i1, hi1, hz3, hz4, hz5⟩ := info_parts infoIntK
  have HP := Lib.hid (fun W (h : Below w.heap.size w W) => hp.next h)
  have HS := Lib.hid (fun W (h : Below w.heap.size w W) => hsh.next h)
  have HOk := Lib.hid hok
  obtain ⟨F, hF⟩ : ∃ F, F = str (its.map DkIt.form) := ⟨_, rfl⟩
  have hFs : F.size = its.length := by rw [hF, str_size, List.length_map]
  have HIx : Hid (∀ (j : Nat) (h : j < its.length) W, (Instr.index 9 (.string F) (.int .i64 (j : Int))).run Tryz.prog W = .ok (.int .u8 (its[j].form.toNat : Int)) W) := fun j h W => by
    refine run_at F j _ ?_ W
    rw [hF, str_data, List.getElem?_map, List.getElem?_eq_getElem h]
    rfl
  rw [← hF]
  obtain ⟨N, hN⟩ : ∃ N, N = its.length := ⟨_, rfl⟩
  rw [← hN] at hFs h1 hl
  have HN := Lib.hid hN
  clear hok hF hN hp hsh
  have hx := (Box.new w 60 #[.slice none 0 0, .slice none 0 0, .string ⟨#[]⟩]).alloc (Obj.cells #[.slice none 0 0, .slice none 0 0, .string ⟨#[]⟩] 60)
  have hy := Box.new (w.alloc (Obj.cells #[.slice none 0 0, .slice none 0 0, .string ⟨#[]⟩] 60)) 60 #[.slice none 0 0, .slice none 0 0, .string ⟨#[]⟩]
  rw [World.size_alloc] at hy
  have hb := below_alloc2 w (Obj.cells #[.slice none 0 0, .slice none 0 0, .string ⟨#[]⟩] 60) (Obj.cells #[.slice none 0 0, .slice none 0 0, .string ⟨#[]⟩] 60)
  unfold ReadQ
  go_enter Tryz.func22, Tryz.ntmps22
  go_upto_region 2 with fail
  generalize (w.alloc (Obj.cells #[.slice none 0 0, .slice none 0 0, .string ⟨#[]⟩] 60)).alloc (Obj.cells #[.slice none 0 0, .slice none 0 0, .string ⟨#[]⟩] 60) = W0 at *
  obtain ⟨g, hg⟩ : ∃ g, g = w.heap.size := ⟨_, rfl⟩
  rw [← hg] at hx hy ⊢
  have HS0 : Hid (RdSt w g W0 [] [] (.slice none 0 0) (.slice none 0 0)) := ⟨hx, hy, World.ownsRow_nil _ _ _ _, World.ownsRow_nil _ _ _ _, fun b hb => by simp [Value.ownBlock] at hb, hg.symm, by exact hb⟩
  have HG := Lib.hid hg
  clear hg hx hy hb
  go_upto_region 3 with fail
  go_loopw [1, 2, 9, 10, 11, 12, 15] (fun s m _ _ _ _ i wr => ∃ (j : Nat) (v u : Value), j ≤ N ∧ s = .string (str (dkTx (its.drop j))) ∧ m = .bool (decide (j < N)) ∧ i = .int .i64 (j : Int) ∧ Hid (RdSt w g wr (dkNm (its.take j)) (dkNs (its.take j)) v u)) (fun _ _ _ _ _ _ i _ => N - (intOf i).toNat)
  case atStart => exact ⟨0, _, _, by omega, rfl, by rw [decide_eq_true (by omega)], rfl, HS0⟩
  case round =>
    clear HS0
    obtain ⟨j, v, u, hj, rfl, rfl, rfl, HR⟩ := hrel
    by_cases hlt : j < N
    · have t1 : decide ((j : Int) < (N : Int)) = true := decide_eq_true (by omega)
      have t2 : decide (j < N) = true := decide_eq_true hlt
      have hjl : j < its.length := by rw [← HN.out]; exact hlt
      obtain ⟨x, hx⟩ : ∃ x, x = its[j] := ⟨_, rfl⟩
      have hxok : x.ok := by rw [hx]; exact HOk.out _ (List.getElem_mem hjl)
      have hdr : its.drop j = x :: its.drop (j + 1) := by rw [hx]; exact List.drop_eq_getElem_cons hjl
      have htk : its.take (j + 1) = its.take j ++ [x] := by rw [hx, List.take_append_getElem]
      have hix := HIx.out j hjl
      rw [← hx] at hix
      have hemp : (!(its.drop (j + 1)).isEmpty) = decide (j + 1 < N) := by
        rw [HN.out]
        by_cases q : j + 1 < its.length
        · rw [decide_eq_true q, List.drop_eq_getElem_cons q]; rfl
        · rw [decide_eq_false q, List.drop_eq_nil_of_le (by omega)]; rfl
      have HC : Hid (∀ W, Below w.heap.size w W → Calls Tryz.prog 20 #[.string (str (dkTx (its.drop j))), .string ⟨#[32]⟩] W fun e w' => e = .returned (.tuple #[.string (str x.txt), .string (str (dkTx (its.drop (j + 1)))), .bool (decide (j + 1 < N))]) ∧ Below W.heap.size W w') := fun W hW => by
        have hlen := dkTx_len (its.drop j) (fun y hy => HOk.out y (List.mem_of_mem_drop hy))
        rw [List.length_drop] at hlen
        have := cutc_any (str (dkTx (its.drop j))) 32 W (by rw [str_size]; have := HN.out; omega) (HS.out W hW)
        rw [str_data, hdr, dk_cut x _ hxok] at this
        rw [hdr]
        rw [hemp] at this
        exact this
      have HT := Lib.hid htk
      have hn1 := dkNm_len (its.take j)
      have hn2 := dkNs_len (its.take j)
      rw [List.length_take] at hn1 hn2
      have hn1' : (dkNm (its.take j)).length ≤ 8 := by omega
      have hn2' : (dkNs (its.take j)).length ≤ 8 := by omega
      generalize str (dkTx (its.drop j)) = S0 at *
      obtain ⟨S1, hS1⟩ : ∃ S1, S1 = str (dkTx (its.drop (j + 1))) := ⟨_, rfl⟩
      rw [← hS1] at HC
      have HS1 := Lib.hid hS1
      clear hS1
      clear hdr htk hemp hjl hx hn1 hn2
      cases x with
      | s t =>
        have hz1' : ((DkIt.s t).form.toNat : Int) = 115 := rfl
        rw [hz1'] at hix
        clear hz1' hxok
        go_upto_region 13 with (go_at_call 20; refine (HC.out _ HR.out.be).mono ?_; rintro e w3 ⟨rfl, hb3⟩)
        have hr3 := HR.out.next hb3
        have z0 : w3.cell? ⟨g + 1, 0, none⟩ = some v := hr3.bt.cell 0
        have zl := hr3.bt.lt
        have zf : w3.frozen? ⟨g + 1, 0, none⟩ = false := hr3.bt.free 0
        have HR3 := Lib.hid hr3
        clear hr3 hb3 HC HR
        obtain ⟨m, hm⟩ : ∃ m, m = (dkNm (its.take j)).length := ⟨_, rfl⟩
        have HM := Lib.hid hm
        rw [← hm] at hn1'
        clear hm
        have hown : w3.ownsRow (g + 2) 9 1 v m (strV (dkNm (its.take j))) := by rw [HM.out]; exact HR3.out.o1
        have HOw := Lib.hid hown
        clear hown
        have hg3 : g + 2 ≤ w3.heap.size := by omega
        go_wp2_with (at_builtin; refine wpList_append_lies _ rfl (.tmp 39) (.tmp 41) 33 rfl (g + 2) 9 i0 (.string ⟨#[]⟩) 1 16 Tryz.underlying33 hi0 hz0 hz1 hz2 rfl (by decide) v m _ rfl (HOw.out.alloc _) ⟨w3.heap.size, 0, none⟩ 1 1 [.string (str t)] rfl rfl ?c1 ?c2 (by decide) ?c3 ?c4 ?c5 (w3.heap.size + 1) ?c6 ?_)
        case c1 => exact news_oneK w3 _ _
        case c2 => exact one_strK _
        case c3 => simp only [maxLen]; omega
        case c4 => omega
        case c5 => simp; omega
        case c6 => simp
        intro gg cap w4 hown' hgrow hat hlt4
        have hne4 : some (g + 1) ≠ v.ownBlock := fun e => by have := (own_lt HOw.out (g + 1) e.symm).1; omega
        have hbt4 := (HR3.out.bt.alloc (Obj.cells #[.string (str t)] 9)).grown hgrow hne4
        have z0' : w4.cell? ⟨g + 1, 0, none⟩ = some v := hbt4.cell 0
        have zf' : w4.frozen? ⟨g + 1, 0, none⟩ = false := hbt4.free 0
        have HR4 := Lib.hid (HR3.out.app1 t (by rw [← HM.out]; exact hown') hgrow hat)
        rw [← HM.out] at HR4
        clear hown' hgrow hat hne4 hbt4 HR3 HOw z0 zf
        have HR5 : Hid (RdSt w g (w4.setCell ⟨g + 1, 0, none⟩ (.slice (some ⟨gg, 0, none⟩) (m + 1) cap)) (dkNm (its.take (j + 1))) (dkNs (its.take (j + 1))) (.slice (some ⟨gg, 0, none⟩) (m + 1) cap) u) := by
          unfold Hid
          rw [HT.out, dkNm_app, dkNs_app]
          show RdSt w g _ (dkNm (its.take j) ++ [t]) (dkNs (its.take j) ++ []) _ u
          rw [List.append_nil]
          exact HR4.out
        clear HR4
        go_wp2_with fail
        go_roundw
        case rel => exact ⟨j + 1, _, _, by omega, by rw [HS1.out], rfl, by go_num, HR5⟩
        case measure => simp [intOf]; omega
      | n k =>
        have hz1' : ((DkIt.n k).form.toNat : Int) = 110 := rfl
        rw [hz1'] at hix
        have hkb : -1000000000000000 ≤ k ∧ k ≤ 1000000000000000 := hxok
        clear hz1' hxok
        have HA := Lib.hid (fun W => atoi_num k W (by omega))
        have HI := Lib.hid (fun W (hW : Below w.heap.size w W) => itoa_any k W (by omega) (by omega) (HP.out W hW))
        have k1 : decide (k < -1000000000000000) = false := decide_eq_false (by omega)
        have k2 : decide (1000000000000000 < k) = false := decide_eq_false (by omega)
        have htx : (DkIt.n k).txt = Lib.itoa k := rfl
        rw [htx] at HC
        clear htx
        generalize str (Lib.itoa k) = S2 at *
        go_wp2_with (go_at_call 20; refine (HC.out _ HR.out.be).mono ?_; rintro e w3 ⟨rfl, hb3⟩)
        have HR3 := Lib.hid (HR.out.next hb3)
        clear hb3 HC HR
        go_wp2_with (go_at_call 39; refine (HA.out _).mono ?_; rintro e w4 ⟨rfl, hb4⟩)
        have HR4 := Lib.hid (HR3.out.next hb4)
        clear hb4 HA HR3
        go_upto_region 17 with (go_at_call 12; refine (HI.out _ HR4.out.be).mono ?_; rintro e w5 ⟨rfl, hb5⟩)
        have hr5 := HR4.out.next hb5
        have z0 : w5.cell? ⟨g + 1, 1, none⟩ = some u := hr5.bt.cell 1
        have zl := hr5.bt.lt
        have zf : w5.frozen? ⟨g + 1, 1, none⟩ = false := hr5.bt.free 1
        have HR5 := Lib.hid hr5
        clear hr5 hb5 HI HR4
        obtain ⟨m, hm⟩ : ∃ m, m = (dkNs (its.take j)).length := ⟨_, rfl⟩
        have HM := Lib.hid hm
        rw [← hm] at hn2'
        clear hm
        have hown : w5.ownsRow (g + 2) 3 1 u m (ints (dkNs (its.take j))) := by rw [HM.out]; exact HR5.out.o2
        have HOw := Lib.hid hown
        clear hown
        have hg3 : g + 2 ≤ w5.heap.size := by omega
        go_wp2_with (at_builtin; refine wpList_append_lies _ rfl (.tmp 67) (.tmp 69) 48 rfl (g + 2) 3 i1 (.int .i64 0) 1 8 Tryz.underlying48 hi1 hz3 hz4 hz5 rfl (by decide) u m _ rfl (HOw.out.alloc _) ⟨w5.heap.size, 0, none⟩ 1 1 [.int .i64 k] rfl rfl ?c1 ?c2 (by decide) ?c3 ?c4 ?c5 (w5.heap.size + 1) ?c6 ?_)
        case c1 => exact news_oneK w5 _ _
        case c2 => intro u hu; simp at hu; subst hu; rfl
        case c3 => simp only [maxLen]; omega
        case c4 => omega
        case c5 => simp; omega
        case c6 => simp
        intro gg cap w6 hown' hgrow hat hlt4
        have hne4 : some (g + 1) ≠ u.ownBlock := fun e => by have := (own_lt HOw.out (g + 1) e.symm).1; omega
        have hbt4 := (HR5.out.bt.alloc (Obj.cells #[.int .i64 k] 3)).grown hgrow hne4
        have z0' : w6.cell? ⟨g + 1, 1, none⟩ = some u := hbt4.cell 1
        have zf' : w6.frozen? ⟨g + 1, 1, none⟩ = false := hbt4.free 1
        have HR6 := Lib.hid (HR5.out.app2 k (by rw [← HM.out]; exact hown') hgrow hat)
        rw [← HM.out] at HR6
        clear hown' hgrow hat hne4 hbt4 HR5 HOw z0 zf
        have HR7 : Hid (RdSt w g (w6.setCell ⟨g + 1, 1, none⟩ (.slice (some ⟨gg, 0, none⟩) (m + 1) cap)) (dkNm (its.take (j + 1))) (dkNs (its.take (j + 1))) v (.slice (some ⟨gg, 0, none⟩) (m + 1) cap)) := by
          unfold Hid
          rw [HT.out, dkNm_app, dkNs_app]
          show RdSt w g _ (dkNm (its.take j) ++ []) (dkNs (its.take j) ++ [k]) v _
          rw [List.append_nil]
          exact HR6.out
        clear HR6
        go_wp2_with fail
        go_roundw
        case rel => exact ⟨j + 1, _, _, by omega, by rw [HS1.out], rfl, by go_num, HR7⟩
        case measure => simp [intOf]; omega
    · obtain rfl : j = N := by omega
      have t1 : decide ((j : Int) < (j : Int)) = false := decide_eq_false (by omega)
      have t2 : decide (j < j) = false := decide_eq_false (by omega)
      rw [HN.out, List.take_length] at HR
      have x0 : wr.cell? ⟨g + 1, 0, none⟩ = some v := HR.out.bt.cell 0
      have x1 : wr.cell? ⟨g + 1, 1, none⟩ = some u := HR.out.bt.cell 1
      have x2 : wr.cell? ⟨g + 1, 2, none⟩ = some (.string ⟨#[]⟩) := HR.out.bt.cell 2
      have xl := HR.out.bt.lt
      have y0 : wr.cell? ⟨g, 0, none⟩ = some (.slice none 0 0) := HR.out.bz.cell 0
      have y1 : wr.cell? ⟨g, 1, none⟩ = some (.slice none 0 0) := HR.out.bz.cell 1
      have y2 : wr.cell? ⟨g, 2, none⟩ = some (.string ⟨#[]⟩) := HR.out.bz.cell 2
      have yf := fun i => HR.out.bz.free i
      have yl := HR.out.bz.lt
      obtain ⟨A1, c1, rfl, _⟩ := own_form HR.out.o1
      obtain ⟨A2, c2, rfl, _⟩ := own_form HR.out.o2
      have hB : Below w.heap.size w (((wr.setCell ⟨g, 0, none⟩ (.slice A1 (dkNm its).length c1)).setCell ⟨g, 1, none⟩ (.slice A2 (dkNs its).length c2)).setCell ⟨g, 2, none⟩ (.string ⟨#[]⟩)) := ((HR.out.be.setCell (p := ⟨g, 0, none⟩) (by have := HR.out.gw; show w.heap.size ≤ g; omega) _).setCell (p := ⟨g, 1, none⟩) (by have := HR.out.gw; show w.heap.size ≤ g; omega) _).setCell (p := ⟨g, 2, none⟩) (by have := HR.out.gw; show w.heap.size ≤ g; omega) _
      have hO1 : (((wr.setCell ⟨g, 0, none⟩ (.slice A1 (dkNm its).length c1)).setCell ⟨g, 1, none⟩ (.slice A2 (dkNs its).length c2)).setCell ⟨g, 2, none⟩ (.string ⟨#[]⟩)).ownsRow (g + 2) 9 1 (.slice A1 (dkNm its).length c1) (dkNm its).length (strV (dkNm its)) := own_set (own_set (own_set HR.out.o1 _ _ (by show g < g + 2; omega)) _ _ (by show g < g + 2; omega)) _ _ (by show g < g + 2; omega)
      have hO2 : (((wr.setCell ⟨g, 0, none⟩ (.slice A1 (dkNm its).length c1)).setCell ⟨g, 1, none⟩ (.slice A2 (dkNs its).length c2)).setCell ⟨g, 2, none⟩ (.string ⟨#[]⟩)).ownsRow (g + 2) 3 1 (.slice A2 (dkNs its).length c2) (dkNs its).length (ints (dkNs its)) := own_set (own_set (own_set HR.out.o2 _ _ (by show g < g + 2; omega)) _ _ (by show g < g + 2; omega)) _ _ (by show g < g + 2; omega)
      have HB := Lib.hid hB
      have HO1 := Lib.hid hO1
      have HO2 := Lib.hid hO2
      have HZ : Hid (Box (((wr.setCell ⟨g, 0, none⟩ (.slice A1 (dkNm its).length c1)).setCell ⟨g, 1, none⟩ (.slice A2 (dkNs its).length c2)).setCell ⟨g, 2, none⟩ (.string ⟨#[]⟩)) g 60 #[.slice A1 (dkNm its).length c1, .slice A2 (dkNs its).length c2, .string ⟨#[]⟩]) := ((HR.out.bz.set_ 0 _).set_ 1 _).set_ 2 _
      clear hB hO1 hO2 HR
      go_wp2_with fail
      generalize ((wr.setCell ⟨g, 0, none⟩ (.slice A1 (dkNm its).length c1)).setCell ⟨g, 1, none⟩ (.slice A2 (dkNs its).length c2)).setCell ⟨g, 2, none⟩ (.string ⟨#[]⟩) = W9 at *
      have r0 : W9.cell? ⟨g, 0, none⟩ = some (.slice A1 (dkNm its).length c1) := HZ.out.cell 0
      have r1 : W9.cell? ⟨g, 1, none⟩ = some (.slice A2 (dkNs its).length c2) := HZ.out.cell 1
      have r2 : W9.cell? ⟨g, 2, none⟩ = some (.string ⟨#[]⟩) := HZ.out.cell 2
      refine bodyPost_ret (v := .tuple #[.agg #[.slice A1 (dkNm its).length c1, .slice A2 (dkNs its).length c2, .string ⟨#[]⟩], .bool true]) (by simp [results, Tryz.results22, go_sem, r0, r1, r2]) rfl ?_
      exact ⟨A1, c1, A2, c2, rfl, Row.of_own HO1.out, Row.of_own HO2.out, HB.out⟩
end Go.Proofs.YtcommodbjjdbmaaGreatDoor

/- desk.dates at weekday, date, day, turn. -/
namespace Go.Proofs.YtcommodbjjdbmaaGreatDoor
open Go Go.RowKit
set_option linter.unusedVariables false

/-- an int that strconv.Itoa writes, within the desk's bounds -/
def DkN (n : Int) : Prop := -1000000000000000 ≤ n ∧ n ≤ 1000000000000000
def DkR (s : List UInt8) (w : World) (e : Ending) (w' : World) : Prop := e = .returned (.tuple #[.string (str s), .int .i64 0]) ∧ Below w.heap.size w w'
theorem nums1 (g c : Nat) (a : Int) (w : World) (hp : Pow w) (h : Box w g 3 #[.int .i64 a]) (ha : DkN a) :
    Calls Tryz.prog 46 #[.slice (some ⟨g, 0, none⟩) 1 1] w fun e w' => e = .returned (.string (str (dkL [a]))) ∧ Below w.heap.size w w' :=
  numbers_any (some ⟨g, 0, none⟩) 1 [a] w hp (Row.of_box h) (by show 0 < 1; omega) (by show 1 ≤ 31; omega) (fun x hx => by
    obtain rfl := List.mem_singleton.1 hx
    exact ⟨by have := ha.1; omega, by have := ha.2; omega⟩)
theorem nums3 (g : Nat) (a b c : Int) (w : World) (hp : Pow w) (h : Box w g 3 #[.int .i64 a, .int .i64 b, .int .i64 c]) (ha : DkN a) (hb : DkN b) (hc : DkN c) :
    Calls Tryz.prog 46 #[.slice (some ⟨g, 0, none⟩) 3 3] w fun e w' => e = .returned (.string (str (dkL [a, b, c]))) ∧ Below w.heap.size w w' :=
  numbers_any (some ⟨g, 0, none⟩) 3 [a, b, c] w hp (Row.of_box h) (by simp) (by show 3 ≤ 31; omega) (fun x hx => by
    have : x = a ∨ x = b ∨ x = c := by simpa using hx
    unfold DkN at *
    rcases this with rfl | rfl | rfl <;> omega)
theorem nums4 (g : Nat) (a b c d : Int) (w : World) (hp : Pow w) (h : Box w g 3 #[.int .i64 a, .int .i64 b, .int .i64 c, .int .i64 d]) (ha : DkN a) (hb : DkN b) (hc : DkN c) (hd : DkN d) :
    Calls Tryz.prog 46 #[.slice (some ⟨g, 0, none⟩) 4 4] w fun e w' => e = .returned (.string (str (dkL [a, b, c, d]))) ∧ Below w.heap.size w w' :=
  numbers_any (some ⟨g, 0, none⟩) 4 [a, b, c, d] w hp (Row.of_box h) (by simp) (by show 4 ≤ 31; omega) (fun x hx => by
    have : x = a ∨ x = b ∨ x = c ∨ x = d := by simpa using hx
    unfold DkN at *
    rcases this with rfl | rfl | rfl | rfl <;> omega)
abbrev wdC (A1 : Option Addr) (n1 c1 : Nat) (A2 : Option Addr) (n2 c2 : Nat) : Array Value := #[.slice A1 n1 c1, .slice A2 n2 c2, .string ⟨#[]⟩]
set_option maxHeartbeats 4000000 in
set_option maxRecDepth 100000 in
theorem dates_weekday (A1 : Option Addr) (n1 c1 : Nat) (A2 : Option Addr) (c2 : Nat) (a : Int) (w : World) (h2 : Row w w.heap.size A2 (ints [a])) (hp : Pow w) (ha : -4000000 ≤ a ∧ a ≤ 4000000) :
    Calls Tryz.prog 27 #[.string ⟨#[119, 101, 101, 107, 100, 97, 121]⟩, .agg #[.slice A1 n1 c1, .slice A2 1 c2, .string ⟨#[]⟩]] w (DkR (dkL [(a - 1) % 7]) w) := by
  have hx := Box.new w 60 #[.slice A1 n1 c1, .slice A2 1 c2, .string ⟨#[]⟩]
  have hb0 := below_alloc1 w (Obj.cells #[.slice A1 n1 c1, .slice A2 1 c2, .string ⟨#[]⟩] 60)
  obtain ⟨b, o, rfl, hbl, hcs⟩ := (h2.next hb0).open_ (ints_ne [a] (by show 0 < 1; omega))
  have hc0 := ints_cell hcs 0 (by show 0 < 1; omega)
  rw [Nat.add_zero] at hc0
  have hc0 : (w.alloc (Obj.cells #[.slice A1 n1 c1, .slice (some ⟨b, o, none⟩) 1 c2, .string ⟨#[]⟩] 60)).cell? ⟨b, o, none⟩ = some (.int .i64 a) := hc0
  have HP := Lib.hid (fun W (h : Below w.heap.size w W) => hp.next h)
  have HW := Lib.hid (fun W => Weekday_yes a W ha.1 ha.2)
  have HB0 := Lib.hid hb0
  unfold DkR
  clear h2 hcs hp hb0
  go_enter Tryz.func27, Tryz.ntmps27
  go_upto_region 1 with fail
  generalize w.alloc (Obj.cells #[.slice A1 n1 c1, .slice (some ⟨b, o, none⟩) 1 c2, .string ⟨#[]⟩] 60) = W0 at *
  obtain ⟨g, hg⟩ : ∃ g, g = w.heap.size := ⟨_, rfl⟩
  rw [← hg] at hx ⊢
  clear hg
  have x1 : W0.cell? ⟨g, 1, none⟩ = some (.slice (some ⟨b, o, none⟩) 1 c2) := hx.cell 1
  have xl := hx.lt
  go_upto_region 16 with (go_at_call 54; refine (HW.out _).mono ?_; rintro e w1 ⟨rfl, k, rfl⟩)
  have hb1 := below_alloc1 (W0.drewN k) (Obj.cells #[.int .i64 ((a - 1) % 7)] 3)
  have HB1 := Lib.hid (below_then HB0.out (below_then (below_drewN W0 k) hb1))
  have hp1 := HP.out _ HB1.out
  have HN := Lib.hid (nums1 (W0.drewN k).heap.size 1 ((a - 1) % 7) _ hp1 (Box.new (W0.drewN k) 3 #[.int .i64 ((a - 1) % 7)]) (by unfold DkN; omega))
  clear hp1 hb1 x1 xl hc0 hx
  go_wp2_with (go_at_call 46; refine HN.out.mono ?_; rintro e w2 ⟨rfl, hb2⟩)
  have HB2 := Lib.hid (below_then HB1.out hb2)
  clear hb2
  go_wp2_with fail
  go_ret2
  exact ⟨rfl, HB2.out⟩
set_option maxHeartbeats 4000000 in
set_option maxRecDepth 100000 in
theorem dates_day (A1 : Option Addr) (c1 : Nat) (A2 : Option Addr) (c2 : Nat) (nm : List UInt8) (y m d n : Int) (w : World) (h1 : Row w w.heap.size A1 (strV [nm])) (h2 : Row w w.heap.size A2 (ints [y, m, d])) (hp : Pow w) (hn : DkN n) (hD : ∀ W, Below w.heap.size w W → Calls Tryz.prog 53 #[.string (str nm), .agg #[.int .i64 y, .int .i64 m, .int .i64 d]] W fun e w' => e = .returned (.tuple #[.int .i64 n, .int .i64 0]) ∧ Below W.heap.size W w') :
    Calls Tryz.prog 27 #[.string ⟨#[100, 97, 121]⟩, .agg #[.slice A1 1 c1, .slice A2 3 c2, .string ⟨#[]⟩]] w (DkR (dkL [n]) w) := by
  have hx := Box.new w 60 #[.slice A1 1 c1, .slice A2 3 c2, .string ⟨#[]⟩]
  have hb0 := below_alloc1 w (Obj.cells #[.slice A1 1 c1, .slice A2 3 c2, .string ⟨#[]⟩] 60)
  obtain ⟨b1, o1, rfl, hbl1, hcs1⟩ := (h1.next hb0).open_ (by simp [strV])
  obtain ⟨b2, o2, rfl, hbl2, hcs2⟩ := (h2.next hb0).open_ (by simp [ints])
  have HP := Lib.hid (fun W (h : Below w.heap.size w W) => hp.next h)
  have HB0 := Lib.hid hb0
  have HD := Lib.hid hD
  have HN := Lib.hid hn
  unfold DkR
  clear h1 h2 hp hb0 hD hn
  go_enter Tryz.func27, Tryz.ntmps27
  go_upto_region 1 with fail
  generalize w.alloc (Obj.cells #[.slice (some ⟨b1, o1, none⟩) 1 c1, .slice (some ⟨b2, o2, none⟩) 3 c2, .string ⟨#[]⟩] 60) = W0 at *
  obtain ⟨g, hg⟩ : ∃ g, g = w.heap.size := ⟨_, rfl⟩
  rw [← hg] at hx ⊢
  clear hg
  have x0 : ∀ W, Below W0.heap.size W0 W → W.cell? ⟨g, 0, none⟩ = some (.slice (some ⟨b1, o1, none⟩) 1 c1) := fun W hW => (hx.below hW).cell 0
  have x1 : ∀ W, Below W0.heap.size W0 W → W.cell? ⟨g, 1, none⟩ = some (.slice (some ⟨b2, o2, none⟩) 3 c2) := fun W hW => (hx.below hW).cell 1
  have n0 : ∀ W, Below W0.heap.size W0 W → W.cell? ⟨b1, o1, none⟩ = some (.string (str nm)) := fun W hW => (hW.cell (p := ⟨b1, o1, none⟩) hbl1).trans (hcs1 0 _ rfl)
  have i0 : ∀ W, Below W0.heap.size W0 W → W.cell? ⟨b2, o2, none⟩ = some (.int .i64 y) := fun W hW => (hW.cell (p := ⟨b2, o2, none⟩) hbl2).trans (hcs2 0 _ rfl)
  have i1 : ∀ W, Below W0.heap.size W0 W → W.cell? ⟨b2, o2 + 1, none⟩ = some (.int .i64 m) := fun W hW => (hW.cell (p := ⟨b2, o2 + 1, none⟩) hbl2).trans (hcs2 1 _ rfl)
  have i2 : ∀ W, Below W0.heap.size W0 W → W.cell? ⟨b2, o2 + 2, none⟩ = some (.int .i64 d) := fun W hW => (hW.cell (p := ⟨b2, o2 + 2, none⟩) hbl2).trans (hcs2 2 _ rfl)
  go_upto_region 3 with fail
  generalize str nm = NM at *
  refine flow_begin (tellOf [(17, det (.tuple #[.int .i64 n, .int .i64 0]))]) (by kernel_rfl) (by kernel_rfl) ?_
  repeat (first | (refine flow_val (v := ?_) (by rfl) (by rfl) (fun w hb => ?_) ?_; rotate_left; (· ((go_simp) <;> ((repeat' apply And.intro) <;> with_reducible rfl))); try simp only [Act.put, List.setIfInBounds_toArray, List.set_cons_zero, List.set_cons_succ, Nat.reduceAdd]) | (refine flow_skip (by rfl) (by rfl) ?_; try simp only [Act.put, List.setIfInBounds_toArray, List.set_cons_zero, List.set_cons_succ, Nat.reduceAdd]))
  refine flow_call (f := ?_) (args := ?_) [] (by kernel_rfl) (by rfl) (by rfl) (fun w hb => ?_) (fun w hb hu => ?_) ?_; rotate_left 2; (· ((go_simp) <;> ((repeat' apply And.intro) <;> with_reducible rfl)))
  · exact HD.out w (below_then HB0.out hb)
  try simp only [Act.put, List.setIfInBounds_toArray, List.set_cons_zero, List.set_cons_succ, Nat.reduceAdd]
  repeat (first | (refine flow_val (v := ?_) (by rfl) (by rfl) (fun w hb => ?_) ?_; rotate_left; (· ((go_simp) <;> ((repeat' apply And.intro) <;> with_reducible rfl))); try simp only [Act.put, List.setIfInBounds_toArray, List.set_cons_zero, List.set_cons_succ, Nat.reduceAdd]) | (refine flow_skip (by rfl) (by rfl) ?_; try simp only [Act.put, List.setIfInBounds_toArray, List.set_cons_zero, List.set_cons_succ, Nat.reduceAdd]))
  refine flow_nil fun w1 hb1 _ => ?_
  have HB1 := Lib.hid (below_then HB0.out hb1)
  have hb2 := below_alloc1 w1 (Obj.cells #[.int .i64 n] 3)
  have HNu := Lib.hid (nums1 w1.heap.size 1 n _ (HP.out _ (below_then HB1.out hb2)) (Box.new w1 3 #[.int .i64 n]) HN.out)
  have HB2 := Lib.hid (below_then HB1.out hb2)
  clear x0 x1 n0 i0 i1 i2 hb1 hb2 hx hcs1 hcs2
  go_wp2_with (go_at_call 46; refine HNu.out.mono ?_; rintro e w2 ⟨rfl, hb3⟩)
  have HB3 := Lib.hid (below_then HB2.out hb3)
  clear hb3
  go_wp2_with fail
  go_ret2
  exact ⟨rfl, HB3.out⟩
set_option maxHeartbeats 4000000 in
set_option maxRecDepth 100000 in
theorem dates_date (A1 : Option Addr) (c1 : Nat) (A2 : Option Addr) (c2 : Nat) (nm : List UInt8) (n y m d : Int) (w : World) (h1 : Row w w.heap.size A1 (strV [nm])) (h2 : Row w w.heap.size A2 (ints [n])) (hp : Pow w) (hy : DkN y) (hm : DkN m) (hd : DkN d) (hD : ∀ W, Below w.heap.size w W → Calls Tryz.prog 6 #[.string (str nm), .int .i64 n] W fun e w' => e = .returned (.tuple #[.agg #[.int .i64 y, .int .i64 m, .int .i64 d], .int .i64 0]) ∧ Below W.heap.size W w') :
    Calls Tryz.prog 27 #[.string ⟨#[100, 97, 116, 101]⟩, .agg #[.slice A1 1 c1, .slice A2 1 c2, .string ⟨#[]⟩]] w (DkR (dkL [y, m, d]) w) := by
  have hx := Box.new w 60 #[.slice A1 1 c1, .slice A2 1 c2, .string ⟨#[]⟩]
  have hb0 := below_alloc1 w (Obj.cells #[.slice A1 1 c1, .slice A2 1 c2, .string ⟨#[]⟩] 60)
  obtain ⟨b1, o1, rfl, hbl1, hcs1⟩ := (h1.next hb0).open_ (by simp [strV])
  obtain ⟨b2, o2, rfl, hbl2, hcs2⟩ := (h2.next hb0).open_ (by simp [ints])
  have HP := Lib.hid (fun W (h : Below w.heap.size w W) => hp.next h)
  have HB0 := Lib.hid hb0
  have HD := Lib.hid hD
  have HN := Lib.hid (And.intro hy (And.intro hm hd))
  unfold DkR
  clear h1 h2 hp hb0 hD hy hm hd
  go_enter Tryz.func27, Tryz.ntmps27
  go_upto_region 1 with fail
  generalize w.alloc (Obj.cells #[.slice (some ⟨b1, o1, none⟩) 1 c1, .slice (some ⟨b2, o2, none⟩) 1 c2, .string ⟨#[]⟩] 60) = W0 at *
  obtain ⟨g, hg⟩ : ∃ g, g = w.heap.size := ⟨_, rfl⟩
  rw [← hg] at hx ⊢
  clear hg
  have x0 : ∀ W, Below W0.heap.size W0 W → W.cell? ⟨g, 0, none⟩ = some (.slice (some ⟨b1, o1, none⟩) 1 c1) := fun W hW => (hx.below hW).cell 0
  have x1 : ∀ W, Below W0.heap.size W0 W → W.cell? ⟨g, 1, none⟩ = some (.slice (some ⟨b2, o2, none⟩) 1 c2) := fun W hW => (hx.below hW).cell 1
  have n0 : ∀ W, Below W0.heap.size W0 W → W.cell? ⟨b1, o1, none⟩ = some (.string (str nm)) := fun W hW => (hW.cell (p := ⟨b1, o1, none⟩) hbl1).trans (hcs1 0 _ rfl)
  have i0 : ∀ W, Below W0.heap.size W0 W → W.cell? ⟨b2, o2, none⟩ = some (.int .i64 n) := fun W hW => (hW.cell (p := ⟨b2, o2, none⟩) hbl2).trans (hcs2 0 _ rfl)
  go_upto_region 6 with fail
  generalize str nm = NM at *
  refine flowW_begin (writeOf [(13, fun w w' => Only (fun k => W0.heap.size ≤ k) w w' ∧ ∀ q, BoxN w q 25 3 → BoxN w' q 25 3)]) (tellOf [(8, det (.tuple #[.agg #[.int .i64 y, .int .i64 m, .int .i64 d], .int .i64 0]))]) (by kernel_rfl) (by kernel_rfl) ?_ ?_
  · intro j T hT w1 w2 h12 hb
    obtain ⟨_, rfl⟩ := writeOf_one hT
    exact hb.trans (below_only _ h12.1 (fun k hk => by omega) hb.size)
  repeat (first | (refine flowW_val (v := ?_) (by rfl) (by rfl) (by rfl) (fun w hb => ?_) ?_; rotate_left; (· ((go_simp) <;> ((repeat' apply And.intro) <;> with_reducible rfl))); try simp only [Act.put, List.setIfInBounds_toArray, List.set_cons_zero, List.set_cons_succ, Nat.reduceAdd]) | (refine flowW_skip (by rfl) (by rfl) (by rfl) ?_; try simp only [Act.put, List.setIfInBounds_toArray, List.set_cons_zero, List.set_cons_succ, Nat.reduceAdd]))
  refine flowW_call (f := ?_) (args := ?_) [] (by kernel_rfl) (by rfl) (by rfl) (by rfl) (fun w hb => ?_) (fun w hb hu => ?_) ?_; rotate_left 2; (· ((go_simp) <;> ((repeat' apply And.intro) <;> with_reducible rfl)))
  · exact HD.out w (below_then HB0.out hb)
  try simp only [Act.put, List.setIfInBounds_toArray, List.set_cons_zero, List.set_cons_succ, Nat.reduceAdd]
  repeat (first | (refine flowW_val (v := ?_) (by rfl) (by rfl) (by rfl) (fun w hb => ?_) ?_; rotate_left; (· ((go_simp) <;> ((repeat' apply And.intro) <;> with_reducible rfl))); try simp only [Act.put, List.setIfInBounds_toArray, List.set_cons_zero, List.set_cons_succ, Nat.reduceAdd]) | (refine flowW_skip (by rfl) (by rfl) (by rfl) ?_; try simp only [Act.put, List.setIfInBounds_toArray, List.set_cons_zero, List.set_cons_succ, Nat.reduceAdd]))
  refine flowW_boxn (t := 25) (cs := dateC 0 0 0) (n := 3) (by rfl) (fun _ => keeps_one fun _ _ h hx => h.2 _ hx) (by rfl) (by rfl) (by rfl) (fun w hb => ?_) (fun ga hga => ?_); (· ((go_simp) <;> ((repeat' apply And.intro) <;> with_reducible rfl)))
  try simp only [Act.put, List.setIfInBounds_toArray, List.set_cons_zero, List.set_cons_succ, Nat.reduceAdd]
  refine flowW_store (F := fun w => Box w ga 25 (dateC y m d)) [12] (by kernel_rfl) keeps_own (by rfl) (by rfl) (by rfl) (fun w w' hb h => h.below hb) (fun w hb hu => ?_) ?_
  · obtain ⟨cs, hcs, hbx⟩ := usef_head hu
    match cs, hcs, hbx with
    | ⟨[d0, d1, d2]⟩, _, hbx =>
      have q0 : w.cell? ⟨ga, 0, none⟩ = some d0 := hbx.cell 0
      have q1 : w.cell? ⟨ga, 1, none⟩ = some d1 := hbx.cell 1
      have q2 : w.cell? ⟨ga, 2, none⟩ = some d2 := hbx.cell 2
      have qf : ∀ i, w.frozen? ⟨ga, i, none⟩ = false := fun i => hbx.free i
      have ql := hbx.lt
      refine ⟨((w.setCell ⟨ga, 0, none⟩ (.int .i64 y)).setCell ⟨ga, 1, none⟩ (.int .i64 m)).setCell ⟨ga, 2, none⟩ (.int .i64 d), by go_simp, ((hbx.set_ 0 (.int .i64 y)).set_ 1 (.int .i64 m)).set_ 2 (.int .i64 d), ((only_set _ ga 0 _ hga).trans (only_set _ ga 1 _ hga)).trans (only_set _ ga 2 _ hga), fun q hq => ?_⟩
      by_cases hqg : q = ga
      · subst hqg
        exact ⟨_, rfl, ((hbx.set_ 0 (.int .i64 y)).set_ 1 (.int .i64 m)).set_ 2 (.int .i64 d)⟩
      · obtain ⟨cs', e', hx'⟩ := hq
        exact ⟨cs', e', ((hx'.far (p := ⟨ga, 0, none⟩) hqg (.int .i64 y)).far (p := ⟨ga, 1, none⟩) hqg (.int .i64 m)).far (p := ⟨ga, 2, none⟩) hqg (.int .i64 d)⟩
  repeat (first | (refine flowW_val (v := ?_) (by rfl) (by rfl) (by rfl) (fun w hb => ?_) ?_; rotate_left; (· ((go_simp) <;> ((repeat' apply And.intro) <;> with_reducible rfl))); try simp only [Act.put, List.setIfInBounds_toArray, List.set_cons_zero, List.set_cons_succ, Nat.reduceAdd]) | (refine flowW_skip (by rfl) (by rfl) (by rfl) ?_; try simp only [Act.put, List.setIfInBounds_toArray, List.set_cons_zero, List.set_cons_succ, Nat.reduceAdd]))
  refine flow_nil fun w1 hb1 hf => ?_
  have hbd : Box w1 ga 25 (dateC y m d) := hf.1
  have q0 : w1.cell? ⟨ga, 0, none⟩ = some (.int .i64 y) := hbd.cell 0
  have q1 : w1.cell? ⟨ga, 1, none⟩ = some (.int .i64 m) := hbd.cell 1
  have q2 : w1.cell? ⟨ga, 2, none⟩ = some (.int .i64 d) := hbd.cell 2
  have ql := hbd.lt
  have HB1 := Lib.hid (below_then HB0.out hb1)
  have hb2 := below_alloc1 w1 (Obj.cells #[.int .i64 y, .int .i64 m, .int .i64 d] 3)
  have HNu := Lib.hid (nums3 w1.heap.size y m d _ (HP.out _ (below_then HB1.out hb2)) (Box.new w1 3 #[.int .i64 y, .int .i64 m, .int .i64 d]) HN.out.1 HN.out.2.1 HN.out.2.2)
  have HB2 := Lib.hid (below_then HB1.out hb2)
  clear x0 x1 n0 i0 hb1 hb2 hx hcs1 hcs2 hbd hf
  go_wp2_with (go_at_call 46; refine HNu.out.mono ?_; rintro e w2 ⟨rfl, hb3⟩)
  have HB3 := Lib.hid (below_then HB2.out hb3)
  clear hb3
  go_wp2_with fail
  go_ret2
  exact ⟨rfl, HB3.out⟩
set_option maxHeartbeats 4000000 in
set_option maxRecDepth 100000 in
theorem dates_turn (A1 : Option Addr) (c1 : Nat) (A2 : Option Addr) (c2 : Nat) (nm nk : List UInt8) (y m d n y2 m2 d2 : Int) (w : World) (h1 : Row w w.heap.size A1 (strV [nm, nk])) (h2 : Row w w.heap.size A2 (ints [y, m, d])) (hp : Pow w) (hn : DkN n) (hy : DkN y2) (hm : DkN m2) (hd : DkN d2) (hD : ∀ W, Below w.heap.size w W → Calls Tryz.prog 53 #[.string (str nm), .agg #[.int .i64 y, .int .i64 m, .int .i64 d]] W fun e w' => e = .returned (.tuple #[.int .i64 n, .int .i64 0]) ∧ Below W.heap.size W w') (hE : ∀ W, Below w.heap.size w W → Calls Tryz.prog 6 #[.string (str nk), .int .i64 n] W fun e w' => e = .returned (.tuple #[.agg #[.int .i64 y2, .int .i64 m2, .int .i64 d2], .int .i64 0]) ∧ Below W.heap.size W w') :
    Calls Tryz.prog 27 #[.string ⟨#[116, 117, 114, 110]⟩, .agg #[.slice A1 2 c1, .slice A2 3 c2, .string ⟨#[]⟩]] w (DkR (dkL [n, y2, m2, d2]) w) := by
  have hx := Box.new w 60 #[.slice A1 2 c1, .slice A2 3 c2, .string ⟨#[]⟩]
  have hb0 := below_alloc1 w (Obj.cells #[.slice A1 2 c1, .slice A2 3 c2, .string ⟨#[]⟩] 60)
  obtain ⟨b1, o1, rfl, hbl1, hcs1⟩ := (h1.next hb0).open_ (by simp [strV])
  obtain ⟨b2, o2, rfl, hbl2, hcs2⟩ := (h2.next hb0).open_ (by simp [ints])
  have HP := Lib.hid (fun W (h : Below w.heap.size w W) => hp.next h)
  have HB0 := Lib.hid hb0
  have HD := Lib.hid hD
  have HE := Lib.hid hE
  have HN := Lib.hid (And.intro hn (And.intro hy (And.intro hm hd)))
  unfold DkR
  clear h1 h2 hp hb0 hD hE hn hy hm hd
  go_enter Tryz.func27, Tryz.ntmps27
  go_upto_region 1 with fail
  generalize w.alloc (Obj.cells #[.slice (some ⟨b1, o1, none⟩) 2 c1, .slice (some ⟨b2, o2, none⟩) 3 c2, .string ⟨#[]⟩] 60) = W0 at *
  obtain ⟨g, hg⟩ : ∃ g, g = w.heap.size := ⟨_, rfl⟩
  rw [← hg] at hx ⊢
  clear hg
  have x0 : ∀ W, Below W0.heap.size W0 W → W.cell? ⟨g, 0, none⟩ = some (.slice (some ⟨b1, o1, none⟩) 2 c1) := fun W hW => (hx.below hW).cell 0
  have x1 : ∀ W, Below W0.heap.size W0 W → W.cell? ⟨g, 1, none⟩ = some (.slice (some ⟨b2, o2, none⟩) 3 c2) := fun W hW => (hx.below hW).cell 1
  have n0 : ∀ W, Below W0.heap.size W0 W → W.cell? ⟨b1, o1, none⟩ = some (.string (str nm)) := fun W hW => (hW.cell (p := ⟨b1, o1, none⟩) hbl1).trans (hcs1 0 _ rfl)
  have n1 : ∀ W, Below W0.heap.size W0 W → W.cell? ⟨b1, o1 + 1, none⟩ = some (.string (str nk)) := fun W hW => (hW.cell (p := ⟨b1, o1 + 1, none⟩) hbl1).trans (hcs1 1 _ rfl)
  have i0 : ∀ W, Below W0.heap.size W0 W → W.cell? ⟨b2, o2, none⟩ = some (.int .i64 y) := fun W hW => (hW.cell (p := ⟨b2, o2, none⟩) hbl2).trans (hcs2 0 _ rfl)
  have i1 : ∀ W, Below W0.heap.size W0 W → W.cell? ⟨b2, o2 + 1, none⟩ = some (.int .i64 m) := fun W hW => (hW.cell (p := ⟨b2, o2 + 1, none⟩) hbl2).trans (hcs2 1 _ rfl)
  have i2 : ∀ W, Below W0.heap.size W0 W → W.cell? ⟨b2, o2 + 2, none⟩ = some (.int .i64 d) := fun W hW => (hW.cell (p := ⟨b2, o2 + 2, none⟩) hbl2).trans (hcs2 2 _ rfl)
  go_upto_region 9 with fail
  generalize str nm = NM at *
  generalize str nk = NK at *
  refine flow_begin (tellOf [(17, det (.tuple #[.int .i64 n, .int .i64 0]))]) (by kernel_rfl) (by kernel_rfl) ?_
  repeat (first | (refine flow_val (v := ?_) (by rfl) (by rfl) (fun w hb => ?_) ?_; rotate_left; (· ((go_simp) <;> ((repeat' apply And.intro) <;> with_reducible rfl))); try simp only [Act.put, List.setIfInBounds_toArray, List.set_cons_zero, List.set_cons_succ, Nat.reduceAdd]) | (refine flow_skip (by rfl) (by rfl) ?_; try simp only [Act.put, List.setIfInBounds_toArray, List.set_cons_zero, List.set_cons_succ, Nat.reduceAdd]))
  refine flow_call (f := ?_) (args := ?_) [] (by kernel_rfl) (by rfl) (by rfl) (fun w hb => ?_) (fun w hb hu => ?_) ?_; rotate_left 2; (· ((go_simp) <;> ((repeat' apply And.intro) <;> with_reducible rfl)))
  · exact HD.out w (below_then HB0.out hb)
  try simp only [Act.put, List.setIfInBounds_toArray, List.set_cons_zero, List.set_cons_succ, Nat.reduceAdd]
  repeat (first | (refine flow_val (v := ?_) (by rfl) (by rfl) (fun w hb => ?_) ?_; rotate_left; (· ((go_simp) <;> ((repeat' apply And.intro) <;> with_reducible rfl))); try simp only [Act.put, List.setIfInBounds_toArray, List.set_cons_zero, List.set_cons_succ, Nat.reduceAdd]) | (refine flow_skip (by rfl) (by rfl) ?_; try simp only [Act.put, List.setIfInBounds_toArray, List.set_cons_zero, List.set_cons_succ, Nat.reduceAdd]))
  refine flow_nil fun w1 hb1 _ => ?_
  have HB1 := Lib.hid (below_then HB0.out hb1)
  have y0 := x0 w1 hb1
  have y1 := n1 w1 hb1
  have yl := (hx.below hb1).lt
  clear x0 x1 n0 n1 i0 i1 i2 hb1 hx hcs1 hcs2 HD
  go_upto_region 13 with (go_at_call 6; refine (HE.out _ HB1.out).mono ?_; rintro e w2 ⟨rfl, hb2⟩)
  have hbd := Box.new w2 25 #[.int .i64 y2, .int .i64 m2, .int .i64 d2]
  have hb3 := below_alloc1 w2 (Obj.cells #[.int .i64 y2, .int .i64 m2, .int .i64 d2] 25)
  have HB3 := Lib.hid (below_then (below_then HB1.out hb2) hb3)
  generalize w2.alloc (Obj.cells #[.int .i64 y2, .int .i64 m2, .int .i64 d2] 25) = W3 at *
  generalize w2.heap.size = ga at *
  clear hb2 hb3 y0 y1 yl HE
  have q0 : W3.cell? ⟨ga, 0, none⟩ = some (.int .i64 y2) := hbd.cell 0
  have q1 : W3.cell? ⟨ga, 1, none⟩ = some (.int .i64 m2) := hbd.cell 1
  have q2 : W3.cell? ⟨ga, 2, none⟩ = some (.int .i64 d2) := hbd.cell 2
  have ql := hbd.lt
  have hb4 := below_alloc1 W3 (Obj.cells #[.int .i64 n, .int .i64 y2, .int .i64 m2, .int .i64 d2] 3)
  have HNu := Lib.hid (nums4 W3.heap.size n y2 m2 d2 _ (HP.out _ (below_then HB3.out hb4)) (Box.new W3 3 #[.int .i64 n, .int .i64 y2, .int .i64 m2, .int .i64 d2]) HN.out.1 HN.out.2.1 HN.out.2.2.1 HN.out.2.2.2)
  have HB4 := Lib.hid (below_then HB3.out hb4)
  clear hb4 hbd
  go_wp2_with (go_at_call 46; refine HNu.out.mono ?_; rintro e w5 ⟨rfl, hb5⟩)
  have HB5 := Lib.hid (below_then HB4.out hb5)
  clear hb5
  go_wp2_with fail
  go_ret2
  exact ⟨rfl, HB5.out⟩
end Go.Proofs.YtcommodbjjdbmaaGreatDoor

/- desk.execute at lines of the commands on dates. -/
namespace Go.Proofs.YtcommodbjjdbmaaGreatDoor
open Go Go.RowKit
set_option linter.unusedVariables false

/-- what dates must say of the words of a line -/
def DatesSay (word : ByteArray) (its : List DkIt) (out : List UInt8) (w : World) : Prop := ∀ (A1 : Option Addr) (c1 : Nat) (A2 : Option Addr) (c2 : Nat) (W : World), Below w.heap.size w W → Row W W.heap.size A1 (strV (dkNm its)) → Row W W.heap.size A2 (ints (dkNs its)) → Calls Tryz.prog 27 #[.string word, .agg #[.slice A1 (dkNm its).length c1, .slice A2 (dkNs its).length c2, .string ⟨#[]⟩]] W (DkR out W)
set_option maxHeartbeats 4000000 in
set_option maxRecDepth 100000 in
theorem exec_weekday (its : List DkIt) (hf : its.map DkIt.form = [110]) (hok : ∀ x ∈ its, x.ok) (out : List UInt8) (w : World) (hp : Pow w) (hsh : Shp w) (hD : DatesSay ⟨#[119, 101, 101, 107, 100, 97, 121]⟩ its out w) :
    Calls Tryz.prog 11 #[.string (str ([119, 101, 101, 107, 100, 97, 121] ++ 32 :: dkTx its))] w (DkR out w) := by
  have hl : its.length = 1 := by have := congrArg List.length hf; simpa using this
  have HC : Hid (Calls Tryz.prog 20 #[.string (str ([119, 101, 101, 107, 100, 97, 121] ++ 32 :: dkTx its)), .string ⟨#[32]⟩] w fun e w' => e = .returned (.tuple #[.string ⟨#[119, 101, 101, 107, 100, 97, 121]⟩, .string (str (dkTx its)), .bool true]) ∧ Below w.heap.size w w') := by
    have hlen := dkTx_len its hok
    have := cutc_any (str ([119, 101, 101, 107, 100, 97, 121] ++ 32 :: dkTx its)) 32 w (by rw [str_size, List.length_append, List.length_cons]; simp only [List.length_cons, List.length_nil]; omega) hsh
    rw [str_data, cut_at 32 [119, 101, 101, 107, 100, 97, 121] (dkTx its) (by decide)] at this
    exact this
  have HF := Lib.hid (fun W => form_weekday W)
  have HR : Hid (∀ W, Below w.heap.size w W → Calls Tryz.prog 22 #[.string ⟨#[110]⟩, .string (str (dkTx its)), .bool true] W (ReadQ (dkNm its) (dkNs its) W)) := fun W hW => by
    have := read_any its (by omega) (by omega) hok W (hp.next hW) (hsh.next hW)
    rw [hf] at this
    exact this
  have HD := Lib.hid hD
  unfold DatesSay at HD
  unfold FormQ at HF
  unfold ReadQ at HR
  unfold DkR at *
  generalize str (dkTx its) = T at *
  generalize str ([119, 101, 101, 107, 100, 97, 121] ++ 32 :: dkTx its) = S at *
  generalize dkNm its = ms at *
  generalize dkNs its = ss at *
  generalize hO : str out = O at *
  clear hl hf hok hp hsh hD hO
  go_enter Tryz.func11, Tryz.ntmps11
  go_upto_region 2 with (go_at_call 20; refine HC.out.mono ?_; rintro e w1 ⟨rfl, hb1⟩)
  have HB1 := Lib.hid hb1
  clear hb1 HC
  go_upto_region 3 with (go_at_call 21; refine (HF.out _).mono ?_; rintro e w2 ⟨rfl, hb2⟩)
  have HB2 := Lib.hid (below_then HB1.out hb2)
  clear hb2 HF
  go_upto_region 6 with (go_at_call 22; refine (HR.out _ HB2.out).mono ?_; rintro e w3 ⟨A1, c1, A2, c2, rfl, hr1, hr2, hb3⟩)
  have hb4 := below_alloc1 w3 (Obj.cells #[.slice A1 ms.length c1, .slice A2 ss.length c2, .string ⟨#[]⟩] 60)
  have hx := Box.new w3 60 #[.slice A1 ms.length c1, .slice A2 ss.length c2, .string ⟨#[]⟩]
  have HB4 := Lib.hid (below_then (below_then HB2.out hb3) hb4)
  have HDa := Lib.hid (HD.out A1 c1 A2 c2 _ HB4.out (hr1.next hb4) (hr2.next hb4))
  generalize w3.alloc (Obj.cells #[.slice A1 ms.length c1, .slice A2 ss.length c2, .string ⟨#[]⟩] 60) = W4 at *
  generalize w3.heap.size = ga at *
  have q0 : W4.cell? ⟨ga, 0, none⟩ = some (.slice A1 ms.length c1) := hx.cell 0
  have q1 : W4.cell? ⟨ga, 1, none⟩ = some (.slice A2 ss.length c2) := hx.cell 1
  have q2 : W4.cell? ⟨ga, 2, none⟩ = some (.string ⟨#[]⟩) := hx.cell 2
  have ql := hx.lt
  clear hr1 hr2 hb3 hb4 hx HD HR
  go_wp2_with (go_at_call 27; refine HDa.out.mono ?_; rintro e w5 ⟨rfl, hb5⟩)
  have HB5 := Lib.hid (below_then HB4.out hb5)
  clear hb5
  go_wp2_with fail
  go_ret2
  exact ⟨rfl, HB5.out⟩
set_option maxHeartbeats 4000000 in
set_option maxRecDepth 100000 in
theorem exec_date (its : List DkIt) (hf : its.map DkIt.form = [115, 110]) (hok : ∀ x ∈ its, x.ok) (out : List UInt8) (w : World) (hp : Pow w) (hsh : Shp w) (hD : DatesSay ⟨#[100, 97, 116, 101]⟩ its out w) :
    Calls Tryz.prog 11 #[.string (str ([100, 97, 116, 101] ++ 32 :: dkTx its))] w (DkR out w) := by
  have hl : its.length = 2 := by have := congrArg List.length hf; simpa using this
  have HC : Hid (Calls Tryz.prog 20 #[.string (str ([100, 97, 116, 101] ++ 32 :: dkTx its)), .string ⟨#[32]⟩] w fun e w' => e = .returned (.tuple #[.string ⟨#[100, 97, 116, 101]⟩, .string (str (dkTx its)), .bool true]) ∧ Below w.heap.size w w') := by
    have hlen := dkTx_len its hok
    have := cutc_any (str ([100, 97, 116, 101] ++ 32 :: dkTx its)) 32 w (by rw [str_size, List.length_append, List.length_cons]; simp only [List.length_cons, List.length_nil]; omega) hsh
    rw [str_data, cut_at 32 [100, 97, 116, 101] (dkTx its) (by decide)] at this
    exact this
  have HF := Lib.hid (fun W => form_date W)
  have HR : Hid (∀ W, Below w.heap.size w W → Calls Tryz.prog 22 #[.string ⟨#[115, 110]⟩, .string (str (dkTx its)), .bool true] W (ReadQ (dkNm its) (dkNs its) W)) := fun W hW => by
    have := read_any its (by omega) (by omega) hok W (hp.next hW) (hsh.next hW)
    rw [hf] at this
    exact this
  have HD := Lib.hid hD
  unfold DatesSay at HD
  unfold FormQ at HF
  unfold ReadQ at HR
  unfold DkR at *
  generalize str (dkTx its) = T at *
  generalize str ([100, 97, 116, 101] ++ 32 :: dkTx its) = S at *
  generalize dkNm its = ms at *
  generalize dkNs its = ss at *
  generalize hO : str out = O at *
  clear hl hf hok hp hsh hD hO
  go_enter Tryz.func11, Tryz.ntmps11
  go_upto_region 2 with (go_at_call 20; refine HC.out.mono ?_; rintro e w1 ⟨rfl, hb1⟩)
  have HB1 := Lib.hid hb1
  clear hb1 HC
  go_upto_region 3 with (go_at_call 21; refine (HF.out _).mono ?_; rintro e w2 ⟨rfl, hb2⟩)
  have HB2 := Lib.hid (below_then HB1.out hb2)
  clear hb2 HF
  go_upto_region 6 with (go_at_call 22; refine (HR.out _ HB2.out).mono ?_; rintro e w3 ⟨A1, c1, A2, c2, rfl, hr1, hr2, hb3⟩)
  have hb4 := below_alloc1 w3 (Obj.cells #[.slice A1 ms.length c1, .slice A2 ss.length c2, .string ⟨#[]⟩] 60)
  have hx := Box.new w3 60 #[.slice A1 ms.length c1, .slice A2 ss.length c2, .string ⟨#[]⟩]
  have HB4 := Lib.hid (below_then (below_then HB2.out hb3) hb4)
  have HDa := Lib.hid (HD.out A1 c1 A2 c2 _ HB4.out (hr1.next hb4) (hr2.next hb4))
  generalize w3.alloc (Obj.cells #[.slice A1 ms.length c1, .slice A2 ss.length c2, .string ⟨#[]⟩] 60) = W4 at *
  generalize w3.heap.size = ga at *
  have q0 : W4.cell? ⟨ga, 0, none⟩ = some (.slice A1 ms.length c1) := hx.cell 0
  have q1 : W4.cell? ⟨ga, 1, none⟩ = some (.slice A2 ss.length c2) := hx.cell 1
  have q2 : W4.cell? ⟨ga, 2, none⟩ = some (.string ⟨#[]⟩) := hx.cell 2
  have ql := hx.lt
  clear hr1 hr2 hb3 hb4 hx HD HR
  go_wp2_with (go_at_call 27; refine HDa.out.mono ?_; rintro e w5 ⟨rfl, hb5⟩)
  have HB5 := Lib.hid (below_then HB4.out hb5)
  clear hb5
  go_wp2_with fail
  go_ret2
  exact ⟨rfl, HB5.out⟩
set_option maxHeartbeats 4000000 in
set_option maxRecDepth 100000 in
theorem exec_day (its : List DkIt) (hf : its.map DkIt.form = [115, 110, 110, 110]) (hok : ∀ x ∈ its, x.ok) (out : List UInt8) (w : World) (hp : Pow w) (hsh : Shp w) (hD : DatesSay ⟨#[100, 97, 121]⟩ its out w) :
    Calls Tryz.prog 11 #[.string (str ([100, 97, 121] ++ 32 :: dkTx its))] w (DkR out w) := by
  have hl : its.length = 4 := by have := congrArg List.length hf; simpa using this
  have HC : Hid (Calls Tryz.prog 20 #[.string (str ([100, 97, 121] ++ 32 :: dkTx its)), .string ⟨#[32]⟩] w fun e w' => e = .returned (.tuple #[.string ⟨#[100, 97, 121]⟩, .string (str (dkTx its)), .bool true]) ∧ Below w.heap.size w w') := by
    have hlen := dkTx_len its hok
    have := cutc_any (str ([100, 97, 121] ++ 32 :: dkTx its)) 32 w (by rw [str_size, List.length_append, List.length_cons]; simp only [List.length_cons, List.length_nil]; omega) hsh
    rw [str_data, cut_at 32 [100, 97, 121] (dkTx its) (by decide)] at this
    exact this
  have HF := Lib.hid (fun W => form_day W)
  have HR : Hid (∀ W, Below w.heap.size w W → Calls Tryz.prog 22 #[.string ⟨#[115, 110, 110, 110]⟩, .string (str (dkTx its)), .bool true] W (ReadQ (dkNm its) (dkNs its) W)) := fun W hW => by
    have := read_any its (by omega) (by omega) hok W (hp.next hW) (hsh.next hW)
    rw [hf] at this
    exact this
  have HD := Lib.hid hD
  unfold DatesSay at HD
  unfold FormQ at HF
  unfold ReadQ at HR
  unfold DkR at *
  generalize str (dkTx its) = T at *
  generalize str ([100, 97, 121] ++ 32 :: dkTx its) = S at *
  generalize dkNm its = ms at *
  generalize dkNs its = ss at *
  generalize hO : str out = O at *
  clear hl hf hok hp hsh hD hO
  go_enter Tryz.func11, Tryz.ntmps11
  go_upto_region 2 with (go_at_call 20; refine HC.out.mono ?_; rintro e w1 ⟨rfl, hb1⟩)
  have HB1 := Lib.hid hb1
  clear hb1 HC
  go_upto_region 3 with (go_at_call 21; refine (HF.out _).mono ?_; rintro e w2 ⟨rfl, hb2⟩)
  have HB2 := Lib.hid (below_then HB1.out hb2)
  clear hb2 HF
  go_upto_region 6 with (go_at_call 22; refine (HR.out _ HB2.out).mono ?_; rintro e w3 ⟨A1, c1, A2, c2, rfl, hr1, hr2, hb3⟩)
  have hb4 := below_alloc1 w3 (Obj.cells #[.slice A1 ms.length c1, .slice A2 ss.length c2, .string ⟨#[]⟩] 60)
  have hx := Box.new w3 60 #[.slice A1 ms.length c1, .slice A2 ss.length c2, .string ⟨#[]⟩]
  have HB4 := Lib.hid (below_then (below_then HB2.out hb3) hb4)
  have HDa := Lib.hid (HD.out A1 c1 A2 c2 _ HB4.out (hr1.next hb4) (hr2.next hb4))
  generalize w3.alloc (Obj.cells #[.slice A1 ms.length c1, .slice A2 ss.length c2, .string ⟨#[]⟩] 60) = W4 at *
  generalize w3.heap.size = ga at *
  have q0 : W4.cell? ⟨ga, 0, none⟩ = some (.slice A1 ms.length c1) := hx.cell 0
  have q1 : W4.cell? ⟨ga, 1, none⟩ = some (.slice A2 ss.length c2) := hx.cell 1
  have q2 : W4.cell? ⟨ga, 2, none⟩ = some (.string ⟨#[]⟩) := hx.cell 2
  have ql := hx.lt
  clear hr1 hr2 hb3 hb4 hx HD HR
  go_wp2_with (go_at_call 27; refine HDa.out.mono ?_; rintro e w5 ⟨rfl, hb5⟩)
  have HB5 := Lib.hid (below_then HB4.out hb5)
  clear hb5
  go_wp2_with fail
  go_ret2
  exact ⟨rfl, HB5.out⟩
set_option maxHeartbeats 4000000 in
set_option maxRecDepth 100000 in
theorem exec_turn (its : List DkIt) (hf : its.map DkIt.form = [115, 110, 110, 110, 115]) (hok : ∀ x ∈ its, x.ok) (out : List UInt8) (w : World) (hp : Pow w) (hsh : Shp w) (hD : DatesSay ⟨#[116, 117, 114, 110]⟩ its out w) :
    Calls Tryz.prog 11 #[.string (str ([116, 117, 114, 110] ++ 32 :: dkTx its))] w (DkR out w) := by
  have hl : its.length = 5 := by have := congrArg List.length hf; simpa using this
  have HC : Hid (Calls Tryz.prog 20 #[.string (str ([116, 117, 114, 110] ++ 32 :: dkTx its)), .string ⟨#[32]⟩] w fun e w' => e = .returned (.tuple #[.string ⟨#[116, 117, 114, 110]⟩, .string (str (dkTx its)), .bool true]) ∧ Below w.heap.size w w') := by
    have hlen := dkTx_len its hok
    have := cutc_any (str ([116, 117, 114, 110] ++ 32 :: dkTx its)) 32 w (by rw [str_size, List.length_append, List.length_cons]; simp only [List.length_cons, List.length_nil]; omega) hsh
    rw [str_data, cut_at 32 [116, 117, 114, 110] (dkTx its) (by decide)] at this
    exact this
  have HF := Lib.hid (fun W => form_turn W)
  have HR : Hid (∀ W, Below w.heap.size w W → Calls Tryz.prog 22 #[.string ⟨#[115, 110, 110, 110, 115]⟩, .string (str (dkTx its)), .bool true] W (ReadQ (dkNm its) (dkNs its) W)) := fun W hW => by
    have := read_any its (by omega) (by omega) hok W (hp.next hW) (hsh.next hW)
    rw [hf] at this
    exact this
  have HD := Lib.hid hD
  unfold DatesSay at HD
  unfold FormQ at HF
  unfold ReadQ at HR
  unfold DkR at *
  generalize str (dkTx its) = T at *
  generalize str ([116, 117, 114, 110] ++ 32 :: dkTx its) = S at *
  generalize dkNm its = ms at *
  generalize dkNs its = ss at *
  generalize hO : str out = O at *
  clear hl hf hok hp hsh hD hO
  go_enter Tryz.func11, Tryz.ntmps11
  go_upto_region 2 with (go_at_call 20; refine HC.out.mono ?_; rintro e w1 ⟨rfl, hb1⟩)
  have HB1 := Lib.hid hb1
  clear hb1 HC
  go_upto_region 3 with (go_at_call 21; refine (HF.out _).mono ?_; rintro e w2 ⟨rfl, hb2⟩)
  have HB2 := Lib.hid (below_then HB1.out hb2)
  clear hb2 HF
  go_upto_region 6 with (go_at_call 22; refine (HR.out _ HB2.out).mono ?_; rintro e w3 ⟨A1, c1, A2, c2, rfl, hr1, hr2, hb3⟩)
  have hb4 := below_alloc1 w3 (Obj.cells #[.slice A1 ms.length c1, .slice A2 ss.length c2, .string ⟨#[]⟩] 60)
  have hx := Box.new w3 60 #[.slice A1 ms.length c1, .slice A2 ss.length c2, .string ⟨#[]⟩]
  have HB4 := Lib.hid (below_then (below_then HB2.out hb3) hb4)
  have HDa := Lib.hid (HD.out A1 c1 A2 c2 _ HB4.out (hr1.next hb4) (hr2.next hb4))
  generalize w3.alloc (Obj.cells #[.slice A1 ms.length c1, .slice A2 ss.length c2, .string ⟨#[]⟩] 60) = W4 at *
  generalize w3.heap.size = ga at *
  have q0 : W4.cell? ⟨ga, 0, none⟩ = some (.slice A1 ms.length c1) := hx.cell 0
  have q1 : W4.cell? ⟨ga, 1, none⟩ = some (.slice A2 ss.length c2) := hx.cell 1
  have q2 : W4.cell? ⟨ga, 2, none⟩ = some (.string ⟨#[]⟩) := hx.cell 2
  have ql := hx.lt
  clear hr1 hr2 hb3 hb4 hx HD HR
  go_wp2_with (go_at_call 27; refine HDa.out.mono ?_; rintro e w5 ⟨rfl, hb5⟩)
  have HB5 := Lib.hid (below_then HB4.out hb5)
  clear hb5
  go_wp2_with fail
  go_ret2
  exact ⟨rfl, HB5.out⟩
end Go.Proofs.YtcommodbjjdbmaaGreatDoor

/- desk.Run over lines whose results are known. -/
namespace Go.Proofs.YtcommodbjjdbmaaGreatDoor
open Go Go.RowKit
set_option linter.unusedVariables false

/-- lines, each with its end -/
def lnT (l : List (List UInt8)) : List UInt8 := l.flatMap fun x => x ++ [10]
theorem lnT_join : ∀ (a : List UInt8) (l : List (List UInt8)), lnT (a :: l) = joinW 10 a (l ++ [[]])
  | a, [] => by show a ++ [10] ++ [] = a ++ 10 :: []; simp
  | a, b :: l => by
    show (a ++ [10]) ++ lnT (b :: l) = a ++ 10 :: joinW 10 b (l ++ [[]])
    rw [lnT_join b l]
    simp
theorem lnT_len (k : Nat) : ∀ l : List (List UInt8), (∀ x ∈ l, x.length ≤ k) → (lnT l).length ≤ l.length * (k + 1)
  | [], _ => Nat.zero_le _
  | a :: l, h => by
    have h1 := h a (by simp)
    have h2 := lnT_len k l (fun x hx => h x (by simp [hx]))
    show ((a ++ [10]) ++ lnT l).length ≤ (l.length + 1) * (k + 1)
    rw [List.length_append, List.length_append, Nat.add_mul]
    simp only [List.length_cons, List.length_nil]
    omega
theorem lnT_snoc (l : List (List UInt8)) (x : List UInt8) : lnT (l ++ [x]) = lnT l ++ (x ++ [10]) := by simp [lnT]
theorem dksplit_any (a : List UInt8) (l : List (List UInt8)) (h : ∀ w ∈ a :: l, ∀ b ∈ w, b ≠ 10) (hs : (lnT (a :: l)).length < 4294967281) (w : World) (hsh : Shp w) :
    Calls Tryz.prog 10 #[.string (str (lnT (a :: l))), .string ⟨#[10]⟩] w fun e w' => e = .returned (.slice (some ⟨w.heap.size, 0, none⟩) (l.length + 2) (l.length + 2)) ∧ w' = w.alloc (.cells (((a :: (l ++ [[]])).map str).map Value.string).toArray 9) := by
  obtain ⟨m, hm⟩ := hsh
  refine (strings_Split (str (lnT (a :: l))) ⟨#[10]⟩ m w (by rw [str_size]; exact hs) hm (by show 1 ≤ 1; omega)).mono ?_
  rintro e w' ⟨rfl, rfl⟩
  have hh : ∀ w ∈ a :: (l ++ [[]]), ∀ b ∈ w, b ≠ 10 := fun w hw => by
    have : w ∈ a :: l ∨ w = [] := by simp only [List.mem_cons, List.mem_append, List.not_mem_nil, or_false] at hw ⊢; grind
    rcases this with h' | rfl
    · exact h w h'
    · intro b hb; cases hb
  rw [lnT_join, count_join 10 _ a hh, split_join 10 _ a hh, List.length_append]
  exact ⟨rfl, rfl⟩
set_option maxHeartbeats 8000000 in
set_option maxRecDepth 100000 in
theorem run_lines (ls os : List (List UInt8)) (h0 : 0 < ls.length) (h1 : ls.length ≤ 10) (hlo : os.length = ls.length) (hno : ∀ x ∈ ls, ∀ b ∈ x, b ≠ 10) (hll : ∀ x ∈ ls, x.length ≤ 500) (hol : ∀ x ∈ os, x.length ≤ 500) (w : World) (hsh : Shp w)
    (hx : ∀ i, i < ls.length → ∀ W, Below w.heap.size w W → Calls Tryz.prog 11 #[.string (str (ls.getD i []))] W fun e w' => e = .returned (.tuple #[.string (str (os.getD i [])), .int .i64 0]) ∧ Below W.heap.size W w') :
    Calls Tryz.prog 4 #[.string (str (lnT ls))] w fun e w' => e = .returned (.string (str (lnT os))) ∧ Below w.heap.size w w' := by
  have HLen := lnT_len 500 ls hll
  obtain ⟨n, hn⟩ : ∃ n, n = ls.length := ⟨_, rfl⟩
  rw [← hn] at h0 h1 hlo HLen hx
  have HSp : Hid (Calls Tryz.prog 10 #[.string (str (lnT ls)), .string ⟨#[10]⟩] w fun e w' => e = .returned (.slice (some ⟨w.heap.size, 0, none⟩) (n + 1) (n + 1)) ∧ w' = w.alloc (.cells (((ls ++ [[]]).map str).map Value.string).toArray 9)) := by
    cases ls with
    | nil => rw [hn] at h0; cases h0
    | cons a l =>
      have := dksplit_any a l hno (by omega) w hsh
      rw [hn]
      exact this
  have hsz : (str (lnT ls)).size ≤ 6000 := by rw [str_size]; omega
  have HN := Lib.hid hn
  have HX := Lib.hid hx
  have HOl := Lib.hid hol
  have hbx := Box.new w 9 (((ls ++ [[]]).map str).map Value.string).toArray
  have hb0 := below_alloc1 w (.cells (((ls ++ [[]]).map str).map Value.string).toArray 9)
  have hcl : ∀ i, i < n → (((ls ++ [[]]).map str).map Value.string).toArray[i]? = some (.string (str (ls.getD i []))) := fun i hi => by
    rw [List.getElem?_toArray, List.getElem?_map, List.getElem?_map, List.getElem?_append_left (by omega), List.getElem?_eq_getElem (by omega), List.getD_eq_getElem?_getD, List.getElem?_eq_getElem (by omega)]
    rfl
  have hce : (((ls ++ [[]]).map str).map Value.string).toArray[n]? = some (.string ⟨#[]⟩) := by
    rw [List.getElem?_toArray, List.getElem?_map, List.getElem?_map, List.getElem?_append_right (by omega), show n - ls.length = 0 from by omega]
    rfl
  generalize (((ls ++ [[]]).map str).map Value.string).toArray = Cs at *
  generalize str (lnT ls) = S at *
  clear hn hx hno hll hsh HLen hol
  go_enter Tryz.func4, Tryz.ntmps4
  go_upto_region 2 with (go_at_call 10; refine HSp.out.mono ?_; rintro e w1 ⟨rfl, rfl⟩)
  generalize w.alloc (.cells Cs 9) = W1 at *
  obtain ⟨g, hg⟩ : ∃ g, g = w.heap.size := ⟨_, rfl⟩
  rw [← hg] at hbx ⊢
  have xe : W1.cell? ⟨g, n, none⟩ = some (.string ⟨#[]⟩) := (hbx.cell n).trans hce
  have xl := hbx.lt
  have HBx := Lib.hid hbx
  have HB0 := Lib.hid hb0
  have HG := Lib.hid hg
  have HCl := Lib.hid hcl
  clear HSp hbx hb0 hg hcl hce
  have e1 : ((n : Int) + 1) - 1 = (n : Int) := by omega
  go_upto_region 7 with fail
  have HBd := Lib.hid (bld_new W1)
  have HB2 := Lib.hid (below_then HB0.out (below_alloc1 W1 (Obj.cells #[.pointer none, .slice none 0 0] 38)))
  have HX2 := Lib.hid (HBx.out.below (below_alloc1 W1 (Obj.cells #[.pointer none, .slice none 0 0] 38)))
  generalize W1.alloc (Obj.cells #[.pointer none, .slice none 0 0] 38) = W2 at *
  have hgb : g < W1.heap.size := xl
  have hwb : w.heap.size ≤ W1.heap.size := HB0.out.size
  generalize W1.heap.size = b at *
  have hn10 : (n : Int) ≤ 10 := by omega
  clear xe HB0 HBx xl
  go_upto_region 8 with fail
  go_loopw [6, 7, 8, 33] (fun _ _ _ i wr => ∃ (j : Nat), j ≤ n ∧ i = .int .i64 (j : Int) ∧ Hid (Bld b (lnT (os.take j)) wr) ∧ Hid (Box wr g 9 Cs) ∧ Hid (Below w.heap.size w wr)) (fun _ _ _ i _ => n - (intOf i).toNat)
  case atStart => exact ⟨0, by omega, rfl, HBd, HX2, HB2⟩
  case round =>
    clear HBd HX2 HB2
    obtain ⟨j, hj, rfl, hbd, hbx, hbw⟩ := hrel
    have HBd := Lib.hid hbd.out
    have HBx := Lib.hid hbx.out
    have HB := Lib.hid hbw.out
    clear hbd hbx hbw
    by_cases hlt : j < n
    · have t1 : decide ((j : Int) < (n : Int)) = true := decide_eq_true (by omega)
      have bi : (0 : Int) ≤ (j : Int) ∧ (j : Int) < (n : Int) := by omega
      have x0 : wr.cell? ⟨g, j, none⟩ = some (.string (str (ls.getD j []))) := (HBx.out.cell j).trans (HCl.out j hlt)
      have xl := HBx.out.lt
      have HXj := Lib.hid (HX.out j hlt wr HB.out)
      obtain ⟨o, ho⟩ : ∃ o, o = os.getD j [] := ⟨_, rfl⟩
      have hos : os.take (j + 1) = os.take j ++ [o] := by
        rw [ho, List.getD_eq_getElem?_getD, List.getElem?_eq_getElem (by omega)]
        exact (List.take_append_getElem (by omega)).symm
      have hol : o.length ≤ 500 := by
        rw [ho, List.getD_eq_getElem?_getD, List.getElem?_eq_getElem (by omega)]
        exact HOl.out _ (List.getElem_mem _)
      have hln : (lnT (os.take j)).length ≤ 6000 := by
        have := lnT_len 500 (os.take j) (fun x hx => HOl.out x (List.mem_of_mem_take hx))
        rw [List.length_take] at this
        omega
      rw [← ho] at HXj
      have HOs := Lib.hid hos
      have hsz : (str o).size ≤ 500 := by rw [str_size]; exact hol
      generalize str (ls.getD j []) = L at *
      clear ho hos
      go_upto_region 13 with (go_at_call 11; refine HXj.out.mono ?_; rintro e w3 ⟨rfl, hb3⟩)
      have HW := Lib.hid (bld_write (bld_next HBd.out hb3) (o ++ [10]) (by rw [List.length_append]; simp only [List.length_cons, List.length_nil]; omega))
      have HE : Hid (str (o ++ [10]) = str o ++ ⟨#[10]⟩) := by unfold Hid; rw [← str_append]; rfl
      have HB3 := Lib.hid (below_then HB.out hb3)
      have HX3 := Lib.hid (HBx.out.below hb3)
      rw [HE.out] at HW
      clear x0 xl hb3 HXj HBd HB HBx
      go_wp2_with (go_at_call 13; refine HW.out.mono ?_; rintro e w4 ⟨rfl, hbd, hb4⟩)
      have HBd4 : Hid (Bld b (lnT (os.take (j + 1))) w4) := by unfold Hid; rw [HOs.out, lnT_snoc]; exact hbd
      have HX4 := Lib.hid (HX3.out.belowB hb4 hgb)
      have HB4 := Lib.hid (HB3.out.trans (hb4.mono hwb))
      clear hbd hb4 HX3 HB3
      go_roundw
      case rel => exact ⟨j + 1, by omega, by go_num, HBd4, HX4, HB4⟩
      case measure => simp [intOf]; omega
    · obtain rfl : j = n := by omega
      have t1 : decide ((j : Int) < (j : Int)) = false := decide_eq_false (by omega)
      have HSt := Lib.hid (bld_string HBd.out)
      have HF := Lib.hid hlo
      rw [List.take_of_length_le (by omega)] at HSt
      go_wp2_with (go_at_call 14; refine HSt.out.mono ?_; rintro e w4 ⟨rfl, hb4⟩)
      have HB4 := Lib.hid (HB.out.trans (hb4.mono hwb))
      clear hb4
      go_wp2_with fail
      go_ret
      exact ⟨rfl, HB4.out⟩
end Go.Proofs.YtcommodbjjdbmaaGreatDoor

/- The lines of DeskDates and what the desk says of them. -/
namespace Go.Proofs.YtcommodbjjdbmaaGreatDoor
open Go Go.RowKit
set_option linter.unusedVariables false

theorem nm_dk (r : CatRow) (hr : r ∈ catR) : (∀ b ∈ r.nm, b ≠ 10) ∧ r.nm.length ≤ 20 := by
  have h : ∀ w ∈ catR.map CatRow.nm, (∀ b ∈ w, b ≠ 10) ∧ w.length ≤ 20 := by decide +kernel
  exact h r.nm (List.mem_map_of_mem hr)
theorem fd_dk {c : Cal} (ok : CalOk c) {day : Int} {y : Int} {m : Nat} {d : Int} (h1 : -10000 ≤ y) (h2 : y ≤ 10000) (h : IsOn c y m d day) : c.ny (-10000) ≤ day ∧ day < c.ny 10001 := by
  have q := h.year ok
  have q1 := Cal.ny_le ok h1
  have q2 := Cal.ny_le ok (show y + 1 ≤ 10001 by omega)
  omega
/-- the date of a day in a calendar of the catalog -/
def DtAt (r : CatRow) (day y m d : Int) : Prop := ∃ (c : Cal) (m0 : Nat), CalOf r c ∧ CalOk c ∧ -10000 ≤ y ∧ y ≤ 10000 ∧ m = (m0 : Int) + 1 ∧ IsOn c y m0 (d - 1) day
theorem DtAt.small {r : CatRow} {day y m d : Int} (h : DtAt r day y m d) : (-10000 ≤ y ∧ y ≤ 10000) ∧ (1 ≤ m ∧ m ≤ 20) ∧ (1 ≤ d ∧ d ≤ 400) := by
  obtain ⟨c, m0, hof, ok, h1, h2, rfl, ho⟩ := h
  have a1 := ok.mo.n2
  have a2 := ho.m1
  have a3 := ho.d0
  have a4 := ho.d1
  have a5 := (Cal.mlen_in ok y m0 ho.m1).2
  omega
theorem date_det {r : CatRow} (hr : r ∈ catR) {day y m d : Int} (h : DtAt r day y m d) (hd : -4000000 ≤ day ∧ day ≤ 4000000) (W : World) (hE : Env W) :
    Calls Tryz.prog 6 #[.string (str r.nm), .int .i64 day] W fun e w' => e = .returned (.tuple #[.agg #[.int .i64 y, .int .i64 m, .int .i64 d], .int .i64 0]) ∧ Below W.heap.size W w' := by
  obtain ⟨c, m0, hof, ok, h1, h2, rfl, ho⟩ := h
  refine (Date_any r hr day W hE).mono ?_
  rintro e w' ⟨c', hof', ok', hb, ⟨y', m', d', g1, g2, ho', rfl⟩ | ⟨hno, _⟩⟩
  · have ho2 := (hof'.on hof y' m' d' day).1 ho'
    obtain ⟨rfl, rfl, e3⟩ := IsOn.unique ok ho ho2
    exact ⟨by rw [← e3, show d - 1 + 1 = d from by omega], hb⟩
  · have ho2 := (hof.on hof' y m0 (d - 1) day).1 ho
    have s := fd_dk ok' h1 h2 ho2
    exact absurd ⟨hd.1, hd.2, s.1, s.2⟩ hno
theorem day_det {r : CatRow} (hr : r ∈ catR) {day y m d : Int} (h : DtAt r day y m d) (hd : -4000000 ≤ day ∧ day ≤ 4000000) (W : World) (hE : Env W) :
    Calls Tryz.prog 53 #[.string (str r.nm), .agg #[.int .i64 y, .int .i64 m, .int .i64 d]] W fun e w' => e = .returned (.tuple #[.int .i64 day, .int .i64 0]) ∧ Below W.heap.size W w' := by
  obtain ⟨c, m0, hof, ok, h1, h2, rfl, ho⟩ := h
  refine (Day_any r hr y ((m0 : Int) + 1) d W hE).mono ?_
  rintro e w' ⟨c', hof', ok', hb, hc⟩
  rcases hc with ⟨m1, n, hm0, _, _, ho', rfl⟩ | ⟨hno, _⟩
  · obtain rfl : m0 = m1 := by omega
    have ho2 := (hof'.on hof y m0 (d - 1) n).1 ho'
    have : n = day := by rw [ho2.on, ho.on]
    subst this
    exact ⟨by rw [show dayR n = .tuple #[.int .i64 n, .int .i64 0] from if_pos hd], hb⟩
  · exact absurd (hno m0 day rfl h1 h2 ((hof.on hof' y m0 (d - 1) day).1 ho)) id
/-- the three lines -/
def dkL1 (r : CatRow) (n : Int) : List UInt8 := [100, 97, 116, 101] ++ 32 :: dkTx [.s r.nm, .n n]
def dkL2 (r : CatRow) (y m d : Int) : List UInt8 := [100, 97, 121] ++ 32 :: dkTx [.s r.nm, .n y, .n m, .n d]
def dkL3 (r k : CatRow) (y m d : Int) : List UInt8 := [116, 117, 114, 110] ++ 32 :: dkTx [.s r.nm, .n y, .n m, .n d, .s k.nm]
theorem DkIt.no10 {x : DkIt} (h : ∀ t, x = .s t → ∀ b ∈ t, b ≠ 10) : ∀ b ∈ x.txt, b ≠ 10 := by
  cases x with
  | s t => exact h t rfl
  | n k => exact itoa_no k 10 (by decide)
theorem dkTx_no10 : ∀ l : List DkIt, (∀ x ∈ l, ∀ b ∈ x.txt, b ≠ 10) → ∀ b ∈ dkTx l, b ≠ 10
  | [], _ => fun b hb => by cases hb
  | [a], h => h a (by simp)
  | a :: b :: l, h => fun c hc => by
    have ih := dkTx_no10 (b :: l) (fun x hx => h x (by simp only [List.mem_cons] at hx ⊢; exact .inr hx))
    have hc : c ∈ a.txt ++ 32 :: dkTx (b :: l) := hc
    rcases List.mem_append.1 hc with hc | hc
    · exact h a (by simp) c hc
    · rcases List.mem_cons.1 hc with rfl | hc
      · decide
      · exact ih c hc
theorem dkTx_small : ∀ l : List DkIt, (∀ x ∈ l, x.txt.length ≤ 40) → (dkTx l).length ≤ l.length * 41
  | [], _ => Nat.le_refl _
  | [a], h => by have := h a (by simp); show a.txt.length ≤ 1 * 41; omega
  | a :: b :: l, h => by
    have h1 := h a (by simp)
    have h2 := dkTx_small (b :: l) (fun x hx => h x (by simp only [List.mem_cons] at hx ⊢; exact .inr hx))
    show (a.txt ++ 32 :: dkTx (b :: l)).length ≤ (l.length + 1 + 1) * 41
    rw [List.length_append, List.length_cons]
    simp only [List.length_cons] at h2
    omega
theorem itoa_small40 (n : Int) (h : DkN n) : (Lib.itoa n).length ≤ 40 := by
  have := Lib.itoa_length_le n (by have := h.1; omega) (by have := h.2; omega)
  omega
/-- an item of the lines: of a name of the catalog or a number -/
def DkIt.fine (x : DkIt) : Prop := (∃ r, r ∈ catR ∧ x = .s r.nm) ∨ ∃ n, DkN n ∧ x = .n n
theorem DkIt.fine.all {x : DkIt} (h : x.fine) : x.ok ∧ (∀ b ∈ x.txt, b ≠ 10) ∧ x.txt.length ≤ 40 := by
  rcases h with ⟨r, hr, rfl⟩ | ⟨n, hn, rfl⟩
  · have h1 := nm_dk r hr
    exact ⟨⟨nm_no r hr, by omega⟩, h1.1, by have := h1.2; show r.nm.length ≤ 40; omega⟩
  · exact ⟨hn, itoa_no n 10 (by decide), itoa_small40 n hn⟩
/-- the text of a line: no end of a line in it, short -/
theorem line_fine (w : List UInt8) (hw : ∀ b ∈ w, b ≠ 10) (hl : w.length ≤ 20) (its : List DkIt) (hn : its.length ≤ 8) (h : ∀ x ∈ its, x.fine) : (∀ b ∈ w ++ 32 :: dkTx its, b ≠ 10) ∧ (w ++ 32 :: dkTx its).length ≤ 500 := by
  refine ⟨fun b hb => ?_, ?_⟩
  · rcases List.mem_append.1 hb with hb | hb
    · exact hw b hb
    · rcases List.mem_cons.1 hb with rfl | hb
      · decide
      · exact dkTx_no10 its (fun x hx => (h x hx).all.2.1) b hb
  · have := dkTx_small its (fun x hx => (h x hx).all.2.2)
    rw [List.length_append, List.length_cons]
    omega
theorem fine_s {r : CatRow} (hr : r ∈ catR) : (DkIt.s r.nm).fine := .inl ⟨r, hr, rfl⟩
theorem fine_n {n : Int} (hn : DkN n) : (DkIt.n n).fine := .inr ⟨n, hn, rfl⟩
theorem dkL_len40 (l : List Int) (h : ∀ x ∈ l, DkN x) (hl : l.length ≤ 10) : (dkL l).length ≤ 500 := by
  have := dkL_len l (fun x hx => ⟨by have := (h x hx).1; omega, by have := (h x hx).2; omega⟩)
  omega
theorem line1_any {r : CatRow} (hr : r ∈ catR) {day y m d : Int} (h : DtAt r day y m d) (hd : -4000000 ≤ day ∧ day ≤ 4000000) (w : World) (hE : Env w) (hp : Pow w) : Calls Tryz.prog 11 #[.string (str (dkL1 r day))] w (DkR (dkL [y, m, d]) w) := by
  have hs := h.small
  refine exec_date [.s r.nm, .n day] rfl (fun x hx => ?_) _ w hp hE.h ?_
  · simp only [List.mem_cons, List.not_mem_nil, or_false] at hx
    rcases hx with rfl | rfl
    · exact (fine_s hr).all.1
    · exact (fine_n (by unfold DkN; omega)).all.1
  · intro A1 c1 A2 c2 W hW h1 h2
    exact dates_date A1 c1 A2 c2 r.nm day y m d W h1 h2 (hp.next hW) (by unfold DkN; omega) (by unfold DkN; omega) (by unfold DkN; omega) (fun W' hW' => date_det hr h hd W' (hE.next (below_then hW hW')))
theorem line2_any {r : CatRow} (hr : r ∈ catR) {day y m d : Int} (h : DtAt r day y m d) (hd : -4000000 ≤ day ∧ day ≤ 4000000) (w : World) (hE : Env w) (hp : Pow w) : Calls Tryz.prog 11 #[.string (str (dkL2 r y m d))] w (DkR (dkL [day]) w) := by
  have hs := h.small
  refine exec_day [.s r.nm, .n y, .n m, .n d] rfl (fun x hx => ?_) _ w hp hE.h ?_
  · simp only [List.mem_cons, List.not_mem_nil, or_false] at hx
    rcases hx with rfl | rfl | rfl | rfl
    · exact (fine_s hr).all.1
    all_goals exact (fine_n (by unfold DkN; omega)).all.1
  · intro A1 c1 A2 c2 W hW h1 h2
    exact dates_day A1 c1 A2 c2 r.nm y m d day W h1 h2 (hp.next hW) (by unfold DkN; omega) (fun W' hW' => day_det hr h hd W' (hE.next (below_then hW hW')))
theorem line3_any {r k : CatRow} (hr : r ∈ catR) (hk : k ∈ catR) {day y m d y2 m2 d2 : Int} (h : DtAt r day y m d) (h' : DtAt k day y2 m2 d2) (hd : -4000000 ≤ day ∧ day ≤ 4000000) (w : World) (hE : Env w) (hp : Pow w) : Calls Tryz.prog 11 #[.string (str (dkL3 r k y m d))] w (DkR (dkL [day, y2, m2, d2]) w) := by
  have hs := h.small
  have hs' := h'.small
  refine exec_turn [.s r.nm, .n y, .n m, .n d, .s k.nm] rfl (fun x hx => ?_) _ w hp hE.h ?_
  · simp only [List.mem_cons, List.not_mem_nil, or_false] at hx
    rcases hx with rfl | rfl | rfl | rfl | rfl
    · exact (fine_s hr).all.1
    · exact (fine_n (by unfold DkN; omega)).all.1
    · exact (fine_n (by unfold DkN; omega)).all.1
    · exact (fine_n (by unfold DkN; omega)).all.1
    · exact (fine_s hk).all.1
  · intro A1 c1 A2 c2 W hW h1 h2
    exact dates_turn A1 c1 A2 c2 r.nm k.nm y m d day y2 m2 d2 W h1 h2 (hp.next hW) (by unfold DkN; omega) (by unfold DkN; omega) (by unfold DkN; omega) (by unfold DkN; omega) (fun W' hW' => day_det hr h hd W' (hE.next (below_then hW hW'))) (fun W' hW' => date_det hk h' hd W' (hE.next (below_then hW hW')))
theorem three_any {r k : CatRow} (hr : r ∈ catR) (hk : k ∈ catR) {day y m d y2 m2 d2 : Int} (h : DtAt r day y m d) (h' : DtAt k day y2 m2 d2) (hd : -4000000 ≤ day ∧ day ≤ 4000000) (w : World) (hE : Env w) (hp : Pow w) :
    Calls Tryz.prog 4 #[.string (str (lnT [dkL1 r day, dkL2 r y m d, dkL3 r k y m d]))] w fun e w' => e = .returned (.string (str (lnT [dkL [y, m, d], dkL [day], dkL [day, y2, m2, d2]]))) ∧ Below w.heap.size w w' := by
  have hs := h.small
  have hs' := h'.small
  have nd : DkN day := by unfold DkN; omega
  have n1 : DkN y := by unfold DkN; omega
  have n2 : DkN m := by unfold DkN; omega
  have n3 : DkN d := by unfold DkN; omega
  have n4 : DkN y2 := by unfold DkN; omega
  have n5 : DkN m2 := by unfold DkN; omega
  have n6 : DkN d2 := by unfold DkN; omega
  have f1 := line_fine [100, 97, 116, 101] (by decide) (by decide) [.s r.nm, .n day] (by show 2 ≤ 8; omega) (fun x hx => by
    simp only [List.mem_cons, List.not_mem_nil, or_false] at hx
    rcases hx with rfl | rfl
    · exact fine_s hr
    · exact fine_n nd)
  have f2 := line_fine [100, 97, 121] (by decide) (by decide) [.s r.nm, .n y, .n m, .n d] (by show 4 ≤ 8; omega) (fun x hx => by
    simp only [List.mem_cons, List.not_mem_nil, or_false] at hx
    rcases hx with rfl | rfl | rfl | rfl
    · exact fine_s hr
    · exact fine_n n1
    · exact fine_n n2
    · exact fine_n n3)
  have f3 := line_fine [116, 117, 114, 110] (by decide) (by decide) [.s r.nm, .n y, .n m, .n d, .s k.nm] (by show 5 ≤ 8; omega) (fun x hx => by
    simp only [List.mem_cons, List.not_mem_nil, or_false] at hx
    rcases hx with rfl | rfl | rfl | rfl | rfl
    · exact fine_s hr
    · exact fine_n n1
    · exact fine_n n2
    · exact fine_n n3
    · exact fine_s hk)
  refine run_lines [dkL1 r day, dkL2 r y m d, dkL3 r k y m d] [dkL [y, m, d], dkL [day], dkL [day, y2, m2, d2]] (by show 0 < 3; omega) (by show 3 ≤ 10; omega) rfl ?_ ?_ ?_ w hE.h ?_
  · intro x hx
    simp only [List.mem_cons, List.not_mem_nil, or_false] at hx
    rcases hx with rfl | rfl | rfl
    · exact f1.1
    · exact f2.1
    · exact f3.1
  · intro x hx
    simp only [List.mem_cons, List.not_mem_nil, or_false] at hx
    rcases hx with rfl | rfl | rfl
    · exact f1.2
    · exact f2.2
    · exact f3.2
  · intro x hx
    simp only [List.mem_cons, List.not_mem_nil, or_false] at hx
    rcases hx with rfl | rfl | rfl
    · exact dkL_len40 _ (fun z hz => by
        simp only [List.mem_cons, List.not_mem_nil, or_false] at hz
        rcases hz with rfl | rfl | rfl <;> assumption) (by show 3 ≤ 10; omega)
    · exact dkL_len40 _ (fun z hz => by
        obtain rfl := List.mem_singleton.1 hz
        exact nd) (by show 1 ≤ 10; omega)
    · exact dkL_len40 _ (fun z hz => by
        simp only [List.mem_cons, List.not_mem_nil, or_false] at hz
        rcases hz with rfl | rfl | rfl | rfl <;> assumption) (by show 4 ≤ 10; omega)
  · intro i hi W hW
    match i, hi with
    | 0, _ => exact line1_any hr h hd W (hE.next hW) (hp.next hW)
    | 1, _ => exact line2_any hr h hd W (hE.next hW) (hp.next hW)
    | 2, _ => exact line3_any hr hk h h' hd W (hE.next hW) (hp.next hW)
theorem one_week : str (lnT [[119, 101, 101, 107, 100, 97, 121] ++ 32 :: dkTx [.n 1]]) = ⟨#[119, 101, 101, 107, 100, 97, 121, 32, 49, 10]⟩ := by decide +kernel
theorem one_out : str (lnT [dkL [(1 - 1) % 7]]) = ⟨#[48, 10]⟩ := by decide +kernel
theorem week_any (w : World) (hE : Env w) (hp : Pow w) : Calls Tryz.prog 4 #[.string ⟨#[119, 101, 101, 107, 100, 97, 121, 32, 49, 10]⟩] w fun e w' => e = .returned (.string ⟨#[48, 10]⟩) ∧ Below w.heap.size w w' := by
  have n1 : DkN 1 := by unfold DkN; omega
  have f1 := line_fine [119, 101, 101, 107, 100, 97, 121] (by decide) (by decide) [.n 1] (by show 1 ≤ 8; omega) (fun x hx => by
    obtain rfl := List.mem_singleton.1 hx
    exact fine_n n1)
  have := run_lines [[119, 101, 101, 107, 100, 97, 121] ++ 32 :: dkTx [.n 1]] [dkL [(1 - 1) % 7]] (by show 0 < 1; omega) (by show 1 ≤ 10; omega) rfl (fun x hx => by
    obtain rfl := List.mem_singleton.1 hx
    exact f1.1) (fun x hx => by
    obtain rfl := List.mem_singleton.1 hx
    exact f1.2) (fun x hx => by
    obtain rfl := List.mem_singleton.1 hx
    exact dkL_len40 _ (fun z hz => by
      obtain rfl := List.mem_singleton.1 hz
      unfold DkN; omega) (by show 1 ≤ 10; omega)) w hE.h (fun i hi W hW => by
    match i, hi with
    | 0, _ =>
      refine exec_weekday [.n 1] rfl (fun x hx => ?_) _ W (hp.next hW) (hE.next hW).h ?_
      · obtain rfl := List.mem_singleton.1 hx
        exact (fine_n n1).all.1
      · intro A1 c1 A2 c2 W' hW' h1 h2
        exact dates_weekday A1 0 c1 A2 c2 1 W' h2 ((hp.next hW).next hW') ⟨by omega, by omega⟩)
  rw [one_week, one_out] at this
  exact this
end Go.Proofs.YtcommodbjjdbmaaGreatDoor
