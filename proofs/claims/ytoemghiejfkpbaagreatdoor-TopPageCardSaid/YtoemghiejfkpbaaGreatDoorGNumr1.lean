/- Numr1, Numr2, Numr3, Numr4, Numr5, Numr6, Numr7, Numr8, Numr9, Numr10, Numr11, Numr12, Numr13, Numr14 -/
import Derived.Deep.DeepCutAuto
import Derived.Test.YtoemghiejfkpbaaGreatDoorGNumShp
import Derived.Test.YtoemghiejfkpbaaGreatDoorGPlainNumr
/- Contracts of package numeral: positional scripts. -/
namespace Go.Proofs.YtoemghiejfkpbaaGreatDoor
open Go.RowKit
set_option linter.unusedVariables false
def dgt (z x : Int) : Int := if x = 45 then 45 else z + x - 48
theorem zeros_in (k : Nat) (hk : k < 9) : 48 ≤ zerosL.getD k 0 ∧ zerosL.getD k 0 ≤ 65296 := by
 match k, hk with
 | 0, _ | 1, _ | 2, _ | 3, _ | 4, _ | 5, _ | 6, _ | 7, _ | 8, _ => decide
set_option maxRecDepth 100000 in
theorem digit_fn (g : Nat) (k : Nat) (hk : k < 9) (x : Nat) (hx : x ≤ 1114111) (W : World) (h1 : W.cell? ⟨g, 0, none⟩ = some (.int .i64 (k : Int))) (h2 : W.cell? ⟨0, k, none⟩ = some (.int .i32 (zerosL.getD k 0))) :
  Calls Tryz.prog 127 (#[.int .i32 (x : Int)] ++ #[.pointer (some ⟨g, 0, none⟩)]) W fun e w' => e = .returned (.int .i32 (dgt (zerosL.getD k 0) (x : Int))) ∧ ∃ q, w' = W.drewN q := by
 obtain ⟨z1, z2⟩ := zeros_in k hk
 generalize zerosL.getD k 0 = z at *
 unfold dgt
 by_cases h45 : (x : Int) = 45
 ·rw [if_pos h45]
  have t1 : ((x : Int) == 45) = true := by simpa using h45
  have h45' : x = 45 := by omega
  subst h45'
  go_enter Tryz.func127, Tryz.ntmps127
  go_wp2_with fail
  go_ret
  exact ⟨rfl, 0, rfl⟩
 ·rw [if_neg h45]
  have t1 : ((x : Int) == 45) = false := by simpa using h45
  have k0 : (0 : Int) ≤ (k : Int) := by omega
  have k1 : (k : Int) < 9 := by omega
  have HX := Lib.hid h45
  clear h45
  go_enter Tryz.func127, Tryz.ntmps127
  go_wp2_with fail
  go_ret
  exact ⟨rfl, 0, rfl⟩
set_option maxRecDepth 100000 in
theorem digits_any (k : Nat) (hk : k < 9) (s : ByteArray) (hs : s.size < 35184372088832) (w : World) (hz : Zer w) (hu : U8 w) :
  Calls Tryz.prog 81 #[.int .i64 (k : Int), .string s] w fun e w' => e = .returned (.string (str (Lib.mapD (dgt (zerosL.getD k 0)) s.data.toList))) ∧ Below w.heap.size w w' := by
 have HB1 := Lib.hid (below_alloc1 w (Obj.cells #[.int .i64 (k : Int)] 3))
 have HX := Lib.hid (Box.new w 3 #[.int .i64 (k : Int)])
 obtain ⟨z1, z2⟩ := zeros_in k hk
 have HM := Lib.hid (strings_Map_runes 127 #[.pointer (some ⟨w.heap.size, 0, none⟩)] (fun _ _ => rfl) (dgt (zerosL.getD k 0)) s (w.alloc (Obj.cells #[.int .i64 (k : Int)] 3)) hs
  (fun W x hx hb => digit_fn w.heap.size k hk x hx W ((HX.out.below hb).cell 0) ((hz.next HB1.out).next hb k hk))
  (fun x hx => by unfold dgt; split <;> omega) (hu.next HB1.out))
 clear hz hu z1 z2
 generalize dgt (zerosL.getD k 0) = f at *
 go_enter Tryz.func81, Tryz.ntmps81
 go_wp2_with fail
 refine HM.out.mono ?_
 rintro e w1 ⟨rfl, hb⟩
 have HB2 := Lib.hid (below_then HB1.out hb)
 clear hb HM
 go_wp2_with fail
 go_ret
 exact ⟨rfl, HB2.out⟩
set_option maxRecDepth 100000 in
theorem bounds_pos (k : Nat) (hk : k < 9) (w : World) : Calls Tryz.prog 122 #[.int .i64 (k : Int)] w fun e w' => e = .returned (.tuple #[.int .i64 (-2147483647), .int .i64 2147483647]) ∧ w = w' := by
 have t1 : ((k : Int) == 9) = false := by rw [beq_eq_false_iff_ne]; omega
 have t2 : ((k : Int) == 10) = false := by rw [beq_eq_false_iff_ne]; omega
 have t3 : ((k : Int) == 11) = false := by rw [beq_eq_false_iff_ne]; omega
 have t4 : ((k : Int) == 12) = false := by rw [beq_eq_false_iff_ne]; omega
 go_enter Tryz.func122, Tryz.ntmps122
 go_wp2_with fail
 go_ret2
 exact ⟨rfl, rfl⟩
set_option maxRecDepth 100000 in
theorem writes_pos (k : Nat) (hk : k < 9) (n : Int) (h1 : -2147483647 ≤ n) (h2 : n ≤ 2147483647) (w : World) : Calls Tryz.prog 79 #[.int .i64 (k : Int), .int .i64 n] w fun e w' => e = .returned (.bool true) ∧ w = w' := by
 have HB := Lib.hid (bounds_pos k hk w)
 have t1 : decide (-2147483647 ≤ n) = true := decide_eq_true h1
 have t2 : decide (n ≤ 2147483647) = true := decide_eq_true h2
 go_enter Tryz.func79, Tryz.ntmps79
 go_wp2_with fail
 refine HB.out.mono ?_
 rintro e w' ⟨rfl, rfl⟩
 go_wp2_with fail
 go_ret
 exact ⟨rfl, rfl⟩
set_option maxRecDepth 100000 in
theorem write_pos (k : Nat) (hk : k < 9) (n : Int) (h1 : -2147483647 ≤ n) (h2 : n ≤ 2147483647) (w : World) (hp : Pow w) (hz : Zer w) (hu : U8 w) :
  Calls Tryz.prog 80 #[.int .i64 (k : Int), .int .i64 n] w fun e w' => e = .returned (.string (str (Lib.mapD (dgt (zerosL.getD k 0)) (Lib.itoa n)))) ∧ Below w.heap.size w w' := by
 have HI := Lib.hid (itoa_any n w (by omega) (by omega) hp)
 have HD := Lib.hid (fun W (hW : Below w.heap.size w W) => digits_any k hk (str (Lib.itoa n)) (by have := itoa_size n (by omega) (by omega); omega) W (hz.next hW) (hu.next hW))
 rw [str_data] at HD
 have t1 : ((k : Int) == 9) = false := by rw [beq_eq_false_iff_ne]; omega
 have t2 : ((k : Int) == 10) = false := by rw [beq_eq_false_iff_ne]; omega
 have t3 : ((k : Int) == 11) = false := by rw [beq_eq_false_iff_ne]; omega
 have t4 : ((k : Int) == 12) = false := by rw [beq_eq_false_iff_ne]; omega
 clear hp hz hu
 generalize dgt (zerosL.getD k 0) = f at *
 go_enter Tryz.func80, Tryz.ntmps80
 go_wp2_with fail
 refine HI.out.mono ?_
 rintro e w1 ⟨rfl, hb⟩
 have HB := Lib.hid hb
 have HD2 := Lib.hid (HD.out w1 hb)
 clear hb HI HD
 go_wp2_with fail
 refine HD2.out.mono ?_
 rintro e w2 ⟨rfl, hb⟩
 have HB2 := Lib.hid (below_then HB.out hb)
 clear hb HD2
 go_wp2_with fail
 go_ret
 exact ⟨rfl, HB2.out⟩
set_option maxRecDepth 100000 in
theorem isScript_yes (k : Nat) (hk : k < 13) (w : World) : Calls Tryz.prog 78 #[.int .i64 (k : Int)] w fun e w' => e = .returned (.bool true) ∧ w = w' := by
 have t1 : decide ((0 : Int) ≤ (k : Int)) = true := decide_eq_true (by omega)
 have t2 : decide ((k : Int) ≤ 12) = true := decide_eq_true (by omega)
 have q1 : (0 : Int) ≤ (k : Int) := by omega
 have q2 : (k : Int) ≤ 12 := by omega
 go_enter Tryz.func78, Tryz.ntmps78
 go_wp2_with fail
 go_ret
 exact ⟨rfl, rfl⟩
set_option maxRecDepth 100000 in
theorem nWrite_pos (k : Nat) (hk : k < 9) (n : Int) (h1 : -2147483647 ≤ n) (h2 : n ≤ 2147483647) (w : World) (hp : Pow w) (hz : Zer w) (hu : U8 w) :
  Calls Tryz.prog 50 #[.int .i64 (k : Int), .int .i64 n] w fun e w' => e = .returned (.tuple #[.string (str (Lib.mapD (dgt (zerosL.getD k 0)) (Lib.itoa n))), .int .i64 0]) ∧ Below w.heap.size w w' := by
 have HI := Lib.hid (isScript_yes k (by omega) w)
 have HW := Lib.hid (writes_pos k hk n h1 h2 w)
 have HD := Lib.hid (write_pos k hk n h1 h2 w hp hz hu)
 clear hp hz hu
 generalize dgt (zerosL.getD k 0) = f at *
 go_enter Tryz.func50, Tryz.ntmps50
 go_wp2_with fail
 refine HI.out.mono ?_
 rintro e w' ⟨rfl, rfl⟩
 go_wp2_with fail
 refine HW.out.mono ?_
 rintro e w' ⟨rfl, rfl⟩
 go_wp2_with fail
 refine HD.out.mono ?_
 rintro e w1 ⟨rfl, hb⟩
 have HB := Lib.hid hb
 clear hb HD
 go_wp2_with fail
 go_ret2
 exact ⟨rfl, HB.out⟩
end Go.Proofs.YtoemghiejfkpbaaGreatDoor
/- Contract of numeral.Pad; plain law of the widths. -/
namespace Go.Proofs.YtoemghiejfkpbaaGreatDoor
open Go.RowKit
set_option linter.unusedVariables false
theorem repeat_zero (c : Nat) : Lib.repeatL [48] c = List.replicate c 48 := by
 induction c with
 | zero => rfl
 | succ c ih => rw [Lib.repeatL, ih, List.replicate_succ]; rfl
theorem itoa_head (n : Int) (h : 0 ≤ n) : Lib.hasPrefix (Lib.itoa n) [45] = false ∧ Lib.trimPrefix (Lib.itoa n) [45] = Lib.itoa n := by
 have hp : Lib.hasPrefix (Lib.itoa n) [45] = false := by
  unfold Lib.hasPrefix Lib.itoa
  rw [if_neg (by omega)]
  have h1 := dec_ne n.toNat
  have h2 := dec_digit n.toNat
  generalize Lib.decDigits n.toNat = l at *
  cases l with
  | nil => exact absurd rfl h1
  | cons b r =>
   have hb := h2 b (List.mem_cons_self ..)
   have : ((45 : UInt8) == b) = false := by
    rw [beq_eq_false_iff_ne]; rintro rfl; simp at hb
   simp [List.isPrefixOf, this]
 refine ⟨hp, ?_⟩
 unfold Lib.trimPrefix
 rw [hp]
 simp
theorem flat_congr {α β : Type} (f g : α → List β) : ∀ (l : List α), (∀ b ∈ l, f b = g b) → l.flatMap f = l.flatMap g
 | [], _ => rfl
 | b :: l, h => by
  rw [List.flatMap_cons, List.flatMap_cons, h b (List.mem_cons_self ..), flat_congr f g l fun x hx => h x (List.mem_cons_of_mem _ hx)]
def runesOf (z : Int) (l : List UInt8) : List Nat := l.map (fun b => (dgt z (b.toNat : Int)).toNat)
theorem map_runes (k : Nat) (hk : k < 9) (l : List UInt8) (hl : ∀ b ∈ l, b.toNat = 45 ∨ (48 ≤ b.toNat ∧ b.toNat ≤ 57)) :
  Lib.mapD (dgt (zerosL.getD k 0)) l = encs (runesOf (zerosL.getD k 0) l) ∧ ∀ r ∈ runesOf (zerosL.getD k 0) l, Bmp r := by
 obtain ⟨z1, z2⟩ := zeros_in k hk
 have zz : zerosL.getD k 0 ∈ zerosL := by
  match k, hk with
  | 0, _ | 1, _ | 2, _ | 3, _ | 4, _ | 5, _ | 6, _ | 7, _ | 8, _ => decide
 have hd : ∀ b ∈ l, 0 ≤ dgt (zerosL.getD k 0) (b.toNat : Int) ∧ Bmp (dgt (zerosL.getD k 0) (b.toNat : Int)).toNat := fun b hb => by
  have := hl b hb
  simp only [zerosL, List.mem_cons, List.mem_nil_iff, or_false] at zz
  unfold dgt Bmp
  split
  ·omega
  ·rw [show ([48, 1632, 1776, 2406, 2534, 3664, 3872, 6112, 65296] : List Int) = zerosL from rfl] at zz
   omega
 constructor
 ·rw [mapD_ascii _ l fun b hb => ⟨by have := hl b hb; omega, (hd b hb).1⟩]
  unfold encs runesOf
  rw [List.flatMap_map]
  exact flat_congr _ _ l fun b hb => by rw [Int.toNat_of_nonneg (hd b hb).1]
 ·intro r hr
  obtain ⟨b, hb, rfl⟩ := List.mem_map.1 hr
  exact (hd b hb).2
end Go.Proofs.YtoemghiejfkpbaaGreatDoor
/- Contracts of package numeral: Roman numerals. -/
namespace Go.Proofs.YtoemghiejfkpbaaGreatDoor
open Go.RowKit
set_option linter.unusedVariables false
theorem ext01 (o f t : UInt8) : (⟨#[o, f, t]⟩ : ByteArray).extract 0 1 = str [o] := by
 apply ByteArray.ext; simp [str, ByteArray.data_extract]
theorem ext12 (o f t : UInt8) : (⟨#[o, f, t]⟩ : ByteArray).extract 1 2 = str [f] := by
 apply ByteArray.ext; simp [str, ByteArray.data_extract]
theorem ext23 (o f t : UInt8) : (⟨#[o, f, t]⟩ : ByteArray).extract 2 3 = str [t] := by
 apply ByteArray.ext; simp [str, ByteArray.data_extract]
def romB (n : Nat) (o f t : UInt8) : List UInt8 := if n = 9 then [o, t] else if 5 ≤ n then f :: List.replicate (n - 5) o else if n = 4 then [o, f] else List.replicate n o
theorem romB_len (n : Nat) (o f t : UInt8) (h : n ≤ 9) : (romB n o f t).length ≤ 5 := by
 unfold romB
 split
 ·simp
 ·split
  ·simp; omega
  ·split <;> simp <;> omega
theorem repeat_one (o : UInt8) (c : Nat) : Lib.repeatL [o] c = List.replicate c o := by
 induction c with
 | zero => rfl
 | succ c ih => rw [Lib.repeatL, ih, List.replicate_succ]; rfl
theorem repeat_any (o : UInt8) (c : Nat) (hc : c ≤ 10) (w : World) :
  Calls Tryz.prog 30 #[.string (str [o]), .int .i64 (c : Int)] w fun e w' => e = .returned (.string (str (List.replicate c o))) ∧ Below w.heap.size w w' := by
 have := strings_Repeat (str [o]) c w (by omega) (by rw [str_size]; simp; omega)
 rw [str_data, repeat_one] at this
 exact this
set_option maxHeartbeats 1000000 in
set_option maxRecDepth 100000 in
theorem romanDigit_any (n : Nat) (hn : n ≤ 9) (o f t : UInt8) (w : World) :
  Calls Tryz.prog 158 #[.int .i64 (n : Int), .string ⟨#[o, f, t]⟩] w fun e w' => e = .returned (.string (str (romB n o f t))) ∧ Below w.heap.size w w' := by
 have e0 := ext01 o f t
 have e1 := ext12 o f t
 have e2 := ext23 o f t
 have hs : (⟨#[o, f, t]⟩ : ByteArray).size = 3 := rfl
 generalize (⟨#[o, f, t]⟩ : ByteArray) = S at *
 have s1 : (str [o]).size = 1 := str_size _
 have s2 : (str [f]).size = 1 := str_size _
 have s3 : (str [t]).size = 1 := str_size _
 unfold romB
 by_cases h9 : n = 9
 ·rw [if_pos h9]
  subst h9
  have hc : str [o] ++ str [t] = str [o, t] := str_append _ _
  generalize str [o, t] = R at *
  generalize str [o] = a at *
  generalize str [t] = b at *
  generalize str [f] = c at *
  go_enter Tryz.func158, Tryz.ntmps158
  go_wp2_with fail
  go_quiet (fail)
  go_wp2_with fail
  go_ret
  exact ⟨rfl, below_drewN _ _⟩
 rw [if_neg h9]
 have t9 : ((n : Int) == 9) = false := by rw [beq_eq_false_iff_ne]; omega
 by_cases h5 : 5 ≤ n
 ·rw [if_pos h5]
  have t5 : decide ((5 : Int) ≤ (n : Int)) = true := decide_eq_true (by omega)
  have hc : str [f] ++ str (List.replicate (n - 5) o) = str (f :: List.replicate (n - 5) o) := str_append _ _
  have hz : (str (List.replicate (n - 5) o)).size ≤ 4 := by rw [str_size]; simp; omega
  have HR := Lib.hid (fun W => repeat_any o (n - 5) (by omega) W)
  have ei : (n : Int) - 5 = ((n - 5 : Nat) : Int) := by omega
  generalize str (f :: List.replicate (n - 5) o) = R at *
  generalize str (List.replicate (n - 5) o) = r at *
  generalize str [o] = a at *
  generalize str [t] = b at *
  generalize str [f] = c at *
  go_enter Tryz.func158, Tryz.ntmps158
  go_wp2_with fail
  go_quiet (fail)
  have HB := Lib.hid (below_drewN w nq)
  go_wp2_with fail
  refine (HR.out _).mono ?_
  rintro e w1 ⟨rfl, hb⟩
  have HB1 := Lib.hid (below_then HB.out hb)
  clear hb
  go_wp2_with fail
  go_ret
  exact ⟨rfl, HB1.out⟩
 rw [if_neg h5]
 have t5 : decide ((5 : Int) ≤ (n : Int)) = false := decide_eq_false (by omega)
 by_cases h4 : n = 4
 ·rw [if_pos h4]
  subst h4
  have hc : str [o] ++ str [f] = str [o, f] := str_append _ _
  generalize str [o, f] = R at *
  generalize str [o] = a at *
  generalize str [t] = b at *
  generalize str [f] = c at *
  go_enter Tryz.func158, Tryz.ntmps158
  go_wp2_with fail
  go_quiet (fail)
  go_wp2_with fail
  go_ret
  exact ⟨rfl, below_drewN _ _⟩
 ·rw [if_neg h4]
  have t4 : ((n : Int) == 4) = false := by rw [beq_eq_false_iff_ne]; omega
  have HR := Lib.hid (fun W => repeat_any o n (by omega) W)
  generalize str (List.replicate n o) = R at *
  generalize str [o] = a at *
  generalize str [t] = b at *
  generalize str [f] = c at *
  go_enter Tryz.func158, Tryz.ntmps158
  go_wp2_with fail
  go_quiet (fail)
  have HB := Lib.hid (below_drewN w nq)
  go_wp2_with fail
  refine (HR.out _).mono ?_
  rintro e w1 ⟨rfl, hb⟩
  have HB1 := Lib.hid (below_then HB.out hb)
  clear hb
  go_wp2_with fail
  go_ret
  exact ⟨rfl, HB1.out⟩
def romL (n : Nat) : List UInt8 := List.replicate (n / 1000) 77 ++ romB (n / 100 % 10) 67 68 77 ++ romB (n / 10 % 10) 88 76 67 ++ romB (n % 10) 73 86 88
set_option maxHeartbeats 1000000 in
set_option maxRecDepth 100000 in
theorem writeRoman_any (n : Nat) (hn : n ≤ 3999) (w : World) :
  Calls Tryz.prog 123 #[.int .i64 (n : Int)] w fun e w' => e = .returned (.string (str (romL n))) ∧ Below w.heap.size w w' := by
 have HR := Lib.hid (fun W => repeat_any 77 (n / 1000) (by omega) W)
 have H1 := Lib.hid (fun W => romanDigit_any (n / 100 % 10) (by omega) 67 68 77 W)
 have H2 := Lib.hid (fun W => romanDigit_any (n / 10 % 10) (by omega) 88 76 67 W)
 have H3 := Lib.hid (fun W => romanDigit_any (n % 10) (by omega) 73 86 88 W)
 have z0 : (str (List.replicate (n / 1000) (77 : UInt8))).size ≤ 3 := by rw [str_size]; simp; omega
 have z1 : (str (romB (n / 100 % 10) 67 68 77)).size ≤ 5 := by rw [str_size]; exact romB_len _ _ _ _ (by omega)
 have z2 : (str (romB (n / 10 % 10) 88 76 67)).size ≤ 5 := by rw [str_size]; exact romB_len _ _ _ _ (by omega)
 have z3 : (str (romB (n % 10) 73 86 88)).size ≤ 5 := by rw [str_size]; exact romB_len _ _ _ _ (by omega)
 have hc : str (List.replicate (n / 1000) (77 : UInt8)) ++ str (romB (n / 100 % 10) 67 68 77) ++ str (romB (n / 10 % 10) 88 76 67) ++ str (romB (n % 10) 73 86 88) = str (romL n) := by rw [str_append, str_append, str_append]; rfl
 rw [← hc]
 clear hc
 rw [show str [(77 : UInt8)] = ⟨#[77]⟩ from rfl] at HR
 rw [show ((n / 1000 : Nat) : Int) = (n : Int) / 1000 from by omega] at HR
 rw [show ((n / 100 % 10 : Nat) : Int) = (n : Int) / 100 % 10 from by omega] at H1
 rw [show ((n / 10 % 10 : Nat) : Int) = (n : Int) / 10 % 10 from by omega] at H2
 rw [show ((n % 10 : Nat) : Int) = (n : Int) % 10 from by omega] at H3
 generalize str (List.replicate (n / 1000) (77 : UInt8)) = a at *
 generalize str (romB (n / 100 % 10) 67 68 77) = b at *
 generalize str (romB (n / 10 % 10) 88 76 67) = c at *
 generalize str (romB (n % 10) 73 86 88) = d at *
 have z4 : (a ++ b).size ≤ 8 := by rw [ByteArray.size_append]; omega
 have z5 : (a ++ b ++ c).size ≤ 13 := by rw [ByteArray.size_append]; omega
 go_enter Tryz.func123, Tryz.ntmps123
 go_wp2_with fail
 refine (HR.out _).mono ?_
 rintro e w1 ⟨rfl, hb⟩
 have HB1 := Lib.hid hb
 clear hb HR
 go_wp2_with fail
 refine (H1.out _).mono ?_
 rintro e w2 ⟨rfl, hb⟩
 have HB2 := Lib.hid (below_then HB1.out hb)
 clear hb H1
 go_wp2_with fail
 refine (H2.out _).mono ?_
 rintro e w3 ⟨rfl, hb⟩
 have HB3 := Lib.hid (below_then HB2.out hb)
 clear hb H2
 go_wp2_with fail
 refine (H3.out _).mono ?_
 rintro e w4 ⟨rfl, hb⟩
 have HB4 := Lib.hid (below_then HB3.out hb)
 clear hb H3
 go_wp2_with fail
 go_ret
 exact ⟨rfl, HB4.out⟩
end Go.Proofs.YtoemghiejfkpbaaGreatDoor
/- Contracts of package numeral: signs. -/
namespace Go.Proofs.YtoemghiejfkpbaaGreatDoor
open Go.RowKit
set_option linter.unusedVariables false
theorem utf_enc (r : Nat) (h : Bmp r) : Utf8.encode (r : Int) = str (Lib.encodeRune (r : Int)) := by
 have hv : Utf8.valid (r : Int) = true := by
  unfold Utf8.valid
  unfold Bmp at h
  simp
  omega
 unfold Utf8.encode
 simp only [hv, if_true, Int.toNat_natCast]
 unfold Bmp at h
 by_cases h1 : r < 128
 ·rw [enc_one r h1, if_pos (by omega)]; rfl
 rw [if_neg (by omega)]
 by_cases h2 : r ≤ 2047
 ·rw [enc_two r (by omega) h2, if_pos (by omega)]; rfl
 ·rw [enc_three r (by omega), if_neg (by omega), if_pos (by omega)]; rfl
theorem encs_one (r : Nat) : encs [r] = Lib.encodeRune (r : Int) := by simp [encs]
def chV32 : List Int := [12295, 19968, 20108, 19977, 22235, 20116, 20845, 19971, 20843, 20061]
theorem run_ch (n : Nat) (hn : n < 10) (W : World) : (Instr.index 214 (.agg #[.int .i32 12295, .int .i32 19968, .int .i32 20108, .int .i32 19977, .int .i32 22235, .int .i32 20116, .int .i32 20845, .int .i32 19971, .int .i32 20843, .int .i32 20061]) (.int .i64 (n : Int))).run Tryz.prog W = .ok (.int .i32 (chV32.getD n 0)) W := by
 match n, hn with
 | 0, _ | 1, _ | 2, _ | 3, _ | 4, _ | 5, _ | 6, _ | 7, _ | 8, _ | 9, _ => simp [Instr.index, run_underlying Tryz.underlying214, asIntOf, go_sem, chV32]
set_option maxRecDepth 100000 in
theorem chineseDigit_any (n : Nat) (hn : n < 10) (w : World) :
  Calls Tryz.prog 112 #[.int .i64 (n : Int)] w fun e w' => e = .returned (.string (str (encs [chD n]))) ∧ w = w' := by
 have hi := run_ch n hn
 have he : Utf8.encode (chV32.getD n 0) = str (encs [chD n]) := by
  rw [encs_one]
  match n, hn with
  | 0, _ | 1, _ | 2, _ | 3, _ | 4, _ | 5, _ | 6, _ | 7, _ | 8, _ | 9, _ => exact utf_enc _ (by unfold Bmp; decide)
 have HE := Lib.hid he
 clear he
 generalize chV32.getD n 0 = r at *
 generalize str (encs [chD n]) = R at *
 go_enter Tryz.func112, Tryz.ntmps112
 go_wp2_with fail
 go_ret
 exact ⟨by rw [← HE.out]; rfl, rfl⟩
end Go.Proofs.YtoemghiejfkpbaaGreatDoor
/- Contract of numeral.sign. -/
namespace Go.Proofs.YtoemghiejfkpbaaGreatDoor
open Go.RowKit
set_option linter.unusedVariables false
theorem utf_one (r : Nat) (h : Bmp r) : Utf8.encode (r : Int) = str (encs [r]) := by rw [encs_one]; exact utf_enc r h
def SignQ (rs : List Nat) (w : World) (e : Ending) (w' : World) : Prop := e = .returned (.string (str (encs rs))) ∧ Below w.heap.size w w'
theorem enc_cat (a b : List Nat) : str (encs a) ++ str (encs b) = str (encs (a ++ b)) := by rw [str_append]; unfold encs; rw [List.flatMap_append]
theorem encs_small (rs : List Nat) (h : ∀ r ∈ rs, Bmp r) : (str (encs rs)).size ≤ 3 * rs.length := by rw [str_size]; exact (encs_len rs h).2
def grAll : Value := .agg #[.int .i32 945, .int .i32 946, .int .i32 947, .int .i32 948, .int .i32 949, .int .i32 987, .int .i32 950, .int .i32 951, .int .i32 952, .int .i32 953, .int .i32 954, .int .i32 955, .int .i32 956, .int .i32 957, .int .i32 958, .int .i32 959, .int .i32 960, .int .i32 991, .int .i32 961, .int .i32 963, .int .i32 964, .int .i32 965, .int .i32 966, .int .i32 967, .int .i32 968, .int .i32 969, .int .i32 993]
def grRow (pl : Nat) : Value := match pl with | 0 => .agg #[.int .i32 945, .int .i32 946, .int .i32 947, .int .i32 948, .int .i32 949, .int .i32 987, .int .i32 950, .int .i32 951, .int .i32 952] | 1 => .agg #[.int .i32 953, .int .i32 954, .int .i32 955, .int .i32 956, .int .i32 957, .int .i32 958, .int .i32 959, .int .i32 960, .int .i32 991] | _ => .agg #[.int .i32 961, .int .i32 963, .int .i32 964, .int .i32 965, .int .i32 966, .int .i32 967, .int .i32 968, .int .i32 969, .int .i32 993]
def grC (pl : Nat) : List Nat := if pl = 0 then grU else if pl = 1 then grT else grH
theorem run_gr3 (pl : Nat) (hp : pl < 3) (W : World) : (Instr.index 213 grAll (.int .i64 (pl : Int))).run Tryz.prog W = .ok (grRow pl) W := by
 have hz : ∀ w, (sizeOf 181).run Tryz.prog w = .ok 9 w := fun w => Tryz.sizeOf181 w
 match pl, hp with
 | 0, _ | 1, _ | 2, _ => simp [grAll, grRow, Instr.index, run_underlying Tryz.underlying213, asIntOf, go_sem, hz]
theorem run_gr9 (pl m : Nat) (hp : pl < 3) (hm : m < 9) (W : World) : (Instr.index 181 (grRow pl) (.int .i64 (m : Int))).run Tryz.prog W = .ok (.int .i32 ((grC pl).getD m 0 : Nat)) W := by
 match pl, hp, m, hm with
 | 0, _, 0, _ | 0, _, 1, _ | 0, _, 2, _ | 0, _, 3, _ | 0, _, 4, _ | 0, _, 5, _ | 0, _, 6, _ | 0, _, 7, _ | 0, _, 8, _ => simp [grRow, grC, grU, Instr.index, run_underlying Tryz.underlying181, asIntOf, go_sem]
 | 1, _, 0, _ | 1, _, 1, _ | 1, _, 2, _ | 1, _, 3, _ | 1, _, 4, _ | 1, _, 5, _ | 1, _, 6, _ | 1, _, 7, _ | 1, _, 8, _ => simp [grRow, grC, grT, Instr.index, run_underlying Tryz.underlying181, asIntOf, go_sem]
 | 2, _, 0, _ | 2, _, 1, _ | 2, _, 2, _ | 2, _, 3, _ | 2, _, 4, _ | 2, _, 5, _ | 2, _, 6, _ | 2, _, 7, _ | 2, _, 8, _ => simp [grRow, grC, grH, Instr.index, run_underlying Tryz.underlying181, asIntOf, go_sem]
theorem grC_bmp (pl m : Nat) (hp : pl < 3) (hm : m < 9) : Bmp ((grC pl).getD m 0) := by
 have : ∀ pl, pl < 3 → ∀ m, m < 9 → (grC pl).getD m 0 < 55296 := by decide
 exact .inl (this pl hp m hm)
set_option maxRecDepth 100000 in
theorem sign_zero (sc pl : Nat) (w : World) : Calls Tryz.prog 111 #[.int .i64 (sc : Int), .int .i64 (pl : Int), .int .i64 0] w (SignQ [] w) := by
 go_enter Tryz.func111, Tryz.ntmps111
 go_wp2_with fail
 go_ret
 exact ⟨rfl, Below.refl _ _⟩
set_option maxRecDepth 100000 in
theorem sign_gr (pl n : Nat) (hp : pl < 3) (h1 : 1 ≤ n) (hn : n < 10) (w : World) : Calls Tryz.prog 111 #[.int .i64 10, .int .i64 (pl : Int), .int .i64 (n : Int)] w (SignQ [(grC pl).getD (n - 1) 0] w) := by
 have t0 : ((n : Int) == 0) = false := by rw [beq_eq_false_iff_ne]; omega
 have p0 : (0 : Int) ≤ (pl : Int) := by omega
 have p3 : (pl : Int) < 3 := by omega
 have h3 := run_gr3 pl hp
 unfold grAll at h3
 have h9 := run_gr9 pl (n - 1) hp (by omega)
 rw [show ((n - 1 : Nat) : Int) = (n : Int) - 1 from by omega] at h9
 have HU := Lib.hid (utf_one _ (grC_bmp pl (n - 1) hp (by omega)))
 generalize (grC pl).getD (n - 1) 0 = r at *
 generalize grRow pl = V at *
 go_enter Tryz.func111, Tryz.ntmps111
 go_wp2_with fail
 go_ret
 exact ⟨by rw [← HU.out]; rfl, below_alloc3 _ _ _ _⟩
def heCells : Array Value := #[.int .i32 1497, .int .i32 1499, .int .i32 1500, .int .i32 1502, .int .i32 1504, .int .i32 1505, .int .i32 1506, .int .i32 1508, .int .i32 1510]
theorem he_cell (m : Nat) (hm : m < 9) : heCells[m]? = some (.int .i32 (heT.getD m 0 : Nat)) := by
 match m, hm with
 | 0, _ | 1, _ | 2, _ | 3, _ | 4, _ | 5, _ | 6, _ | 7, _ | 8, _ => rfl
theorem heT_bmp (m : Nat) (hm : m < 9) : Bmp (heT.getD m 0) := by
 have : ∀ m, m < 9 → heT.getD m 0 < 55296 := by decide
 exact .inl (this m hm)
set_option maxRecDepth 100000 in
theorem sign_he0 (n : Nat) (h1 : 1 ≤ n) (hn : n < 10) (w : World) : Calls Tryz.prog 111 #[.int .i64 11, .int .i64 0, .int .i64 (n : Int)] w (SignQ [1488 + (n - 1)] w) := by
 have t0 : ((n : Int) == 0) = false := by rw [beq_eq_false_iff_ne]; omega
 have HU := Lib.hid (utf_one (1488 + (n - 1)) (.inl (by omega)))
 go_enter Tryz.func111, Tryz.ntmps111
 go_wp2_with fail
 go_ret
 refine ⟨?_, below_alloc1 _ _⟩
 rw [← HU.out, show ((1488 + (n - 1) : Nat) : Int) = 1488 + (n : Int) - 1 from by omega]
 rfl
set_option maxRecDepth 100000 in
theorem sign_he1 (n : Nat) (h1 : 1 ≤ n) (hn : n < 10) (w : World) : Calls Tryz.prog 111 #[.int .i64 11, .int .i64 1, .int .i64 (n : Int)] w (SignQ [heT.getD (n - 1) 0] w) := by
 have t0 : ((n : Int) == 0) = false := by rw [beq_eq_false_iff_ne]; omega
 have HU := Lib.hid (utf_one _ (heT_bmp (n - 1) (by omega)))
 have hc := he_cell (n - 1) (by omega)
 unfold heCells at hc
 have m0 : (1 : Int) ≤ (n : Int) := by omega
 have m9 : (n : Int) - 1 < 9 := by omega
 generalize heT.getD (n - 1) 0 = r at *
 go_enter Tryz.func111, Tryz.ntmps111
 go_wp2_with fail
 go_ret
 exact ⟨by rw [← HU.out]; rfl, below_alloc1 _ _⟩
set_option maxRecDepth 100000 in
theorem sign_he2 (n : Nat) (h1 : 1 ≤ n) (hn : n < 5) (w : World) : Calls Tryz.prog 111 #[.int .i64 11, .int .i64 2, .int .i64 (n : Int)] w (SignQ [1511 + (n - 1)] w) := by
 have t0 : ((n : Int) == 0) = false := by rw [beq_eq_false_iff_ne]; omega
 have t4 : decide ((4 : Int) < (n : Int)) = false := decide_eq_false (by omega)
 have HU := Lib.hid (utf_one (1511 + (n - 1)) (.inl (by omega)))
 go_enter Tryz.func111, Tryz.ntmps111
 go_wp2_with fail
 go_ret
 refine ⟨?_, below_alloc1 _ _⟩
 rw [← HU.out, show ((1511 + (n - 1) : Nat) : Int) = 1511 + (n : Int) - 1 from by omega]
 rfl
set_option maxRecDepth 100000 in
theorem sign_heX (n : Nat) (rs : List Nat) (h5 : 5 ≤ n) (hn : n < 10) (hr : ∀ r ∈ rs, Bmp r) (hl : rs.length ≤ 2) (hrec : ∀ W, Calls Tryz.prog 111 #[.int .i64 11, .int .i64 2, .int .i64 ((n : Int) - 4)] W (SignQ rs W)) (w : World) :
  Calls Tryz.prog 111 #[.int .i64 11, .int .i64 2, .int .i64 (n : Int)] w (SignQ (1514 :: rs) w) := by
 have t0 : ((n : Int) == 0) = false := by rw [beq_eq_false_iff_ne]; omega
 have t4 : decide ((4 : Int) < (n : Int)) = true := decide_eq_true (by omega)
 have hc : str (encs [1514]) ++ str (encs rs) = str (encs (1514 :: rs)) := enc_cat [1514] rs
 have z1 : (str (encs [1514])).size ≤ 3 := encs_small _ (by simp [Bmp])
 have z2 : (str (encs rs)).size ≤ 6 := Nat.le_trans (encs_small rs hr) (by omega)
 have H4 := Lib.hid (fun W => sign_he2 4 (by omega) (by omega) W)
 have H5 := Lib.hid hrec
 have HC := Lib.hid hc
 have HB := Lib.hid (fun o => below_alloc1 w o)
 clear hrec hc hr hl
 unfold SignQ at *
 rw [show (1511 + (4 - 1)) = 1514 from rfl] at H4
 generalize str (encs (1514 :: rs)) = R at *
 generalize str (encs rs) = b at *
 generalize str (encs [1514]) = a at *
 go_enter Tryz.func111, Tryz.ntmps111
 go_wp2_with fail
 refine (H4.out _).mono ?_
 rintro e w1 ⟨rfl, hb⟩
 have HB1 := Lib.hid (below_then (HB.out _) hb)
 clear hb
 go_wp2_with fail
 refine (H5.out _).mono ?_
 rintro e w2 ⟨rfl, hb⟩
 have HB2 := Lib.hid (below_then HB1.out hb)
 clear hb
 go_wp2_with fail
 go_ret
 exact ⟨by rw [← HC.out]; rfl, HB2.out⟩
theorem sign_he5 (n : Nat) (h5 : 5 ≤ n) (hn : n ≤ 8) (w : World) : Calls Tryz.prog 111 #[.int .i64 11, .int .i64 2, .int .i64 (n : Int)] w (SignQ [1514, 1511 + (n - 4 - 1)] w) :=
 sign_heX n [1511 + (n - 4 - 1)] h5 (by omega) (fun r hr => by obtain rfl := List.mem_singleton.1 hr; exact .inl (by omega)) (by simp) (fun W => by
  have := sign_he2 (n - 4) (by omega) (by omega) W
  rwa [show ((n - 4 : Nat) : Int) = (n : Int) - 4 from by omega] at this) w
theorem sign_he9 (w : World) : Calls Tryz.prog 111 #[.int .i64 11, .int .i64 2, .int .i64 9] w (SignQ [1514, 1514, 1511] w) :=
 sign_heX 9 [1514, 1511] (by omega) (by omega) (by simp [Bmp]) (by simp) (fun W => sign_he5 5 (by omega) (by omega) W) w
theorem sign_any (sc pl n : Nat) (hs : sc = 10 ∨ sc = 11) (hp : pl < 3) (hn : n < 10) (w : World) : Calls Tryz.prog 111 #[.int .i64 (sc : Int), .int .i64 (pl : Int), .int .i64 (n : Int)] w (SignQ (sgnR sc pl n) w) := by
 unfold sgnR
 by_cases h0 : n = 0
 ·subst h0; exact sign_zero sc pl w
 rw [if_neg h0]
 rcases hs with rfl | rfl
 ·rw [if_pos rfl]; exact sign_gr pl n hp (by omega) hn w
 ·rw [if_neg (by omega)]
  by_cases p0 : pl = 0
  ·subst p0
   rw [if_pos rfl, show 0x5d0 + n - 1 = 1488 + (n - 1) from by omega]
   exact sign_he0 n (by omega) hn w
  rw [if_neg p0]
  by_cases p1 : pl = 1
  ·subst p1
   rw [if_pos rfl]
   exact sign_he1 n (by omega) hn w
  rw [if_neg p1]
  obtain rfl : pl = 2 := by omega
  unfold heH
  by_cases h4 : n ≤ 4
  ·rw [if_pos h4, show 0x5e7 + n - 1 = 1511 + (n - 1) from by omega]
   exact sign_he2 n (by omega) (by omega) w
  rw [if_neg h4]
  by_cases h8 : n ≤ 8
  ·rw [if_pos h8, show 0x5e7 + (n - 4) - 1 = 1511 + (n - 4 - 1) from by omega]
   exact sign_he5 n (by omega) h8 w
  ·rw [if_neg h8]
   obtain rfl : n = 9 := by omega
   exact sign_he9 w
end Go.Proofs.YtoemghiejfkpbaaGreatDoor
/- Contracts of package numeral: writers. -/
namespace Go.Proofs.YtoemghiejfkpbaaGreatDoor
open Go.RowKit
set_option linter.unusedVariables false
theorem sgnR_ok (sc pl n : Nat) (hn : n < 10) : (sgnR sc pl n).length ≤ 3 ∧ ∀ r ∈ sgnR sc pl n, Bmp r := by
 unfold sgnR
 by_cases h0 : n = 0
 ·rw [if_pos h0]; simp
 rw [if_neg h0]
 have one : ∀ x : Nat, x < 55296 → ([x] : List Nat).length ≤ 3 ∧ ∀ r ∈ ([x] : List Nat), Bmp r := fun x hx => ⟨by simp, fun r hr => by obtain rfl := List.mem_singleton.1 hr; exact .inl hx⟩
 have g1 : ∀ m, m < 9 → grU.getD m 0 < 55296 ∧ grT.getD m 0 < 55296 ∧ grH.getD m 0 < 55296 ∧ heT.getD m 0 < 55296 := by decide
 obtain ⟨q1, q2, q3, q4⟩ := g1 (n - 1) (by omega)
 split
 ·apply one
  split
  ·exact q1
  ·split
   ·exact q2
   ·exact q3
 ·split
  ·exact one _ (by omega)
  ·split
   ·exact one _ q4
   ·unfold heH
    split
    ·exact one _ (by omega)
    ·split
     ·refine ⟨by simp, fun r hr => ?_⟩
      simp at hr
      unfold Bmp
      omega
     ·refine ⟨by simp, fun r hr => ?_⟩
      simp at hr
      unfold Bmp
      omega
set_option maxHeartbeats 1000000 in
set_option maxRecDepth 100000 in
theorem writeSigns_any (sc n : Nat) (hs : sc = 10 ∨ sc = 11) (hn : n ≤ 999) (w : World) : Calls Tryz.prog 124 #[.int .i64 (sc : Int), .int .i64 (n : Int)] w (SignQ (sgsR sc n) w) := by
 have HS := Lib.hid (fun pl d hp hd W => sign_any sc pl d hs hp hd W)
 have H2 := Lib.hid (fun W => sign_any sc 2 (n / 100) hs (by omega) (by omega) W)
 rw [show ((n / 100 : Nat) : Int) = (n : Int) / 100 from by omega] at H2
 have z2 := encs_small _ (sgnR_ok sc 2 (n / 100) (by omega)).2
 have y2 := (sgnR_ok sc 2 (n / 100) (by omega)).1
 by_cases hc : sc = 11 ∧ (n % 100 = 15 ∨ n % 100 = 16)
 ·have hR : sgsR sc n = sgnR sc 2 (n / 100) ++ sgnR sc 0 9 ++ sgnR sc 0 (n % 100 - 9) := by unfold sgsR; rw [if_pos hc]
  have hcat : str (encs (sgnR sc 2 (n / 100))) ++ str (encs (sgnR sc 0 9)) ++ str (encs (sgnR sc 0 (n % 100 - 9))) = str (encs (sgsR sc n)) := by rw [enc_cat, enc_cat, hR]
  have H3 := Lib.hid (fun W => sign_any sc 0 9 hs (by omega) (by omega) W)
  have H4 := Lib.hid (fun W => sign_any sc 0 (n % 100 - 9) hs (by omega) (by omega) W)
  rw [show ((n % 100 - 9 : Nat) : Int) = (n : Int) % 100 - 9 from by omega] at H4
  have z3 := encs_small _ (sgnR_ok sc 0 9 (by omega)).2
  have y3 := (sgnR_ok sc 0 9 (by omega)).1
  have z4 := encs_small _ (sgnR_ok sc 0 (n % 100 - 9) (by omega)).2
  have y4 := (sgnR_ok sc 0 (n % 100 - 9) (by omega)).1
  unfold SignQ at *
  generalize str (encs (sgsR sc n)) = R at *
  generalize str (encs (sgnR sc 2 (n / 100))) = a at *
  generalize str (encs (sgnR sc 0 9)) = b at *
  generalize str (encs (sgnR sc 0 (n % 100 - 9))) = c at *
  have z5 : (a ++ b).size ≤ 18 := by rw [ByteArray.size_append]; omega
  have z6 : a.size ≤ 9 := by omega
  have z7 : b.size ≤ 9 := by omega
  have z8 : c.size ≤ 9 := by omega
  have t11 : ((sc : Int) == 11) = true := by rw [beq_iff_eq]; omega
  have HC := Lib.hid hcat
  clear hcat hR z2 z3 z4 y2 y3 y4 HS
  rcases hc.2 with h15 | h16
  ·have t15 : ((n : Int) % 100 == 15) = true := by rw [beq_iff_eq]; omega
   clear hc h15 hs
   go_enter Tryz.func124, Tryz.ntmps124
   go_wp2_with fail
   refine (H2.out _).mono ?_
   rintro e w1 ⟨rfl, hb⟩
   have HB1 := Lib.hid hb
   clear hb
   go_wp2_with fail
   refine (H3.out _).mono ?_
   rintro e w2 ⟨rfl, hb⟩
   have HB2 := Lib.hid (below_then HB1.out hb)
   clear hb
   go_wp2_with fail
   refine (H4.out _).mono ?_
   rintro e w3 ⟨rfl, hb⟩
   have HB3 := Lib.hid (below_then HB2.out hb)
   clear hb
   go_wp2_with fail
   go_ret
   exact ⟨by rw [← HC.out]; rfl, HB3.out⟩
  ·have t15 : ((n : Int) % 100 == 15) = false := by rw [beq_eq_false_iff_ne]; omega
   have t16 : ((n : Int) % 100 == 16) = true := by rw [beq_iff_eq]; omega
   clear hc h16 hs
   go_enter Tryz.func124, Tryz.ntmps124
   go_wp2_with fail
   refine (H2.out _).mono ?_
   rintro e w1 ⟨rfl, hb⟩
   have HB1 := Lib.hid hb
   clear hb
   go_wp2_with fail
   refine (H3.out _).mono ?_
   rintro e w2 ⟨rfl, hb⟩
   have HB2 := Lib.hid (below_then HB1.out hb)
   clear hb
   go_wp2_with fail
   refine (H4.out _).mono ?_
   rintro e w3 ⟨rfl, hb⟩
   have HB3 := Lib.hid (below_then HB2.out hb)
   clear hb
   go_wp2_with fail
   go_ret
   exact ⟨by rw [← HC.out]; rfl, HB3.out⟩
 ·have hR : sgsR sc n = sgnR sc 2 (n / 100) ++ sgnR sc 1 (n / 10 % 10) ++ sgnR sc 0 (n % 10) := by unfold sgsR; rw [if_neg hc]
  have hcat : str (encs (sgnR sc 2 (n / 100))) ++ str (encs (sgnR sc 1 (n / 10 % 10))) ++ str (encs (sgnR sc 0 (n % 10))) = str (encs (sgsR sc n)) := by rw [enc_cat, enc_cat, hR]
  have H3 := Lib.hid (fun W => sign_any sc 1 (n / 10 % 10) hs (by omega) (by omega) W)
  rw [show ((n / 10 % 10 : Nat) : Int) = (n : Int) / 10 % 10 from by omega] at H3
  have H4 := Lib.hid (fun W => sign_any sc 0 (n % 10) hs (by omega) (by omega) W)
  rw [show ((n % 10 : Nat) : Int) = (n : Int) % 10 from by omega] at H4
  have z3 := encs_small _ (sgnR_ok sc 1 (n / 10 % 10) (by omega)).2
  have y3 := (sgnR_ok sc 1 (n / 10 % 10) (by omega)).1
  have z4 := encs_small _ (sgnR_ok sc 0 (n % 10) (by omega)).2
  have y4 := (sgnR_ok sc 0 (n % 10) (by omega)).1
  unfold SignQ at *
  generalize str (encs (sgsR sc n)) = R at *
  generalize str (encs (sgnR sc 2 (n / 100))) = a at *
  generalize str (encs (sgnR sc 1 (n / 10 % 10))) = b at *
  generalize str (encs (sgnR sc 0 (n % 10))) = c at *
  have z5 : (a ++ b).size ≤ 18 := by rw [ByteArray.size_append]; omega
  have z6 : a.size ≤ 9 := by omega
  have z7 : b.size ≤ 9 := by omega
  have z8 : c.size ≤ 9 := by omega
  have HC := Lib.hid hcat
  clear hcat hR z2 z3 z4 y2 y3 y4 HS
  by_cases h11 : sc = 11
  ·have t11 : ((sc : Int) == 11) = true := by rw [beq_iff_eq]; omega
   have t15 : ((n : Int) % 100 == 15) = false := by rw [beq_eq_false_iff_ne]; omega
   have t16 : ((n : Int) % 100 == 16) = false := by rw [beq_eq_false_iff_ne]; omega
   clear hc h11 hs
   go_enter Tryz.func124, Tryz.ntmps124
   go_wp2_with fail
   refine (H2.out _).mono ?_
   rintro e w1 ⟨rfl, hb⟩
   have HB1 := Lib.hid hb
   clear hb
   go_wp2_with fail
   refine (H3.out _).mono ?_
   rintro e w2 ⟨rfl, hb⟩
   have HB2 := Lib.hid (below_then HB1.out hb)
   clear hb
   go_wp2_with fail
   refine (H4.out _).mono ?_
   rintro e w3 ⟨rfl, hb⟩
   have HB3 := Lib.hid (below_then HB2.out hb)
   clear hb
   go_wp2_with fail
   go_ret
   exact ⟨by rw [← HC.out]; rfl, HB3.out⟩
  ·have t11 : ((sc : Int) == 11) = false := by rw [beq_eq_false_iff_ne]; omega
   clear hc h11 hs
   go_enter Tryz.func124, Tryz.ntmps124
   go_wp2_with fail
   refine (H2.out _).mono ?_
   rintro e w1 ⟨rfl, hb⟩
   have HB1 := Lib.hid hb
   clear hb
   go_wp2_with fail
   refine (H3.out _).mono ?_
   rintro e w2 ⟨rfl, hb⟩
   have HB2 := Lib.hid (below_then HB1.out hb)
   clear hb
   go_wp2_with fail
   refine (H4.out _).mono ?_
   rintro e w3 ⟨rfl, hb⟩
   have HB3 := Lib.hid (below_then HB2.out hb)
   clear hb
   go_wp2_with fail
   go_ret
   exact ⟨by rw [← HC.out]; rfl, HB3.out⟩
end Go.Proofs.YtoemghiejfkpbaaGreatDoor
/- Contract of numeral.writeChinese. -/
namespace Go.Proofs.YtoemghiejfkpbaaGreatDoor
open Go.RowKit
set_option linter.unusedVariables false
def chP (n j : Nat) : List Nat × Bool := (chPl.take j).foldl (chF n) ([], false)
def plAt (j : Nat) : Nat := if j = 0 then 1000 else if j = 1 then 100 else if j = 2 then 10 else if j = 3 then 1 else 0
def unitAt (j : Nat) : List Nat := if j = 0 then [0x5343] else if j = 1 then [0x767e] else if j = 2 then [0x5341] else []
theorem chP_succ (n j : Nat) (hj : j < 4) : chP n (j + 1) = chF n (chP n j) (plAt j, unitAt j) := by
 match j, hj with
 | 0, _ | 1, _ | 2, _ | 3, _ => rfl
theorem chD_bmp (d : Nat) (h : d < 10) : chD d < 55296 := by
 have : ∀ d, d < 10 → chD d < 55296 := by decide
 exact this d h
theorem chP_ok (n : Nat) : ∀ j, j ≤ 4 → (chP n j).1.length ≤ 3 * j ∧ ∀ r ∈ (chP n j).1, Bmp r
 | 0, _ => by simp [chP]
 | j + 1, hj => by
  obtain ⟨h1, h2⟩ := chP_ok n j (by omega)
  rw [chP_succ n j (by omega)]
  have hu : (unitAt j).length ≤ 1 ∧ ∀ r ∈ unitAt j, r < 55296 := by
   unfold unitAt
   repeat' split
   all_goals simp
  unfold chF
  by_cases hd : n / plAt j % 10 = 0
  ·simp only [hd, if_true]
   exact ⟨by omega, h2⟩
  ·simp only [hd, if_false]
   constructor
   ·simp only [List.length_append, List.length_cons]
    have : (if (chP n j).2 = true then [chD 0] else []).length ≤ 1 := by split <;> simp
    omega
   ·intro r hr
    simp only [List.mem_append, List.mem_cons] at hr
    rcases hr with (hr | hr) | rfl | hr
    ·exact h2 r hr
    ·split at hr
     ·obtain rfl := List.mem_singleton.1 hr
      exact .inl (chD_bmp 0 (by omega))
     ·cases hr
    ·exact .inl (chD_bmp _ (by omega))
    ·exact .inl (hu.2 r hr)
theorem run_unit (j : Nat) (hj : j < 4) (W : World) : (Instr.index 217 (.agg #[.string ⟨#[229, 141, 131]⟩, .string ⟨#[231, 153, 190]⟩, .string ⟨#[229, 141, 129]⟩, .string ⟨#[]⟩]) (.int .i64 (j : Int))).run Tryz.prog W = .ok (.string (str (encs (unitAt j)))) W := by
 have u0 : str (encs (unitAt 0)) = ⟨#[229, 141, 131]⟩ := by decide +kernel
 have u1 : str (encs (unitAt 1)) = ⟨#[231, 153, 190]⟩ := by decide +kernel
 have u2 : str (encs (unitAt 2)) = ⟨#[229, 141, 129]⟩ := by decide +kernel
 have u3 : str (encs (unitAt 3)) = ⟨#[]⟩ := by decide +kernel
 match j, hj with
 | 0, _ => rw [u0]; simp [Instr.index, run_underlying Tryz.underlying217, asIntOf, go_sem]
 | 1, _ => rw [u1]; simp [Instr.index, run_underlying Tryz.underlying217, asIntOf, go_sem]
 | 2, _ => rw [u2]; simp [Instr.index, run_underlying Tryz.underlying217, asIntOf, go_sem]
 | 3, _ => rw [u3]; simp [Instr.index, run_underlying Tryz.underlying217, asIntOf, go_sem]
theorem encs_empty (rs : List Nat) (h : ∀ r ∈ rs, Bmp r) : (str (encs rs)).toList.isEmpty = rs.isEmpty := by
 rw [str_toList]
 cases rs with
 | nil => rfl
 | cons r rs =>
  have := (encs_len (r :: rs) h).1
  cases he : encs (r :: rs) with
  | nil => rw [he] at this; simp at this
  | cons a b => rfl
set_option maxHeartbeats 1000000 in
set_option maxRecDepth 100000 in
theorem writeChinese_any (n : Nat) (hn : n ≤ 9999) (w : World) : Calls Tryz.prog 125 #[.int .i64 (n : Int)] w (SignQ (chR n) w) := by
 by_cases h0 : n = 0
 ·subst h0
  have HD := Lib.hid (chineseDigit_any 0 (by omega) w)
  rw [show chR 0 = [chD 0] from rfl]
  unfold SignQ
  generalize str (encs [chD 0]) = R at *
  go_enter Tryz.func125, Tryz.ntmps125
  go_wp2_with fail
  refine HD.out.mono ?_
  rintro e w1 ⟨rfl, rfl⟩
  go_wp2_with fail
  go_ret
  exact ⟨rfl, Below.refl _ _⟩
 have t0 : ((n : Int) == 0) = false := by rw [beq_eq_false_iff_ne]; omega
 have hR : chR n = (chP n 4).1 := by unfold chR; rw [if_neg h0]; rfl
 rw [hR]
 clear hR
 have HZ := Lib.hid (fun W => chineseDigit_any 0 (by omega) W)
 go_enter Tryz.func125, Tryz.ntmps125
 go_wp2_with fail
 go_loopw [3, 4, 5, 13] (fun s z p i wr => ∃ j : Nat, j ≤ 4 ∧ i = .int .i64 (j : Int) ∧ s = .string (str (encs (chP n j).1)) ∧ z = .bool (chP n j).2 ∧ p = .int .i64 (plAt j : Nat) ∧ wr = w) (fun _ _ _ i _ => 4 - (intOf i).toNat)
 case atStart => exact ⟨0, by omega, rfl, rfl, rfl, rfl, rfl⟩
 case round =>
  obtain ⟨j, hj, rfl, rfl, rfl, rfl, rfl⟩ := hrel
  by_cases hlt : j < 4
  ·have hu := run_unit j hlt
   obtain ⟨c1, c2⟩ := chP_ok n j (by omega)
   have sz := encs_small _ c2
   have hE := encs_empty _ c2
   have HS := Lib.hid (chP_succ n j hlt)
   have hpl : ∃ q : Nat, plAt j = q ∧ 1 ≤ q ∧ q ≤ 1000 ∧ plAt (j + 1) = q / 10 := by
    match j, hlt with
    | 0, _ => exact ⟨1000, rfl, by omega, by omega, rfl⟩
    | 1, _ => exact ⟨100, rfl, by omega, by omega, rfl⟩
    | 2, _ => exact ⟨10, rfl, by omega, by omega, rfl⟩
    | 3, _ => exact ⟨1, rfl, by omega, by omega, rfl⟩
   obtain ⟨q, hq, q1, q2, hq'⟩ := hpl
   rw [hq] at HS ⊢
   have HQ := Lib.hid hq'
   have j0 : (0 : Int) ≤ (j : Int) := by omega
   have j4 : (j : Int) < 4 := by omega
   clear hq hq' c2
   unfold chF at HS
   generalize hP : chP n j = P at *
   obtain ⟨L, Z⟩ := P
   simp only at HS hE sz c1
   have q5 : ¬ (q : Int) = 0 := by omega
   have HD := Lib.hid (fun W => chineseDigit_any (n / q % 10) (by omega) W)
   rw [show ((n / q % 10 : Nat) : Int) = (n : Int) / (q : Int) % 10 from by rw [← Int.natCast_ediv]; omega] at HD
   have d1 : (n : Int) / (q : Int) ≤ 9999 := by have := Nat.div_le_self n q; rw [← Int.natCast_ediv]; omega
   have d0 : (0 : Int) ≤ (n : Int) / (q : Int) := Int.ediv_nonneg (by omega) (by omega)
   by_cases hd : n / q % 10 = 0
   ·have td : ((n : Int) / (q : Int) % 10 == 0) = true := by rw [beq_iff_eq, ← Int.natCast_ediv]; omega
    simp only [hd, if_true] at HS
    have HS2 := Lib.hid HS.out
    have HS3 : Hid (str (encs (chP n (j + 1)).1) = str (encs L)) := by unfold Hid; rw [HS2.out]
    clear HS
    generalize str (encs L) = S at *
    go_wp2_with fail
    go_roundw
    case rel => exact ⟨j + 1, by omega, by go_num, by rw [HS3.out], by rw [HS2.out], congrArg (Value.int .i64) (by rw [HQ.out]; omega), trivial⟩
    case measure => simp [intOf]; omega
   ·have td : ((n : Int) / (q : Int) % 10 == 0) = false := by rw [beq_eq_false_iff_ne, ← Int.natCast_ediv]; omega
    simp only [hd, if_false] at HS
    have HS2 := Lib.hid HS.out
    have hbu : (str (encs (unitAt j))).size ≤ 3 := by
     refine Nat.le_trans (encs_small _ ?_) ?_
     ·unfold unitAt
      repeat' split
      all_goals simp [Bmp]
     ·unfold unitAt
      repeat' split
      all_goals simp
    have zd : (str (encs [chD (n / q % 10)])).size ≤ 3 := encs_small _ (fun r hr => by obtain rfl := List.mem_singleton.1 hr; exact .inl (chD_bmp _ (by omega)))
    have z0 : (str (encs [chD 0])).size ≤ 3 := encs_small _ (fun r hr => by obtain rfl := List.mem_singleton.1 hr; exact .inl (chD_bmp _ (by omega)))
    have cat2 : str (encs [chD (n / q % 10)]) ++ str (encs (unitAt j)) = str (encs (chD (n / q % 10) :: unitAt j)) := enc_cat [chD (n / q % 10)] (unitAt j)
    have szu : (str (encs [chD (n / q % 10)]) ++ str (encs (unitAt j))).size ≤ 6 := by rw [ByteArray.size_append]; omega
    have sz6 : (str (encs L)).size ≤ 100 := by omega
    clear HS
    cases Z with
    | true =>
     have cat3 : str (encs L) ++ str (encs [chD 0]) ++ (str (encs [chD (n / q % 10)]) ++ str (encs (unitAt j))) = str (encs (chP n (j + 1)).1) := by
      rw [HS2.out, cat2, enc_cat, enc_cat]; rfl
     have HS3 : Hid ((chP n (j + 1)).2 = false) := by unfold Hid; rw [HS2.out]
     have szc : (str (encs L) ++ str (encs [chD 0])).size ≤ 103 := by rw [ByteArray.size_append]; omega
     have HC3 := Lib.hid cat3
     clear cat2 cat3 hE HS2
     generalize str (encs [chD (n / q % 10)]) = D at *
     generalize str (encs [chD 0]) = D0 at *
     generalize str (encs (unitAt j)) = U at *
     generalize str (encs L) = S at *
     go_wp2_with fail
     refine (HZ.out _).mono ?_
     rintro e w' ⟨rfl, rfl⟩
     go_wp2_with fail
     refine (HD.out _).mono ?_
     rintro e w' ⟨rfl, rfl⟩
     go_wp2_with fail
     go_roundw
     case rel => exact ⟨j + 1, by omega, by go_num, by rw [HC3.out], by rw [HS3.out], congrArg (Value.int .i64) (by rw [HQ.out]; omega), trivial⟩
     case measure => simp [intOf]; omega
    | false =>
     have cat3 : str (encs L) ++ (str (encs [chD (n / q % 10)]) ++ str (encs (unitAt j))) = str (encs (chP n (j + 1)).1) := by
      rw [HS2.out, cat2, enc_cat]; simp
     have HS3 : Hid ((chP n (j + 1)).2 = false) := by unfold Hid; rw [HS2.out]
     have HC3 := Lib.hid cat3
     clear cat2 cat3 hE HS2
     generalize str (encs [chD (n / q % 10)]) = D at *
     generalize str (encs (unitAt j)) = U at *
     generalize str (encs L) = S at *
     go_wp2_with fail
     refine (HD.out _).mono ?_
     rintro e w' ⟨rfl, rfl⟩
     go_wp2_with fail
     go_roundw
     case rel => exact ⟨j + 1, by omega, by go_num, by rw [HC3.out], by rw [HS3.out], congrArg (Value.int .i64) (by rw [HQ.out]; omega), trivial⟩
     case measure => simp [intOf]; omega
  ·obtain rfl : j = 4 := by omega
   go_wp2_with fail
   go_ret
   exact ⟨rfl, Below.refl _ _⟩
end Go.Proofs.YtoemghiejfkpbaaGreatDoor
/- Contracts of package numeral: Write in each script. -/
namespace Go.Proofs.YtoemghiejfkpbaaGreatDoor
open Go.RowKit
set_option linter.unusedVariables false
theorem encs_ascii : ∀ (l : List UInt8), (∀ b ∈ l, b.toNat < 128) → encs (l.map UInt8.toNat) = l
 | [], _ => rfl
 | b :: l, h => by
  have hb := h b (List.mem_cons_self ..)
  have ih := encs_ascii l fun x hx => h x (List.mem_cons_of_mem _ hx)
  have e : encs ((b :: l).map UInt8.toNat) = Lib.encodeRune (b.toNat : Int) ++ encs (l.map UInt8.toNat) := by simp [encs]
  rw [e, ih, enc_one b.toNat hb]
  simp [Nat.toUInt8]
theorem romB_map (n : Nat) (o f t : UInt8) : (romB n o f t).map UInt8.toNat = romD n o.toNat f.toNat t.toNat := by
 unfold romB romD
 repeat' split
 all_goals simp
theorem romL_map (n : Nat) : (romL n).map UInt8.toNat = romR n := by
 unfold romL romR
 rw [List.map_append, List.map_append, List.map_append, romB_map, romB_map, romB_map]
 simp
theorem romB_mem (n : Nat) (o f t : UInt8) : ∀ b ∈ romB n o f t, b = o ∨ b = f ∨ b = t := by
 intro b hb
 unfold romB at hb
 repeat' split at hb
 all_goals (simp at hb)
 ·rcases hb with h | h
  ·exact .inl h
  ·exact .inr (.inr h)
 ·rcases hb with h | ⟨_, h⟩
  ·exact .inr (.inl h)
  ·exact .inl h
 ·rcases hb with h | h
  ·exact .inl h
  ·exact .inr (.inl h)
 ·exact .inl hb.2
theorem romL_ascii (n : Nat) : ∀ b ∈ romL n, b.toNat < 128 := by
 intro b hb
 unfold romL at hb
 simp only [List.mem_append, List.mem_replicate] at hb
 rcases hb with ((h | h) | h) | h
 ·rw [h.2]; decide
 all_goals
  rcases romB_mem _ _ _ _ b h with rfl | rfl | rfl <;> decide
theorem romR_str (n : Nat) : str (romL n) = str (encs (romR n)) := by rw [← romL_map, encs_ascii _ (romL_ascii n)]
theorem zero_same (k : Nat) (hk : k < 9) : zerosL.getD k 0 = (zeroN.getD k 0 : Int) := by
 match k, hk with
 | 0, _ | 1, _ | 2, _ | 3, _ | 4, _ | 5, _ | 6, _ | 7, _ | 8, _ => rfl
def lowB (sc : Nat) : Int := if sc < 9 then -2147483647 else if sc < 12 then 1 else 0
def highB (sc : Nat) : Int := if sc < 9 then 2147483647 else if sc = 9 then 3999 else if sc < 12 then 999 else 9999
set_option maxRecDepth 100000 in
theorem bounds_any (k : Nat) (hk : k < 13) (w : World) : Calls Tryz.prog 122 #[.int .i64 (k : Int)] w fun e w' => e = .returned (.tuple #[.int .i64 (lowB k), .int .i64 (highB k)]) ∧ w = w' := by
 by_cases h9 : k < 9
 ·unfold lowB highB; rw [if_pos h9, if_pos h9]; exact bounds_pos k h9 w
 have : k = 9 ∨ k = 10 ∨ k = 11 ∨ k = 12 := by omega
 rcases this with rfl | rfl | rfl | rfl
 all_goals
  go_enter Tryz.func122, Tryz.ntmps122
  go_wp2_with fail
  go_ret2
  exact ⟨rfl, rfl⟩
set_option maxRecDepth 100000 in
theorem writes_any (k : Nat) (hk : k < 13) (n : Int) (w : World) : Calls Tryz.prog 79 #[.int .i64 (k : Int), .int .i64 n] w fun e w' => e = .returned (.bool (decide (lowB k ≤ n) && decide (n ≤ highB k))) ∧ w = w' := by
 have HB := Lib.hid (bounds_any k hk w)
 generalize lowB k = lo at *
 generalize highB k = hi at *
 by_cases h1 : lo ≤ n
 ·have t1 : decide (lo ≤ n) = true := decide_eq_true h1
  rw [t1, Bool.true_and]
  go_enter Tryz.func79, Tryz.ntmps79
  go_wp2_with fail
  refine HB.out.mono ?_
  rintro e w' ⟨rfl, rfl⟩
  go_wp2_with fail
  go_ret
  exact ⟨rfl, rfl⟩
 ·have t1 : decide (lo ≤ n) = false := decide_eq_false h1
  rw [t1, Bool.false_and]
  go_enter Tryz.func79, Tryz.ntmps79
  go_wp2_with fail
  refine HB.out.mono ?_
  rintro e w' ⟨rfl, rfl⟩
  go_wp2_with fail
  go_ret
  exact ⟨rfl, rfl⟩
end Go.Proofs.YtoemghiejfkpbaaGreatDoor
/- Contract of numeral.Value at the code points of a script. -/
namespace Go.Proofs.YtoemghiejfkpbaaGreatDoor
open Go.RowKit
set_option linter.unusedVariables false
def ValQ (v : Nat) (w : World) (e : Ending) (w' : World) : Prop := e = .returned (.tuple #[.int .i64 (v : Int), .bool true]) ∧ Below w.heap.size w w'
set_option maxHeartbeats 1000000 in
set_option maxRecDepth 100000 in
theorem value_pos (k : Nat) (hk : k < 9) (c : Nat) (h1 : zeroN.getD k 0 ≤ c) (h2 : c < zeroN.getD k 0 + 10) (w : World) (hz : Zer w) :
  Calls Tryz.prog 71 #[.int .i64 (k : Int), .int .i32 (c : Int)] w (ValQ (c - zeroN.getD k 0) w) := by
 have hc := hz k hk
 obtain ⟨z1, z2⟩ := zeros_in k hk
 have hzz := zero_same k hk
 rw [hzz] at hc z1 z2
 clear hzz
 generalize zeroN.getD k 0 = z at *
 have t9 : ((k : Int) == 9) = false := by rw [beq_eq_false_iff_ne]; omega
 have t10 : ((k : Int) == 10) = false := by rw [beq_eq_false_iff_ne]; omega
 have t11 : ((k : Int) == 11) = false := by rw [beq_eq_false_iff_ne]; omega
 have t12 : ((k : Int) == 12) = false := by rw [beq_eq_false_iff_ne]; omega
 have t45 : ((c : Int) == 45) = false := by rw [beq_eq_false_iff_ne]; omega
 have d1 : decide ((z : Int) ≤ (c : Int)) = true := decide_eq_true (by omega)
 have d2 : decide ((c : Int) < (z : Int) + 10) = true := decide_eq_true (by omega)
 have k0 : (0 : Int) ≤ (k : Int) := by omega
 have k9 : (k : Int) < 9 := by omega
 have w1 : IntKind.i32.wrap ((c : Int) - (z : Int)) = (c : Int) - (z : Int) := by rw [IntKind.wrap_i32]; omega
 have w2 : IntKind.i32.wrap ((z : Int) + 10) = (z : Int) + 10 := by rw [IntKind.wrap_i32]; omega
 have w3 : IntKind.i64.wrap ((c : Int) - (z : Int)) = (c : Int) - (z : Int) := by rw [IntKind.wrap_i64]; omega
 have e1 : (((c - z : Nat)) : Int) = (c : Int) - (z : Int) := by omega
 unfold ValQ
 rw [e1]
 clear e1
 go_enter Tryz.func71, Tryz.ntmps71
 go_wp2_with fail
 go_quiet (fail)
 clear w1 w2 w3
 go_wp2_with fail
 go_ret2
 exact ⟨rfl, below_drewN _ _⟩
theorem rom_index (v c : Nat) (h : romV c = some v) : c < 128 ∧ ∃ i : Nat, i < 7 ∧ Lib.indexByte [73, 86, 88, 76, 67, 68, 77] c.toUInt8 = (i : Int) ∧ [1, 5, 10, 50, 100, 500, 1000].getD i 0 = v := by
 unfold romV at h
 by_cases e1 : c = 73
 ·subst e1; simp at h; subst h; exact ⟨by omega, 0, by omega, by decide, rfl⟩
 by_cases e2 : c = 86
 ·subst e2; simp at h; subst h; exact ⟨by omega, 1, by omega, by decide, rfl⟩
 by_cases e3 : c = 88
 ·subst e3; simp at h; subst h; exact ⟨by omega, 2, by omega, by decide, rfl⟩
 by_cases e4 : c = 76
 ·subst e4; simp at h; subst h; exact ⟨by omega, 3, by omega, by decide, rfl⟩
 by_cases e5 : c = 67
 ·subst e5; simp at h; subst h; exact ⟨by omega, 4, by omega, by decide, rfl⟩
 by_cases e6 : c = 68
 ·subst e6; simp at h; subst h; exact ⟨by omega, 5, by omega, by decide, rfl⟩
 by_cases e7 : c = 77
 ·subst e7; simp at h; subst h; exact ⟨by omega, 6, by omega, by decide, rfl⟩
 ·simp [e1, e2, e3, e4, e5, e6, e7] at h
theorem run_rom (i : Nat) (hi : i < 7) (W : World) : (Instr.index 177 (.agg #[.int .i64 1, .int .i64 5, .int .i64 10, .int .i64 50, .int .i64 100, .int .i64 500, .int .i64 1000]) (.int .i64 (i : Int))).run Tryz.prog W = .ok (.int .i64 ([1, 5, 10, 50, 100, 500, 1000].getD i 0 : Nat)) W := by
 match i, hi with
 | 0, _ | 1, _ | 2, _ | 3, _ | 4, _ | 5, _ | 6, _ => simp [Instr.index, run_underlying Tryz.underlying177, asIntOf, go_sem]
set_option maxRecDepth 100000 in
theorem value_rom (c v : Nat) (h : romV c = some v) (w : World) : Calls Tryz.prog 71 #[.int .i64 9, .int .i32 (c : Int)] w (ValQ v w) := by
 obtain ⟨hc, i, hi, hix, hv⟩ := rom_index v c h
 have HI := Lib.hid (strings_IndexRune_ascii ⟨#[73, 86, 88, 76, 67, 68, 77]⟩ (c : Int) w (by omega) (by omega))
 rw [show (⟨#[73, 86, 88, 76, 67, 68, 77]⟩ : ByteArray).data.toList = [73, 86, 88, 76, 67, 68, 77] from rfl, Int.toNat_natCast, hix] at HI
 have hr := run_rom i hi
 rw [hv] at hr
 have i0 : ¬ (i : Int) < 0 := by omega
 unfold ValQ
 clear hv hix h
 go_enter Tryz.func71, Tryz.ntmps71
 go_wp2_with fail
 refine HI.out.mono ?_
 rintro e w' ⟨rfl, rfl⟩
 go_wp2_with fail
 go_ret2
 exact ⟨rfl, Below.refl _ _⟩
theorem encs_inj : ∀ (a b : List Nat), (∀ r ∈ a, Bmp r) → (∀ r ∈ b, Bmp r) → encs a = encs b → a = b
 | [], [], _, _, _ => rfl
 | [], r :: b, _, hb, h => by
  have := (encs_len (r :: b) hb).1
  rw [← h] at this
  simp [encs] at this
 | r :: a, [], ha, _, h => by
  have := (encs_len (r :: a) ha).1
  rw [h] at this
  simp [encs] at this
 | r :: a, q :: b, ha, hb, h => by
  have e1 : encs (r :: a) = Lib.encodeRune (r : Int) ++ encs a := by simp [encs]
  have e2 : encs (q :: b) = Lib.encodeRune (q : Int) ++ encs b := by simp [encs]
  rw [e1, e2] at h
  have hr := ha r (List.mem_cons_self ..)
  have hq := hb q (List.mem_cons_self ..)
  have d1 := decodeL_enc r hr (encs a)
  have d2 := decodeL_enc q hq (encs b)
  rw [h, d2] at d1
  have : q = r := congrArg Prod.fst d1
  subst this
  have := encs_inj a b (fun x hx => ha x (List.mem_cons_of_mem _ hx)) (fun x hx => hb x (List.mem_cons_of_mem _ hx)) (List.append_cancel_left h)
  rw [this]
theorem encs_beq (a : List Nat) (c : Nat) (ha : ∀ r ∈ a, Bmp r) (hc : Bmp c) : ((str (encs a)).toList == (Utf8.encode (c : Int)).toList) = (a == [c]) := by
 rw [utf_one c hc, str_toList, str_toList, Bool.eq_iff_iff, beq_iff_eq, beq_iff_eq]
 constructor
 ·exact encs_inj a [c] ha (fun r hr => by obtain rfl := List.mem_singleton.1 hr; exact hc)
 ·intro h; rw [h]
def sgAt (sc i : Nat) : List Nat := sgnR sc (i / 9) (i % 9 + 1)
set_option maxHeartbeats 2000000 in
set_option maxRecDepth 100000 in
theorem value_sg (sc : Nat) (hs : sc = 10 ∨ sc = 11) (c i0 : Nat) (hc : Bmp c) (hi0 : i0 < 27) (hat : sgAt sc i0 = [c]) (hno : ∀ i, i < i0 → sgAt sc i ≠ [c]) (w : World) :
  Calls Tryz.prog 71 #[.int .i64 (sc : Int), .int .i32 (c : Int)] w (ValQ ((i0 % 9 + 1) * 10 ^ (i0 / 9)) w) := by
 have HSG := Lib.hid (fun pl d hp hd W => sign_any sc pl d hs hp hd W)
 have HBQ := Lib.hid (fun pl d (hd : d < 10) => encs_beq (sgnR sc pl d) c (sgnR_ok sc pl d hd).2 hc)
 have HAT := Lib.hid hat
 have HNO := Lib.hid hno
 have hr : ∀ p : Nat, p < 3 → ∀ W, (Instr.index 178 (.agg #[.int .i64 1, .int .i64 10, .int .i64 100]) (.int .i64 (p : Int))).run Tryz.prog W = .ok (.int .i64 ((10 ^ p : Nat) : Int)) W := fun p hp W => by
  match p, hp with
  | 0, _ | 1, _ | 2, _ => simp [Instr.index, run_underlying Tryz.underlying178, asIntOf, go_sem]
 have HR := Lib.hid hr
 have t9 : ((sc : Int) == 9) = false := by rw [beq_eq_false_iff_ne]; omega
 clear hat hno hr hc
 unfold ValQ
 have hcase : ((sc : Int) == 10) = true ∨ (((sc : Int) == 10) = false ∧ ((sc : Int) == 11) = true) := by
  rcases hs with rfl | rfl
  ·exact .inl rfl
  ·exact .inr ⟨rfl, rfl⟩
 clear hs
 rcases hcase with t10 | ⟨t10, t11⟩
 all_goals
  go_enter Tryz.func71, Tryz.ntmps71
  go_wp2_with fail
  go_loopw [28] (fun i wr => ∃ p : Nat, p ≤ 2 ∧ 9 * p ≤ i0 ∧ i = .int .i64 (p : Int) ∧ Hid (Below w.heap.size w wr)) (fun i _ => 3 - (intOf i).toNat)
 all_goals try (case atStart => exact ⟨0, by omega, by omega, rfl, Below.refl _ _⟩)
 all_goals
  obtain ⟨p, hp, hpi, rfl, hbr⟩ := hrel
  have hrp := HR.out p (by omega)
  have p0 : (0 : Int) ≤ (p : Int) := by omega
  have p3 : (p : Int) < 3 := by omega
  have hpw : 10 ^ p ≤ 100 := by
   have : p = 0 ∨ p = 1 ∨ p = 2 := by omega
   rcases this with rfl | rfl | rfl <;> decide
  have HVAL : Hid (∀ d : Nat, 1 ≤ d → d ≤ 9 → 9 * p + (d - 1) = i0 → d * 10 ^ p = (i0 % 9 + 1) * 10 ^ (i0 / 9)) := fun d h1 h2 h3 => by
   rw [← h3, show (9 * p + (d - 1)) % 9 + 1 = d from by omega, show (9 * p + (d - 1)) / 9 = p from by omega]
  generalize 10 ^ p = u at *
  go_wp2_with fail
  go_loopw [9] (fun d wi => ∃ n : Nat, 1 ≤ n ∧ n ≤ 10 ∧ 9 * p + (n - 1) ≤ i0 ∧ d = .int .i64 (n : Int) ∧ Hid (Below w.heap.size w wi)) (fun d _ => 10 - (intOf d).toNat)
  case atStart => exact ⟨1, by omega, by omega, by omega, rfl, hbr⟩
  case round =>
   obtain ⟨n, n1, n10, hni, rfl, hbi⟩ := hrel
   by_cases hlt : n ≤ 9
   ·have HS := Lib.hid (fun W => HSG.out p n (by omega) (by omega) W)
    have hq := HBQ.out p n (by omega)
    have tn : decide ((n : Int) ≤ 9) = true := decide_eq_true (by omega)
    have hnu : n * u ≤ 900 := by
     have : n * u ≤ 9 * 100 := Nat.mul_le_mul hlt hpw
     omega
    have hnu' : (n : Int) * (u : Int) = ((n * u : Nat) : Int) := (Int.natCast_mul n u).symm
    have hb1 : (n : Int) * (u : Int) ≤ 900 := by omega
    have hb0 : (0 : Int) ≤ (n : Int) * (u : Int) := by omega
    have HNU := Lib.hid hnu'
    clear hnu'
    unfold SignQ at HS
    have hsame : (sgnR sc p n == [c]) = decide (9 * p + (n - 1) = i0) := by
     have hp9 : (9 * p + (n - 1)) / 9 = p := by omega
     have hm9 : (9 * p + (n - 1)) % 9 + 1 = n := by omega
     have hsg : sgAt sc (9 * p + (n - 1)) = sgnR sc p n := by unfold sgAt; rw [hp9, hm9]
     rw [← hsg, Bool.eq_iff_iff, beq_iff_eq, decide_eq_true_eq]
     constructor
     ·intro h
      by_cases hh : 9 * p + (n - 1) < i0
      ·exact absurd h (HNO.out _ hh)
      ·omega
     ·intro h; rw [h]; exact HAT.out
    rw [hsame] at hq
    clear hsame
    generalize str (encs (sgnR sc p n)) = S at *
    by_cases heq : 9 * p + (n - 1) = i0
    ·have HV := Lib.hid (HVAL.out n n1 hlt heq)
     rw [decide_eq_true heq] at hq
     clear heq hni
     go_wp2_with fail
     refine (HS.out _).mono ?_
     rintro e w' ⟨rfl, hb⟩
     have HB := Lib.hid (below_then hbi.out hb)
     clear hb
     go_wp2_with fail
     go_ret2
     exact ⟨by rw [← HV.out, ← HNU.out]; rfl, HB.out⟩
    ·rw [decide_eq_false heq] at hq
     have hlt' : 9 * p + n ≤ i0 := by omega
     clear heq hni
     go_wp2_with fail
     refine (HS.out _).mono ?_
     rintro e w' ⟨rfl, hb⟩
     have HB := Lib.hid (below_then hbi.out hb)
     clear hb
     go_wp2_with fail
     go_roundw
     case rel => exact ⟨n + 1, by omega, by omega, by omega, by go_num, HB⟩
     case measure => simp [intOf]; omega
   ·obtain rfl : n = 10 := by omega
    go_wp2_with fail
    go_roundw
    case rel => exact ⟨p + 1, by omega, by omega, by go_num, hbi⟩
    case measure => simp [intOf]; omega
end Go.Proofs.YtoemghiejfkpbaaGreatDoor
/- Contract of numeral.Value: script 12; all scripts. -/
namespace Go.Proofs.YtoemghiejfkpbaaGreatDoor
open Go.RowKit
set_option linter.unusedVariables false
def chBig : List Nat := [0x5341, 0x767e, 0x5343]
theorem run_big (i : Nat) (hi : i < 3) (W : World) : (Instr.index 180 (.agg #[.int .i32 21313, .int .i32 30334, .int .i32 21315]) (.int .i64 (i : Int))).run Tryz.prog W = .ok (.int .i32 (chBig.getD i 0 : Nat)) W := by
 match i, hi with
 | 0, _ | 1, _ | 2, _ => simp [Instr.index, run_underlying Tryz.underlying180, asIntOf, go_sem, chBig]
theorem run_tens (i : Nat) (hi : i < 3) (W : World) : (Instr.index 178 (.agg #[.int .i64 10, .int .i64 100, .int .i64 1000]) (.int .i64 (i : Int))).run Tryz.prog W = .ok (.int .i64 (10 ^ (i + 1) : Nat)) W := by
 match i, hi with
 | 0, _ | 1, _ | 2, _ => simp [Instr.index, run_underlying Tryz.underlying178, asIntOf, go_sem]
set_option maxHeartbeats 2000000 in
set_option maxRecDepth 100000 in
theorem value_ch1 (c i0 : Nat) (hi0 : i0 < 10) (hat : chD i0 = c) (hno : ∀ i, i < i0 → chD i ≠ c) (w : World) :
  Calls Tryz.prog 71 #[.int .i64 12, .int .i32 (c : Int)] w (ValQ i0 w) := by
 have HCD := Lib.hid (fun d hd W => chineseDigit_any d hd W)
 have hc : Bmp c := by rw [← hat]; exact .inl (chD_bmp i0 hi0)
 have HBQ := Lib.hid (fun d (hd : d < 10) => encs_beq [chD d] c (fun r hr => by obtain rfl := List.mem_singleton.1 hr; exact .inl (chD_bmp d hd)) hc)
 have HAT := Lib.hid hat
 have HNO := Lib.hid hno
 clear hat hno hc
 unfold ValQ
 go_enter Tryz.func71, Tryz.ntmps71
 go_wp2_with fail
 go_loopw [50] (fun i wr => ∃ d : Nat, d ≤ i0 ∧ i = .int .i64 (d : Int) ∧ wr = w) (fun i _ => 10 - (intOf i).toNat)
 case atStart => exact ⟨0, by omega, rfl, rfl⟩
 case round =>
  obtain ⟨d, hd, rfl, rfl⟩ := hrel
  have hq := HBQ.out d (by omega)
  have HD := Lib.hid (fun W => HCD.out d (by omega) W)
  have d10 : (d : Int) < 10 := by omega
  by_cases heq : d = i0
  ·have e1 : ([chD d] == [c]) = true := by rw [heq, HAT.out]; simp
   rw [e1] at hq
   clear e1
   generalize str (encs [chD d]) = S at *
   have HEQ := Lib.hid heq
   clear heq
   go_wp2_with fail
   refine (HD.out _).mono ?_
   rintro e w' ⟨rfl, rfl⟩
   go_wp2_with fail
   go_ret2
   exact ⟨by rw [HEQ.out]; rfl, Below.refl _ _⟩
  ·have e1 : ([chD d] == [c]) = false := by
    rw [beq_eq_false_iff_ne]
    intro h
    exact HNO.out d (by omega) (by simpa using h)
   rw [e1] at hq
   clear e1
   generalize str (encs [chD d]) = S at *
   go_wp2_with fail
   refine (HD.out _).mono ?_
   rintro e w' ⟨rfl, rfl⟩
   go_wp2_with fail
   go_roundw
   case rel => exact ⟨d + 1, by omega, by go_num, trivial⟩
   case measure => simp [intOf]; omega
set_option maxHeartbeats 2000000 in
set_option maxRecDepth 100000 in
theorem value_ch2 (c k0 : Nat) (hk0 : k0 < 3) (hat : chBig.getD k0 0 = c) (w : World) :
  Calls Tryz.prog 71 #[.int .i64 12, .int .i32 (c : Int)] w (ValQ (10 ^ (k0 + 1)) w) := by
 have HCD := Lib.hid (fun d hd W => chineseDigit_any d hd W)
 have hb : ∀ k, k < 3 → chBig.getD k 0 < 55296 := by decide
 have hc : Bmp c := by rw [← hat]; exact .inl (hb k0 hk0)
 have HBQ := Lib.hid (fun d (hd : d < 10) => encs_beq [chD d] c (fun r hr => by obtain rfl := List.mem_singleton.1 hr; exact .inl (chD_bmp d hd)) hc)
 have hno : ∀ k, k < 3 → ∀ d, d < 10 → chD d ≠ chBig.getD k 0 := by decide
 have hdis : ∀ k, k < 3 → ∀ d, d < k → chBig.getD d 0 ≠ chBig.getD k 0 := by decide
 have HNO : Hid (∀ d, d < 10 → chD d ≠ c) := fun d hd => by rw [← hat]; exact hno k0 hk0 d hd
 have HDI : Hid (∀ d, d < k0 → chBig.getD d 0 ≠ c) := fun d hd => by rw [← hat]; exact hdis k0 hk0 d hd
 have HAT := Lib.hid hat
 have HRB := Lib.hid run_big
 have HRT := Lib.hid run_tens
 have c32 : (c : Int) ≤ 2147483647 := by rw [← hat]; have := hb k0 hk0; omega
 clear hat hno hdis hc hb
 unfold ValQ
 go_enter Tryz.func71, Tryz.ntmps71
 go_wp2_with fail
 go_loopw [50] (fun i wr => ∃ d : Nat, d ≤ 10 ∧ i = .int .i64 (d : Int) ∧ wr = w) (fun i _ => 10 - (intOf i).toNat)
 case atStart => exact ⟨0, by omega, rfl, rfl⟩
 case round =>
  obtain ⟨d, hd, rfl, rfl⟩ := hrel
  by_cases hlt : d < 10
  ·have hq := HBQ.out d hlt
   have HD := Lib.hid (fun W => HCD.out d hlt W)
   have e1 : ([chD d] == [c]) = false := by
    rw [beq_eq_false_iff_ne]
    intro h
    exact HNO.out d hlt (by simpa using h)
   rw [e1] at hq
   clear e1
   generalize str (encs [chD d]) = S at *
   go_wp2_with fail
   refine (HD.out _).mono ?_
   rintro e w' ⟨rfl, rfl⟩
   go_wp2_with fail
   go_roundw
   case rel => exact ⟨d + 1, by omega, by go_num, trivial⟩
   case measure => simp [intOf]; omega
  ·obtain rfl : d = 10 := by omega
   go_wp2_with fail
   go_loopw [61] (fun i wq => ∃ k : Nat, k ≤ k0 ∧ i = .int .i64 (k : Int) ∧ wq = wr) (fun i _ => 3 - (intOf i).toNat)
   case atStart => exact ⟨0, by omega, rfl, rfl⟩
   case round =>
    obtain ⟨k, hk, rfl, rfl⟩ := hrel
    have hr := HRB.out k (by omega)
    have ht := HRT.out k (by omega)
    have k3 : (k : Int) < 3 := by omega
    by_cases heq : k = k0
    ·have e1 : (((chBig.getD k 0 : Nat) : Int) == (c : Int)) = true := by rw [beq_iff_eq, heq, HAT.out]
     have HEQ := Lib.hid heq
     clear heq
     generalize chBig.getD k 0 = r at *
     go_wp2_with fail
     go_ret2
     exact ⟨by rw [← HEQ.out]; rfl, Below.refl _ _⟩
    ·have e1 : (((chBig.getD k 0 : Nat) : Int) == (c : Int)) = false := by
      rw [beq_eq_false_iff_ne]
      intro h
      exact HDI.out k (by omega) (by omega)
     generalize chBig.getD k 0 = r at *
     go_wp2_with fail
     go_roundw
     case rel => exact ⟨k + 1, by omega, by go_num, trivial⟩
     case measure => simp [intOf]; omega
theorem find_first (p : Nat → Bool) : ∀ (n : Nat) (i : Nat), (List.range n).find? p = some i → i < n ∧ p i = true ∧ ∀ j, j < i → p j = false := by
 intro n i h
 rw [List.find?_range_eq_some] at h
 obtain ⟨h1, h2, h3⟩ := h
 exact ⟨List.mem_range.1 h2, h1, fun j hj => by simpa using h3 j hj⟩
theorem sgAt_bmp (sc i : Nat) : ∀ r ∈ sgAt sc i, Bmp r := (sgnR_ok sc (i / 9) (i % 9 + 1) (by omega)).2
theorem value_any (sc : Nat) (hs : sc < 13) (c v : Nat) (h : valR sc c = some v) (w : World) (hz : Zer w) :
  Calls Tryz.prog 71 #[.int .i64 (sc : Int), .int .i32 (c : Int)] w (ValQ v w) := by
 unfold valR at h
 by_cases h9 : sc < 9
 ·rw [if_pos h9] at h
  split at h
  ·rename_i hr
   obtain rfl := Option.some.inj h
   exact value_pos sc h9 c hr.1 hr.2 w hz
  ·cases h
 rw [if_neg h9] at h
 by_cases e9 : sc = 9
 ·subst e9
  rw [if_pos rfl] at h
  exact value_rom c v h w
 rw [if_neg e9] at h
 by_cases h12 : sc < 12
 ·rw [if_pos h12] at h
  unfold sgV at h
  cases hf : (List.range 27).find? (fun i => sgnR sc (i / 9) (i % 9 + 1) == [c]) with
  | none => rw [hf] at h; cases h
  | some i =>
   rw [hf] at h
   obtain ⟨f1, f2, f3⟩ := find_first _ _ _ hf
   have hv : (i % 9 + 1) * 10 ^ (i / 9) = v := Option.some.inj h
   rw [← hv]
   have hat : sgAt sc i = [c] := by simpa [sgAt] using f2
   refine value_sg sc (by omega) c i ?_ f1 hat (fun j hj => ?_) w
   ·exact sgAt_bmp sc i c (by rw [hat]; simp)
   ·have := f3 j hj
    rw [beq_eq_false_iff_ne] at this
    exact this
 rw [if_neg h12] at h
 obtain rfl : sc = 12 := by omega
 unfold chV at h
 cases hf : (List.range 10).find? (fun n => chD n == c) with
 | some i =>
  rw [hf] at h
  obtain ⟨f1, f2, f3⟩ := find_first _ _ _ hf
  obtain rfl := Option.some.inj h
  exact value_ch1 c i f1 (by simpa using f2) (fun j hj => by have := f3 j hj; rw [beq_eq_false_iff_ne] at this; exact this) w
 | none =>
  rw [hf] at h
  simp only at h
  by_cases c1 : c = 0x5341
  ·rw [if_pos c1] at h
   obtain rfl := Option.some.inj h
   exact value_ch2 c 0 (by omega) (by rw [c1]; rfl) w
  rw [if_neg c1] at h
  by_cases c2 : c = 0x767e
  ·rw [if_pos c2] at h
   obtain rfl := Option.some.inj h
   exact value_ch2 c 1 (by omega) (by rw [c2]; rfl) w
  rw [if_neg c2] at h
  by_cases c3 : c = 0x5343
  ·rw [if_pos c3] at h
   obtain rfl := Option.some.inj h
   exact value_ch2 c 2 (by omega) (by rw [c3]; rfl) w
  ·rw [if_neg c3] at h; cases h
end Go.Proofs.YtoemghiejfkpbaaGreatDoor
/- Contract of numeral.Lenient at a text that is read: prints of wip/gen/numr11.py. -/
namespace Go.Proofs.YtoemghiejfkpbaaGreatDoor
open Go.RowKit
set_option linter.unusedVariables false
theorem val_le (sc c v : Nat) (h : valR sc c = some v) : v ≤ 1000 := by
 unfold valR at h
 split at h
 ·split at h
  ·cases h; omega
  ·cases h
 split at h
 ·unfold romV at h
  repeat' split at h
  all_goals first | (cases h; omega) | cases h
 split at h
 ·unfold sgV at h
  cases hf : (List.range 27).find? (fun i => sgnR sc (i / 9) (i % 9 + 1) == [c]) with
  | none => rw [hf] at h; cases h
  | some i =>
   rw [hf] at h
   have hi := (find_first _ _ _ hf).1
   have hv : (i % 9 + 1) * 10 ^ (i / 9) = v := Option.some.inj h
   have : ∀ i, i < 27 → (i % 9 + 1) * 10 ^ (i / 9) ≤ 1000 := by decide
   rw [← hv]; exact this i hi
 ·unfold chV at h
  cases hf : (List.range 10).find? (fun n => chD n == c) with
  | some i =>
   rw [hf] at h
   have hi := (find_first _ _ _ hf).1
   obtain rfl := Option.some.inj h
   omega
  | none =>
   rw [hf] at h
   simp only at h
   repeat' split at h
   all_goals first | (cases h; omega) | cases h
theorem val_45 (sc c v : Nat) (hs : sc < 9) (h : valR sc c = some v) : ((c : Int) == 45) = false := by
 unfold valR at h
 rw [if_pos hs] at h
 have : ∀ sc, sc < 9 → 48 ≤ zeroN.getD sc 0 := by decide
 have := this sc hs
 rw [beq_eq_false_iff_ne]
 split at h
 ·omega
 ·cases h
def lenS (sc : Nat) (t l d : Int) (v : Nat) : Int × Int × Int :=
 if sc = 9 then ((if (v : Int) > l then t - 2 * l else t) + (v : Int), (v : Int), d)
 else if sc < 9 then (t * 10 + v, l, d)
 else if sc < 12 then (t + v, l, d)
 else if v < 10 then (t + d, l, v) else (t + d * v, l, 0)
theorem len_none (sc : Nat) : ∀ (rs : List Nat), rs.foldl (lenF sc) none = none
 | [] => rfl
 | _ :: rs => len_none sc rs
theorem len_step (sc c : Nat) (rs : List Nat) (t l d : Int) (R : Int × Int × Int) (h : (c :: rs).foldl (lenF sc) (some (t, l, d)) = some R) :
  ∃ v, valR sc c = some v ∧ t ≤ 1099511627776 ∧ rs.foldl (lenF sc) (some (lenS sc t l d v)) = some R := by
 rw [List.foldl_cons] at h
 cases hv : valR sc c with
 | none =>
  simp only [lenF, hv] at h
  rw [len_none] at h
  cases h
 | some v =>
  by_cases ht : t > 1099511627776
  ·simp only [lenF, hv, if_pos ht] at h
   rw [len_none] at h
   cases h
  ·refine ⟨v, rfl, by omega, ?_⟩
   have e : lenF sc (some (t, l, d)) c = some (lenS sc t l d v) := by
    simp only [lenF, hv, if_neg ht, lenS]
    repeat' split
    all_goals first | rfl | omega
   rw [e] at h
   exact h
theorem at_pos (rs post : List Nat) (pos : Nat) (h : (encs rs).drop pos = encs post) (c : Nat) (ps : List Nat) (hp : post = c :: ps) (hb : ∀ r ∈ post, Bmp r) :
  pos < (str (encs rs)).size ∧ Utf8.decode (str (encs rs)) pos = (c, (Lib.encodeRune (c : Int)).length) ∧ (encs rs).drop (pos + (Lib.encodeRune (c : Int)).length) = encs ps := by
 subst hp
 have e1 : encs (c :: ps) = Lib.encodeRune (c : Int) ++ encs ps := by simp [encs]
 have hc := hb c (List.mem_cons_self ..)
 refine ⟨?_, ?_, ?_⟩
 ·have hl := congrArg List.length h
  rw [List.length_drop, e1, List.length_append] at hl
  have := (enc_len c hc).1
  simp only [str, ByteArray.size, List.size_toArray]
  omega
 ·rw [← Lib.decodeL_drop]
  show Lib.decodeL ((encs rs).drop pos) = _
  rw [h, e1]
  exact decodeL_enc c hc _
 ·rw [← List.drop_drop, h, e1]
  simp
theorem at_end (rs : List Nat) (pos : Nat) (h : (encs rs).drop pos = encs []) : ¬ pos < (str (encs rs)).size := by
 have hl := congrArg List.length h
 rw [List.length_drop, show encs [] = [] from rfl, List.length_nil] at hl
 simp only [str, ByteArray.size, List.size_toArray]
 omega
def LenI (sc : Nat) (post : List Nat) (t l d : Int) : Prop :=
 (sc ≠ 9 → 0 ≤ t) ∧ t ≤ 10995116290000 ∧ 0 ≤ l ∧ l ≤ 1000 ∧ 0 ≤ d ∧ d ≤ 9 ∧ 1000 * (post.length : Int) - 1000000 ≤ t
set_option maxHeartbeats 4000000 in
set_option maxRecDepth 100000 in
theorem lenient_pos (sc : Nat) (hs : sc < 9) (rs : List Nat) (hne : rs ≠ []) (hb : ∀ r ∈ rs, Bmp r) (hlen : rs.length ≤ 1000) (t0 l0 d0 : Int) (h : rs.foldl (lenF sc) (some (0, 0, 0)) = some (t0, l0, d0)) (w : World) (hz : Zer w) :
  Calls Tryz.prog 44 #[.int .i64 (sc : Int), .string (str (encs rs))] w fun e w' => e = .returned (.tuple #[.int .i64 (t0 + d0), .bool true]) ∧ Below w.heap.size w w' := by
 have hV := Lib.hid (fun c v hv W hz => value_any sc (by omega) c v hv W hz)
 have HNE := encs_empty rs hb
 have hie : rs.isEmpty = false := by cases rs with | nil => exact absurd rfl hne | cons _ _ => rfl
 have hie2 : List.isEmpty rs = false := hie
 have HB := Lib.hid hb
 have H := Lib.hid h
 have hz0 := Lib.hid hz
 have HL : LenI sc rs 0 0 0 := ⟨fun _ => by omega, by omega, by omega, by omega, by omega, by omega, by omega⟩
 have HL := Lib.hid HL
 have HD : Hid (∀ (pos c : Nat) (ps : List Nat), (encs rs).drop pos = encs (c :: ps) → (∀ r ∈ c :: ps, Bmp r) → pos < (str (encs rs)).size ∧ Utf8.decode (str (encs rs)) pos = (c, (Lib.encodeRune (c : Int)).length) ∧ (encs rs).drop (pos + (Lib.encodeRune (c : Int)).length) = encs ps) := fun pos c ps hd hb => at_pos rs (c :: ps) pos hd c ps rfl hb
 have HE : Hid (∀ pos, (encs rs).drop pos = encs [] → ¬ pos < (str (encs rs)).size) := fun pos hd => at_end rs pos hd
 have hsmall : (str (encs rs)).size ≤ 3000 := by have := encs_small rs hb; omega
 rw [hie] at HNE
 have HSC := Lib.hid hs
 have t9 : ((sc : Int) == 9) = false := by rw [beq_eq_false_iff_ne]; omega
 have t10 : ((sc : Int) == 10) = false := by rw [beq_eq_false_iff_ne]; omega
 have t11 : ((sc : Int) == 11) = false := by rw [beq_eq_false_iff_ne]; omega
 have t12 : ((sc : Int) == 12) = false := by rw [beq_eq_false_iff_ne]; omega
 clear h hb hie hie2 hne hz hs
 generalize hA : encs rs = A at *
 have HS0 : Hid (A.drop 0 = encs rs) := hA.symm
 clear hA
 generalize hStr : str A = S at *
 clear hStr
 go_enter Tryz.func44, Tryz.ntmps44
 go_wp2_with fail
 go_loopw [6, 7, 8, 9, 10, 11, 12, 13] (fun tv lv dv nv _ _ _ _ wr => ∃ (pos : Nat) (post : List Nat) (t l d : Int), tv = .int .i64 t ∧ lv = .int .i64 l ∧ dv = .int .i64 d ∧ nv = .bool false ∧ Hid (A.drop pos = encs post) ∧ Hid (∀ r ∈ post, Bmp r) ∧ Hid (LenI sc post t l d) ∧ Hid (post.foldl (lenF sc) (some (t, l, d)) = some (t0, l0, d0)) ∧ wr.heap[w.heap.size]? = some (.stringIter S pos) ∧ Hid (Below w.heap.size w wr)) (fun _ _ _ _ _ _ _ _ wr => S.size - wr.iterPos w.heap.size)
 case atStart =>
  exact ⟨0, rs, 0, 0, 0, rfl, rfl, rfl, rfl, HS0.out, HB.out, HL.out, H.out, World.iter_heap w S 0, Lib.hid ((Below.refl _ w).alloc (Nat.le_refl _) _)⟩
 case round =>
  obtain ⟨pos, post, t, l, d, rfl, rfl, rfl, rfl, hd, hb, hi, hf, hit, hbw⟩ := hrel
  cases post with
  | nil =>
   have hp := HE.out pos hd.out
   have hnx : ∀ ty, (Instr.next (.pointer (some ⟨w.heap.size, 0, none⟩)) true ty).run Tryz.prog wr = _ := fun ty => Lib.run_next_end_at wr w.heap.size S pos ty hit hp
   have he : (t, l, d) = (t0, l0, d0) := Option.some.inj hf.out
   obtain ⟨i1, i2, i3, i4, i5, i6, i7⟩ := hi.out
   obtain ⟨rfl, rfl, rfl⟩ : t = t0 ∧ l = l0 ∧ d = d0 := by injection he with a b; injection b with b c; exact ⟨a, b, c⟩
   clear he hf hi i1
   simp only [List.length_nil] at i7
   go_wp2_with fail
   go_ret2
   exact ⟨rfl, hbw.out⟩
  | cons c ps =>
   obtain ⟨hp, hdec, hdr⟩ := HD.out pos c ps hd.out hb.out
   obtain ⟨v, hv, hg, hf2⟩ := len_step sc c ps t l d _ hf.out
   have hv1 := val_le sc c v hv
   obtain ⟨i1, i2, i3, i4, i5, i6, i7⟩ := hi.out
   have c1 := (enc_len c (hb.out c (List.mem_cons_self ..))).1
   have HF := Lib.hid hf2
   have HDR := Lib.hid hdr
   have HBP : Hid (∀ r ∈ ps, Bmp r) := fun r hr => hb.out r (List.mem_cons_of_mem _ hr)
   have hnx : ∀ ty, (Instr.next (.pointer (some ⟨w.heap.size, 0, none⟩)) true ty).run Tryz.prog wr = .ok (.tuple #[.bool true, .int .i64 pos, .int .i32 (c : Int)]) (wr.iterAt w.heap.size S (pos + (Lib.encodeRune (c : Int)).length)) := fun ty => by
    rw [Lib.run_next_any_at wr w.heap.size S pos ty hit hp, hdec]
   have hit2 := Lib.iterAt_heap wr w.heap.size S pos (pos + (Lib.encodeRune (c : Int)).length) hit
   have hbw2 := Lib.below_iterAt hbw.out (k := w.heap.size) (Nat.le_refl _) S (pos + (Lib.encodeRune (c : Int)).length)
   have hzw := hz0.out.next hbw2
   have hlt2 : w.heap.size < (wr.iterAt w.heap.size S (pos + (Lib.encodeRune (c : Int)).length)).heap.size := (Array.getElem?_eq_some_iff.1 hit2).1
   have HVc := Lib.hid (hV.out c v hv _ hzw)
   unfold ValQ at HVc
   have hps : (((c :: ps).length : Nat) : Int) = (ps.length : Int) + 1 := by simp
   rw [hps] at i7
   have hi0 : 0 ≤ (ps.length : Int) := by omega
   have hs := HSC.out
   have t0 := i1 (by omega)
   have c45 := val_45 sc c v hs hv
   have hst : lenS sc t l d v = (t * 10 + v, l, d) := by unfold lenS; rw [if_neg (by omega), if_pos (by omega)]
   rw [hst] at HF
   clear hst
   have HI : Hid (LenI sc ps (t * 10 + v) l d) := ⟨fun _ => by omega, by omega, i3, i4, i5, i6, by omega⟩
   have HP1 : Hid (S.size - (pos + (Lib.encodeRune (c : Int)).length) < S.size - wr.iterPos w.heap.size) := by
    unfold World.iterPos
    rw [hit]
    show S.size - _ < S.size - pos
    omega
   clear hi hf hv hdec hdr hf2 hps hb hd hzw c1 hp i1 hs
   generalize (Lib.encodeRune (c : Int)).length = k at *
   generalize hW : wr.iterAt w.heap.size S (pos + k) = W1 at *
   clear hW hit hbw
   have HIT := Lib.hid hit2
   have HBW := Lib.hid hbw2
   have HLT := Lib.hid hlt2
   clear hit2 hbw2 hlt2
   go_wp2_with fail
   refine HVc.out.mono ?_
   rintro e W2 ⟨rfl, hb2⟩
   have HB2 := Lib.hid hb2
   have HIT2 : Hid (W2.heap[w.heap.size]? = some (.stringIter S (pos + k))) := (HB2.out.block _ HLT.out).trans HIT.out
   have HBW2 := Lib.hid (HBW.out.trans (HB2.out.mono (Nat.le_of_lt HLT.out)))
   clear hb2 HVc HB2
   go_wp2_with fail
   go_roundw
   case rel => exact ⟨pos + k, ps, _, _, _, rfl, rfl, rfl, rfl, HDR.out, HBP.out, HI.out, HF.out, HIT2.out, HBW2.out⟩
   case measure => unfold World.iterPos; rw [HIT2.out]; exact HP1.out
set_option maxHeartbeats 4000000 in
set_option maxRecDepth 100000 in
theorem lenient_sgn (sc : Nat) (hs : sc = 10 ∨ sc = 11) (rs : List Nat) (hne : rs ≠ []) (hb : ∀ r ∈ rs, Bmp r) (hlen : rs.length ≤ 1000) (t0 l0 d0 : Int) (h : rs.foldl (lenF sc) (some (0, 0, 0)) = some (t0, l0, d0)) (w : World) (hz : Zer w) :
  Calls Tryz.prog 44 #[.int .i64 (sc : Int), .string (str (encs rs))] w fun e w' => e = .returned (.tuple #[.int .i64 (t0 + d0), .bool true]) ∧ Below w.heap.size w w' := by
 have hV := Lib.hid (fun c v hv W hz => value_any sc (by omega) c v hv W hz)
 have HNE := encs_empty rs hb
 have hie : rs.isEmpty = false := by cases rs with | nil => exact absurd rfl hne | cons _ _ => rfl
 have hie2 : List.isEmpty rs = false := hie
 have HB := Lib.hid hb
 have H := Lib.hid h
 have hz0 := Lib.hid hz
 have HL : LenI sc rs 0 0 0 := ⟨fun _ => by omega, by omega, by omega, by omega, by omega, by omega, by omega⟩
 have HL := Lib.hid HL
 have HD : Hid (∀ (pos c : Nat) (ps : List Nat), (encs rs).drop pos = encs (c :: ps) → (∀ r ∈ c :: ps, Bmp r) → pos < (str (encs rs)).size ∧ Utf8.decode (str (encs rs)) pos = (c, (Lib.encodeRune (c : Int)).length) ∧ (encs rs).drop (pos + (Lib.encodeRune (c : Int)).length) = encs ps) := fun pos c ps hd hb => at_pos rs (c :: ps) pos hd c ps rfl hb
 have HE : Hid (∀ pos, (encs rs).drop pos = encs [] → ¬ pos < (str (encs rs)).size) := fun pos hd => at_end rs pos hd
 have hsmall : (str (encs rs)).size ≤ 3000 := by have := encs_small rs hb; omega
 rw [hie] at HNE
 have HSC := Lib.hid hs
 have t9 : ((sc : Int) == 9) = false := by rw [beq_eq_false_iff_ne]; omega
 have hcase : ((sc : Int) == 10) = true ∨ (((sc : Int) == 10) = false ∧ ((sc : Int) == 11) = true) := by
  rcases hs with rfl | rfl
  ·exact .inl rfl
  ·exact .inr ⟨rfl, rfl⟩
 have HC := Lib.hid hcase
 clear hcase
 clear h hb hie hie2 hne hz hs
 generalize hA : encs rs = A at *
 have HS0 : Hid (A.drop 0 = encs rs) := hA.symm
 clear hA
 generalize hStr : str A = S at *
 clear hStr
 go_enter Tryz.func44, Tryz.ntmps44
 go_wp2_with fail
 go_loopw [6, 7, 8, 9, 10, 11, 12, 13] (fun tv lv dv nv _ _ _ _ wr => ∃ (pos : Nat) (post : List Nat) (t l d : Int), tv = .int .i64 t ∧ lv = .int .i64 l ∧ dv = .int .i64 d ∧ nv = .bool false ∧ Hid (A.drop pos = encs post) ∧ Hid (∀ r ∈ post, Bmp r) ∧ Hid (LenI sc post t l d) ∧ Hid (post.foldl (lenF sc) (some (t, l, d)) = some (t0, l0, d0)) ∧ wr.heap[w.heap.size]? = some (.stringIter S pos) ∧ Hid (Below w.heap.size w wr)) (fun _ _ _ _ _ _ _ _ wr => S.size - wr.iterPos w.heap.size)
 case atStart =>
  exact ⟨0, rs, 0, 0, 0, rfl, rfl, rfl, rfl, HS0.out, HB.out, HL.out, H.out, World.iter_heap w S 0, Lib.hid ((Below.refl _ w).alloc (Nat.le_refl _) _)⟩
 case round =>
  obtain ⟨pos, post, t, l, d, rfl, rfl, rfl, rfl, hd, hb, hi, hf, hit, hbw⟩ := hrel
  cases post with
  | nil =>
   have hp := HE.out pos hd.out
   have hnx : ∀ ty, (Instr.next (.pointer (some ⟨w.heap.size, 0, none⟩)) true ty).run Tryz.prog wr = _ := fun ty => Lib.run_next_end_at wr w.heap.size S pos ty hit hp
   have he : (t, l, d) = (t0, l0, d0) := Option.some.inj hf.out
   obtain ⟨i1, i2, i3, i4, i5, i6, i7⟩ := hi.out
   obtain ⟨rfl, rfl, rfl⟩ : t = t0 ∧ l = l0 ∧ d = d0 := by injection he with a b; injection b with b c; exact ⟨a, b, c⟩
   clear he hf hi i1
   simp only [List.length_nil] at i7
   go_wp2_with fail
   go_ret2
   exact ⟨rfl, hbw.out⟩
  | cons c ps =>
   obtain ⟨hp, hdec, hdr⟩ := HD.out pos c ps hd.out hb.out
   obtain ⟨v, hv, hg, hf2⟩ := len_step sc c ps t l d _ hf.out
   have hv1 := val_le sc c v hv
   obtain ⟨i1, i2, i3, i4, i5, i6, i7⟩ := hi.out
   have c1 := (enc_len c (hb.out c (List.mem_cons_self ..))).1
   have HF := Lib.hid hf2
   have HDR := Lib.hid hdr
   have HBP : Hid (∀ r ∈ ps, Bmp r) := fun r hr => hb.out r (List.mem_cons_of_mem _ hr)
   have hnx : ∀ ty, (Instr.next (.pointer (some ⟨w.heap.size, 0, none⟩)) true ty).run Tryz.prog wr = .ok (.tuple #[.bool true, .int .i64 pos, .int .i32 (c : Int)]) (wr.iterAt w.heap.size S (pos + (Lib.encodeRune (c : Int)).length)) := fun ty => by
    rw [Lib.run_next_any_at wr w.heap.size S pos ty hit hp, hdec]
   have hit2 := Lib.iterAt_heap wr w.heap.size S pos (pos + (Lib.encodeRune (c : Int)).length) hit
   have hbw2 := Lib.below_iterAt hbw.out (k := w.heap.size) (Nat.le_refl _) S (pos + (Lib.encodeRune (c : Int)).length)
   have hzw := hz0.out.next hbw2
   have hlt2 : w.heap.size < (wr.iterAt w.heap.size S (pos + (Lib.encodeRune (c : Int)).length)).heap.size := (Array.getElem?_eq_some_iff.1 hit2).1
   have HVc := Lib.hid (hV.out c v hv _ hzw)
   unfold ValQ at HVc
   have hps : (((c :: ps).length : Nat) : Int) = (ps.length : Int) + 1 := by simp
   rw [hps] at i7
   have hi0 : 0 ≤ (ps.length : Int) := by omega
   have hs := HSC.out
   have t0 := i1 (by omega)
   have hst : lenS sc t l d v = (t + v, l, d) := by unfold lenS; rw [if_neg (by omega), if_neg (by omega), if_pos (by omega)]
   rw [hst] at HF
   clear hst
   have HI : Hid (LenI sc ps (t + v) l d) := ⟨fun _ => by omega, by omega, i3, i4, i5, i6, by omega⟩
   have HP1 : Hid (S.size - (pos + (Lib.encodeRune (c : Int)).length) < S.size - wr.iterPos w.heap.size) := by
    unfold World.iterPos
    rw [hit]
    show S.size - _ < S.size - pos
    omega
   clear hi hf hv hdec hdr hf2 hps hb hd hzw c1 hp i1 hs
   generalize (Lib.encodeRune (c : Int)).length = k at *
   generalize hW : wr.iterAt w.heap.size S (pos + k) = W1 at *
   clear hW hit hbw
   have HIT := Lib.hid hit2
   have HBW := Lib.hid hbw2
   have HLT := Lib.hid hlt2
   clear hit2 hbw2 hlt2
   go_wp2_with fail
   refine HVc.out.mono ?_
   rintro e W2 ⟨rfl, hb2⟩
   have HB2 := Lib.hid hb2
   have HIT2 : Hid (W2.heap[w.heap.size]? = some (.stringIter S (pos + k))) := (HB2.out.block _ HLT.out).trans HIT.out
   have HBW2 := Lib.hid (HBW.out.trans (HB2.out.mono (Nat.le_of_lt HLT.out)))
   clear hb2 HVc HB2
   rcases HC.out with t10 | ⟨t10, t11⟩
   all_goals
    go_wp2_with fail
    go_roundw
   all_goals first
    | exact ⟨pos + k, ps, _, _, _, rfl, rfl, rfl, rfl, HDR.out, HBP.out, HI.out, HF.out, HIT2.out, HBW2.out⟩
    | (unfold World.iterPos; rw [HIT2.out]; exact HP1.out)
end Go.Proofs.YtoemghiejfkpbaaGreatDoor
/- Contract of numeral.Lenient, one script more: prints of wip/gen/numr11.py. -/
namespace Go.Proofs.YtoemghiejfkpbaaGreatDoor
open Go.RowKit
set_option linter.unusedVariables false
set_option maxHeartbeats 4000000 in
set_option maxRecDepth 100000 in
theorem lenient_rom (sc : Nat) (hs : sc = 9) (rs : List Nat) (hne : rs ≠ []) (hb : ∀ r ∈ rs, Bmp r) (hlen : rs.length ≤ 1000) (t0 l0 d0 : Int) (h : rs.foldl (lenF sc) (some (0, 0, 0)) = some (t0, l0, d0)) (w : World) (hz : Zer w) :
  Calls Tryz.prog 44 #[.int .i64 (sc : Int), .string (str (encs rs))] w fun e w' => e = .returned (.tuple #[.int .i64 (t0 + d0), .bool true]) ∧ Below w.heap.size w w' := by
 have hV := Lib.hid (fun c v hv W hz => value_any sc (by omega) c v hv W hz)
 have HNE := encs_empty rs hb
 have hie : rs.isEmpty = false := by cases rs with | nil => exact absurd rfl hne | cons _ _ => rfl
 have hie2 : List.isEmpty rs = false := hie
 have HB := Lib.hid hb
 have H := Lib.hid h
 have hz0 := Lib.hid hz
 have HL : LenI sc rs 0 0 0 := ⟨fun _ => by omega, by omega, by omega, by omega, by omega, by omega, by omega⟩
 have HL := Lib.hid HL
 have HD : Hid (∀ (pos c : Nat) (ps : List Nat), (encs rs).drop pos = encs (c :: ps) → (∀ r ∈ c :: ps, Bmp r) → pos < (str (encs rs)).size ∧ Utf8.decode (str (encs rs)) pos = (c, (Lib.encodeRune (c : Int)).length) ∧ (encs rs).drop (pos + (Lib.encodeRune (c : Int)).length) = encs ps) := fun pos c ps hd hb => at_pos rs (c :: ps) pos hd c ps rfl hb
 have HE : Hid (∀ pos, (encs rs).drop pos = encs [] → ¬ pos < (str (encs rs)).size) := fun pos hd => at_end rs pos hd
 have hsmall : (str (encs rs)).size ≤ 3000 := by have := encs_small rs hb; omega
 rw [hie] at HNE
 have HSC := Lib.hid hs
 have T9 : Hid (((sc : Int) == 9) = true) := by show _ = _; rw [beq_iff_eq]; omega
 clear h hb hie hie2 hne hz hs
 generalize hA : encs rs = A at *
 have HS0 : Hid (A.drop 0 = encs rs) := hA.symm
 clear hA
 generalize hStr : str A = S at *
 clear hStr
 go_enter Tryz.func44, Tryz.ntmps44
 go_wp2_with fail
 go_loopw [6, 7, 8, 9, 10, 11, 12, 13] (fun tv lv dv nv _ _ _ _ wr => ∃ (pos : Nat) (post : List Nat) (t l d : Int), tv = .int .i64 t ∧ lv = .int .i64 l ∧ dv = .int .i64 d ∧ nv = .bool false ∧ Hid (A.drop pos = encs post) ∧ Hid (∀ r ∈ post, Bmp r) ∧ Hid (LenI sc post t l d) ∧ Hid (post.foldl (lenF sc) (some (t, l, d)) = some (t0, l0, d0)) ∧ wr.heap[w.heap.size]? = some (.stringIter S pos) ∧ Hid (Below w.heap.size w wr)) (fun _ _ _ _ _ _ _ _ wr => S.size - wr.iterPos w.heap.size)
 case atStart =>
  exact ⟨0, rs, 0, 0, 0, rfl, rfl, rfl, rfl, HS0.out, HB.out, HL.out, H.out, World.iter_heap w S 0, Lib.hid ((Below.refl _ w).alloc (Nat.le_refl _) _)⟩
 case round =>
  obtain ⟨pos, post, t, l, d, rfl, rfl, rfl, rfl, hd, hb, hi, hf, hit, hbw⟩ := hrel
  cases post with
  | nil =>
   have hp := HE.out pos hd.out
   have hnx : ∀ ty, (Instr.next (.pointer (some ⟨w.heap.size, 0, none⟩)) true ty).run Tryz.prog wr = _ := fun ty => Lib.run_next_end_at wr w.heap.size S pos ty hit hp
   have he : (t, l, d) = (t0, l0, d0) := Option.some.inj hf.out
   obtain ⟨i1, i2, i3, i4, i5, i6, i7⟩ := hi.out
   obtain ⟨rfl, rfl, rfl⟩ : t = t0 ∧ l = l0 ∧ d = d0 := by injection he with a b; injection b with b c; exact ⟨a, b, c⟩
   clear he hf hi i1
   simp only [List.length_nil] at i7
   go_wp2_with fail
   go_ret2
   exact ⟨rfl, hbw.out⟩
  | cons c ps =>
   obtain ⟨hp, hdec, hdr⟩ := HD.out pos c ps hd.out hb.out
   obtain ⟨v, hv, hg, hf2⟩ := len_step sc c ps t l d _ hf.out
   have hv1 := val_le sc c v hv
   obtain ⟨i1, i2, i3, i4, i5, i6, i7⟩ := hi.out
   have c1 := (enc_len c (hb.out c (List.mem_cons_self ..))).1
   have HF := Lib.hid hf2
   have HDR := Lib.hid hdr
   have HBP : Hid (∀ r ∈ ps, Bmp r) := fun r hr => hb.out r (List.mem_cons_of_mem _ hr)
   have hnx : ∀ ty, (Instr.next (.pointer (some ⟨w.heap.size, 0, none⟩)) true ty).run Tryz.prog wr = .ok (.tuple #[.bool true, .int .i64 pos, .int .i32 (c : Int)]) (wr.iterAt w.heap.size S (pos + (Lib.encodeRune (c : Int)).length)) := fun ty => by
    rw [Lib.run_next_any_at wr w.heap.size S pos ty hit hp, hdec]
   have hit2 := Lib.iterAt_heap wr w.heap.size S pos (pos + (Lib.encodeRune (c : Int)).length) hit
   have hbw2 := Lib.below_iterAt hbw.out (k := w.heap.size) (Nat.le_refl _) S (pos + (Lib.encodeRune (c : Int)).length)
   have hzw := hz0.out.next hbw2
   have hlt2 : w.heap.size < (wr.iterAt w.heap.size S (pos + (Lib.encodeRune (c : Int)).length)).heap.size := (Array.getElem?_eq_some_iff.1 hit2).1
   have HVc := Lib.hid (hV.out c v hv _ hzw)
   unfold ValQ at HVc
   have hps : (((c :: ps).length : Nat) : Int) = (ps.length : Int) + 1 := by simp
   rw [hps] at i7
   have hi0 : 0 ≤ (ps.length : Int) := by omega
   have hs := HSC.out
   have HI : Hid (LenI sc ps ((if (v : Int) > l then t - 2 * l else t) + (v : Int)) (v : Int) d) := ⟨fun h => absurd hs h, by split <;> omega, by omega, by omega, i5, i6, by split <;> omega⟩
   have hst : lenS sc t l d v = ((if (v : Int) > l then t - 2 * l else t) + (v : Int), (v : Int), d) := by unfold lenS; rw [if_pos (by omega)]
   rw [hst] at HF
   clear hst
   have HP1 : Hid (S.size - (pos + (Lib.encodeRune (c : Int)).length) < S.size - wr.iterPos w.heap.size) := by
    unfold World.iterPos
    rw [hit]
    show S.size - _ < S.size - pos
    omega
   clear hi hf hv hdec hdr hf2 hps hb hd hzw c1 hp i1 hs
   generalize (Lib.encodeRune (c : Int)).length = k at *
   generalize hW : wr.iterAt w.heap.size S (pos + k) = W1 at *
   clear hW hit hbw
   have HIT := Lib.hid hit2
   have HBW := Lib.hid hbw2
   have HLT := Lib.hid hlt2
   clear hit2 hbw2 hlt2
   go_wp2_with fail
   refine HVc.out.mono ?_
   rintro e W2 ⟨rfl, hb2⟩
   have HB2 := Lib.hid hb2
   have HIT2 : Hid (W2.heap[w.heap.size]? = some (.stringIter S (pos + k))) := (HB2.out.block _ HLT.out).trans HIT.out
   have HBW2 := Lib.hid (HBW.out.trans (HB2.out.mono (Nat.le_of_lt HLT.out)))
   clear hb2 HVc HB2
   have t9 := T9.out
   by_cases hvl : l < (v : Int)
   ·have HI2 := Lib.hid HI.out
    have HF2 := Lib.hid HF.out
    rw [if_pos hvl] at HI2 HF2
    clear HI HF
    go_wp2_with fail
    go_roundw
    case rel => exact ⟨pos + k, ps, _, _, _, rfl, rfl, rfl, rfl, HDR.out, HBP.out, HI2.out, HF2.out, HIT2.out, HBW2.out⟩
    case measure => unfold World.iterPos; rw [HIT2.out]; exact HP1.out
   ·have HI2 := Lib.hid HI.out
    have HF2 := Lib.hid HF.out
    rw [if_neg hvl] at HI2 HF2
    clear HI HF
    go_wp2_with fail
    go_roundw
    case rel => exact ⟨pos + k, ps, _, _, _, rfl, rfl, rfl, rfl, HDR.out, HBP.out, HI2.out, HF2.out, HIT2.out, HBW2.out⟩
    case measure => unfold World.iterPos; rw [HIT2.out]; exact HP1.out
end Go.Proofs.YtoemghiejfkpbaaGreatDoor
/- Contract of numeral.Lenient, one script more: prints of wip/gen/numr11.py. -/
namespace Go.Proofs.YtoemghiejfkpbaaGreatDoor
open Go.RowKit
set_option linter.unusedVariables false
set_option maxHeartbeats 4000000 in
set_option maxRecDepth 100000 in
theorem lenient_chi (sc : Nat) (hs : sc = 12) (rs : List Nat) (hne : rs ≠ []) (hb : ∀ r ∈ rs, Bmp r) (hlen : rs.length ≤ 1000) (t0 l0 d0 : Int) (h : rs.foldl (lenF sc) (some (0, 0, 0)) = some (t0, l0, d0)) (w : World) (hz : Zer w) :
  Calls Tryz.prog 44 #[.int .i64 (sc : Int), .string (str (encs rs))] w fun e w' => e = .returned (.tuple #[.int .i64 (t0 + d0), .bool true]) ∧ Below w.heap.size w w' := by
 have hV := Lib.hid (fun c v hv W hz => value_any sc (by omega) c v hv W hz)
 have HNE := encs_empty rs hb
 have hie : rs.isEmpty = false := by cases rs with | nil => exact absurd rfl hne | cons _ _ => rfl
 have hie2 : List.isEmpty rs = false := hie
 have HB := Lib.hid hb
 have H := Lib.hid h
 have hz0 := Lib.hid hz
 have HL : LenI sc rs 0 0 0 := ⟨fun _ => by omega, by omega, by omega, by omega, by omega, by omega, by omega⟩
 have HL := Lib.hid HL
 have HD : Hid (∀ (pos c : Nat) (ps : List Nat), (encs rs).drop pos = encs (c :: ps) → (∀ r ∈ c :: ps, Bmp r) → pos < (str (encs rs)).size ∧ Utf8.decode (str (encs rs)) pos = (c, (Lib.encodeRune (c : Int)).length) ∧ (encs rs).drop (pos + (Lib.encodeRune (c : Int)).length) = encs ps) := fun pos c ps hd hb => at_pos rs (c :: ps) pos hd c ps rfl hb
 have HE : Hid (∀ pos, (encs rs).drop pos = encs [] → ¬ pos < (str (encs rs)).size) := fun pos hd => at_end rs pos hd
 have hsmall : (str (encs rs)).size ≤ 3000 := by have := encs_small rs hb; omega
 rw [hie] at HNE
 have HSC := Lib.hid hs
 have t9 : ((sc : Int) == 9) = false := by rw [beq_eq_false_iff_ne]; omega
 have t10 : ((sc : Int) == 10) = false := by rw [beq_eq_false_iff_ne]; omega
 have t11 : ((sc : Int) == 11) = false := by rw [beq_eq_false_iff_ne]; omega
 have T12 : Hid (((sc : Int) == 12) = true) := by show _ = _; rw [beq_iff_eq]; omega
 clear h hb hie hie2 hne hz hs
 generalize hA : encs rs = A at *
 have HS0 : Hid (A.drop 0 = encs rs) := hA.symm
 clear hA
 generalize hStr : str A = S at *
 clear hStr
 go_enter Tryz.func44, Tryz.ntmps44
 go_wp2_with fail
 go_loopw [6, 7, 8, 9, 10, 11, 12, 13] (fun tv lv dv nv _ _ _ _ wr => ∃ (pos : Nat) (post : List Nat) (t l d : Int), tv = .int .i64 t ∧ lv = .int .i64 l ∧ dv = .int .i64 d ∧ nv = .bool false ∧ Hid (A.drop pos = encs post) ∧ Hid (∀ r ∈ post, Bmp r) ∧ Hid (LenI sc post t l d) ∧ Hid (post.foldl (lenF sc) (some (t, l, d)) = some (t0, l0, d0)) ∧ wr.heap[w.heap.size]? = some (.stringIter S pos) ∧ Hid (Below w.heap.size w wr)) (fun _ _ _ _ _ _ _ _ wr => S.size - wr.iterPos w.heap.size)
 case atStart =>
  exact ⟨0, rs, 0, 0, 0, rfl, rfl, rfl, rfl, HS0.out, HB.out, HL.out, H.out, World.iter_heap w S 0, Lib.hid ((Below.refl _ w).alloc (Nat.le_refl _) _)⟩
 case round =>
  obtain ⟨pos, post, t, l, d, rfl, rfl, rfl, rfl, hd, hb, hi, hf, hit, hbw⟩ := hrel
  cases post with
  | nil =>
   have hp := HE.out pos hd.out
   have hnx : ∀ ty, (Instr.next (.pointer (some ⟨w.heap.size, 0, none⟩)) true ty).run Tryz.prog wr = _ := fun ty => Lib.run_next_end_at wr w.heap.size S pos ty hit hp
   have he : (t, l, d) = (t0, l0, d0) := Option.some.inj hf.out
   obtain ⟨i1, i2, i3, i4, i5, i6, i7⟩ := hi.out
   obtain ⟨rfl, rfl, rfl⟩ : t = t0 ∧ l = l0 ∧ d = d0 := by injection he with a b; injection b with b c; exact ⟨a, b, c⟩
   clear he hf hi i1
   simp only [List.length_nil] at i7
   go_wp2_with fail
   go_ret2
   exact ⟨rfl, hbw.out⟩
  | cons c ps =>
   obtain ⟨hp, hdec, hdr⟩ := HD.out pos c ps hd.out hb.out
   obtain ⟨v, hv, hg, hf2⟩ := len_step sc c ps t l d _ hf.out
   have hv1 := val_le sc c v hv
   obtain ⟨i1, i2, i3, i4, i5, i6, i7⟩ := hi.out
   have c1 := (enc_len c (hb.out c (List.mem_cons_self ..))).1
   have HF := Lib.hid hf2
   have HDR := Lib.hid hdr
   have HBP : Hid (∀ r ∈ ps, Bmp r) := fun r hr => hb.out r (List.mem_cons_of_mem _ hr)
   have hnx : ∀ ty, (Instr.next (.pointer (some ⟨w.heap.size, 0, none⟩)) true ty).run Tryz.prog wr = .ok (.tuple #[.bool true, .int .i64 pos, .int .i32 (c : Int)]) (wr.iterAt w.heap.size S (pos + (Lib.encodeRune (c : Int)).length)) := fun ty => by
    rw [Lib.run_next_any_at wr w.heap.size S pos ty hit hp, hdec]
   have hit2 := Lib.iterAt_heap wr w.heap.size S pos (pos + (Lib.encodeRune (c : Int)).length) hit
   have hbw2 := Lib.below_iterAt hbw.out (k := w.heap.size) (Nat.le_refl _) S (pos + (Lib.encodeRune (c : Int)).length)
   have hzw := hz0.out.next hbw2
   have hlt2 : w.heap.size < (wr.iterAt w.heap.size S (pos + (Lib.encodeRune (c : Int)).length)).heap.size := (Array.getElem?_eq_some_iff.1 hit2).1
   have HVc := Lib.hid (hV.out c v hv _ hzw)
   unfold ValQ at HVc
   have hps : (((c :: ps).length : Nat) : Int) = (ps.length : Int) + 1 := by simp
   rw [hps] at i7
   have hi0 : 0 ≤ (ps.length : Int) := by omega
   have hs := HSC.out
   have t0 := i1 (by omega)
   have hm0 : 0 ≤ d * (v : Int) := Int.mul_nonneg i5 (by omega)
   have hm1 : d * (v : Int) ≤ 9 * 1000 := Int.mul_le_mul i6 (by omega) (by omega) (by omega)
   have hst : lenS sc t l d v = if v < 10 then (t + d, l, (v : Int)) else (t + d * v, l, 0) := by unfold lenS; rw [if_neg (by omega), if_neg (by omega), if_neg (by omega)]
   rw [hst] at HF
   clear hst
   have HI : Hid (LenI sc ps (t + d) l (if v < 10 then (v : Int) else 0)) := ⟨fun _ => by omega, by omega, i3, i4, by split <;> omega, by split <;> omega, by omega⟩
   have HJ : Hid (LenI sc ps (t + d * v) l 0) := ⟨fun _ => by omega, by omega, i3, i4, by omega, by omega, by omega⟩
   have HP1 : Hid (S.size - (pos + (Lib.encodeRune (c : Int)).length) < S.size - wr.iterPos w.heap.size) := by
    unfold World.iterPos
    rw [hit]
    show S.size - _ < S.size - pos
    omega
   clear hi hf hv hdec hdr hf2 hps hb hd hzw c1 hp i1 hs
   generalize (Lib.encodeRune (c : Int)).length = k at *
   generalize hW : wr.iterAt w.heap.size S (pos + k) = W1 at *
   clear hW hit hbw
   have HIT := Lib.hid hit2
   have HBW := Lib.hid hbw2
   have HLT := Lib.hid hlt2
   clear hit2 hbw2 hlt2
   go_wp2_with fail
   refine HVc.out.mono ?_
   rintro e W2 ⟨rfl, hb2⟩
   have HB2 := Lib.hid hb2
   have HIT2 : Hid (W2.heap[w.heap.size]? = some (.stringIter S (pos + k))) := (HB2.out.block _ HLT.out).trans HIT.out
   have HBW2 := Lib.hid (HBW.out.trans (HB2.out.mono (Nat.le_of_lt HLT.out)))
   clear hb2 HVc HB2
   have t12 := T12.out
   by_cases hvl : (v : Int) < 10
   ·have hvn : v < 10 := by omega
    have HI2 := Lib.hid HI.out
    have HF2 := Lib.hid HF.out
    rw [if_pos hvn] at HI2 HF2
    clear HI HF HJ hm0 hm1
    go_wp2_with fail
    go_roundw
    case rel => exact ⟨pos + k, ps, _, _, _, rfl, rfl, rfl, rfl, HDR.out, HBP.out, HI2.out, HF2.out, HIT2.out, HBW2.out⟩
    case measure => unfold World.iterPos; rw [HIT2.out]; exact HP1.out
   ·have hvn : ¬ v < 10 := by omega
    have HF2 := Lib.hid HF.out
    rw [if_neg hvn] at HF2
    clear HI HF
    generalize hdv : d * (v : Int) = q at *
    have HDV := Lib.hid hdv
    go_wp2_with fail
    go_roundw
    case rel => exact ⟨pos + k, ps, _, _, _, rfl, rfl, rfl, rfl, HDR.out, HBP.out, HJ.out, HF2.out, HIT2.out, HBW2.out⟩
    case measure => unfold World.iterPos; rw [HIT2.out]; exact HP1.out
end Go.Proofs.YtoemghiejfkpbaaGreatDoor
/- Contract of numeral.Read at what a script writes. -/
namespace Go.Proofs.YtoemghiejfkpbaaGreatDoor
open Go.RowKit
set_option linter.unusedVariables false
theorem lenR_fold (sc : Nat) (rs : List Nat) (n : Int) (h : lenR sc rs = some n) : rs ≠ [] ∧ ∃ t l d, rs.foldl (lenF sc) (some (0, 0, 0)) = some (t, l, d) ∧ t + d = n := by
 unfold lenR at h
 split at h
 ·cases h
 ·rename_i t l d hf
  split at h
  ·cases h
  ·rename_i he
   refine ⟨fun e => he (by rw [e]; rfl), t, l, d, hf, Option.some.inj h⟩
def LenQ (n : Int) (w : World) (e : Ending) (w' : World) : Prop := e = .returned (.tuple #[.int .i64 n, .bool true]) ∧ Below w.heap.size w w'
theorem lenient_any (sc : Nat) (hs : sc < 13) (rs : List Nat) (hb : ∀ r ∈ rs, Bmp r) (hlen : rs.length ≤ 1000) (n : Int) (h : lenR sc rs = some n) (w : World) (hz : Zer w) :
  Calls Tryz.prog 44 #[.int .i64 (sc : Int), .string (str (encs rs))] w (LenQ n w) := by
 obtain ⟨hne, t, l, d, hf, hn⟩ := lenR_fold sc rs n h
 unfold LenQ
 rw [← hn]
 by_cases h9 : sc < 9
 ·exact lenient_pos sc h9 rs hne hb hlen t l d hf w hz
 by_cases e9 : sc = 9
 ·exact lenient_rom sc e9 rs hne hb hlen t l d hf w hz
 by_cases h12 : sc < 12
 ·exact lenient_sgn sc (by omega) rs hne hb hlen t l d hf w hz
 ·exact lenient_chi sc (by omega) rs hne hb hlen t l d hf w hz
end Go.Proofs.YtoemghiejfkpbaaGreatDoor
