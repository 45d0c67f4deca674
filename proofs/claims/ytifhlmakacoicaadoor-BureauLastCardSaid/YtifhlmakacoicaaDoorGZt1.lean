/- Zt1, Zt3, Zt4 -/
import Derived.BigQuiet
import Derived.Test.YtifhlmakacoicaaDoorGBuild1
import Derived.Test.YtifhlmakacoicaaDoorGName1
import Derived.Test.YtifhlmakacoicaaDoorGWords
import Derived.Test.YtifhlmakacoicaaDoorGNumShp
import Derived.Test.YtifhlmakacoicaaDoorGShelf1
import Derived.Test.YtifhlmakacoicaaDoorGChgInfo
import Derived.Test.YtifhlmakacoicaaDoorGZone1
import Derived.Test.YtifhlmakacoicaaDoorGWhole1
/- Contracts of package zonetext: two, offset. -/
namespace Go.Proofs.YtifhlmakacoicaaDoor
open Go.RowKit
set_option linter.unusedVariables false

theorem str_own (s : ByteArray) : str s.data.toList = s := by
  apply ByteArray.ext; simp [str]
def twoL (n : Nat) : List UInt8 := [UInt8.ofNat (48 + n / 10), UInt8.ofNat (48 + n % 10)]
def offL (n : Int) : List UInt8 := (if n < 0 then 45 else 43) :: (twoL (n.natAbs / 1000 / 3600) ++ 58 :: (twoL (n.natAbs / 1000 / 60 % 60) ++ 58 :: twoL (n.natAbs / 1000 % 60)))
theorem offL_len (n : Int) : (offL n).length = 9 := rfl

set_option maxRecDepth 100000 in
theorem two_any (n : Nat) (w : World) (h : n < 100) :
    Calls Tryd.prog 70 #[.int .i64 (n : Int)] w fun e w' => e = .returned (.string (str (twoL n))) ∧ Below w.heap.size w w' := by
  have hcv : (convert 91 9 (.slice (some ⟨w.heap.size, 0, none⟩) 2 2)).run Tryd.prog (w.alloc (Obj.cells #[.int .u8 (48 + (n : Int) / 10), .int .u8 (48 + (n : Int) % 10)] 5)) = .ok (.string (str (twoL n))) (w.alloc (Obj.cells #[.int .u8 (48 + (n : Int) / 10), .int .u8 (48 + (n : Int) % 10)] 5)) := by
    have hb := Box.new w 5 #[.int .u8 (48 + (n : Int) / 10), .int .u8 (48 + (n : Int) % 10)]
    refine run_convert_bytes_back _ _ _ 5 _ 2 (twoL n) Tryd.underlying91 Tryd.underlying5 Tryd.underlying9 ?_
    intro j hj
    have hj2 : j < 2 := hj
    match j, hj2 with
    | 0, _ =>
      have := hb.cell 0
      simp only [List.getElem?_toArray, List.getElem?_cons_zero] at this
      show World.cell? _ ((⟨w.heap.size, 0, none⟩ : Addr).add 0) = some (.int .u8 ((UInt8.ofNat (48 + n / 10)).toNat : Int))
      rw [UInt8.toNat_ofNat', Nat.mod_eq_of_lt (by omega)]
      have e : (⟨w.heap.size, 0, none⟩ : Addr).add 0 = ⟨w.heap.size, 0, none⟩ := by unfold Addr.add; rfl
      rw [e, this]
      simp
    | 1, _ =>
      have := hb.cell 1
      simp only [List.getElem?_toArray, List.getElem?_cons_succ, List.getElem?_cons_zero] at this
      show World.cell? _ ((⟨w.heap.size, 0, none⟩ : Addr).add 1) = some (.int .u8 ((UInt8.ofNat (48 + n % 10)).toNat : Int))
      rw [UInt8.toNat_ofNat', Nat.mod_eq_of_lt (by omega)]
      have e : (⟨w.heap.size, 0, none⟩ : Addr).add 1 = ⟨w.heap.size, 1, none⟩ := by unfold Addr.add; rfl
      rw [e, this]
      simp
  go_enter Tryd.func70, Tryd.ntmps70
  go_wp2_with fail
  go_ret
  exact ⟨rfl, (Below.refl _ _).alloc (Nat.le_refl _) _⟩

set_option maxRecDepth 100000 in
theorem zoff_any (n : Int) (w : World) (h : OffOk n) :
    Calls Tryd.prog 45 #[.int .i64 n] w fun e w' => e = .returned (.string (str (offL n))) ∧ Below w.heap.size w w' := by
  obtain ⟨h1, h2, h3⟩ := h
  have hn : n.natAbs ≤ 64800000 := by omega
  obtain ⟨m, hm⟩ : ∃ m, m = n.natAbs / 1000 := ⟨_, rfl⟩
  have hm2 : m ≤ 64800 := by omega
  have T1 := Lib.hid (fun W => two_any (m / 3600) W (by omega))
  have T2 := Lib.hid (fun W => two_any (m / 60 % 60) W (by omega))
  have T3 := Lib.hid (fun W => two_any (m % 60) W (by omega))
  have HO : Hid (str (offL n) = (((str [if n < 0 then 45 else 43] ++ str (twoL (m / 3600))) ++ ⟨#[58]⟩) ++ str (twoL (m / 60 % 60))) ++ ⟨#[58]⟩ ++ str (twoL (m % 60))) := by
    unfold offL
    rw [← hm, show (⟨#[58]⟩ : ByteArray) = str [58] from rfl]
    simp only [str_append]
    unfold Hid
    simp
  unfold Hid at HO
  rw [HO]
  clear HO
  have s0 : (str [if n < 0 then 45 else 43]).size = 1 := rfl
  have s1 : (str (twoL (m / 3600))).size = 2 := rfl
  have s2 : (str (twoL (m / 60 % 60))).size = 2 := rfl
  have s3 : (str (twoL (m % 60))).size = 2 := rfl
  have s4 : (⟨#[58]⟩ : ByteArray).size = 1 := rfl
  have c1 : ((m / 3600 : Nat) : Int) = (m : Int) / 3600 := by omega
  have c2 : ((m / 60 % 60 : Nat) : Int) = (m : Int) / 60 % 60 := by omega
  have c3 : ((m % 60 : Nat) : Int) = (m : Int) % 60 := by omega
  rw [c1] at T1
  rw [c2] at T2
  rw [c3] at T3
  clear c1 c2 c3
  generalize str (twoL (m / 3600)) = a1 at *
  generalize str (twoL (m / 60 % 60)) = a2 at *
  generalize str (twoL (m % 60)) = a3 at *
  by_cases hneg : n < 0
  · rw [if_pos hneg] at s0 ⊢
    obtain ⟨p, rfl⟩ : ∃ p, n = -p := ⟨-n, by omega⟩
    have hq : p / 1000 = (m : Int) := by omega
    have hp0 : 0 < p := by omega
    have hp1 : p ≤ 64800000 := by omega
    clear h2 h3 hneg
    have e1 : (str [45] ++ a1).size = 3 := by rw [ByteArray.size_append]; omega
    have e2 : (str [45] ++ a1 ++ ⟨#[58]⟩).size = 4 := by rw [ByteArray.size_append]; omega
    have e3 : (str [45] ++ a1 ++ ⟨#[58]⟩ ++ a2).size = 6 := by rw [ByteArray.size_append]; omega
    have e4 : (str [45] ++ a1 ++ ⟨#[58]⟩ ++ a2 ++ ⟨#[58]⟩).size = 7 := by rw [ByteArray.size_append]; omega
    have m0 : (0 : Int) ≤ (m : Int) := by omega
    have m1 : (m : Int) ≤ 64800 := by omega
    clear hm h1 hn hm2
    go_enter Tryd.func45, Tryd.ntmps45
    go_wp2_with fail
    refine (T1.out _).mono ?_
    rintro e w1 ⟨rfl, hb⟩
    have HB := Lib.hid hb
    clear hb
    go_wp2_with fail
    refine (T2.out _).mono ?_
    rintro e w2 ⟨rfl, hb⟩
    have HB2 := Lib.hid (below_then HB.out hb)
    clear hb
    go_wp2_with fail
    refine (T3.out _).mono ?_
    rintro e w3 ⟨rfl, hb⟩
    have HB3 := Lib.hid (below_then HB2.out hb)
    clear hb
    go_wp2_with fail
    go_ret
    exact ⟨rfl, HB3.out⟩
  · rw [if_neg hneg] at s0 ⊢
    have hq : n / 1000 = (m : Int) := by omega
    have hq1 : 0 ≤ n := by omega
    have e1 : (str [43] ++ a1).size = 3 := by rw [ByteArray.size_append]; omega
    have e2 : (str [43] ++ a1 ++ ⟨#[58]⟩).size = 4 := by rw [ByteArray.size_append]; omega
    have e3 : (str [43] ++ a1 ++ ⟨#[58]⟩ ++ a2).size = 6 := by rw [ByteArray.size_append]; omega
    have e4 : (str [43] ++ a1 ++ ⟨#[58]⟩ ++ a2 ++ ⟨#[58]⟩).size = 7 := by rw [ByteArray.size_append]; omega
    have m0 : (0 : Int) ≤ (m : Int) := by omega
    have m1 : (m : Int) ≤ 64800 := by omega
    clear hm h1 hn hm2
    go_enter Tryd.func45, Tryd.ntmps45
    go_wp2_with fail
    refine (T1.out _).mono ?_
    rintro e w1 ⟨rfl, hb⟩
    have HB := Lib.hid hb
    clear hb
    go_wp2_with fail
    refine (T2.out _).mono ?_
    rintro e w2 ⟨rfl, hb⟩
    have HB2 := Lib.hid (below_then HB.out hb)
    clear hb
    go_wp2_with fail
    refine (T3.out _).mono ?_
    rintro e w3 ⟨rfl, hb⟩
    have HB3 := Lib.hid (below_then HB2.out hb)
    clear hb
    go_wp2_with fail
    go_ret
    exact ⟨rfl, HB3.out⟩
end Go.Proofs.YtifhlmakacoicaaDoor

/- Contracts of package zonetext: number, readOffset of what was written. -/
namespace Go.Proofs.YtifhlmakacoicaaDoor
open Go.RowKit
set_option linter.unusedVariables false

theorem atoi_two : ∀ m, m < 100 → Lib.atoi (twoL m) = some (m : Int) := by decide +kernel
theorem atoi2_any (m : Nat) (w : World) (h : m < 100) : Calls Tryd.prog 67 #[.string (str (twoL m))] w fun e w' => e = .returned (.tuple #[.int .i64 (m : Int), .nilIface]) ∧ Below w.heap.size w w' :=
  (strconv_Atoi (str (twoL m)) (m : Int) (by rw [str_size]; show 2 ≤ 18; omega) (by rw [str_data]; exact atoi_two m h) w).mono fun e w' ⟨he, t, hw⟩ => ⟨he, by rw [hw]; exact Lib.bytesWorld_below _ _ _⟩
end Go.Proofs.YtifhlmakacoicaaDoor

/- Contracts of package zonetext: a line that was written is read. -/
namespace Go.Proofs.YtifhlmakacoicaaDoor
open Go.RowKit
set_option linter.unusedVariables false

theorem splitw_any (c : UInt8) (a : List UInt8) (l : List (List UInt8)) (h : ∀ w ∈ a :: l, ∀ b ∈ w, b ≠ c) (hs : (joinW c a l).length < 4294967281) (w : World) (hsh : Shp w) :
    Calls Tryd.prog 66 #[.string (str (joinW c a l)), .string ⟨#[c]⟩] w fun e w' => e = .returned (.slice (some ⟨w.heap.size, 0, none⟩) (l.length + 1) (l.length + 1)) ∧ w' = w.alloc (.cells (((a :: l).map str).map Value.string).toArray 9) := by
  obtain ⟨m, hm⟩ := hsh
  refine (strings_Split (str (joinW c a l)) ⟨#[c]⟩ m w (by rw [str_size]; exact hs) hm (by show 1 ≤ 1; omega)).mono ?_
  rintro e w' ⟨rfl, rfl⟩
  rw [count_join c l a h, split_join c l a h]
  exact ⟨rfl, rfl⟩
/-- bytes that are no spaces and no ends of lines -/
def Plain (l : List UInt8) : Prop := ∀ b ∈ l, b ≠ 32 ∧ b ≠ 10
theorem plain_itoa (n : Int) : Plain (Lib.itoa n) := fun b hb => ⟨itoa_no n 32 (by decide) b hb, itoa_no n 10 (by decide) b hb⟩
theorem plain_two : ∀ m, m < 100 → ∀ b ∈ twoL m, b ≠ 32 ∧ b ≠ 10 := by decide +kernel
theorem plain_off (n : Int) (h : OffOk n) : Plain (offL n) := by
  obtain ⟨h1, h2, h3⟩ := h
  intro b hb
  unfold offL at hb
  rcases List.mem_cons.1 hb with rfl | hb
  · split <;> decide
  rcases List.mem_append.1 hb with hb | hb
  · exact plain_two _ (by omega) b hb
  rcases List.mem_cons.1 hb with rfl | hb
  · decide
  rcases List.mem_append.1 hb with hb | hb
  · exact plain_two _ (by omega) b hb
  rcases List.mem_cons.1 hb with rfl | hb
  · decide
  · exact plain_two _ (by omega) b hb
theorem plain_of (s : ByteArray) (lo hi : Nat) (h : AllIn lo hi s) (hlo : 33 ≤ lo) : Plain s.data.toList := by
  intro b hb
  obtain ⟨k, hk, rfl⟩ := List.getElem_of_mem hb
  have hk' : k < s.size := by simpa using hk
  have := h k hk'
  have e : s.data.toList[k] = s[k] := by simp [ByteArray.getElem_eq_getElem_data]
  rw [e]
  exact ⟨fun h0 => by rw [h0] at this; simp at this; omega, fun h0 => by rw [h0] at this; simp at this; omega⟩
theorem plain_name (s : ByteArray) (h : NameOk s) : Plain s.data.toList := plain_of s 97 122 h.2.2.2.2.2.2 (by omega)
theorem plain_label (s : ByteArray) (h : LabelOk s) : Plain s.data.toList := plain_of s 65 90 h.1 (by omega)

def headW (nm : ByteArray) (first : Int) : List UInt8 := joinW 32 [122, 111, 110, 101] [nm.data.toList, offL first]
def lineW (d ms o : Int) (l : ByteArray) : List UInt8 := joinW 32 [97, 116] [Lib.itoa d, Lib.itoa ms, offL o, l.data.toList]

def RowQ (gz : Nat) (cs : Array Value) (w : World) (e : Ending) (w' : World) : Prop := e = .returned (.bool true) ∧ Box w' gz 24 cs ∧ Below gz w w'
end Go.Proofs.YtifhlmakacoicaaDoor
