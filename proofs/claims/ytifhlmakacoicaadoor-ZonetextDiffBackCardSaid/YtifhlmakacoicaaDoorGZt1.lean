/- Zt1, Zt3, Zt4, Zt2 -/
import Derived.BigQuiet
import Derived.Deep.RegionHeld3
import Derived.Deep.AppendLies
import Derived.OwnWalk
import Derived.Test.YtifhlmakacoicaaDoorGBuild1
import Derived.Test.YtifhlmakacoicaaDoorGName1
import Derived.Test.YtifhlmakacoicaaDoorGBase
import Derived.Test.YtifhlmakacoicaaDoorGNumShp
import Derived.Test.YtifhlmakacoicaaDoorGShelf1
import Derived.Test.YtifhlmakacoicaaDoorGChgInfo
import Derived.Test.YtifhlmakacoicaaDoorGZone1
import Derived.Test.YtifhlmakacoicaaDoorGWhole1
import Derived.Test.YtifhlmakacoicaaDoorGFlow
import Derived.Test.YtifhlmakacoicaaDoorGOwn
/- Contracts of package zonetext: two, offset. -/
namespace Go.Proofs.YtifhlmakacoicaaDoor
open Go.RowKit
set_option linter.unusedVariables false

theorem str_own (s : ByteArray) : str s.data.toList = s := by
  apply ByteArray.ext; simp [str]
def twoL (n : Nat) : List UInt8 := [UInt8.ofNat (48 + n / 10), UInt8.ofNat (48 + n % 10)]
def offL (n : Int) : List UInt8 := (if n < 0 then 45 else 43) :: (twoL (n.natAbs / 1000 / 3600) ++ 58 :: (twoL (n.natAbs / 1000 / 60 % 60) ++ 58 :: twoL (n.natAbs / 1000 % 60)))
theorem offL_len (n : Int) : (offL n).length = 9 := rfl

set_option maxRecDepth 100000 in
theorem two_any (n : Nat) (w : World) (h : n < 100) :
    Calls Tryd.prog 70 #[.int .i64 (n : Int)] w fun e w' => e = .returned (.string (str (twoL n))) ∧ Below w.heap.size w w' := by
  have hcv : (convert 91 9 (.slice (some ⟨w.heap.size, 0, none⟩) 2 2)).run Tryd.prog (w.alloc (Obj.cells #[.int .u8 (48 + (n : Int) / 10), .int .u8 (48 + (n : Int) % 10)] 5)) = .ok (.string (str (twoL n))) (w.alloc (Obj.cells #[.int .u8 (48 + (n : Int) / 10), .int .u8 (48 + (n : Int) % 10)] 5)) := by
    have hb := Box.new w 5 #[.int .u8 (48 + (n : Int) / 10), .int .u8 (48 + (n : Int) % 10)]
    refine run_convert_bytes_back _ _ _ 5 _ 2 (twoL n) Tryd.underlying91 Tryd.underlying5 Tryd.underlying9 ?_
    intro j hj
    have hj2 : j < 2 := hj
    match j, hj2 with
    | 0, _ =>
      have := hb.cell 0
      simp only [List.getElem?_toArray, List.getElem?_cons_zero] at this
      show World.cell? _ ((⟨w.heap.size, 0, none⟩ : Addr).add 0) = some (.int .u8 ((UInt8.ofNat (48 + n / 10)).toNat : Int))
      rw [UInt8.toNat_ofNat', Nat.mod_eq_of_lt (by omega)]
      have e : (⟨w.heap.size, 0, none⟩ : Addr).add 0 = ⟨w.heap.size, 0, none⟩ := by unfold Addr.add; rfl
      rw [e, this]
      simp
    | 1, _ =>
      have := hb.cell 1
      simp only [List.getElem?_toArray, List.getElem?_cons_succ, List.getElem?_cons_zero] at this
      show World.cell? _ ((⟨w.heap.size, 0, none⟩ : Addr).add 1) = some (.int .u8 ((UInt8.ofNat (48 + n % 10)).toNat : Int))
      rw [UInt8.toNat_ofNat', Nat.mod_eq_of_lt (by omega)]
      have e : (⟨w.heap.size, 0, none⟩ : Addr).add 1 = ⟨w.heap.size, 1, none⟩ := by unfold Addr.add; rfl
      rw [e, this]
      simp
  go_enter Tryd.func70, Tryd.ntmps70
  go_wp2_with fail
  go_ret
  exact ⟨rfl, (Below.refl _ _).alloc (Nat.le_refl _) _⟩

set_option maxRecDepth 100000 in
theorem zoff_any (n : Int) (w : World) (h : OffOk n) :
    Calls Tryd.prog 45 #[.int .i64 n] w fun e w' => e = .returned (.string (str (offL n))) ∧ Below w.heap.size w w' := by
  obtain ⟨h1, h2, h3⟩ := h
  have hn : n.natAbs ≤ 64800000 := by omega
  obtain ⟨m, hm⟩ : ∃ m, m = n.natAbs / 1000 := ⟨_, rfl⟩
  have hm2 : m ≤ 64800 := by omega
  have T1 := Lib.hid (fun W => two_any (m / 3600) W (by omega))
  have T2 := Lib.hid (fun W => two_any (m / 60 % 60) W (by omega))
  have T3 := Lib.hid (fun W => two_any (m % 60) W (by omega))
  have HO : Hid (str (offL n) = (((str [if n < 0 then 45 else 43] ++ str (twoL (m / 3600))) ++ ⟨#[58]⟩) ++ str (twoL (m / 60 % 60))) ++ ⟨#[58]⟩ ++ str (twoL (m % 60))) := by
    unfold offL
    rw [← hm, show (⟨#[58]⟩ : ByteArray) = str [58] from rfl]
    simp only [str_append]
    unfold Hid
    simp
  unfold Hid at HO
  rw [HO]
  clear HO
  have s0 : (str [if n < 0 then 45 else 43]).size = 1 := rfl
  have s1 : (str (twoL (m / 3600))).size = 2 := rfl
  have s2 : (str (twoL (m / 60 % 60))).size = 2 := rfl
  have s3 : (str (twoL (m % 60))).size = 2 := rfl
  have s4 : (⟨#[58]⟩ : ByteArray).size = 1 := rfl
  have c1 : ((m / 3600 : Nat) : Int) = (m : Int) / 3600 := by omega
  have c2 : ((m / 60 % 60 : Nat) : Int) = (m : Int) / 60 % 60 := by omega
  have c3 : ((m % 60 : Nat) : Int) = (m : Int) % 60 := by omega
  rw [c1] at T1
  rw [c2] at T2
  rw [c3] at T3
  clear c1 c2 c3
  generalize str (twoL (m / 3600)) = a1 at *
  generalize str (twoL (m / 60 % 60)) = a2 at *
  generalize str (twoL (m % 60)) = a3 at *
  by_cases hneg : n < 0
  · rw [if_pos hneg] at s0 ⊢
    obtain ⟨p, rfl⟩ : ∃ p, n = -p := ⟨-n, by omega⟩
    have hq : p / 1000 = (m : Int) := by omega
    have hp0 : 0 < p := by omega
    have hp1 : p ≤ 64800000 := by omega
    clear h2 h3 hneg
    have e1 : (str [45] ++ a1).size = 3 := by rw [ByteArray.size_append]; omega
    have e2 : (str [45] ++ a1 ++ ⟨#[58]⟩).size = 4 := by rw [ByteArray.size_append]; omega
    have e3 : (str [45] ++ a1 ++ ⟨#[58]⟩ ++ a2).size = 6 := by rw [ByteArray.size_append]; omega
    have e4 : (str [45] ++ a1 ++ ⟨#[58]⟩ ++ a2 ++ ⟨#[58]⟩).size = 7 := by rw [ByteArray.size_append]; omega
    have m0 : (0 : Int) ≤ (m : Int) := by omega
    have m1 : (m : Int) ≤ 64800 := by omega
    clear hm h1 hn hm2
    go_enter Tryd.func45, Tryd.ntmps45
    go_wp2_with fail
    refine (T1.out _).mono ?_
    rintro e w1 ⟨rfl, hb⟩
    have HB := Lib.hid hb
    clear hb
    go_wp2_with fail
    refine (T2.out _).mono ?_
    rintro e w2 ⟨rfl, hb⟩
    have HB2 := Lib.hid (below_then HB.out hb)
    clear hb
    go_wp2_with fail
    refine (T3.out _).mono ?_
    rintro e w3 ⟨rfl, hb⟩
    have HB3 := Lib.hid (below_then HB2.out hb)
    clear hb
    go_wp2_with fail
    go_ret
    exact ⟨rfl, HB3.out⟩
  · rw [if_neg hneg] at s0 ⊢
    have hq : n / 1000 = (m : Int) := by omega
    have hq1 : 0 ≤ n := by omega
    have e1 : (str [43] ++ a1).size = 3 := by rw [ByteArray.size_append]; omega
    have e2 : (str [43] ++ a1 ++ ⟨#[58]⟩).size = 4 := by rw [ByteArray.size_append]; omega
    have e3 : (str [43] ++ a1 ++ ⟨#[58]⟩ ++ a2).size = 6 := by rw [ByteArray.size_append]; omega
    have e4 : (str [43] ++ a1 ++ ⟨#[58]⟩ ++ a2 ++ ⟨#[58]⟩).size = 7 := by rw [ByteArray.size_append]; omega
    have m0 : (0 : Int) ≤ (m : Int) := by omega
    have m1 : (m : Int) ≤ 64800 := by omega
    clear hm h1 hn hm2
    go_enter Tryd.func45, Tryd.ntmps45
    go_wp2_with fail
    refine (T1.out _).mono ?_
    rintro e w1 ⟨rfl, hb⟩
    have HB := Lib.hid hb
    clear hb
    go_wp2_with fail
    refine (T2.out _).mono ?_
    rintro e w2 ⟨rfl, hb⟩
    have HB2 := Lib.hid (below_then HB.out hb)
    clear hb
    go_wp2_with fail
    refine (T3.out _).mono ?_
    rintro e w3 ⟨rfl, hb⟩
    have HB3 := Lib.hid (below_then HB2.out hb)
    clear hb
    go_wp2_with fail
    go_ret
    exact ⟨rfl, HB3.out⟩
end Go.Proofs.YtifhlmakacoicaaDoor

/- Contracts of package zonetext: number, readOffset of what was written. -/
namespace Go.Proofs.YtifhlmakacoicaaDoor
open Go.RowKit
set_option linter.unusedVariables false

theorem atoi_two : ∀ m, m < 100 → Lib.atoi (twoL m) = some (m : Int) := by decide +kernel
theorem atoi2_any (m : Nat) (w : World) (h : m < 100) : Calls Tryd.prog 67 #[.string (str (twoL m))] w fun e w' => e = .returned (.tuple #[.int .i64 (m : Int), .nilIface]) ∧ Below w.heap.size w w' :=
  (strconv_Atoi (str (twoL m)) (m : Int) (by rw [str_size]; show 2 ≤ 18; omega) (by rw [str_data]; exact atoi_two m h) w).mono fun e w' ⟨he, t, hw⟩ => ⟨he, by rw [hw]; exact Lib.bytesWorld_below _ _ _⟩
end Go.Proofs.YtifhlmakacoicaaDoor

/- Contracts of package zonetext: a line that was written is read. -/
namespace Go.Proofs.YtifhlmakacoicaaDoor
open Go.RowKit
set_option linter.unusedVariables false

theorem splitw_any (c : UInt8) (a : List UInt8) (l : List (List UInt8)) (h : ∀ w ∈ a :: l, ∀ b ∈ w, b ≠ c) (hs : (joinW c a l).length < 4294967281) (w : World) (hsh : Shp w) :
    Calls Tryd.prog 66 #[.string (str (joinW c a l)), .string ⟨#[c]⟩] w fun e w' => e = .returned (.slice (some ⟨w.heap.size, 0, none⟩) (l.length + 1) (l.length + 1)) ∧ w' = w.alloc (.cells (((a :: l).map str).map Value.string).toArray 9) := by
  obtain ⟨m, hm⟩ := hsh
  refine (strings_Split (str (joinW c a l)) ⟨#[c]⟩ m w (by rw [str_size]; exact hs) hm (by show 1 ≤ 1; omega)).mono ?_
  rintro e w' ⟨rfl, rfl⟩
  rw [count_join c l a h, split_join c l a h]
  exact ⟨rfl, rfl⟩
/-- bytes that are no spaces and no ends of lines -/
def Plain (l : List UInt8) : Prop := ∀ b ∈ l, b ≠ 32 ∧ b ≠ 10
theorem plain_itoa (n : Int) : Plain (Lib.itoa n) := fun b hb => ⟨itoa_no n 32 (by decide) b hb, itoa_no n 10 (by decide) b hb⟩
theorem plain_two : ∀ m, m < 100 → ∀ b ∈ twoL m, b ≠ 32 ∧ b ≠ 10 := by decide +kernel
theorem plain_off (n : Int) (h : OffOk n) : Plain (offL n) := by
  obtain ⟨h1, h2, h3⟩ := h
  intro b hb
  unfold offL at hb
  rcases List.mem_cons.1 hb with rfl | hb
  · split <;> decide
  rcases List.mem_append.1 hb with hb | hb
  · exact plain_two _ (by omega) b hb
  rcases List.mem_cons.1 hb with rfl | hb
  · decide
  rcases List.mem_append.1 hb with hb | hb
  · exact plain_two _ (by omega) b hb
  rcases List.mem_cons.1 hb with rfl | hb
  · decide
  · exact plain_two _ (by omega) b hb
theorem plain_of (s : ByteArray) (lo hi : Nat) (h : AllIn lo hi s) (hlo : 33 ≤ lo) : Plain s.data.toList := by
  intro b hb
  obtain ⟨k, hk, rfl⟩ := List.getElem_of_mem hb
  have hk' : k < s.size := by simpa using hk
  have := h k hk'
  have e : s.data.toList[k] = s[k] := by simp [ByteArray.getElem_eq_getElem_data]
  rw [e]
  exact ⟨fun h0 => by rw [h0] at this; simp at this; omega, fun h0 => by rw [h0] at this; simp at this; omega⟩
theorem plain_name (s : ByteArray) (h : NameOk s) : Plain s.data.toList := plain_of s 97 122 h.2.2.2.2.2.2 (by omega)
theorem plain_label (s : ByteArray) (h : LabelOk s) : Plain s.data.toList := plain_of s 65 90 h.1 (by omega)

def headW (nm : ByteArray) (first : Int) : List UInt8 := joinW 32 [122, 111, 110, 101] [nm.data.toList, offL first]
def lineW (d ms o : Int) (l : ByteArray) : List UInt8 := joinW 32 [97, 116] [Lib.itoa d, Lib.itoa ms, offL o, l.data.toList]

def RowQ (gz : Nat) (cs : Array Value) (w : World) (e : Ending) (w' : World) : Prop := e = .returned (.bool true) ∧ Box w' gz 24 cs ∧ Below gz w w'
end Go.Proofs.YtifhlmakacoicaaDoor

/- Contracts of package zonetext: Print. -/
namespace Go.Proofs.YtifhlmakacoicaaDoor
open Go.RowKit
set_option linter.unusedVariables false

def lineL (c : Chg) : List UInt8 := [97, 116, 32] ++ Lib.itoa (c.a / 86400000) ++ [32] ++ Lib.itoa (c.a % 86400000) ++ [32] ++ offL c.o ++ [32] ++ c.l.data.toList ++ [10]
def headL (nm : ByteArray) (first : Int) : List UInt8 := [122, 111, 110, 101, 32] ++ nm.data.toList ++ [32] ++ offL first ++ [10]
def printL (nm : ByteArray) (first : Int) (chs : List Chg) : List UInt8 := headL nm first ++ chs.flatMap lineL
set_option maxRecDepth 100000 in
theorem lineL_len (c : Chg) (h1 : InstOk c.a) (h2 : LabelOk c.l) : (lineL c).length ≤ 60 := by
  obtain ⟨a1, a2⟩ := h1
  have l1 := itoa_len (c.a / 86400000) 8 (Nat.lt_of_lt_of_le (show _ < 100000000 by omega) (by decide)) (by omega)
  have l2 := itoa_len (c.a % 86400000) 8 (Nat.lt_of_lt_of_le (show _ < 100000000 by omega) (by decide)) (by omega)
  have l3 := h2.2.2
  have l4 := offL_len c.o
  unfold lineL
  simp only [List.length_append, List.length_cons, List.length_nil, l4]
  have : c.l.data.toList.length = c.l.size := Array.length_toList
  omega

def PrQ (nm : ByteArray) (first : Int) (chs : List Chg) (w : World) (e : Ending) (w' : World) : Prop :=
  e = .returned (.tuple #[.string (str (printL nm first chs)), .int .i64 0]) ∧ Below w.heap.size w w'
set_option maxHeartbeats 4000000 in
set_option maxRecDepth 100000 in
theorem zprint_yes (nm : ByteArray) (first : Int) (A : Option Addr) (c : Nat) (chs : List Chg) (w : World) (hz : ZIn w nm A chs) (hok : ZoneOk nm first chs) (hp : Pow w) :
    Calls Tryd.prog 17 #[.agg #[.string nm, .int .i64 first, .slice A chs.length c]] w (PrQ nm first chs w) := by
  have HB0 := Lib.hid (below_alloc1 w (Obj.cells #[.string nm, .int .i64 first, .slice A chs.length c] 24))
  have HX := Lib.hid (Box.new w 24 #[.string nm, .int .i64 first, .slice A chs.length c])
  have HOK := Lib.hid hok
  have HP := Lib.hid (fun W (hW : Below w.heap.size w W) => hp.next hW)
  have HZ := Lib.hid (fun W (hW : Below w.heap.size w W) => hz.next hW)
  have hl2 : chs.length ≤ 200 := hok.2.2.1
  have HOF := Lib.hid hok.2.1
  have hnm : nm.size ≤ 12 := hok.1.2.1
  clear hz hok hp
  unfold PrQ
  go_enter Tryd.func17, Tryd.ntmps17
  go_wp2_with fail
  generalize w.alloc (Obj.cells #[.string nm, .int .i64 first, .slice A chs.length c] 24) = W0 at *
  generalize hg : w.heap.size = g at *
  have HG := Lib.hid hg
  clear hg
  refine ((HZ.out W0 HB0.out).check first c).mono ?_
  rintro e w1 ⟨E, rfl, hE, hb⟩
  obtain rfl : E = 0 := hE.2 HOK.out
  have HX1 := Lib.hid (HX.out.below hb)
  have HB1 := Lib.hid (show Below g w w1 from HB0.out.trans (hb.mono (by have := HX.out.lt; omega)))
  clear hE hb HB0 HX
  go_wp2_with fail
  have HB2 := Lib.hid (HB1.out.alloc (by have h1 := HB1.out.size; have h2 := HG.out; omega) (Obj.cells #[.pointer none, .slice none 0 0] 93))
  have HX2 := Lib.hid (HX1.out.alloc (Obj.cells #[.pointer none, .slice none 0 0] 93))
  have HBD := Lib.hid (bld_new w1)
  have hgb : g < w1.heap.size := HX1.out.lt
  generalize w1.alloc (Obj.cells #[.pointer none, .slice none 0 0] 93) = W2 at *
  generalize w1.heap.size = b at *
  clear HX1 HB1
  have HZO := Lib.hid (fun W => zoff_any first W HOF.out)
  have HEH : Hid (str (headL nm first) = (((⟨#[122, 111, 110, 101, 32]⟩ ++ nm) ++ ⟨#[32]⟩) ++ str (offL first)) ++ ⟨#[10]⟩) := by
    unfold headL
    rw [show (⟨#[122, 111, 110, 101, 32]⟩ : ByteArray) = str [122, 111, 110, 101, 32] from rfl, show (⟨#[32]⟩ : ByteArray) = str [32] from rfl, show (⟨#[10]⟩ : ByteArray) = str [10] from rfl]
    conv => rhs; rw [← str_own nm]
    simp only [str_append]
    unfold Hid
    rfl
  have hhl : (headL nm first).length ≤ 40 := by
    unfold headL
    simp only [List.length_append, List.length_cons, List.length_nil, offL_len]
    have : nm.data.toList.length = nm.size := Array.length_toList
    omega
  have z0 := fun W (hW : Below W2.heap.size W2 W) => (HX2.out.below hW).cell 0
  have z1 := fun W (hW : Below W2.heap.size W2 W) => (HX2.out.below hW).cell 1
  simp only [List.getElem?_toArray, List.getElem?_cons_succ, List.getElem?_cons_zero] at z0 z1
  have s0 : (⟨#[122, 111, 110, 101, 32]⟩ : ByteArray).size = 5 := rfl
  have s1 : (⟨#[32]⟩ : ByteArray).size = 1 := rfl
  have s2 : (⟨#[10]⟩ : ByteArray).size = 1 := rfl
  have s3 : (str (offL first)).size = 9 := rfl
  generalize str (offL first) = fo at *
  have s4 : (⟨#[122, 111, 110, 101, 32]⟩ ++ nm : ByteArray).size ≤ 17 := by rw [ByteArray.size_append]; omega
  have s5 : (⟨#[122, 111, 110, 101, 32]⟩ ++ nm ++ ⟨#[32]⟩ : ByteArray).size ≤ 18 := by rw [ByteArray.size_append]; omega
  have s6 : (⟨#[122, 111, 110, 101, 32]⟩ ++ nm ++ ⟨#[32]⟩ ++ fo : ByteArray).size ≤ 27 := by rw [ByteArray.size_append]; omega
  refine flow_begin_tail 9 (tellOf [(6, det (.string fo))]) (by kernel_rfl) (by kernel_rfl) ?_
  simp only [List.take_succ_cons, List.take_zero, List.drop_succ_cons, List.drop_zero]
  repeat (first | (refine flow_val (v := ?_) (by rfl) (by rfl) (fun w hb => ?_) ?_; rotate_left; (· ((go_simp) <;> ((repeat' apply And.intro) <;> with_reducible rfl))); try simp only [Act.put, List.setIfInBounds_toArray, List.set_cons_zero, List.set_cons_succ, Nat.reduceAdd]) | (refine flow_val (v := ?_) (by rfl) (by rfl) (fun w hb => ?_) ?_; rotate_left; (· (go_simp; (refine (if_neg ?_).trans ?_); (· omega); (· with_reducible rfl))); try simp only [Act.put, List.setIfInBounds_toArray, List.set_cons_zero, List.set_cons_succ, Nat.reduceAdd]) | (refine flow_skip (by rfl) (by rfl) ?_; try simp only [Act.put, List.setIfInBounds_toArray, List.set_cons_zero, List.set_cons_succ, Nat.reduceAdd]))
  refine flow_call (f := ?_) (args := ?_) [] (by kernel_rfl) (by rfl) (by rfl) (fun w hb => ?_) (fun w hb hu => ?_) ?_; rotate_left 2; (· ((go_simp) <;> ((repeat' apply And.intro) <;> with_reducible rfl)))
  · exact HZO.out w
  try simp only [Act.put, List.setIfInBounds_toArray, List.set_cons_zero, List.set_cons_succ, Nat.reduceAdd]
  repeat (first | (refine flow_val (v := ?_) (by rfl) (by rfl) (fun w hb => ?_) ?_; rotate_left; (· ((go_simp) <;> ((repeat' apply And.intro) <;> with_reducible rfl))); try simp only [Act.put, List.setIfInBounds_toArray, List.set_cons_zero, List.set_cons_succ, Nat.reduceAdd]) | (refine flow_val (v := ?_) (by rfl) (by rfl) (fun w hb => ?_) ?_; rotate_left; (· (go_simp; (refine (if_neg ?_).trans ?_); (· omega); (· with_reducible rfl))); try simp only [Act.put, List.setIfInBounds_toArray, List.set_cons_zero, List.set_cons_succ, Nat.reduceAdd]) | (refine flow_skip (by rfl) (by rfl) ?_; try simp only [Act.put, List.setIfInBounds_toArray, List.set_cons_zero, List.set_cons_succ, Nat.reduceAdd]))
  refine flow_nil fun w3 hb3 _ => ?_
  rw [← HEH.out]
  clear HEH s0 s1 s2 s3 s4 s5 s6 z0 z1 HZO
  have HBW := Lib.hid (bld_write (bld_next HBD.out hb3) (headL nm first) (by simp; omega))
  have HB3 := Lib.hid (HB2.out.trans (hb3.mono (by have h1 := HB2.out.size; have h2 := HG.out; omega)))
  have hb3' := hb3
  clear hb3 HB2 HBD
  refine wpList_step fun K hK => ?_
  rw [if_pos (by rfl)]
  go_simp
  refine HBW.out.mono ?_
  rintro e w4 ⟨rfl, hbd, hb4⟩
  refine hK _ _ (wpList_nil ?_)
  clear hK HBW K
  have HB4 := Lib.hid (show Below g w w4 from HB3.out.trans (hb4.mono (by omega)))
  have HX4 := Lib.hid ((HX2.out.below hb3').belowB hb4 hgb)
  rw [List.nil_append] at hbd
  have HBD := Lib.hid hbd
  have HZ4 := Lib.hid (HZ.out w4 HB4.out)
  have x2 : w4.cell? ⟨g, 2, none⟩ = some (.slice A chs.length c) := HX4.out.cell 2
  clear hbd hb4 HB3 hb3' HX2
  generalize hHL : headL nm first = HL at *
  have HHL := Lib.hid hHL
  clear hHL
  have HBL : Hid (∀ k, k ≤ chs.length → (HL ++ (chs.take k).flatMap lineL).length ≤ 40 + 60 * k) := fun k hk => by
    induction k with
    | zero => simp; omega
    | succ k ih =>
      have := ih (by omega)
      have hck := HOK.out.2.2.2 k (by omega)
      have hl := lineL_len (chs.getD k chg0) hck.1 hck.2.2.1
      rw [List.take_succ_eq_append_getElem (by omega), List.flatMap_append, ← List.append_assoc, List.length_append]
      simp only [List.flatMap_cons, List.flatMap_nil, List.append_nil]
      have e : chs[k] = chs.getD k chg0 := by simp [List.getD, List.getElem?_eq_getElem (show k < chs.length by omega)]
      rw [e]
      omega
  go_wp2_with fail
  go_loopw [7, 8, 9, 10, 29] (fun _ _ _ _ i wr => ∃ k : Nat, k ≤ chs.length ∧ i = .int .i64 k ∧ Hid (Bld b (HL ++ (chs.take k).flatMap lineL) wr) ∧ Hid (Below g w wr)) (fun _ _ _ _ i _ => chs.length - (intOf i).toNat)
  case atStart => exact ⟨0, by omega, rfl, by simpa using HBD, HB4⟩
  case round =>
    obtain ⟨k, hk, rfl, hbd, hbr⟩ := hrel
    have hz := HZ.out wr hbr.out
    by_cases hlt : k < chs.length
    · obtain ⟨ba, o, rfl, hb, hc⟩ := hz.row.open_ (chCells_ne chs (by omega))
      obtain ⟨y0, y1, y2⟩ := ch_cells hc k hlt
      obtain ⟨hi, ho, hl, _⟩ := HOK.out.2.2.2 k hlt
      have hll := lineL_len (chs.getD k chg0) hi hl
      have hbl := HBL.out k hk
      have HS : Hid (HL ++ (chs.take (k + 1)).flatMap lineL = (HL ++ (chs.take k).flatMap lineL) ++ lineL (chs.getD k chg0)) := by
        rw [List.take_succ_eq_append_getElem (by omega), List.flatMap_append, ← List.append_assoc]
        have e : chs[k] = chs.getD k chg0 := by simp [List.getD, List.getElem?_eq_getElem (show k < chs.length by omega)]
        rw [e]
        unfold Hid
        simp
      have HBW := Lib.hid (fun W (hW : Bld b (HL ++ (chs.take k).flatMap lineL) W) => bld_write hW (lineL (chs.getD k chg0)) (by omega))
      have HPk := Lib.hid (HP.out wr hbr.out)
      have HEH : Hid (str (lineL (chs.getD k chg0)) = (((((((⟨#[97, 116, 32]⟩ ++ str (Lib.itoa ((chs.getD k chg0).a / 86400000))) ++ ⟨#[32]⟩) ++ str (Lib.itoa ((chs.getD k chg0).a % 86400000))) ++ ⟨#[32]⟩) ++ str (offL (chs.getD k chg0).o)) ++ ⟨#[32]⟩) ++ (chs.getD k chg0).l) ++ ⟨#[10]⟩) := by
        unfold lineL
        rw [show (⟨#[97, 116, 32]⟩ : ByteArray) = str [97, 116, 32] from rfl, show (⟨#[32]⟩ : ByteArray) = str [32] from rfl, show (⟨#[10]⟩ : ByteArray) = str [10] from rfl]
        conv => rhs; rw [← str_own (chs.getD k chg0).l]
        simp only [str_append]
        unfold Hid
        rfl
      have HZO := Lib.hid (fun W => zoff_any (chs.getD k chg0).o W ho)
      have HI1 := Lib.hid (fun W (hW : Below wr.heap.size wr W) => itoa_any ((chs.getD k chg0).a / 86400000) W (by have := hi.1; have := hi.2; omega) (by have := hi.1; have := hi.2; omega) (HPk.out.next hW))
      have HI2 := Lib.hid (fun W (hW : Below wr.heap.size wr W) => itoa_any ((chs.getD k chg0).a % 86400000) W (by have := hi.1; have := hi.2; omega) (by have := hi.1; have := hi.2; omega) (HPk.out.next hW))
      have HDV := Lib.hid (fun W => div_day (chs.getD k chg0).a W (by have := hi.1; omega) (by have := hi.2; omega))
      have q1 := itoa_size ((chs.getD k chg0).a / 86400000) (by have := hi.1; have := hi.2; omega) (by have := hi.1; have := hi.2; omega)
      have q2 := itoa_size ((chs.getD k chg0).a % 86400000) (by have := hi.1; have := hi.2; omega) (by have := hi.1; have := hi.2; omega)
      have q3 : (str (offL (chs.getD k chg0).o)).size = 9 := rfl
      have q4 := hl.2.2
      have hgr : g < wr.heap.size := Nat.lt_trans hgb (bld_lt hbd.out)
      have HBr := Lib.hid hbr.out
      clear hi ho hl hz hbr hc hll hbl HPk
      generalize lineL (chs.getD k chg0) = LN at *
      generalize str (Lib.itoa ((chs.getD k chg0).a / 86400000)) = sa at *
      generalize str (Lib.itoa ((chs.getD k chg0).a % 86400000)) = sb at *
      generalize str (offL (chs.getD k chg0).o) = so at *
      generalize (chs.getD k chg0).a / 86400000 = vd at *
      generalize (chs.getD k chg0).a % 86400000 = vm at *
      generalize (chs.getD k chg0).a = va at *
      generalize (chs.getD k chg0).o = vo at *
      generalize (chs.getD k chg0).l = vl at *
      have s0 : (⟨#[97, 116, 32]⟩ : ByteArray).size = 3 := rfl
      have s1 : (⟨#[32]⟩ : ByteArray).size = 1 := rfl
      have s2 : (⟨#[10]⟩ : ByteArray).size = 1 := rfl
      have r1 : (⟨#[97, 116, 32]⟩ ++ sa : ByteArray).size ≤ 24 := by rw [ByteArray.size_append]; omega
      have r2 : (⟨#[97, 116, 32]⟩ ++ sa ++ ⟨#[32]⟩ : ByteArray).size ≤ 25 := by rw [ByteArray.size_append]; omega
      have r3 : (⟨#[97, 116, 32]⟩ ++ sa ++ ⟨#[32]⟩ ++ sb : ByteArray).size ≤ 46 := by rw [ByteArray.size_append]; omega
      have r4 : (⟨#[97, 116, 32]⟩ ++ sa ++ ⟨#[32]⟩ ++ sb ++ ⟨#[32]⟩ : ByteArray).size ≤ 47 := by rw [ByteArray.size_append]; omega
      have r5 : (⟨#[97, 116, 32]⟩ ++ sa ++ ⟨#[32]⟩ ++ sb ++ ⟨#[32]⟩ ++ so : ByteArray).size ≤ 56 := by rw [ByteArray.size_append]; omega
      have r6 : (⟨#[97, 116, 32]⟩ ++ sa ++ ⟨#[32]⟩ ++ sb ++ ⟨#[32]⟩ ++ so ++ ⟨#[32]⟩ : ByteArray).size ≤ 57 := by rw [ByteArray.size_append]; omega
      have r7 : (⟨#[97, 116, 32]⟩ ++ sa ++ ⟨#[32]⟩ ++ sb ++ ⟨#[32]⟩ ++ so ++ ⟨#[32]⟩ ++ vl : ByteArray).size ≤ 63 := by rw [ByteArray.size_append]; omega
      go_wp2_with fail
      refine (HDV.out _).mono ?_
      rintro e w' ⟨rfl, nd, rfl⟩
      clear HDV
      go_wp2_with fail
      have hX5 := (Box.new wr 26 #[.int .i64 va, .int .i64 vo, .string vl])
      have hB5 := below_alloc1 wr (Obj.cells #[.int .i64 va, .int .i64 vo, .string vl] 26)
      generalize wr.alloc (Obj.cells #[.int .i64 va, .int .i64 vo, .string vl] 26) = W5 at *
      generalize hgr5 : wr.heap.size = g5 at *
      have HGR := Lib.hid hgr5
      clear hgr5
      replace hX5 := hX5.drewN nd
      replace hB5 := below_drew hB5 nd
      generalize W5.drewN nd = W6 at *
      have hg6 := hX5.lt
      have HB6 := Lib.hid hB5
      have HBD6 := Lib.hid (bld_next hbd.out (by rw [HGR.out]; exact hB5))
      have l1 : ∀ W, Below W6.heap.size W6 W → W.cell? ⟨g5, 1, none⟩ = some (.int .i64 vo) := fun W hW => (hX5.below hW).cell 1
      have l2 : ∀ W, Below W6.heap.size W6 W → W.cell? ⟨g5, 2, none⟩ = some (.string vl) := fun W hW => (hX5.below hW).cell 2
      clear hX5 hB5 hbd y0 y1 y2 hb
      refine flow_begin_tail 17 (tellOf [(1, det (.string sa)), (5, det (.string sb)), (10, det (.string so))]) (by kernel_rfl) (by kernel_rfl) ?_
      simp only [List.take_succ_cons, List.take_zero, List.drop_succ_cons, List.drop_zero]
      repeat (first | (refine flow_val (v := ?_) (by rfl) (by rfl) (fun w hb => ?_) ?_; rotate_left; (· ((go_simp) <;> ((repeat' apply And.intro) <;> with_reducible rfl))); try simp only [Act.put, List.setIfInBounds_toArray, List.set_cons_zero, List.set_cons_succ, Nat.reduceAdd]) | (refine flow_val (v := ?_) (by rfl) (by rfl) (fun w hb => ?_) ?_; rotate_left; (· (go_simp; (refine (if_neg ?_).trans ?_); (· omega); (· with_reducible rfl))); try simp only [Act.put, List.setIfInBounds_toArray, List.set_cons_zero, List.set_cons_succ, Nat.reduceAdd]) | (refine flow_skip (by rfl) (by rfl) ?_; try simp only [Act.put, List.setIfInBounds_toArray, List.set_cons_zero, List.set_cons_succ, Nat.reduceAdd]))
      refine flow_call (f := ?_) (args := ?_) [] (by kernel_rfl) (by rfl) (by rfl) (fun w hb => ?_) (fun w hb hu => ?_) ?_; rotate_left 2; (· ((go_simp) <;> ((repeat' apply And.intro) <;> with_reducible rfl)))
      · exact HI1.out w (HB6.out.trans (hb.mono (by omega)))
      try simp only [Act.put, List.setIfInBounds_toArray, List.set_cons_zero, List.set_cons_succ, Nat.reduceAdd]
      repeat (first | (refine flow_val (v := ?_) (by rfl) (by rfl) (fun w hb => ?_) ?_; rotate_left; (· ((go_simp) <;> ((repeat' apply And.intro) <;> with_reducible rfl))); try simp only [Act.put, List.setIfInBounds_toArray, List.set_cons_zero, List.set_cons_succ, Nat.reduceAdd]) | (refine flow_val (v := ?_) (by rfl) (by rfl) (fun w hb => ?_) ?_; rotate_left; (· (go_simp; (refine (if_neg ?_).trans ?_); (· omega); (· with_reducible rfl))); try simp only [Act.put, List.setIfInBounds_toArray, List.set_cons_zero, List.set_cons_succ, Nat.reduceAdd]) | (refine flow_skip (by rfl) (by rfl) ?_; try simp only [Act.put, List.setIfInBounds_toArray, List.set_cons_zero, List.set_cons_succ, Nat.reduceAdd]))
      refine flow_call (f := ?_) (args := ?_) [] (by kernel_rfl) (by rfl) (by rfl) (fun w hb => ?_) (fun w hb hu => ?_) ?_; rotate_left 2; (· ((go_simp) <;> ((repeat' apply And.intro) <;> with_reducible rfl)))
      · exact HI2.out w (HB6.out.trans (hb.mono (by omega)))
      try simp only [Act.put, List.setIfInBounds_toArray, List.set_cons_zero, List.set_cons_succ, Nat.reduceAdd]
      repeat (first | (refine flow_val (v := ?_) (by rfl) (by rfl) (fun w hb => ?_) ?_; rotate_left; (· ((go_simp) <;> ((repeat' apply And.intro) <;> with_reducible rfl))); try simp only [Act.put, List.setIfInBounds_toArray, List.set_cons_zero, List.set_cons_succ, Nat.reduceAdd]) | (refine flow_val (v := ?_) (by rfl) (by rfl) (fun w hb => ?_) ?_; rotate_left; (· (go_simp; (refine (if_neg ?_).trans ?_); (· omega); (· with_reducible rfl))); try simp only [Act.put, List.setIfInBounds_toArray, List.set_cons_zero, List.set_cons_succ, Nat.reduceAdd]) | (refine flow_skip (by rfl) (by rfl) ?_; try simp only [Act.put, List.setIfInBounds_toArray, List.set_cons_zero, List.set_cons_succ, Nat.reduceAdd]))
      refine flow_call (f := ?_) (args := ?_) [] (by kernel_rfl) (by rfl) (by rfl) (fun w hb => ?_) (fun w hb hu => ?_) ?_; rotate_left 2; (· ((go_simp) <;> ((repeat' apply And.intro) <;> with_reducible rfl)))
      · exact HZO.out w
      try simp only [Act.put, List.setIfInBounds_toArray, List.set_cons_zero, List.set_cons_succ, Nat.reduceAdd]
      repeat (first | (refine flow_val (v := ?_) (by rfl) (by rfl) (fun w hb => ?_) ?_; rotate_left; (· ((go_simp) <;> ((repeat' apply And.intro) <;> with_reducible rfl))); try simp only [Act.put, List.setIfInBounds_toArray, List.set_cons_zero, List.set_cons_succ, Nat.reduceAdd]) | (refine flow_val (v := ?_) (by rfl) (by rfl) (fun w hb => ?_) ?_; rotate_left; (· (go_simp; (refine (if_neg ?_).trans ?_); (· omega); (· with_reducible rfl))); try simp only [Act.put, List.setIfInBounds_toArray, List.set_cons_zero, List.set_cons_succ, Nat.reduceAdd]) | (refine flow_skip (by rfl) (by rfl) ?_; try simp only [Act.put, List.setIfInBounds_toArray, List.set_cons_zero, List.set_cons_succ, Nat.reduceAdd]))
      refine flow_nil fun w7 hb7 _ => ?_
      rw [← HEH.out]
      have HBW2 := Lib.hid (HBW.out w7 (bld_next HBD6.out hb7))
      have HB7 := Lib.hid (HBr.out.trans ((HB6.out.trans (hb7.mono (by omega))).mono (show g ≤ g5 by omega)))
      clear hb7 HEH s0 s1 s2 r1 r2 r3 r4 r5 r6 r7 q1 q2 q3 q4 l1 l2 HZO HI1 HI2 HBW HBD6 HB6
      refine wpList_step fun K hK => ?_
      rw [if_pos (by rfl)]
      go_simp
      refine HBW2.out.mono ?_
      rintro e w8 ⟨rfl, hbd, hb8⟩
      refine hK _ _ (wpList_nil ?_)
      clear hK HBW2 K
      have HB8 := Lib.hid (HB7.out.trans (hb8.mono (by omega)))
      have HBD8 := Lib.hid hbd
      clear hb8 hbd HB7
      go_wp2_with fail
      go_roundw
      case rel => exact ⟨k + 1, by omega, by go_num, by rw [HS.out]; exact HBD8, HB8⟩
      case measure => simp [intOf]; omega
    · obtain rfl : k = chs.length := by omega
      rw [List.take_length] at hbd
      go_wp2_with fail
      refine (bld_string hbd.out).mono ?_
      rintro e w9 ⟨rfl, hb9⟩
      have HB9 := Lib.hid (hbr.out.trans (hb9.mono (by omega)))
      clear hb9
      go_wp2_with fail
      go_ret2
      exact ⟨by rw [← HHL.out]; rfl, by have := HG.out; rw [this]; exact HB9.out⟩

def PrNo (w : World) (e : Ending) (w' : World) : Prop := ∃ E : Int, E ≠ 0 ∧ e = .returned (.tuple #[.string ⟨#[]⟩, .int .i64 E]) ∧ Below w.heap.size w w'
set_option maxRecDepth 100000 in
theorem zprint_no (nm : ByteArray) (first : Int) (A : Option Addr) (c : Nat) (chs : List Chg) (w : World) (hz : ZIn w nm A chs) (hno : ¬ ZoneOk nm first chs) :
    Calls Tryd.prog 17 #[.agg #[.string nm, .int .i64 first, .slice A chs.length c]] w (PrNo w) := by
  have HB0 := Lib.hid (below_alloc1 w (Obj.cells #[.string nm, .int .i64 first, .slice A chs.length c] 24))
  have HZ := Lib.hid (fun W (hW : Below w.heap.size w W) => hz.next hW)
  have HNO := Lib.hid hno
  clear hz hno
  unfold PrNo
  go_enter Tryd.func17, Tryd.ntmps17
  go_wp2_with fail
  refine ((HZ.out _ HB0.out).check first c).mono ?_
  rintro e w1 ⟨E, rfl, hE, hb⟩
  have hE0 : E ≠ 0 := fun h => HNO.out (hE.1 h)
  have t1 : (E != 0) = true := by rw [bne_iff_ne]; exact hE0
  have HB1 := Lib.hid (below_then HB0.out hb)
  clear hE hb
  go_wp2_with fail
  go_ret2
  exact ⟨E, hE0, rfl, HB1.out⟩
end Go.Proofs.YtifhlmakacoicaaDoor
