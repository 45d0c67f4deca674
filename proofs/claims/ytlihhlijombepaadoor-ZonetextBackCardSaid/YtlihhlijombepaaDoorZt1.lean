/- Contracts of package zonetext: two, offset. -/
import Derived.Test.YtlihhlijombepaaDoorBuild1
import Derived.Test.YtlihhlijombepaaDoorName1
import Derived.Test.YtlihhlijombepaaDoorWords
import Derived.BigQuiet
namespace Go.Proofs.YtlihhlijombepaaDoor
open Go.RowKit
set_option linter.unusedVariables false

theorem str_own (s : ByteArray) : str s.data.toList = s := by
  apply ByteArray.ext; simp [str]
def twoL (n : Nat) : List UInt8 := [UInt8.ofNat (48 + n / 10), UInt8.ofNat (48 + n % 10)]
def offL (n : Int) : List UInt8 := (if n < 0 then 45 else 43) :: (twoL (n.natAbs / 1000 / 3600) ++ 58 :: (twoL (n.natAbs / 1000 / 60 % 60) ++ 58 :: twoL (n.natAbs / 1000 % 60)))
theorem offL_len (n : Int) : (offL n).length = 9 := rfl

set_option maxRecDepth 100000 in
theorem two_any (n : Nat) (w : World) (h : n < 100) :
    Calls Tryd.prog 102 #[.int .i64 (n : Int)] w fun e w' => e = .returned (.string (str (twoL n))) ∧ Below w.heap.size w w' := by
  have hcv : (convert 113 9 (.slice (some ⟨w.heap.size, 0, none⟩) 2 2)).run Tryd.prog (w.alloc (Obj.cells #[.int .u8 (48 + (n : Int) / 10), .int .u8 (48 + (n : Int) % 10)] 5)) = .ok (.string (str (twoL n))) (w.alloc (Obj.cells #[.int .u8 (48 + (n : Int) / 10), .int .u8 (48 + (n : Int) % 10)] 5)) := by
    have hb := Box.new w 5 #[.int .u8 (48 + (n : Int) / 10), .int .u8 (48 + (n : Int) % 10)]
    refine run_convert_bytes_back _ _ _ 5 _ 2 (twoL n) Tryd.underlying113 Tryd.underlying5 Tryd.underlying9 ?_
    intro j hj
    have hj2 : j < 2 := hj
    match j, hj2 with
    | 0, _ =>
      have := hb.cell 0
      simp only [List.getElem?_toArray, List.getElem?_cons_zero] at this
      show World.cell? _ ((⟨w.heap.size, 0, none⟩ : Addr).add 0) = some (.int .u8 ((UInt8.ofNat (48 + n / 10)).toNat : Int))
      rw [UInt8.toNat_ofNat', Nat.mod_eq_of_lt (by omega)]
      have e : (⟨w.heap.size, 0, none⟩ : Addr).add 0 = ⟨w.heap.size, 0, none⟩ := by unfold Addr.add; rfl
      rw [e, this]
      simp
    | 1, _ =>
      have := hb.cell 1
      simp only [List.getElem?_toArray, List.getElem?_cons_succ, List.getElem?_cons_zero] at this
      show World.cell? _ ((⟨w.heap.size, 0, none⟩ : Addr).add 1) = some (.int .u8 ((UInt8.ofNat (48 + n % 10)).toNat : Int))
      rw [UInt8.toNat_ofNat', Nat.mod_eq_of_lt (by omega)]
      have e : (⟨w.heap.size, 0, none⟩ : Addr).add 1 = ⟨w.heap.size, 1, none⟩ := by unfold Addr.add; rfl
      rw [e, this]
      simp
  go_enter Tryd.func102, Tryd.ntmps102
  go_wp2_with fail
  go_ret
  exact ⟨rfl, (Below.refl _ _).alloc (Nat.le_refl _) _⟩

set_option maxRecDepth 100000 in
theorem zoff_any (n : Int) (w : World) (h : OffOk n) :
    Calls Tryd.prog 61 #[.int .i64 n] w fun e w' => e = .returned (.string (str (offL n))) ∧ Below w.heap.size w w' := by
  obtain ⟨h1, h2, h3⟩ := h
  have hn : n.natAbs ≤ 64800000 := by omega
  obtain ⟨m, hm⟩ : ∃ m, m = n.natAbs / 1000 := ⟨_, rfl⟩
  have hm2 : m ≤ 64800 := by omega
  have T1 := Lib.hid (fun W => two_any (m / 3600) W (by omega))
  have T2 := Lib.hid (fun W => two_any (m / 60 % 60) W (by omega))
  have T3 := Lib.hid (fun W => two_any (m % 60) W (by omega))
  have HO : Hid (str (offL n) = (((str [if n < 0 then 45 else 43] ++ str (twoL (m / 3600))) ++ ⟨#[58]⟩) ++ str (twoL (m / 60 % 60))) ++ ⟨#[58]⟩ ++ str (twoL (m % 60))) := by
    unfold offL
    rw [← hm, show (⟨#[58]⟩ : ByteArray) = str [58] from rfl]
    simp only [str_append]
    unfold Hid
    simp
  unfold Hid at HO
  rw [HO]
  clear HO
  have s0 : (str [if n < 0 then 45 else 43]).size = 1 := rfl
  have s1 : (str (twoL (m / 3600))).size = 2 := rfl
  have s2 : (str (twoL (m / 60 % 60))).size = 2 := rfl
  have s3 : (str (twoL (m % 60))).size = 2 := rfl
  have s4 : (⟨#[58]⟩ : ByteArray).size = 1 := rfl
  have c1 : ((m / 3600 : Nat) : Int) = (m : Int) / 3600 := by omega
  have c2 : ((m / 60 % 60 : Nat) : Int) = (m : Int) / 60 % 60 := by omega
  have c3 : ((m % 60 : Nat) : Int) = (m : Int) % 60 := by omega
  rw [c1] at T1
  rw [c2] at T2
  rw [c3] at T3
  clear c1 c2 c3
  generalize str (twoL (m / 3600)) = a1 at *
  generalize str (twoL (m / 60 % 60)) = a2 at *
  generalize str (twoL (m % 60)) = a3 at *
  by_cases hneg : n < 0
  · rw [if_pos hneg] at s0 ⊢
    obtain ⟨p, rfl⟩ : ∃ p, n = -p := ⟨-n, by omega⟩
    have hq : p / 1000 = (m : Int) := by omega
    have hp0 : 0 < p := by omega
    have hp1 : p ≤ 64800000 := by omega
    clear h2 h3 hneg
    have e1 : (str [45] ++ a1).size = 3 := by rw [ByteArray.size_append]; omega
    have e2 : (str [45] ++ a1 ++ ⟨#[58]⟩).size = 4 := by rw [ByteArray.size_append]; omega
    have e3 : (str [45] ++ a1 ++ ⟨#[58]⟩ ++ a2).size = 6 := by rw [ByteArray.size_append]; omega
    have e4 : (str [45] ++ a1 ++ ⟨#[58]⟩ ++ a2 ++ ⟨#[58]⟩).size = 7 := by rw [ByteArray.size_append]; omega
    have m0 : (0 : Int) ≤ (m : Int) := by omega
    have m1 : (m : Int) ≤ 64800 := by omega
    clear hm h1 hn hm2
    go_enter Tryd.func61, Tryd.ntmps61
    go_wp2_with fail
    refine (T1.out _).mono ?_
    rintro e w1 ⟨rfl, hb⟩
    have HB := Lib.hid hb
    clear hb
    go_wp2_with fail
    refine (T2.out _).mono ?_
    rintro e w2 ⟨rfl, hb⟩
    have HB2 := Lib.hid (below_then HB.out hb)
    clear hb
    go_wp2_with fail
    refine (T3.out _).mono ?_
    rintro e w3 ⟨rfl, hb⟩
    have HB3 := Lib.hid (below_then HB2.out hb)
    clear hb
    go_wp2_with fail
    go_ret
    exact ⟨rfl, HB3.out⟩
  · rw [if_neg hneg] at s0 ⊢
    have hq : n / 1000 = (m : Int) := by omega
    have hq1 : 0 ≤ n := by omega
    have e1 : (str [43] ++ a1).size = 3 := by rw [ByteArray.size_append]; omega
    have e2 : (str [43] ++ a1 ++ ⟨#[58]⟩).size = 4 := by rw [ByteArray.size_append]; omega
    have e3 : (str [43] ++ a1 ++ ⟨#[58]⟩ ++ a2).size = 6 := by rw [ByteArray.size_append]; omega
    have e4 : (str [43] ++ a1 ++ ⟨#[58]⟩ ++ a2 ++ ⟨#[58]⟩).size = 7 := by rw [ByteArray.size_append]; omega
    have m0 : (0 : Int) ≤ (m : Int) := by omega
    have m1 : (m : Int) ≤ 64800 := by omega
    clear hm h1 hn hm2
    go_enter Tryd.func61, Tryd.ntmps61
    go_wp2_with fail
    refine (T1.out _).mono ?_
    rintro e w1 ⟨rfl, hb⟩
    have HB := Lib.hid hb
    clear hb
    go_wp2_with fail
    refine (T2.out _).mono ?_
    rintro e w2 ⟨rfl, hb⟩
    have HB2 := Lib.hid (below_then HB.out hb)
    clear hb
    go_wp2_with fail
    refine (T3.out _).mono ?_
    rintro e w3 ⟨rfl, hb⟩
    have HB3 := Lib.hid (below_then HB2.out hb)
    clear hb
    go_wp2_with fail
    go_ret
    exact ⟨rfl, HB3.out⟩
end Go.Proofs.YtlihhlijombepaaDoor
