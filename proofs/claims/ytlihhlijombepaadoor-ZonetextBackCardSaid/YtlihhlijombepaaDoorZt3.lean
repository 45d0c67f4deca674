/- Contracts of package zonetext: number, readOffset of what was written. -/
import Derived.Test.YtlihhlijombepaaDoorZt1
import Derived.Test.YtlihhlijombepaaDoorPlainSplit
import Derived.Test.YtlihhlijombepaaDoorBuild1
namespace Go.Proofs.YtlihhlijombepaaDoor
open Go.RowKit
set_option linter.unusedVariables false

set_option maxRecDepth 100000 in
theorem number_yes (n : Int) (w : World) (h : n.natAbs < 100000000000000000) (hp : Pow w) :
    Calls Tryd.prog 128 #[.string (str (Lib.itoa n))] w fun e w' => e = .returned (.tuple #[.int .i64 n, .bool true]) ∧ Below w.heap.size w w' := by
  have HA := Lib.hid (atoi_num n w h)
  have HI := Lib.hid (fun W (hW : Below w.heap.size w W) => itoa_any n W (by omega) (by omega) (hp.next hW))
  clear hp
  generalize str (Lib.itoa n) = s at *
  go_enter Tryd.func128, Tryd.ntmps128
  go_wp2_with fail
  refine HA.out.mono ?_
  rintro e w1 ⟨rfl, hb⟩
  have HB := Lib.hid hb
  have HI1 := Lib.hid (HI.out w1 hb)
  clear hb
  go_wp2_with fail
  refine HI1.out.mono ?_
  rintro e w2 ⟨rfl, hb⟩
  have HB2 := Lib.hid (below_then HB.out hb)
  clear hb
  go_wp2_with fail
  go_ret2
  exact ⟨rfl, HB2.out⟩
theorem atoi_two : ∀ m, m < 100 → Lib.atoi (twoL m) = some (m : Int) := by decide +kernel
theorem atoi2_any (m : Nat) (w : World) (h : m < 100) : Calls Tryd.prog 85 #[.string (str (twoL m))] w fun e w' => e = .returned (.tuple #[.int .i64 (m : Int), .nilIface]) ∧ Below w.heap.size w w' :=
  (strconv_Atoi (str (twoL m)) (m : Int) (by rw [str_size]; show 2 ≤ 18; omega) (by rw [str_data]; exact atoi_two m h) w).mono fun e w' ⟨he, t, hw⟩ => ⟨he, by rw [hw]; exact Lib.bytesWorld_below _ _ _⟩
set_option maxRecDepth 100000 in
theorem readOff_yes (n : Int) (w : World) (h : OffOk n) :
    Calls Tryd.prog 127 #[.string (str (offL n))] w fun e w' => e = .returned (.tuple #[.int .i64 n, .bool true]) ∧ Below w.heap.size w w' := by
  have HZ := Lib.hid (fun W => zoff_any n W h)
  obtain ⟨h1, h2, h3⟩ := h
  obtain ⟨m, hm⟩ : ∃ m, m = n.natAbs / 1000 := ⟨_, rfl⟩
  have hm2 : m ≤ 64800 := by omega
  have T1 := Lib.hid (fun W => atoi2_any (m / 3600) W (by omega))
  have T2 := Lib.hid (fun W => atoi2_any (m / 60 % 60) W (by omega))
  have T3 := Lib.hid (fun W => atoi2_any (m % 60) W (by omega))
  have x1 : (str (offL n)).extract 1 3 = str (twoL (m / 3600)) := by rw [ext_str, hm]; rfl
  have x2 : (str (offL n)).extract 4 6 = str (twoL (m / 60 % 60)) := by rw [ext_str, hm]; rfl
  have x3 : (str (offL n)).extract 7 9 = str (twoL (m % 60)) := by rw [ext_str, hm]; rfl
  have hs : (str (offL n)).size = 9 := rfl
  have c1 : ((m / 3600 : Nat) : Int) = (m : Int) / 3600 := by omega
  have c2 : ((m / 60 % 60 : Nat) : Int) = (m : Int) / 60 % 60 := by omega
  have c3 : ((m % 60 : Nat) : Int) = (m : Int) % 60 := by omega
  rw [c1] at T1
  rw [c2] at T2
  rw [c3] at T3
  clear c1 c2 c3
  have h0 : ∀ h : 0 < (str (offL n)).size, (str (offL n))[0] = if n < 0 then 45 else 43 := fun _ => rfl
  generalize str (offL n) = S at *
  generalize str (twoL (m / 3600)) = a1 at *
  generalize str (twoL (m / 60 % 60)) = a2 at *
  generalize str (twoL (m % 60)) = a3 at *
  have e : (((m : Int) / 3600 * 60 + (m : Int) / 60 % 60) * 60 + (m : Int) % 60) * 1000 = if n < 0 then -n else n := by
    split <;> omega
  have hs0 : 0 < S.size := by omega
  have HE := Lib.hid e
  have m0 : (0 : Int) ≤ (m : Int) := by omega
  have m1 : (m : Int) ≤ 64800 := by omega
  clear e hm hm2
  by_cases hneg : n < 0
  · rw [if_pos hneg] at h0 HE
    have h00 := h0 hs0
    have h000 : S[0].toNat = 45 := by rw [h00]; rfl
    clear h0 h00
    go_enter Tryd.func127, Tryd.ntmps127
    go_wp2_with fail
    refine (T1.out _).mono ?_
    rintro e w1 ⟨rfl, hb⟩
    have HB := Lib.hid hb
    clear hb
    go_wp2_with fail
    refine (T2.out _).mono ?_
    rintro e w2 ⟨rfl, hb⟩
    have HB2 := Lib.hid (below_then HB.out hb)
    clear hb
    go_wp2_with fail
    refine (T3.out _).mono ?_
    rintro e w3 ⟨rfl, hb⟩
    have HB3 := Lib.hid (below_then HB2.out hb)
    clear hb
    go_wp2_with fail
    rw [HE.out, Int.neg_neg]
    refine (HZ.out _).mono ?_
    rintro e w4 ⟨rfl, hb⟩
    have HB4 := Lib.hid (below_then HB3.out hb)
    clear hb
    go_wp2_with fail
    go_ret2
    exact ⟨rfl, HB4.out⟩
  · rw [if_neg hneg] at h0 HE
    have h00 := h0 hs0
    have h000 : S[0].toNat = 43 := by rw [h00]; rfl
    clear h0 h00
    go_enter Tryd.func127, Tryd.ntmps127
    go_wp2_with fail
    refine (T1.out _).mono ?_
    rintro e w1 ⟨rfl, hb⟩
    have HB := Lib.hid hb
    clear hb
    go_wp2_with fail
    refine (T2.out _).mono ?_
    rintro e w2 ⟨rfl, hb⟩
    have HB2 := Lib.hid (below_then HB.out hb)
    clear hb
    go_wp2_with fail
    refine (T3.out _).mono ?_
    rintro e w3 ⟨rfl, hb⟩
    have HB3 := Lib.hid (below_then HB2.out hb)
    clear hb
    go_wp2_with fail
    rw [HE.out]
    refine (HZ.out _).mono ?_
    rintro e w4 ⟨rfl, hb⟩
    have HB4 := Lib.hid (below_then HB3.out hb)
    clear hb
    go_wp2_with fail
    go_ret2
    exact ⟨rfl, HB4.out⟩
end Go.Proofs.YtlihhlijombepaaDoor
