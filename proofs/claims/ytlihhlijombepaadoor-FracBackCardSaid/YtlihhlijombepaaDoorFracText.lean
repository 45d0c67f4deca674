/- Contracts of the texts of fractions: show, Text, Read of what was written. -/
import Derived.Test.YtlihhlijombepaaDoorNum1
import Derived.Test.YtlihhlijombepaaDoorFrac1
import Derived.Test.YtlihhlijombepaaDoorWords
import Derived.Deep.DeepCutAuto
namespace Go.Proofs.YtlihhlijombepaaDoor
open Go.RowKit
set_option linter.unusedVariables false

def showL (n d : Int) : List UInt8 := if d = 1 then Lib.itoa n else Lib.itoa n ++ 47 :: Lib.itoa d

set_option maxRecDepth 100000 in
theorem fshow_any (n d : Int) (w : World) (h1 : -9223372036854775808 ≤ n) (h2 : n ≤ 9223372036854775807) (h3 : -9223372036854775808 ≤ d) (h4 : d ≤ 9223372036854775807) (hp : Pow w) :
    Calls Tryd.prog 82 #[.agg #[.int .i64 n, .int .i64 d]] w fun e w' => e = .returned (.string (str (showL n d))) ∧ Below w.heap.size w w' := by
  have HB1 := Lib.hid (below_alloc1 w (Obj.cells #[.int .i64 n, .int .i64 d] 73))
  have HX := Lib.hid (Box.new w 73 #[.int .i64 n, .int .i64 d])
  have HP1 := Lib.hid (hp.next HB1.out)
  have HI := Lib.hid (itoa_any n _ h1 h2 HP1.out)
  have HI2 := Lib.hid (fun W hW => itoa_any d W h3 h4 (HP1.out.next hW))
  have HXC := Lib.hid (fun W (hW : Below (w.alloc (Obj.cells #[.int .i64 n, .int .i64 d] 73)).heap.size (w.alloc (Obj.cells #[.int .i64 n, .int .i64 d] 73)) W) => (HX.out.below hW).cell 1)
  clear hp
  go_enter Tryd.func82, Tryd.ntmps82
  go_wp2_with fail
  refine HI.out.mono ?_
  rintro e w1 ⟨rfl, hb⟩
  have HB2 := Lib.hid (below_then HB1.out hb)
  have x1 := HXC.out w1 hb
  have HI3 := Lib.hid (HI2.out w1 hb)
  clear hb HI HI2 HXC
  simp only [List.getElem?_toArray, List.getElem?_cons_succ, List.getElem?_cons_zero] at x1
  by_cases hd : d = 1
  · subst hd
    go_wp2_with fail
    go_ret
    exact ⟨rfl, HB2.out⟩
  · have td : (d == 1) = false := by simpa using hd
    have HE : Hid (str (showL n d) = str (Lib.itoa n) ++ (⟨#[47]⟩ ++ str (Lib.itoa d))) := by
      unfold Hid showL
      rw [if_neg hd, show (⟨#[47]⟩ : ByteArray) = str [47] from rfl, str_append, str_append]
      rfl
    have s1 := itoa_size n h1 h2
    have s2 := itoa_size d h3 h4
    clear hd
    generalize str (Lib.itoa n) = a at *
    generalize str (Lib.itoa d) = b at *
    have s3 : (⟨#[47]⟩ ++ b : ByteArray).size ≤ 22 := by rw [ByteArray.size_append]; show 1 + b.size ≤ 22; omega
    have s4 : (⟨#[47]⟩ : ByteArray).size = 1 := rfl
    go_wp2_with fail
    refine HI3.out.mono ?_
    rintro e w2 ⟨rfl, hb⟩
    have HB3 := Lib.hid (below_then HB2.out hb)
    clear hb HI3 x1
    go_wp2_with fail
    go_ret
    exact ⟨by rw [HE.out]; rfl, HB3.out⟩

set_option maxRecDepth 100000 in
theorem ftext_yes (n d : Int) (w : World) (h : FOk n d) (hp : Pow w) :
    Calls Tryd.prog 31 #[.agg #[.int .i64 n, .int .i64 d]] w fun e w' => e = .returned (.tuple #[.string (str (showL n d)), .int .i64 0]) ∧ Below w.heap.size w w' := by
  have HB1 := Lib.hid (below_alloc1 w (Obj.cells #[.int .i64 n, .int .i64 d] 73))
  have HX := Lib.hid (Box.new w 73 #[.int .i64 n, .int .i64 d])
  have HP1 := Lib.hid (hp.next HB1.out)
  have HC := Lib.hid (fcheck_yes n d (w.alloc (Obj.cells #[.int .i64 n, .int .i64 d] 73)) h)
  have HS := Lib.hid (fun W hW => fshow_any n d W (by have := h.2.2.1; omega) (by have := h.2.2.2.1; omega) (by have := h.1; omega) (by have := h.2.1; omega) (HP1.out.next hW))
  clear hp h
  go_enter Tryd.func31, Tryd.ntmps31
  go_wp2_with fail
  refine HC.out.mono ?_
  rintro e w1 ⟨rfl, hb⟩
  have HB2 := Lib.hid (below_then HB1.out hb)
  have x0 := (HX.out.below hb).cell 0
  have x1 := (HX.out.below hb).cell 1
  have HS2 := Lib.hid (HS.out w1 hb)
  clear hb HC HS
  simp only [List.getElem?_toArray, List.getElem?_cons_succ, List.getElem?_cons_zero] at x0 x1
  go_wp2_with fail
  refine HS2.out.mono ?_
  rintro e w2 ⟨rfl, hb⟩
  have HB3 := Lib.hid (below_then HB2.out hb)
  clear hb HS2 x0 x1
  go_wp2_with fail
  go_ret2
  exact ⟨rfl, HB3.out⟩

set_option maxHeartbeats 1000000 in
set_option maxRecDepth 100000 in
/-- what was written is read -/
theorem fread_yes (n d : Int) (w : World) (h : FOk n d) (hp : Pow w) (hsh : Shp w) :
    Calls Tryd.prog 33 #[.string (str (showL n d))] w fun e w' => e = .returned (.tuple #[.agg #[.int .i64 n, .int .i64 d], .int .i64 0]) ∧ Below w.heap.size w w' := by
  have HB1 := Lib.hid (below_alloc1 w (Obj.cells #[.int .i64 0, .int .i64 0] 73))
  have l1 := Lib.itoa_length_le n (by have := h.2.2.1; omega) (by have := h.2.2.2.1; omega)
  have l2 := Lib.itoa_length_le d (by have := h.1; omega) (by have := h.2.1; omega)
  have hlen : (showL n d).length ≤ 43 := by
    unfold showL
    split
    · omega
    · simp; omega
  have HC := Lib.hid (cutc_any (str (showL n d)) 47 (w.alloc (Obj.cells #[.int .i64 0, .int .i64 0] 73)) (by rw [str_size]; omega) (hsh.next HB1.out))
  have HX := Lib.hid (Box.new w 73 #[.int .i64 0, .int .i64 0])
  rw [str_data] at HC
  have HP := Lib.hid hp
  have HOK := Lib.hid h
  have hnn : n.natAbs < 100000000000000000 := by have := h.2.2.1; have := h.2.2.2.1; omega
  have hdd : d.natAbs < 100000000000000000 := by have := h.1; have := h.2.1; omega
  have HFC := Lib.hid (fun W => fcheck_yes n d W h)
  have HFS := Lib.hid (fun W (hW : Below w.heap.size w W) => fshow_any n d W (by have := h.2.2.1; omega) (by have := h.2.2.2.1; omega) (by have := h.1; omega) (by have := h.2.1; omega) (hp.next hW))
  clear hp hsh h
  by_cases hd : d = 1
  · subst hd
    have e1 : showL n 1 = Lib.itoa n := by unfold showL; rw [if_pos rfl]
    rw [e1] at HC HFS ⊢
    rw [cut_no 47 (Lib.itoa n) (itoa_no n 47 (by decide))] at HC
    clear e1 hlen
    go_enter Tryd.func33, Tryd.ntmps33
    go_wp2_with fail
    refine HC.out.mono ?_
    rintro e w1 ⟨rfl, hb⟩
    have HB2 := Lib.hid (below_then HB1.out hb)
    have HX2 := Lib.hid (HX.out.below hb)
    have HA := Lib.hid (fun W => atoi_num n W hnn)
    have HXa := Lib.hid (Box.new w1 73 #[.int .i64 0, .int .i64 1])
    have HBa := Lib.hid (below_alloc1 w1 (Obj.cells #[.int .i64 0, .int .i64 1] 73))
    have hz1 := HB2.out.size
    clear hb HC HX
    go_wp2_with fail
    refine (HA.out _).mono ?_
    rintro e w2 ⟨rfl, hb⟩
    have HX3 := Lib.hid (HX2.out.below (HBa.out.trans (hb.mono (by have := HBa.out.size; omega))))
    have HY3 := Lib.hid (HXa.out.below hb)
    have HB3 := Lib.hid (below_then (below_then HB2.out HBa.out) hb)
    have hlt : w.heap.size < w1.heap.size := HX2.out.lt
    generalize hga : w1.heap.size = ga at *
    clear hb HA HXa HX2 HB2 HBa
    obtain ⟨y0, y1⟩ : w2.cell? ⟨ga, 0, none⟩ = some (.int .i64 0) ∧ w2.cell? ⟨ga, 1, none⟩ = some (.int .i64 1) := ⟨HY3.out.cell 0, HY3.out.cell 1⟩
    have yf := fun i => HY3.out.free i
    go_upto_region 4 with fail
    have HX4 := Lib.hid (HX3.out.far (p := ⟨ga, 0, none⟩) (by show w.heap.size ≠ ga; omega) (.int .i64 n))
    have HY4 := Lib.hid (HY3.out.set_ 0 (.int .i64 n))
    have HB4 := Lib.hid (HB3.out.setCell (p := ⟨ga, 0, none⟩) (by show w.heap.size ≤ ga; omega) (.int .i64 n))
    clear HX3 HY3 HB3 y0 y1 yf
    generalize w2.setCell ⟨ga, 0, none⟩ (.int .i64 n) = w3 at *
    obtain ⟨y0, y1⟩ : w3.cell? ⟨ga, 0, none⟩ = some (.int .i64 n) ∧ w3.cell? ⟨ga, 1, none⟩ = some (.int .i64 1) := ⟨HY4.out.cell 0, HY4.out.cell 1⟩
    have HC := Lib.hid (HFC.out w3)
    go_wp2_with fail
    refine HC.out.mono ?_
    rintro e w4 ⟨rfl, hb⟩
    have HX5 := Lib.hid (HX4.out.below hb)
    have HY5 := Lib.hid (HY4.out.below hb)
    have HB5 := Lib.hid (below_then HB4.out hb)
    have HS := Lib.hid (HFS.out w4 HB5.out)
    clear hb y0 y1 HX4 HY4 HB4 HC HFC HFS
    obtain ⟨y0, y1⟩ : w4.cell? ⟨ga, 0, none⟩ = some (.int .i64 n) ∧ w4.cell? ⟨ga, 1, none⟩ = some (.int .i64 1) := ⟨HY5.out.cell 0, HY5.out.cell 1⟩
    go_wp2_with fail
    refine HS.out.mono ?_
    rintro e w5 ⟨rfl, hb⟩
    have HX6 := Lib.hid (HX5.out.below hb)
    have HY6 := Lib.hid (HY5.out.below hb)
    have HB6 := Lib.hid (below_then HB5.out hb)
    clear hb y0 y1 HX5 HY5 HB5 HS
    obtain ⟨y0, y1⟩ : w5.cell? ⟨ga, 0, none⟩ = some (.int .i64 n) ∧ w5.cell? ⟨ga, 1, none⟩ = some (.int .i64 1) := ⟨HY6.out.cell 0, HY6.out.cell 1⟩
    obtain ⟨x0, x1⟩ : w5.cell? ⟨w.heap.size, 0, none⟩ = some (.int .i64 0) ∧ w5.cell? ⟨w.heap.size, 1, none⟩ = some (.int .i64 0) := ⟨HX6.out.cell 0, HX6.out.cell 1⟩
    have xf := fun i => HX6.out.free i
    go_wp2_with fail
    have HZ := (HX6.out.set_ 0 (.int .i64 n)).set_ 1 (.int .i64 1)
    obtain ⟨z0, z1⟩ : ((w5.setCell ⟨w.heap.size, 0, none⟩ (.int .i64 n)).setCell ⟨w.heap.size, 1, none⟩ (.int .i64 1)).cell? ⟨w.heap.size, 0, none⟩ = some (.int .i64 n) ∧ ((w5.setCell ⟨w.heap.size, 0, none⟩ (.int .i64 n)).setCell ⟨w.heap.size, 1, none⟩ (.int .i64 1)).cell? ⟨w.heap.size, 1, none⟩ = some (.int .i64 1) := ⟨HZ.cell 0, HZ.cell 1⟩
    exact bodyPost_ret (v := .tuple #[.agg #[.int .i64 n, .int .i64 1], .int .i64 0]) (by simp [results, Tryd.results33, go_sem, z0, z1]) rfl ⟨rfl, (HB6.out.setCell (p := ⟨w.heap.size, 0, none⟩) (Nat.le_refl _) _).setCell (p := ⟨w.heap.size, 1, none⟩) (Nat.le_refl _) _⟩
  · have e1 : showL n d = Lib.itoa n ++ 47 :: Lib.itoa d := by unfold showL; rw [if_neg hd]
    rw [e1] at HC HFS ⊢
    rw [cut_at 47 (Lib.itoa n) (Lib.itoa d) (itoa_no n 47 (by decide))] at HC
    clear e1 hlen hd
    generalize hS : str (Lib.itoa n ++ 47 :: Lib.itoa d) = S at *
    clear hS
    go_enter Tryd.func33, Tryd.ntmps33
    go_wp2_with fail
    refine HC.out.mono ?_
    rintro e w1 ⟨rfl, hb⟩
    have HB2 := Lib.hid (below_then HB1.out hb)
    have HX2 := Lib.hid (HX.out.below hb)
    have HA := Lib.hid (fun W => atoi_num n W hnn)
    have HD := Lib.hid (fun W => atoi_num d W hdd)
    have HXa := Lib.hid (Box.new w1 73 #[.int .i64 0, .int .i64 1])
    have HBa := Lib.hid (below_alloc1 w1 (Obj.cells #[.int .i64 0, .int .i64 1] 73))
    have hz1 := HB2.out.size
    clear hb HC HX
    go_wp2_with fail
    refine (HA.out _).mono ?_
    rintro e w2 ⟨rfl, hb⟩
    have HX3 := Lib.hid (HX2.out.below (HBa.out.trans (hb.mono (by have := HBa.out.size; omega))))
    have HY3 := Lib.hid (HXa.out.below hb)
    have HB3 := Lib.hid (below_then (below_then HB2.out HBa.out) hb)
    have hlt : w.heap.size < w1.heap.size := HX2.out.lt
    generalize hga : w1.heap.size = ga at *
    clear hb HA HXa HX2 HB2 HBa
    obtain ⟨y0, y1⟩ : w2.cell? ⟨ga, 0, none⟩ = some (.int .i64 0) ∧ w2.cell? ⟨ga, 1, none⟩ = some (.int .i64 1) := ⟨HY3.out.cell 0, HY3.out.cell 1⟩
    have yf := fun i => HY3.out.free i
    go_upto_region 4 with fail
    have HX4 := Lib.hid (HX3.out.far (p := ⟨ga, 0, none⟩) (by show w.heap.size ≠ ga; omega) (.int .i64 n))
    have HY4 := Lib.hid (HY3.out.set_ 0 (.int .i64 n))
    have HB4 := Lib.hid (HB3.out.setCell (p := ⟨ga, 0, none⟩) (by show w.heap.size ≤ ga; omega) (.int .i64 n))
    clear HX3 HY3 HB3 y0 y1 yf
    generalize w2.setCell ⟨ga, 0, none⟩ (.int .i64 n) = w3 at *
    go_wp2_with fail
    refine (HD.out _).mono ?_
    rintro e w6 ⟨rfl, hb⟩
    have HX3 := Lib.hid (HX4.out.below hb)
    have HY3 := Lib.hid (HY4.out.below hb)
    have HB3 := Lib.hid (below_then HB4.out hb)
    clear hb HD HX4 HY4 HB4
    obtain ⟨y0, y1⟩ : w6.cell? ⟨ga, 0, none⟩ = some (.int .i64 n) ∧ w6.cell? ⟨ga, 1, none⟩ = some (.int .i64 1) := ⟨HY3.out.cell 0, HY3.out.cell 1⟩
    have yf := fun i => HY3.out.free i
    go_upto_region 6 with fail
    have HX4 := Lib.hid (HX3.out.far (p := ⟨ga, 1, none⟩) (by show w.heap.size ≠ ga; omega) (.int .i64 d))
    have HY4 := Lib.hid (HY3.out.set_ 1 (.int .i64 d))
    have HB4 := Lib.hid (HB3.out.setCell (p := ⟨ga, 1, none⟩) (by show w.heap.size ≤ ga; omega) (.int .i64 d))
    clear HX3 HY3 HB3 y0 y1 yf w2
    generalize w6.setCell ⟨ga, 1, none⟩ (.int .i64 d) = w3 at *
    obtain ⟨y0, y1⟩ : w3.cell? ⟨ga, 0, none⟩ = some (.int .i64 n) ∧ w3.cell? ⟨ga, 1, none⟩ = some (.int .i64 d) := ⟨HY4.out.cell 0, HY4.out.cell 1⟩
    have HC := Lib.hid (HFC.out w3)
    go_wp2_with fail
    refine HC.out.mono ?_
    rintro e w4 ⟨rfl, hb⟩
    have HX5 := Lib.hid (HX4.out.below hb)
    have HY5 := Lib.hid (HY4.out.below hb)
    have HB5 := Lib.hid (below_then HB4.out hb)
    have HS := Lib.hid (HFS.out w4 HB5.out)
    clear hb y0 y1 HX4 HY4 HB4 HC HFC HFS
    obtain ⟨y0, y1⟩ : w4.cell? ⟨ga, 0, none⟩ = some (.int .i64 n) ∧ w4.cell? ⟨ga, 1, none⟩ = some (.int .i64 d) := ⟨HY5.out.cell 0, HY5.out.cell 1⟩
    go_wp2_with fail
    refine HS.out.mono ?_
    rintro e w5 ⟨rfl, hb⟩
    have HX6 := Lib.hid (HX5.out.below hb)
    have HY6 := Lib.hid (HY5.out.below hb)
    have HB6 := Lib.hid (below_then HB5.out hb)
    clear hb y0 y1 HX5 HY5 HB5 HS
    obtain ⟨y0, y1⟩ : w5.cell? ⟨ga, 0, none⟩ = some (.int .i64 n) ∧ w5.cell? ⟨ga, 1, none⟩ = some (.int .i64 d) := ⟨HY6.out.cell 0, HY6.out.cell 1⟩
    obtain ⟨x0, x1⟩ : w5.cell? ⟨w.heap.size, 0, none⟩ = some (.int .i64 0) ∧ w5.cell? ⟨w.heap.size, 1, none⟩ = some (.int .i64 0) := ⟨HX6.out.cell 0, HX6.out.cell 1⟩
    have xf := fun i => HX6.out.free i
    go_wp2_with fail
    have HZ := (HX6.out.set_ 0 (.int .i64 n)).set_ 1 (.int .i64 d)
    obtain ⟨z0, z1⟩ : ((w5.setCell ⟨w.heap.size, 0, none⟩ (.int .i64 n)).setCell ⟨w.heap.size, 1, none⟩ (.int .i64 d)).cell? ⟨w.heap.size, 0, none⟩ = some (.int .i64 n) ∧ ((w5.setCell ⟨w.heap.size, 0, none⟩ (.int .i64 n)).setCell ⟨w.heap.size, 1, none⟩ (.int .i64 d)).cell? ⟨w.heap.size, 1, none⟩ = some (.int .i64 d) := ⟨HZ.cell 0, HZ.cell 1⟩
    exact bodyPost_ret (v := .tuple #[.agg #[.int .i64 n, .int .i64 d], .int .i64 0]) (by simp [results, Tryd.results33, go_sem, z0, z1]) rfl ⟨rfl, (HB6.out.setCell (p := ⟨w.heap.size, 0, none⟩) (Nat.le_refl _) _).setCell (p := ⟨w.heap.size, 1, none⟩) (Nat.le_refl _) _⟩
end Go.Proofs.YtlihhlijombepaaDoor
