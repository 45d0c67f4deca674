/- Contracts of package zonetext: a line that was written is read. -/
import Derived.Test.YtlihhlijombepaaDoorZt3
import Derived.Test.YtlihhlijombepaaDoorShelf6
import Derived.Test.YtlihhlijombepaaDoorExt1
import Derived.Test.YtlihhlijombepaaDoorZone2
import Derived.Test.YtlihhlijombepaaDoorLine1
namespace Go.Proofs.YtlihhlijombepaaDoor
open Go.RowKit
set_option linter.unusedVariables false

theorem splitw_any (c : UInt8) (a : List UInt8) (l : List (List UInt8)) (h : ∀ w ∈ a :: l, ∀ b ∈ w, b ≠ c) (hs : (joinW c a l).length < 4294967281) (w : World) (hsh : Shp w) :
    Calls Tryd.prog 99 #[.string (str (joinW c a l)), .string ⟨#[c]⟩] w fun e w' => e = .returned (.slice (some ⟨w.heap.size, 0, none⟩) (l.length + 1) (l.length + 1)) ∧ w' = w.alloc (.cells (((a :: l).map str).map Value.string).toArray 9) := by
  obtain ⟨m, hm⟩ := hsh
  refine (strings_Split (str (joinW c a l)) ⟨#[c]⟩ m w (by rw [str_size]; exact hs) hm (by show 1 ≤ 1; omega)).mono ?_
  rintro e w' ⟨rfl, rfl⟩
  rw [count_join c l a h, split_join c l a h]
  exact ⟨rfl, rfl⟩
/-- bytes that are no spaces and no ends of lines -/
def Plain (l : List UInt8) : Prop := ∀ b ∈ l, b ≠ 32 ∧ b ≠ 10
theorem plain_itoa (n : Int) : Plain (Lib.itoa n) := fun b hb => ⟨itoa_no n 32 (by decide) b hb, itoa_no n 10 (by decide) b hb⟩
theorem plain_two : ∀ m, m < 100 → ∀ b ∈ twoL m, b ≠ 32 ∧ b ≠ 10 := by decide +kernel
theorem plain_off (n : Int) (h : OffOk n) : Plain (offL n) := by
  obtain ⟨h1, h2, h3⟩ := h
  intro b hb
  unfold offL at hb
  rcases List.mem_cons.1 hb with rfl | hb
  · split <;> decide
  rcases List.mem_append.1 hb with hb | hb
  · exact plain_two _ (by omega) b hb
  rcases List.mem_cons.1 hb with rfl | hb
  · decide
  rcases List.mem_append.1 hb with hb | hb
  · exact plain_two _ (by omega) b hb
  rcases List.mem_cons.1 hb with rfl | hb
  · decide
  · exact plain_two _ (by omega) b hb
theorem plain_of (s : ByteArray) (lo hi : Nat) (h : AllIn lo hi s) (hlo : 33 ≤ lo) : Plain s.data.toList := by
  intro b hb
  obtain ⟨k, hk, rfl⟩ := List.getElem_of_mem hb
  have hk' : k < s.size := by simpa using hk
  have := h k hk'
  have e : s.data.toList[k] = s[k] := by simp [ByteArray.getElem_eq_getElem_data]
  rw [e]
  exact ⟨fun h0 => by rw [h0] at this; simp at this; omega, fun h0 => by rw [h0] at this; simp at this; omega⟩
theorem plain_name (s : ByteArray) (h : NameOk s) : Plain s.data.toList := plain_of s 97 122 h.2.2.2.2.2.2 (by omega)
theorem plain_label (s : ByteArray) (h : LabelOk s) : Plain s.data.toList := plain_of s 65 90 h.1 (by omega)

def headW (nm : ByteArray) (first : Int) : List UInt8 := joinW 32 [122, 111, 110, 101] [nm.data.toList, offL first]
def lineW (d ms o : Int) (l : ByteArray) : List UInt8 := joinW 32 [97, 116] [Lib.itoa d, Lib.itoa ms, offL o, l.data.toList]

def RowQ (gz : Nat) (cs : Array Value) (w : World) (e : Ending) (w' : World) : Prop := e = .returned (.bool true) ∧ Box w' gz 24 cs ∧ Below gz w w'
set_option maxHeartbeats 1000000 in
set_option maxRecDepth 100000 in
theorem row_first (gz : Nat) (nm0 : ByteArray) (f0 : Int) (v : Value) (nm : ByteArray) (first : Int) (w : World) (hx : Box w gz 24 #[.string nm0, .int .i64 f0, v]) (hn : NameOk nm) (ho : OffOk first) (hsh : Shp w) :
    Calls Tryd.prog 88 #[.pointer (some ⟨gz, 0, none⟩), .string (str (headW nm first)), .bool true] w (RowQ gz #[.string nm, .int .i64 first, v] w) := by
  have hl : nm.data.toList.length = nm.size := Array.length_toList
  have HS := Lib.hid (splitw_any 32 [122, 111, 110, 101] [nm.data.toList, offL first] (fun x hx b hb => by
    simp at hx
    rcases hx with rfl | rfl | rfl
    · revert b; decide
    · exact (plain_name nm hn b hb).1
    · exact (plain_off first ho b hb).1) (by simp [joinW, offL_len, hl]; have := hn.2.1; omega) w hsh)
  have HO := Lib.hid (fun W => readOff_yes first W ho)
  rw [show ([[122, 111, 110, 101], nm.data.toList, offL first].map str).map Value.string = [.string ⟨#[122, 111, 110, 101]⟩, .string nm, .string (str (offL first))] from by simp [str_own]; rfl, show [nm.data.toList, offL first].length + 1 = 3 from rfl] at HS
  have HX := Lib.hid hx
  unfold RowQ
  unfold headW
  generalize str (joinW 32 [122, 111, 110, 101] [nm.data.toList, offL first]) = S at *
  generalize str (offL first) = so at *
  clear hn ho hsh hx hl
  go_enter Tryd.func88, Tryd.ntmps88
  go_wp2_with fail
  refine HS.out.mono ?_
  rintro e w1 ⟨rfl, hw1⟩
  have hp : Box w1 w.heap.size 9 #[.string ⟨#[122, 111, 110, 101]⟩, .string nm, .string so] := by rw [hw1]; exact Box.new _ _ _
  have hx1 : Box w1 gz 24 #[.string nm0, .int .i64 f0, v] := by rw [hw1]; exact HX.out.alloc _
  have hb1 : Below gz w w1 := by rw [hw1]; exact (Below.refl _ _).alloc (Nat.le_of_lt HX.out.lt) _
  have hgp : gz < w.heap.size := HX.out.lt
  generalize w.heap.size = gp at *
  have hl1 : gp < w1.heap.size := hp.lt
  have y0 : w1.cell? ⟨gp, 0, none⟩ = some (.string ⟨#[122, 111, 110, 101]⟩) := hp.cell 0
  have y1 : w1.cell? ⟨gp, 1, none⟩ = some (.string nm) := hp.cell 1
  have y2 : w1.cell? ⟨gp, 2, none⟩ = some (.string so) := hp.cell 2
  have HX1 := Lib.hid hx1
  have HB1 := Lib.hid hb1
  have HP1 := Lib.hid hp
  clear hx1 hb1 hw1 hp HX HS
  go_wp2_with fail
  refine (HO.out _).mono ?_
  rintro e w2 ⟨rfl, hb⟩
  have HX2 := Lib.hid (HX1.out.below hb)
  have HB2 := Lib.hid (HB1.out.trans (hb.mono (by omega)))
  have hp := HP1.out.below hb
  clear y0 y1 y2 hl1 hb HX1 HB1 HP1
  have y1 : w2.cell? ⟨gp, 1, none⟩ = some (.string nm) := hp.cell 1
  have hl2 : gz < w2.heap.size := HX2.out.lt
  have x0 : w2.cell? ⟨gz, 0, none⟩ = some (.string nm0) := HX2.out.cell 0
  have x1 : w2.cell? ⟨gz, 1, none⟩ = some (.int .i64 f0) := HX2.out.cell 1
  have xf : ∀ i, w2.frozen? ⟨gz, i, none⟩ = false := fun i => HX2.out.free i
  clear hp
  go_wp2_with fail
  go_ret
  exact ⟨rfl, (HX2.out.set_ 0 _).set_ 1 _, (HB2.out.setCell (p := ⟨gz, 0, none⟩) (Nat.le_refl _) _).setCell (p := ⟨gz, 1, none⟩) (Nat.le_refl _) _⟩
end Go.Proofs.YtlihhlijombepaaDoor
