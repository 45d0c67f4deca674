/- Contract of numeral.Read at what a script writes. -/
import Derived.Test.YtlihhlijombepaaDoorNumr12
import Derived.Test.YtlihhlijombepaaDoorNumr13
namespace Go.Proofs.YtlihhlijombepaaDoor
open Go.RowKit
set_option linter.unusedVariables false

theorem lenR_fold (sc : Nat) (rs : List Nat) (n : Int) (h : lenR sc rs = some n) : rs ≠ [] ∧ ∃ t l d, rs.foldl (lenF sc) (some (0, 0, 0)) = some (t, l, d) ∧ t + d = n := by
  unfold lenR at h
  split at h
  · cases h
  · rename_i t l d hf
    split at h
    · cases h
    · rename_i he
      refine ⟨fun e => he (by rw [e]; rfl), t, l, d, hf, Option.some.inj h⟩
def LenQ (n : Int) (w : World) (e : Ending) (w' : World) : Prop := e = .returned (.tuple #[.int .i64 n, .bool true]) ∧ Below w.heap.size w w'
theorem lenient_any (sc : Nat) (hs : sc < 13) (rs : List Nat) (hb : ∀ r ∈ rs, Bmp r) (hlen : rs.length ≤ 1000) (n : Int) (h : lenR sc rs = some n) (w : World) (hz : Zer w) :
    Calls Tryd.prog 87 #[.int .i64 (sc : Int), .string (str (encs rs))] w (LenQ n w) := by
  obtain ⟨hne, t, l, d, hf, hn⟩ := lenR_fold sc rs n h
  unfold LenQ
  rw [← hn]
  by_cases h9 : sc < 9
  · exact lenient_pos sc h9 rs hne hb hlen t l d hf w hz
  by_cases e9 : sc = 9
  · exact lenient_rom sc e9 rs hne hb hlen t l d hf w hz
  by_cases h12 : sc < 12
  · exact lenient_sgn sc (by omega) rs hne hb hlen t l d hf w hz
  · exact lenient_chi sc (by omega) rs hne hb hlen t l d hf w hz
def ReadQ (n : Nat) (w : World) (e : Ending) (w' : World) : Prop := e = .returned (.tuple #[.int .i64 (n : Int), .int .i64 0]) ∧ Below w.heap.size w w'
set_option maxHeartbeats 1000000 in
set_option maxRecDepth 100000 in
theorem read_any (sc n : Nat) (hs : sc < 13) (hn : n < 1100) (hi : inR sc n = true) (hb : ∀ r ∈ wrR sc n, Bmp r) (hlen : (wrR sc n).length ≤ 1000) (w : World) (hp : Pow w) (hz : Zer w) (hu : U8 w) :
    Calls Tryd.prog 35 #[.int .i64 (sc : Int), .string (str (encs (wrR sc n)))] w (ReadQ n w) := by
  have HI := Lib.hid (isScript_yes sc hs w)
  have HL := Lib.hid (lenient_any sc hs (wrR sc n) hb hlen (n : Int) (read_back sc hs n hn hi) w hz)
  have HW := Lib.hid (fun W => writes_any sc hs (n : Int) W)
  have hdec : (decide (lowB sc ≤ (n : Int)) && decide ((n : Int) ≤ highB sc)) = true := by have := (inR_bounds sc n hs hn).1 hi; simp [this]
  rw [hdec] at HW
  have HD := Lib.hid (fun W (hW : Below w.heap.size w W) => write_any sc n hs hn hi W (hp.next hW) (hz.next hW) (hu.next hW))
  clear hp hz hu hdec hb hlen
  unfold LenQ at HL
  unfold SignQ at HD
  unfold ReadQ
  generalize str (encs (wrR sc n)) = f at *
  go_enter Tryd.func35, Tryd.ntmps35
  go_wp2_with fail
  refine HI.out.mono ?_
  rintro e w' ⟨rfl, rfl⟩
  go_wp2_with fail
  refine HL.out.mono ?_
  rintro e w1 ⟨rfl, hb⟩
  have HB := Lib.hid hb
  have HD2 := Lib.hid (HD.out w1 HB.out)
  clear hb HL HD
  go_wp2_with fail
  refine (HW.out _).mono ?_
  rintro e w' ⟨rfl, rfl⟩
  go_wp2_with fail
  refine HD2.out.mono ?_
  rintro e w2 ⟨rfl, hb⟩
  have HB2 := Lib.hid (below_then HB.out hb)
  clear hb HD2
  go_wp2_with fail
  go_ret2
  exact ⟨rfl, HB2.out⟩
end Go.Proofs.YtlihhlijombepaaDoor
