/- Contracts of package forecast: changes, Year. -/
import Derived.Test.YtlihhlijombepaaDoorFore2
namespace Go.Proofs.YtlihhlijombepaaDoor
open Go.RowKit
set_option linter.unusedVariables false

theorem chg_info : (Tryd.prog.info? 26).map (fun i => (i.zero, i.size, i.bytes)) = some (some (.agg #[.int .i64 0, .int .i64 0, .string ⟨#[]⟩]), 3, 32) := by kernel_rfl
theorem own_ne {w : World} {base : Nat} {e : TypeId} {s : Nat} {v : Value} {n : Nat} {xs : List Value} (h : w.ownsRow base e s v n xs) : v.ownBlock ≠ some w.heap.size := by
  rcases h.2 with ⟨rfl, _⟩ | ⟨g, cap, cur, rfl, hbb, hg, rest⟩
  · simp [Value.ownBlock]
  · have hlt : g < w.heap.size := by
      rcases Nat.lt_or_ge g w.heap.size with hlt | hge
      · exact hlt
      · rw [Array.getElem?_eq_none hge] at hg; cases hg
    simp [Value.ownBlock]; omega
/-- what changes gives -/
def IsChs (before y : Int) (rs : List ZR) (w : World) (e : Ending) (w' : World) : Prop :=
  ∃ (A : Option Addr) (c : Nat), e = .returned (.slice A rs.length c) ∧ w'.ownsRow w.heap.size 26 3 (.slice A rs.length c) rs.length (chCells (foreChs before y rs rs.length)) ∧ Below w.heap.size w w'

set_option maxHeartbeats 4000000 in
set_option maxRecDepth 100000 in
theorem changes_any (A : Option Addr) (c : Nat) (rs : List ZR) (before y : Int) (w : World) (hA : RIn w A rs) (hok : ForeOk rs) (hbf : OffOk before) (h1 : -10000 ≤ y) (h2 : y ≤ 10000) :
    Calls Tryd.prog 68 #[.slice A rs.length c, .int .i64 before, .int .i64 y] w (IsChs before y rs w) := by
  obtain ⟨i0, hi0, hz0, hz1, hz2⟩ := info_parts chg_info
  obtain ⟨b, o, rfl, hb, hc⟩ := hA.row.open_ (flat_ne zrF_len (by omega) rs (by have := hok.1.1; omega))
  have hl := hok.1.2
  have hpos := hok.1.1
  have HC := Lib.hid hc
  have HO := Lib.hid hok.2
  have HBo : Hid (∀ k, k ≤ rs.length → OffOk (befI before rs k)) := by
    intro k hk
    unfold befI
    split
    · exact hbf
    · exact (hok.2 (k - 1) (by omega)).2.1
  clear hA hc hok hbf
  have B0 := Lib.hid (World.ownsRow_nil w w.heap.size 26 3)
  go_enter Tryd.func68, Tryd.ntmps68
  go_wp2_with fail
  go_loopw [1, 7, 9, 12] (fun bf v _ i wr => ∃ k : Nat, k ≤ rs.length ∧ i = .int .i64 k ∧ bf = .int .i64 (befI before rs k) ∧ wr.ownsRow w.heap.size 26 3 v k (chCells (foreChs before y rs k)) ∧ Below w.heap.size w wr) (fun _ _ _ i _ => rs.length - (intOf i).toNat)
  case atStart => exact ⟨0, by omega, rfl, rfl, B0.out, Below.refl _ _⟩
  case round =>
    obtain ⟨k, hk, rfl, rfl, hown, hbr⟩ := hrel
    have hzr := hbr.size
    by_cases hlt : k < rs.length
    · have hc' : ∀ j v, (rs.flatMap zrF)[j]? = some v → wr.cell? ⟨b, o + j, none⟩ = some v := fun j v hv => (hbr.cell (p := ⟨b, o + j, none⟩) hb).trans (HC.out j v hv)
      obtain ⟨y0, y1, y2, y3, y4, y5⟩ := zr_cells hc' k hlt
      have hbl : b < wr.heap.size := by omega
      obtain ⟨⟨n1, n2, n3, n4, n5, n6, n7, n8⟩, ho, _, _⟩ := HO.out k hlt
      have HD := Lib.hid (fun w => fday_any y ((rs.getD k zr0).m - 1).toNat (rs.getD k zr0).wk (rs.getD k zr0).wd (rs.getD k zr0).ms (rs.getD k zr0).o (rs.getD k zr0).l w h1 h2 (by omega) n3 n4 n5 n6)
      have HF := foreDay_is y ((rs.getD k zr0).m - 1).toNat (rs.getD k zr0).wk (rs.getD k zr0).wd (by omega) n3 n4 n5 n6
      have hlo := HF.low
      have hhi := HF.high
      have n0 := ny_lo y (by omega) (by omega)
      have n0' := ny_lo (y + 1) (by omega) (by omega)
      have HS : Hid (chCells (foreChs before y rs (k + 1)) = chCells (foreChs before y rs k) ++ [.int .i64 (foreDay y ((rs.getD k zr0).m - 1).toNat (rs.getD k zr0).wk (rs.getD k zr0).wd * 86400000 + (rs.getD k zr0).ms - befI before rs k), .int .i64 (rs.getD k zr0).o, .string (rs.getD k zr0).l]) := foreChs_succ before y rs k
      have HN : Hid (befI before rs (k + 1) = (rs.getD k zr0).o) := rfl
      have hbo := HBo.out k hk
      have hmm : ((((rs.getD k zr0).m - 1).toNat : Int)) + 1 = (rs.getD k zr0).m := by omega
      rw [hmm] at HD
      clear hc' HF hmm
      generalize foreDay y ((rs.getD k zr0).m - 1).toNat (rs.getD k zr0).wk (rs.getD k zr0).wd = FD at *
      generalize (rs.getD k zr0).m = cm at *
      generalize (rs.getD k zr0).wk = ck at *
      generalize (rs.getD k zr0).wd = cd at *
      generalize (rs.getD k zr0).ms = cs at *
      generalize (rs.getD k zr0).o = co at *
      generalize (rs.getD k zr0).l = cl at *
      generalize befI before rs k = bf at *
      generalize ny y = N0 at *
      generalize ny (y + 1) = N1 at *
      obtain ⟨_, b2, b3⟩ := hbo
      obtain ⟨_, o2, o3⟩ := ho
      have f1 : -8000000 ≤ FD := by omega
      have f2 : FD ≤ 8000000 := by omega
      clear n0 n0' hlo hhi
      go_wp2_with fail
      have hx := Box.new wr 56 #[.int .i64 cm, .int .i64 ck, .int .i64 cd, .int .i64 cs, .int .i64 co, .string cl]
      have hbr' := hbr.alloc hzr (Obj.cells #[.int .i64 cm, .int .i64 ck, .int .i64 cd, .int .i64 cs, .int .i64 co, .string cl] 56)
      have hown' := hown.alloc (Obj.cells #[.int .i64 cm, .int .i64 ck, .int .i64 cd, .int .i64 cs, .int .i64 co, .string cl] 56)
      have hng : u7.ownBlock ≠ some wr.heap.size := own_ne hown
      generalize wr.alloc (Obj.cells #[.int .i64 cm, .int .i64 ck, .int .i64 cd, .int .i64 cs, .int .i64 co, .string cl] 56) = W1 at *
      obtain ⟨g, hg⟩ : ∃ g, g = wr.heap.size := ⟨_, rfl⟩
      rw [← hg] at hx hng
      rw [← hg]
      clear hg y0 y1 y2 y3 y4 y5 hbl hown hbr hzr
      have hW1 := Lib.hid hbr'
      have hO1 := Lib.hid hown'
      have hX1 := Lib.hid hx
      have hgl := hx.lt
      have x0 : W1.cell? ⟨g, 0, none⟩ = some (.int .i64 cm) := hx.cell 0
      have x1 : W1.cell? ⟨g, 1, none⟩ = some (.int .i64 ck) := hx.cell 1
      have x2 : W1.cell? ⟨g, 2, none⟩ = some (.int .i64 cd) := hx.cell 2
      have x3 : W1.cell? ⟨g, 3, none⟩ = some (.int .i64 cs) := hx.cell 3
      have x4 : W1.cell? ⟨g, 4, none⟩ = some (.int .i64 co) := hx.cell 4
      have x5 : W1.cell? ⟨g, 5, none⟩ = some (.string cl) := hx.cell 5
      clear hx hown' hbr'
      have e1 : IntKind.i64.wrap (FD * 86400000) = FD * 86400000 := IntWalk.i64_in _ (by omega)
      have e2 : IntKind.i64.wrap (FD * 86400000 + cs) = FD * 86400000 + cs := IntWalk.i64_in _ (by omega)
      have e3 : IntKind.i64.wrap (FD * 86400000 + cs - bf) = FD * 86400000 + cs - bf := IntWalk.i64_in _ (by omega)
      go_region_held3 (fun w' => w'.cell? ⟨g, 0, none⟩ = some (.int .i64 cm) ∧ w'.cell? ⟨g, 1, none⟩ = some (.int .i64 ck) ∧ w'.cell? ⟨g, 2, none⟩ = some (.int .i64 cd) ∧ w'.cell? ⟨g, 3, none⟩ = some (.int .i64 cs) ∧ w'.cell? ⟨g, 4, none⟩ = some (.int .i64 co) ∧ w'.cell? ⟨g, 5, none⟩ = some (.string cl))
        (first
          | go_keep
          | exact ⟨hX2.cell 0, hX2.cell 1, hX2.cell 2, hX2.cell 3, hX2.cell 4, hX2.cell 5⟩
          | exact ⟨(hX2.alloc _).cell 0, (hX2.alloc _).cell 1, (hX2.alloc _).cell 2, (hX2.alloc _).cell 3, (hX2.alloc _).cell 4, (hX2.alloc _).cell 5⟩
          | exact ⟨hX3.cell 0, hX3.cell 1, hX3.cell 2, hX3.cell 3, hX3.cell 4, hX3.cell 5⟩)
        (first
          | (go_at_call 104; refine (HD.out _).mono ?_; rintro e w2 ⟨rfl, hb2⟩; have hX2 : Box w2 g _ _ := (hb2.block g hgl).trans hX1.out; have hO2 := own_below (w := W1.drew) hO1.out hb2; have hlt2 := hX2.lt; have hs2 : w.heap.size ≤ w2.heap.size := Nat.le_trans hW1.out.size hb2.size; have H2 := Lib.hid hb2; clear hb2)
          | (refine step_append_lies _ (by rfl) _ _ _ (by rfl) w.heap.size 26 i0 _ 3 32 Tryd.underlying22 hi0 hz0 hz1 hz2 rfl (by omega) u7 k _ (by rfl) (hO2.alloc _)
              ⟨w2.heap.size, 0, none⟩ 1 1 [.int .i64 (FD * 86400000 + cs - bf), .int .i64 co, .string cl] (by rfl) (by rfl) (World.news_of_block (cs := #[.int .i64 (FD * 86400000 + cs - bf), .int .i64 co, .string cl]) (t := 26) (fr := (0, 0)) (heap_alloc_new w2 _)) (by simp [Value.oneCell'])
              (by omega) (by unfold maxLen; omega) (by omega) (by simp; omega) (w2.heap.size + 1) (by simp) ?_; intro gg cap w3 hown3 hgrow hat hlt3; have hX3 : Box w3 g _ _ := (hgrow.block g (by simp; omega) (Ne.symm hng)).trans (hX2.alloc _)))
      rw [← HS.out] at hown3
      have hb2 := below_then hW1.out (show Below W1.heap.size W1 w2 from ⟨H2.out.os, H2.out.tape, H2.out.output, H2.out.size, H2.out.block⟩)
      have hb3 := Lib.hid ((hb2.alloc hs2 _).grown hgrow (by simp; omega) (own_base hO2))
      have z4 : w3.cell? ⟨g, 4, none⟩ = some (.int .i64 co) := hX3.cell 4
      have hgl3 := hX3.lt
      clear e1 e2 e3 x0 x1 x2 x3 x4 x5 hb2 hgrow hat
      go_wp2_with fail
      go_roundw
      case rel => exact ⟨k + 1, by omega, by go_num, by rw [HN.out], hown3, hb3.out⟩
      case measure => simp [intOf]; omega
    · obtain rfl : k = rs.length := by omega
      obtain ⟨g, cap, rfl, _, _⟩ := hown.form (by omega)
      go_wp2_with fail
      go_ret
      exact ⟨_, _, rfl, hown, hbr⟩

/-- what Year gives where it fails -/
def IsNoYear (w : World) (e : Ending) (w' : World) : Prop := ∃ E : Int, E ≠ 0 ∧ e = .returned (.tuple #[.slice none 0 0, .int .i64 E]) ∧ Below w.heap.size w w'
/-- what Year gives -/
def IsYear (before y : Int) (rs : List ZR) (w : World) (e : Ending) (w' : World) : Prop :=
  ∃ (A : Option Addr) (c : Nat), e = .returned (.tuple #[.slice A rs.length c, .int .i64 0]) ∧ w'.ownsRow w.heap.size 26 3 (.slice A rs.length c) rs.length (chCells (foreChs before y rs rs.length)) ∧ Below w.heap.size w w'

end Go.Proofs.YtlihhlijombepaaDoor
