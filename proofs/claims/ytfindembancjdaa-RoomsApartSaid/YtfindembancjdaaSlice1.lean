/- Contracts of slices.Grow at nil, slices.Clone, slices.Concat of two, at []int. -/
import Derived.Test.YtfindembancjdaaOwn
import Derived.Test.YtfindembancjdaaMoon1
import Derived.Lib.SliceRun
import Derived.Lib.AppendZerosOnto
namespace Go.Proofs.Ytfindembancjdaa
open Go.RowKit Go.Lib
set_option linter.unusedVariables false

theorem infoInt2 : (Try.prog.info? 3).map (fun i => (i.zero, i.size, i.bytes)) = some (some (.int .i64 0), 1, 8) := by kernel_rfl

set_option maxHeartbeats 2000000 in
set_option maxRecDepth 100000 in
/-- Grow of nil: an empty slice over a new array -/
theorem grow_nil (n : Nat) (w : World) (h0 : 0 < n) (hn : n ≤ 1000000) :
    Calls Try.prog 90 #[.slice none 0 0, .int .i64 (n : Int)] w fun e w' => ∃ cap, e = .returned (.slice (some ⟨w.heap.size, 0, none⟩) 0 cap) ∧ w'.ownsRow w.heap.size 3 1 (.slice (some ⟨w.heap.size, 0, none⟩) 0 cap) 0 [] ∧ Below w.heap.size w w' := by
  obtain ⟨i0, hi0, hz0, hz1, hz2⟩ := info_parts infoInt2
  have hrz : ∀ ty, (Builtin.append_ #[22, 3] ty #[.slice none 0 0, .int .i64 (n : Int)]).run Try.prog w =
      .ok (.slice (some ⟨w.heap.size, 0, none⟩) n (grownCap w n 0 3)) (w.drew.alloc (.cells (#[] ++ Builtin.zeroCells (Value.int .i64 0).cells n ++ Builtin.zeroCells (Value.int .i64 0).cells (grownCap w n 0 3 - n)) 3)) := fun ty => by
    have h := Lib.run_append_grow_zeros w 22 3 ty 3 i0 (.int .i64 0) .i64 .i64 Try.underlying22 Try.underlying3 hi0 hz0 none 0 0 [] (run_firstCells_none w.drew i0.size 0 0 0) n (by omega) (by omega) (by omega) (by omega)
      (by rw [hz2]; omega)
      (by rw [Nat.zero_add]; exact growslice_fits (by omega) (by rw [hz2]; omega))
    rw [Nat.zero_add] at h
    exact h
  have hGn : n ≤ grownCap w n 0 3 := grownCap_ge w _ _ _
  have hG63 := grownCap_le_maxLen w n 0 3 (by unfold maxLen; omega)
  obtain ⟨G, hG⟩ : ∃ G, G = grownCap w n 0 3 := ⟨_, rfl⟩
  rw [← hG] at hrz hGn hG63
  clear hG
  have hsz : (#[] ++ Builtin.zeroCells (Value.int .i64 0).cells n ++ Builtin.zeroCells (Value.int .i64 0).cells (G - n)).size = G * 1 := by
    simp [Builtin.zeroCells, Value.cells]; omega
  obtain ⟨CS, hCS⟩ : ∃ CS, CS = (#[] ++ Builtin.zeroCells (Value.int .i64 0).cells n ++ Builtin.zeroCells (Value.int .i64 0).cells (G - n)) := ⟨_, rfl⟩
  rw [← hCS] at hrz hsz
  clear hCS
  have h63 := hG63
  unfold maxLen at h63
  have HZ := Lib.hid hsz
  have HM := Lib.hid hG63
  clear hsz hG63
  go_enter Try.func90, Try.ntmps90
  go_wp2_with (at_builtin; refine Lib.wpList_append_run _ rfl _ _ _ _ rfl _ _ rfl rfl _ _ (hrz _) ?_)
  all_goals go_ret
  all_goals exact ⟨G, rfl, World.ownsRow_made _ CS G (Nat.le_refl _) HM.out HZ.out, (below_drew (Below.refl _ _) 1).alloc (Nat.le_refl _) _⟩

theorem row_news {w : World} {b o : Nat} {cs : List Value} (h : ∀ j v, cs[j]? = some v → w.cell? ⟨b, o + j, none⟩ = some v) : ∀ j u, cs[j]? = some u → w.cell? ((⟨b, o, none⟩ : Addr).add j) = some u := fun j u hu => by
  have : (⟨b, o, none⟩ : Addr).add j = ⟨b, o + j, none⟩ := by unfold Addr.add; split <;> simp_all
  rw [this]; exact h j u hu
theorem ints_one (l : List Int) : ∀ u ∈ ints l, u.oneCell' = true := fun u hu => by
  obtain ⟨x, _, rfl⟩ := List.mem_map.1 hu; rfl

set_option maxHeartbeats 2000000 in
set_option maxRecDepth 100000 in
/-- Clone of a slice that is not empty -/
theorem clone_ints (A : Option Addr) (c : Nat) (l : List Int) (w : World) (hr : Row w w.heap.size A (ints l)) (h0 : 0 < l.length) (hn : l.length ≤ 1000000) :
    Calls Try.prog 65 #[.slice A l.length c] w fun e w' => ∃ v, e = .returned v ∧ w'.ownsRow w.heap.size 3 1 v l.length (ints l) ∧ Below w.heap.size w w' := by
  obtain ⟨i0, hi0, hz0, hz1, hz2⟩ := info_parts infoInt2
  obtain ⟨b, o, rfl, hb, hcs⟩ := hr.open_ (ints_ne l h0)
  have HN := Lib.hid (row_news (w := w.alloc (.cells #[] 3)) (fun j v hv => (World.cell?_alloc_lt w _ ⟨b, o + j, none⟩ hb).trans (hcs j v hv)))
  have HO : Hid ((w.alloc (.cells #[] 3)).ownsRow w.heap.size 3 1 (.slice (some ⟨w.heap.size, 0, none⟩) 0 0) 0 []) := World.ownsRow_made w #[] 0 (Nat.le_refl _) (by unfold maxLen; omega) (by simp)
  have hil := Lib.hid (ints_length l)
  clear hcs hr
  have hnil : ∀ w, (binOp .eql 22 (.slice (some ⟨b, o, none⟩) l.length c) (.slice none 0 0)).run Try.prog w = .ok (.bool false) w := fun w => Lib.run_eql_slice_nil w 22 _ _ _ _ _ _ Try.underlying22
  go_enter Try.func65, Try.ntmps65
  go_wp2_with (at_builtin; refine wpList_append_own _ rfl (.tmp 5) (.tmp 6) 22 rfl w.heap.size 3 i0 (.int .i64 0) 1 8 Try.underlying22 hi0 hz0 hz1 hz2 rfl (by decide) _ 0 [] rfl HO.out ⟨b, o, none⟩ l.length c (ints l) rfl ?c0 ?c1 ?c2 ?c3 ?c4 ?c5 ?_)
  case c0 => rw [hil.out]; omega
  case c1 => exact HN.out
  case c2 => exact ints_one l
  case c3 => simp only [maxLen]; omega
  case c4 => omega
  case c5 => simp
  intro v' w3 hown' hgrow _
  have hB : Below w.heap.size w w3 := (below_alloc1 w _).grown hgrow (by simp) (fun k hk => by simp [Value.ownBlock] at hk; omega)
  try simp only [Nat.zero_add, List.nil_append] at hown'
  clear hgrow
  go_wp2_with fail
  go_ret
  exact ⟨v', rfl, hown', hB⟩

set_option maxHeartbeats 4000000 in
set_option maxRecDepth 100000 in
/-- Concat of two slices that are not empty -/
theorem concat_ints (A1 A2 : Option Addr) (c1 c2 gs : Nat) (ts : TypeId) (l1 l2 : List Int) (w : World) (hbx : Box w gs ts #[.slice A1 l1.length c1, .slice A2 l2.length c2]) (hr1 : Row w w.heap.size A1 (ints l1)) (hr2 : Row w w.heap.size A2 (ints l2)) (h1 : 0 < l1.length) (h2 : 0 < l2.length) (hn1 : l1.length ≤ 1000) (hn2 : l2.length ≤ 1000) :
    Calls Try.prog 66 #[.slice (some ⟨gs, 0, none⟩) 2 2] w fun e w' => ∃ v, e = .returned v ∧ w'.ownsRow w.heap.size 3 1 v (l1 ++ l2).length (ints (l1 ++ l2)) ∧ Below w.heap.size w w' := by
  obtain ⟨i0, hi0, hz0, hz1, hz2⟩ := info_parts infoInt2
  obtain ⟨b1, o1, rfl, hb1, hcs1⟩ := hr1.open_ (ints_ne l1 h1)
  obtain ⟨b2, o2, rfl, hb2, hcs2⟩ := hr2.open_ (ints_ne l2 h2)
  have x0 : w.cell? ⟨gs, 0, none⟩ = some (.slice (some ⟨b1, o1, none⟩) l1.length c1) := hbx.cell 0
  have x1 : w.cell? ⟨gs, 1, none⟩ = some (.slice (some ⟨b2, o2, none⟩) l2.length c2) := hbx.cell 1
  have HC1 := Lib.hid hcs1
  have HC2 := Lib.hid hcs2
  have HBX := Lib.hid hbx
  clear hcs1 hcs2 hr1 hr2 hbx
  go_enter Try.func66, Try.ntmps66
  go_wp2_with fail
  go_loop [3, 5, 11] (fun s _ i => (s = .int .i64 0 ∧ i = .int .i64 0) ∨ (s = .int .i64 (l1.length : Int) ∧ i = .int .i64 1) ∨ (s = .int .i64 ((l1.length : Int) + (l2.length : Int)) ∧ i = .int .i64 2)) (fun _ _ i => 2 - (intOf i).toNat)
  case atStart => exact .inl ⟨rfl, rfl⟩
  case round =>
    rcases hrel with ⟨rfl, rfl⟩ | ⟨rfl, rfl⟩ | ⟨rfl, rfl⟩
    · go_wp2_with fail
      go_round
      case rel => exact .inr (.inl ⟨by go_num, rfl⟩)
      case measure => simp [intOf]
    · go_wp2_with fail
      go_round
      case rel => exact .inr (.inr ⟨rfl, rfl⟩)
      case measure => simp [intOf]
    · go_wp2_with fail
      refine (show Calls Try.prog 90 #[.slice none 0 0, .int .i64 ((l1.length : Int) + (l2.length : Int))] w _ from (by have := grow_nil (l1.length + l2.length) w (by omega) (by omega); rwa [show ((l1.length + l2.length : Nat) : Int) = (l1.length : Int) + (l2.length : Int) from by omega] at this)).mono ?_
      rintro e W1 ⟨cap, rfl, hown, hb⟩
      have HO := Lib.hid hown
      have HB := Lib.hid hb
      clear hown hb x0 x1
      go_wp2_with fail
      go_loopw [6, 8, 27] (fun v _ i wr => ((i = .int .i64 0 ∧ wr.ownsRow w.heap.size 3 1 v 0 []) ∨ (i = .int .i64 1 ∧ wr.ownsRow w.heap.size 3 1 v l1.length (ints l1)) ∨ (i = .int .i64 2 ∧ wr.ownsRow w.heap.size 3 1 v (l1 ++ l2).length (ints (l1 ++ l2)))) ∧ Hid (Below w.heap.size w wr)) (fun _ _ i _ => 2 - (intOf i).toNat)
      case atStart => exact ⟨.inl ⟨rfl, HO.out⟩, HB⟩
      case round =>
        clear HO HB
        obtain ⟨hrel, HB⟩ := hrel
        have bx := HBX.out.below HB.out
        have x0 : wr.cell? ⟨gs, 0, none⟩ = some (.slice (some ⟨b1, o1, none⟩) l1.length c1) := bx.cell 0
        have x1 : wr.cell? ⟨gs, 1, none⟩ = some (.slice (some ⟨b2, o2, none⟩) l2.length c2) := bx.cell 1
        have hz := HB.out.size
        clear bx
        rcases hrel with ⟨rfl, hown⟩ | ⟨rfl, hown⟩ | ⟨rfl, hown⟩
        · go_wp2_with (at_builtin; refine wpList_append_own _ rfl (.tmp 31) (.tmp 32) 22 rfl w.heap.size 3 i0 (.int .i64 0) 1 8 Try.underlying22 hi0 hz0 hz1 hz2 rfl (by decide) u6 0 [] rfl hown ⟨b1, o1, none⟩ l1.length c1 (ints l1) rfl ?c0 ?c1 ?c2 ?c3 ?c4 ?c5 ?_)
          case c0 => rw [ints_length]; omega
          case c1 => exact row_news (fun j v hv => (HB.out.cell (p := ⟨b1, o1 + j, none⟩) hb1).trans (HC1.out j v hv))
          case c2 => exact ints_one l1
          case c3 => simp only [maxLen]; omega
          case c4 => omega
          case c5 => exact hz
          intro v' w3 hown' hgrow _
          have hB3 : Hid (Below w.heap.size w w3) := HB.out.grown hgrow hz (fun k hk => (own_lt hown k hk).1)
          try simp only [Nat.zero_add, List.nil_append] at hown'
          clear hgrow hown x0 x1
          go_wp2_with fail
          go_roundw
          case rel => exact ⟨.inr (.inl ⟨rfl, hown'⟩), hB3⟩
          case measure => simp [intOf]
        · go_wp2_with (at_builtin; refine wpList_append_own _ rfl (.tmp 31) (.tmp 32) 22 rfl w.heap.size 3 i0 (.int .i64 0) 1 8 Try.underlying22 hi0 hz0 hz1 hz2 rfl (by decide) u6 l1.length (ints l1) rfl hown ⟨b2, o2, none⟩ l2.length c2 (ints l2) rfl ?c0 ?c1 ?c2 ?c3 ?c4 ?c5 ?_)
          case c0 => rw [ints_length]; omega
          case c1 => exact row_news (fun j v hv => (HB.out.cell (p := ⟨b2, o2 + j, none⟩) hb2).trans (HC2.out j v hv))
          case c2 => exact ints_one l2
          case c3 => simp only [maxLen]; omega
          case c4 => omega
          case c5 => exact hz
          intro v' w3 hown' hgrow _
          have hB3 : Hid (Below w.heap.size w w3) := HB.out.grown hgrow hz (fun k hk => (own_lt hown k hk).1)
          rw [show ints l1 ++ ints l2 = ints (l1 ++ l2) from by simp [ints], ← List.length_append] at hown'
          clear hgrow hown x0 x1
          go_wp2_with fail
          go_roundw
          case rel => exact ⟨.inr (.inr ⟨rfl, hown'⟩), hB3⟩
          case measure => simp [intOf]
        · clear x0 x1
          go_wp2_with fail
          go_ret
          exact ⟨u6, rfl, hown, HB.out⟩
end Go.Proofs.Ytfindembancjdaa
