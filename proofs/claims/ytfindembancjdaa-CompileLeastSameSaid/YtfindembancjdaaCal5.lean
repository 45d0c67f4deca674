/- slices.Clone at []RuleMonth; compile.Flags; slices.Equal at []bool. -/
import Derived.Test.YtfindembancjdaaCal3
import Derived.Test.YtfindembancjdaaSlice2
import Derived.Deep.OwnRows
namespace Go.Proofs.Ytfindembancjdaa
open Go.RowKit Go.Lib
set_option linter.unusedVariables false

theorem row_own {w : World} {base : Nat} {e : TypeId} {s : Nat} {A : Option Addr} {n c : Nat} {xs : List Value} (h : w.ownsRow base e s (.slice A n c) n xs) : Row w w.heap.size A xs := by
  by_cases hn : 0 < n
  · obtain ⟨g, cap, hv, _, hlt⟩ := h.form hn
    have hA : A = some ⟨g, 0, none⟩ := by injection hv
    subst hA
    refine .inr ⟨g, 0, rfl, hlt, fun j v hv => ?_⟩
    have := h.cells (g := g) rfl j v hv
    rw [Nat.zero_add]
    rw [addPlain, Nat.zero_add] at this
    exact this
  · have h0 : n = 0 := by omega
    subst h0
    have := h.1
    exact .inl (List.eq_nil_of_length_eq_zero (by simpa using this))

theorem infoMth : (Try.prog.info? 80).map (fun i => (i.zero, i.size, i.bytes)) = some (some (.agg #[.string ⟨#[]⟩, .int .i64 0, .int .i64 0]), 3, 32) := by kernel_rfl
theorem mths_one (l : List Mth) : ∀ u ∈ l.flatMap mthF, u.oneCell' = true := fun u hu => by
  obtain ⟨x, _, hx⟩ := List.mem_flatMap.1 hu
  simp [mthF] at hx
  rcases hx with rfl | rfl | rfl <;> rfl

set_option maxHeartbeats 2000000 in
set_option maxRecDepth 100000 in
theorem clone_mths (A : Option Addr) (c : Nat) (l : List Mth) (w : World) (hr : Row w w.heap.size A (l.flatMap mthF)) (h0 : 0 < l.length) (hn : l.length ≤ 1000000) :
    Calls Try.prog 70 #[.slice A l.length c] w fun e w' => ∃ v, e = .returned v ∧ w'.ownsRow w.heap.size 80 3 v l.length (l.flatMap mthF) ∧ Below w.heap.size w w' := by
  obtain ⟨i0, hi0, hz0, hz1, hz2⟩ := info_parts infoMth
  obtain ⟨b, o, rfl, hb, hcs⟩ := hr.open_ (flat_ne mthF_len (by omega) l h0)
  have HN := Lib.hid (row_news (w := w.alloc (.cells #[] 80)) (fun j v hv => (World.cell?_alloc_lt w _ ⟨b, o + j, none⟩ hb).trans (hcs j v hv)))
  have HO : Hid ((w.alloc (.cells #[] 80)).ownsRow w.heap.size 80 3 (.slice (some ⟨w.heap.size, 0, none⟩) 0 0) 0 []) := World.ownsRow_made w #[] 0 (Nat.le_refl _) (by unfold maxLen; omega) (by simp)
  have hil := Lib.hid (flat_length mthF_len l)
  clear hcs hr
  have hnil : ∀ w, (binOp .eql 76 (.slice (some ⟨b, o, none⟩) l.length c) (.slice none 0 0)).run Try.prog w = .ok (.bool false) w := fun w => Lib.run_eql_slice_nil w 76 _ _ _ _ _ _ Try.underlying76
  go_enter Try.func70, Try.ntmps70
  go_wp2_with (at_builtin; refine wpList_append_own _ rfl (.tmp 5) (.tmp 6) 76 rfl w.heap.size 80 i0 (.agg #[.string ⟨#[]⟩, .int .i64 0, .int .i64 0]) 3 32 Try.underlying76 hi0 hz0 hz1 hz2 rfl (by decide) _ 0 [] rfl HO.out ⟨b, o, none⟩ l.length c (l.flatMap mthF) rfl ?c0 ?c1 ?c2 ?c3 ?c4 ?c5 ?_)
  case c0 => rw [hil.out]
  case c1 => exact HN.out
  case c2 => exact mths_one l
  case c3 => simp only [maxLen]; omega
  case c4 => omega
  case c5 => simp
  intro v' w3 hown' hgrow _
  have hB : Below w.heap.size w w3 := (below_alloc1 w _).grown hgrow (by simp) (fun k hk => by simp [Value.ownBlock] at hk; omega)
  try simp only [Nat.zero_add, List.nil_append] at hown'
  clear hgrow
  go_wp2_with fail
  go_ret
  exact ⟨v', rfl, hown', hB⟩

def bools (l : List Bool) : List Value := l.map .bool
set_option maxHeartbeats 1000000 in
set_option maxRecDepth 100000 in
/-- slices.Equal of two lists of bools of one length -/
theorem equal_bools (A A' : Option Addr) (c c' : Nat) (l l' : List Bool) (w : World) (hr : Row w w.heap.size A (bools l)) (hr' : Row w w.heap.size A' (bools l')) (hl : l.length ≤ 1000000) (hll : l'.length = l.length) :
    Calls Try.prog 69 #[.slice A l.length c, .slice A' l.length c'] w fun e w' => e = .returned (.bool (decide (l = l'))) ∧ Below w.heap.size w w' := by
  obtain ⟨R, hR⟩ : ∃ R, R = decide (l = l') := ⟨_, rfl⟩
  rw [← hR]
  have HR := Lib.hid hR
  have HLL := Lib.hid hll
  clear hR hll
  go_enter Try.func69, Try.ntmps69
  go_wp2_with fail
  go_loopw [5, 13] (fun _ i wr => ∃ k : Nat, k ≤ l.length ∧ i = .int .i64 (k : Int) ∧ Hid (∀ j, j < k → l[j]? = l'[j]?) ∧ Below w.heap.size w wr) (fun _ i _ => l.length - (intOf i).toNat)
  case atStart => exact ⟨0, by omega, rfl, fun j hj => by omega, Below.refl _ _⟩
  case round =>
    obtain ⟨k, hk, rfl, hall, hbr⟩ := hrel
    by_cases hlt : k < l.length
    · have hlt' : k < l'.length := by have := HLL.out; omega
      have hne : bools l ≠ [] := fun h => by have := congrArg List.length h; simp [bools] at this; rw [this] at hlt; simp at hlt
      have hne' : bools l' ≠ [] := fun h => by have := congrArg List.length h; simp [bools] at this; rw [this] at hlt'; simp at hlt'
      obtain ⟨b, o, rfl, hb, hcs⟩ := (hr.below hbr).open_ hne
      obtain ⟨b', o', rfl, hb', hcs'⟩ := (hr'.below hbr).open_ hne'
      have h1 := hcs k (.bool (l.getD k false)) (by simp [bools, List.getElem?_eq_getElem hlt])
      have h2 := hcs' k (.bool (l'.getD k false)) (by simp [bools, List.getElem?_eq_getElem hlt'])
      have k0 : (0 : Int) ≤ (k : Int) := by omega
      have k1 : (k : Int) < (l.length : Int) := by omega
      have HX : Hid (l.getD k false = l'.getD k false → ∀ j, j < k + 1 → l[j]? = l'[j]?) := fun h j hj => by
        by_cases e : j = k
        · subst e
          simp [List.getD, List.getElem?_eq_getElem hlt, List.getElem?_eq_getElem hlt'] at h
          rw [List.getElem?_eq_getElem hlt, List.getElem?_eq_getElem hlt', h]
        · exact hall.out j (by omega)
      have HN : Hid (l.getD k false ≠ l'.getD k false → R = false) := fun h => by
        rw [HR.out]
        exact decide_eq_false (fun e => h (by rw [e]))
      clear hcs hcs' hr hr' hne hne' hall
      generalize l.getD k false = x at *
      generalize l'.getD k false = y at *
      by_cases hxy : x = y
      · subst hxy
        have t1 : (x != x) = false := by simp
        have HA := Lib.hid (HX.out rfl)
        clear HX HN
        go_wp2_with fail
        go_quiet (fail)
        go_wp2_with fail
        go_roundw
        case rel => exact ⟨k + 1, by omega, by go_num, HA, below_drew hbr _⟩
        case measure => simp [intOf]; omega
      · have t1 : (x == y) = false := by simpa using hxy
        have HF := Lib.hid (HN.out hxy)
        clear HX HN
        go_wp2_with fail
        go_quiet (fail)
        go_wp2_with fail
        go_ret
        exact ⟨by rw [HF.out]; rfl, below_drew hbr _⟩
    · have HT : Hid (R = true) := by
        unfold Hid
        rw [HR.out]
        refine decide_eq_true (List.ext_getElem? fun j => ?_)
        by_cases hj : j < l.length
        · exact hall.out j (by omega)
        · rw [List.getElem?_eq_none (by omega), List.getElem?_eq_none (by have := HLL.out; omega)]
      clear hr hr' hall
      go_wp2_with fail
      go_ret
      exact ⟨by rw [HT.out]; rfl, hbr⟩

/-- which numbers from 1 to n are listed -/
def flagsL (lp : List Int) (n : Nat) : List Bool := (List.range n).map fun (i : Nat) => decide ((i : Int) + 1 ∈ lp)
theorem flagsL_len (lp : List Int) (n : Nat) : (flagsL lp n).length = n := by simp [flagsL]
theorem flagsL_get (lp : List Int) (n i : Nat) (h : i < n) : (flagsL lp n)[i]? = some (decide ((i : Int) + 1 ∈ lp)) := by
  simp [flagsL, h]
theorem flagsL_snoc (lp : List Int) (n : Nat) (y : Int) (h1 : 1 ≤ y) (h2 : y ≤ n) : flagsL (lp ++ [y]) n = (flagsL lp n).set (y - 1).toNat true := by
  refine List.ext_getElem? fun j => ?_
  by_cases hj : j < n
  · rw [flagsL_get _ _ _ hj, List.getElem?_set, flagsL_get _ _ _ hj, flagsL_len]
    by_cases e : (y - 1).toNat = j
    · rw [if_pos e, if_pos (by omega)]
      have : (j : Int) + 1 = y := by omega
      simp [this]
    · rw [if_neg e]
      have : ¬ (j : Int) + 1 = y := by omega
      simp [this]
  · rw [List.getElem?_eq_none (by rw [flagsL_len]; omega), List.getElem?_eq_none (by simp [flagsL_len]; omega)]
theorem infoBool : (Try.prog.info? 4).map (fun i => (i.zero, i.size, i.bytes)) = some (some (.bool false), 1, 1) := by kernel_rfl
theorem made_flags (n : Nat) : madeCells #[.bool false] n = (bools (flagsL [] n)).toArray := by
  apply Array.ext'
  simp [madeCells, bools, flagsL]
  intro a _
  rw [Nat.mod_one]
  rfl
theorem take_snoc (l : List Int) (k : Nat) (h : k < l.length) : l.take (k + 1) = l.take k ++ [l.getD k 0] := by
  rw [List.take_add_one, List.getElem?_eq_getElem h]
  simp [List.getD, List.getElem?_eq_getElem h]
theorem bools_set (l : List Bool) (i : Nat) (b : Bool) : (bools l).toArray.setIfInBounds i (.bool b) = (bools (l.set i b)).toArray := by
  simp [bools]

set_option maxHeartbeats 2000000 in
set_option maxRecDepth 100000 in
theorem flags_any (c : Cal) (w : World) (hr : CalIn w c) (n : Nat) (hn : c.cy = n) (hn2 : n ≤ 3000) (hlp : Inc c.lp 1 c.cy) :
    Calls Try.prog 68 #[c.val] w fun e w' => ∃ g, e = .returned (.slice (some ⟨g, 0, none⟩) n n) ∧ Box w' g 4 (bools (flagsL c.lp n)).toArray ∧ Below w.heap.size w w' := by
  obtain ⟨nm, ep, cy, mo, lp, A1, c1, A2, c2⟩ := c
  simp only at hn hlp ⊢
  subst hn
  have HB := Lib.hid (below_alloc1 w (Obj.cells #[.string nm, .int .i64 ep, .int .i64 (n : Int), .slice A1 mo.length c1, .slice A2 lp.length c2] 82))
  have HR := Lib.hid (hr.r2.next HB.out)
  have hln := hlp.len (by omega)
  have HLP := Lib.hid hlp
  have hmk := fun W => run_make_row' (P := Try.prog) 123 4 (.bool false) 1 Try.underlying123 infoBool rfl .i64 .i64 n (by omega) (by omega) W
  rw [made_flags] at hmk
  have htl : Hid (lp.take lp.length = lp) := List.take_length
  have HSZ : Hid ((w.alloc (Obj.cells #[.string nm, .int .i64 ep, .int .i64 (n : Int), .slice A1 mo.length c1, .slice A2 lp.length c2] 82)).heap.size = w.heap.size + 1) := World.size_alloc ..
  clear hr hlp
  go_enter Try.func68, Try.ntmps68
  go_wp2_with fail
  generalize w.alloc (Obj.cells #[.string nm, .int .i64 ep, .int .i64 (n : Int), .slice A1 mo.length c1, .slice A2 lp.length c2] 82) = W0 at *
  have hW0 : W0.heap.size = w.heap.size + 1 := HSZ.out
  have HBX := Lib.hid (Box.new W0 4 (bools (flagsL [] n)).toArray)
  rw [hW0] at HBX
  have hBF := below_alloc1 W0 (Obj.cells (bools (flagsL [] n)).toArray 4)
  generalize W0.alloc (Obj.cells (bools (flagsL [] n)).toArray 4) = W1 at *
  generalize hgF : w.heap.size + 1 = gF at *
  have HGF := Lib.hid hgF
  clear hgF hmk
  go_loopw [5, 12] (fun _ i wr => ∃ k : Nat, k ≤ lp.length ∧ i = .int .i64 (k : Int) ∧ Box wr gF 4 (bools (flagsL (lp.take k) n)).toArray ∧ Below W0.heap.size W0 wr) (fun _ i _ => lp.length - (intOf i).toNat)
  case atStart => exact ⟨0, by omega, rfl, HBX.out, hBF⟩
  case round =>
    obtain ⟨k, hk, rfl, hx, hbr⟩ := hrel
    by_cases hlt : k < lp.length
    · obtain ⟨b, o, rfl, hbl, hcs⟩ := (HR.out.below hbr).open_ (ints_ne lp (by omega))
      have hc := ints_cell hcs k hlt
      obtain ⟨⟨y1, y2⟩, _⟩ := HLP.out k hlt
      have hst := Lib.hid (take_snoc lp k hlt)
      generalize lp.getD k 0 = y at *
      obtain ⟨j, hj⟩ : ∃ j : Nat, y = (j : Int) + 1 := ⟨(y - 1).toNat, by omega⟩
      subst hj
      have hjn : j < n := by omega
      have hcj : wr.cell? ⟨gF, j, none⟩ = some (.bool (decide ((j : Int) + 1 ∈ lp.take k))) := by
        rw [hx.cell j]
        simp [bools, flagsL_get _ _ _ hjn]
      have hfj := hx.free j
      have e1 : IntKind.i64.wrap ((j : Int) + 1 - 1) = (j : Int) := by rw [show (j : Int) + 1 - 1 = (j : Int) from by omega]; exact intFits _ (by omega) (by omega)
      have k0 : (0 : Int) ≤ (j : Int) := by omega
      have k1 : (j : Int) < (n : Int) := by omega
      have hx2 : Hid (Box (wr.setCell ⟨gF, j, none⟩ (.bool true)) gF 4 (bools (flagsL (lp.take (k + 1)) n)).toArray) := by
        have := hx.set_ j (.bool true)
        rw [bools_set, show j = ((j : Int) + 1 - 1).toNat from by omega, ← flagsL_snoc _ _ _ (by omega) (by omega), ← hst.out] at this
        rwa [show ((j : Int) + 1 - 1).toNat = j from by omega] at this
      have hb2 : Below W0.heap.size W0 (wr.setCell ⟨gF, j, none⟩ (.bool true)) := hbr.setCell (p := ⟨gF, j, none⟩) (by show W0.heap.size ≤ gF; have := HGF.out; omega) _
      clear hcs hx hbr
      go_wp2_with fail
      go_roundw
      case rel => exact ⟨k + 1, by omega, by go_num, hx2.out, hb2⟩
      case measure => simp [intOf]; omega
    · obtain rfl : k = lp.length := by omega
      rw [htl.out] at hx
      go_wp2_with fail
      go_ret
      exact ⟨gF, rfl, hx, below_then HB.out hbr⟩
end Go.Proofs.Ytfindembancjdaa
