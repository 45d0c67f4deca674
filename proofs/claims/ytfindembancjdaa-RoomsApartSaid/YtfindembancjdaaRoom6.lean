/- Contract of rooms.New; slices.Clone, Contains at []string. -/
import Derived.Test.YtfindembancjdaaRoom3
import Derived.Test.YtfindembancjdaaSlice1
import Derived.Test.YtfindembancjdaaFlow2
namespace Go.Proofs.Ytfindembancjdaa
open Go.RowKit Go.Lib
set_option linter.unusedVariables false

theorem infoStr : (Try.prog.info? 9).map (fun i => (i.zero, i.size, i.bytes)) = some (some (.string ⟨#[]⟩), 1, 16) := by kernel_rfl
theorem strs_one (l : List ByteArray) : ∀ u ∈ strs l, u.oneCell' = true := fun u hu => by
  obtain ⟨x, _, rfl⟩ := List.mem_map.1 hu; rfl
theorem strs_length (l : List ByteArray) : (strs l).length = l.length := by simp [strs]
theorem strs_ne (l : List ByteArray) (h : 0 < l.length) : strs l ≠ [] := fun e => by
  have := congrArg List.length e; simp [strs] at this; rw [this] at h; simp at h

set_option maxHeartbeats 2000000 in
set_option maxRecDepth 100000 in
/-- Clone of a slice that is not empty -/
theorem clone_strs (A : Option Addr) (c : Nat) (l : List ByteArray) (w : World) (hr : Row w w.heap.size A (strs l)) (h0 : 0 < l.length) (hn : l.length ≤ 1000000) :
    Calls Try.prog 54 #[.slice A l.length c] w fun e w' => ∃ v, e = .returned v ∧ w'.ownsRow w.heap.size 9 1 v l.length (strs l) ∧ Below w.heap.size w w' := by
  obtain ⟨i0, hi0, hz0, hz1, hz2⟩ := info_parts infoStr
  obtain ⟨b, o, rfl, hb, hcs⟩ := hr.open_ (strs_ne l h0)
  have HN := Lib.hid (row_news (w := w.alloc (.cells #[] 9)) (fun j v hv => (World.cell?_alloc_lt w _ ⟨b, o + j, none⟩ hb).trans (hcs j v hv)))
  have HO : Hid ((w.alloc (.cells #[] 9)).ownsRow w.heap.size 9 1 (.slice (some ⟨w.heap.size, 0, none⟩) 0 0) 0 []) := World.ownsRow_made w #[] 0 (Nat.le_refl _) (by unfold maxLen; omega) (by simp)
  have hil := Lib.hid (strs_length l)
  clear hcs hr
  have hnil : ∀ w, (binOp .eql 53 (.slice (some ⟨b, o, none⟩) l.length c) (.slice none 0 0)).run Try.prog w = .ok (.bool false) w := fun w => Lib.run_eql_slice_nil w 53 _ _ _ _ _ _ Try.underlying53
  go_enter Try.func54, Try.ntmps54
  go_wp2_with (at_builtin; refine wpList_append_own _ rfl (.tmp 5) (.tmp 6) 53 rfl w.heap.size 9 i0 (.string ⟨#[]⟩) 1 16 Try.underlying53 hi0 hz0 hz1 hz2 rfl (by decide) _ 0 [] rfl HO.out ⟨b, o, none⟩ l.length c (strs l) rfl ?c0 ?c1 ?c2 ?c3 ?c4 ?c5 ?_)
  case c0 => rw [hil.out]; omega
  case c1 => exact HN.out
  case c2 => exact strs_one l
  case c3 => simp only [maxLen]; omega
  case c4 => omega
  case c5 => simp
  intro v' w3 hown' hgrow _
  have hB : Below w.heap.size w w3 := (below_alloc1 w _).grown hgrow (by simp) (fun k hk => by simp [Value.ownBlock] at hk; omega)
  try simp only [Nat.zero_add, List.nil_append] at hown'
  clear hgrow
  go_wp2_with fail
  go_ret
  exact ⟨v', rfl, hown', hB⟩

set_option maxRecDepth 100000 in
theorem contains_strs (A : Option Addr) (c : Nat) (l : List ByteArray) (x : ByteArray) (w : World) (hr : Row w w.heap.size A (strs l)) (hl : l.length ≤ 1000000) (hno : ∀ j, j < l.length → (x.toList == (l.getD j bs0).toList) = false) :
    Calls Try.prog 53 #[.slice A l.length c, .string x] w fun e w' => e = .returned (.bool false) ∧ w = w' := by
  have HI := Lib.hid (index_strs A c l x w hr hl)
  have HN := Lib.hid hno
  clear hno hr
  go_enter Try.func53, Try.ntmps53
  go_wp2_with fail
  refine HI.out.mono ?_
  rintro e w' ⟨i, rfl, hi, rfl⟩
  have h1 : i = -1 := by
    rcases hi with ⟨h, _⟩ | ⟨k, rfl, hk, ht, _⟩
    · exact h
    · rw [HN.out k hk] at ht; cases ht
  subst h1
  clear hi
  go_wp2_with fail
  go_ret
  exact ⟨rfl, rfl⟩

theorem infoBks : (Try.prog.info? 49).map (fun i => (i.zero, i.size, i.bytes)) = some (some (.slice none 0 0), 1, 24) := by kernel_rfl
theorem made_nils (n : Nat) : madeCells #[.slice none 0 0] n = (List.replicate n (Value.slice none 0 0)).toArray := by
  apply Array.ext
  · simp [madeCells]
  intro i h1 h2
  simp [madeCells, Nat.mod_one]
structure NmsOk (nms : List ByteArray) : Prop where
  n1 : 1 ≤ nms.length
  n2 : nms.length ≤ 20
  ok : ∀ k, k < nms.length → NameOk (nms.getD k bs0)
  no : ∀ k j, j < k → k < nms.length → ((nms.getD k bs0).toList == (nms.getD j bs0).toList) = false

def NewQ (nms : List ByteArray) (w : World) (e : Ending) (w' : World) : Prop := ∃ (g gB : Nat) (An : Option Addr) (cn : Nat), w.heap.size ≤ g ∧ w.heap.size ≤ gB ∧ e = .returned (.tuple #[.pointer (some ⟨g, 0, none⟩), .int .i64 0]) ∧ Rms w' w.heap.size g gB An cn nms (List.replicate nms.length (.slice none 0 0)) (List.replicate nms.length []) ∧ Below w.heap.size w w'

set_option maxHeartbeats 1000000 in
set_option maxRecDepth 100000 in
theorem roomsNew_any (A : Option Addr) (c : Nat) (nms : List ByteArray) (w : World) (hr : Row w w.heap.size A (strs nms)) (hok : NmsOk nms) (hcn : nms.length ≤ c) (hc : (c : Int) ≤ 9223372036854775807) :
    Calls Try.prog 22 #[.slice A nms.length c] w (NewQ nms w) := by
  have n1 := hok.n1
  have n2 := hok.n2
  have HK := Lib.hid hok
  clear hok
  go_enter Try.func22, Try.ntmps22
  go_wp2_with fail
  go_loop [4, 5, 16] (fun _ _ i => ∃ k : Nat, k ≤ nms.length ∧ i = .int .i64 (k : Int)) (fun _ _ i => nms.length - (intOf i).toNat)
  case atStart => exact ⟨0, by omega, rfl⟩
  case round =>
    obtain ⟨k, hk, rfl⟩ := hrel
    by_cases hlt : k < nms.length
    · obtain ⟨b, o, rfl, hb, hcs⟩ := hr.open_ (strs_ne nms (by omega))
      have hck := hcs k (.string (nms.getD k bs0)) (by simp [strs, List.getElem?_eq_getElem hlt])
      have HN := Lib.hid (isName_any (nms.getD k bs0) w (by have := (HK.out.ok k hlt).2.1; unfold maxLen; omega))
      have HNO := Lib.hid (HK.out.ok k hlt)
      have HC := Lib.hid (contains_strs (some ⟨b, o, none⟩) c (nms.take k) (nms.getD k bs0) w (.inr ⟨b, o, rfl, hb, fun j v hv => hcs j v (by
        simp only [strs, List.map_take, List.getElem?_take] at hv
        split at hv
        · exact hv
        · cases hv)⟩) (by simp; omega) (fun j hj => by
        have hjk : j < k := by simp at hj; omega
        have := HK.out.no k j hjk hlt
        rwa [show (nms.take k).getD j bs0 = nms.getD j bs0 from by simp [List.getD, hjk]]))
      rw [show (nms.take k).length = k from by simp; omega] at HC
      clear hcs
      generalize nms.getD k bs0 = y at *
      have k0 : (0 : Int) ≤ (k : Int) := by omega
      have k1 : (k : Int) < (nms.length : Int) := by omega
      have k2 : (k : Int) ≤ (nms.length : Int) := by omega
      have k3 : (k : Int) ≤ (c : Int) := by omega
      go_wp2_with fail
      refine HN.out.mono ?_
      rintro e w' ⟨bb, rfl, hbb, rfl⟩
      obtain rfl : bb = true := hbb.2 HNO.out
      clear hbb
      go_wp2_with fail
      refine HC.out.mono ?_
      rintro e w' ⟨rfl, rfl⟩
      go_wp2_with fail
      go_round
      case rel => exact ⟨k + 1, by omega, by go_num⟩
      case measure => simp [intOf]; omega
    · obtain rfl : k = nms.length := by omega
      have HCl := Lib.hid (fun W (hb : Below w.heap.size w W) => clone_strs A c nms W (hr.next hb) (by omega) (by omega))
      go_wp2_with fail
      have hmk : ∀ W, (Instr.makeSlice 109 (.int .i64 (nms.length : Int)) (.int .i64 (nms.length : Int))).run Try.prog W = .ok (.slice (some ⟨W.heap.size, 0, none⟩) nms.length nms.length) (W.alloc (.cells (List.replicate nms.length (Value.slice none 0 0)).toArray 49)) := fun W => by
        obtain ⟨i0, hi0, hz0, hz1, hz2⟩ := info_parts infoBks
        have := run_make (P := Try.prog) W 109 49 i0 (.slice none 0 0) Try.underlying109 hi0 hz0 .i64 .i64 (nms.length : Int) (nms.length : Int) (by omega) (by omega) (by rw [hz2]; omega) (by omega)
        rw [hz1, Int.toNat_natCast, Nat.mul_one, show (Value.slice none 0 0).cells = #[.slice none 0 0] from rfl, made_nils] at this
        exact this
      generalize hwB : w.heap.size = B at *
      refine flow_begin_tail 7 (tellOf [(1, ⟨fun v => ∃ A' c', v = .slice A' nms.length c', fun v W => W.ownsRow B 9 1 v nms.length (strs nms)⟩)]) (by kernel_rfl) (by kernel_rfl) ?_
      simp only [List.take_succ_cons, List.take_zero, List.drop_succ_cons, List.drop_zero]
      repeat (first | (refine flow_val (v := ?_) (by rfl) (by rfl) (fun w hb => ?_) ?_; rotate_left; (· ((go_simp) <;> ((repeat' apply And.intro) <;> with_reducible rfl))); try simp only [Act.put, List.setIfInBounds_toArray, List.set_cons_zero, List.set_cons_succ, Nat.reduceAdd]) | (refine flow_skip (by rfl) (by rfl) ?_; try simp only [Act.put, List.setIfInBounds_toArray, List.set_cons_zero, List.set_cons_succ, Nat.reduceAdd]))
      refine flow_told (f := ?_) (args := ?_) [] (by kernel_rfl) (by rfl) (by rfl) ?_ ?_ (fun w hb => ?_) (fun w hb hu => ?_) ?_; rotate_left 4; (· ((go_simp) <;> ((repeat' apply And.intro) <;> with_reducible rfl)))
      · refine (HCl.out w (by rw [← hwB]; exact hb)).mono ?_
        rintro e w' ⟨v, he, ho, hb'⟩
        obtain ⟨A', c', hv', _, _⟩ := own_form ho
        exact ⟨v, he, ⟨A', c', hv'⟩, own_lower ho (by have := hb.size; omega), hb'⟩
      · rintro v ⟨A1, c1, rfl⟩
        try simp only [Act.put, List.setIfInBounds_toArray, List.set_cons_zero, List.set_cons_succ, Nat.reduceAdd]
        repeat (first | (refine flow_val (v := ?_) (by rfl) (by rfl) (fun w hb => ?_) ?_; rotate_left; (· ((go_simp) <;> ((repeat' apply And.intro) <;> with_reducible rfl))); try simp only [Act.put, List.setIfInBounds_toArray, List.set_cons_zero, List.set_cons_succ, Nat.reduceAdd]) | (refine flow_skip (by rfl) (by rfl) ?_; try simp only [Act.put, List.setIfInBounds_toArray, List.set_cons_zero, List.set_cons_succ, Nat.reduceAdd]))
        refine flow_lits (n := ?_) (c := ?_) (t := ?_) (cs := ?_) (by rfl) (by rfl) (fun w hb => ?_) (fun gB hgB => ?_); rotate_left 4; (· ((go_simp) <;> ((repeat' apply And.intro) <;> with_reducible rfl))); try simp only [Act.put, List.setIfInBounds_toArray, List.set_cons_zero, List.set_cons_succ, Nat.reduceAdd]
        repeat (first | (refine flow_val (v := ?_) (by rfl) (by rfl) (fun w hb => ?_) ?_; rotate_left; (· ((go_simp) <;> ((repeat' apply And.intro) <;> with_reducible rfl))); try simp only [Act.put, List.setIfInBounds_toArray, List.set_cons_zero, List.set_cons_succ, Nat.reduceAdd]) | (refine flow_skip (by rfl) (by rfl) ?_; try simp only [Act.put, List.setIfInBounds_toArray, List.set_cons_zero, List.set_cons_succ, Nat.reduceAdd]))
        refine flow_box (t := ?_) (cs := ?_) (by rfl) (by rfl) (fun w hb => ?_) (fun gR hgR => ?_); rotate_left 2; (· ((go_simp) <;> ((repeat' apply And.intro) <;> with_reducible rfl))); try simp only [Act.put, List.setIfInBounds_toArray, List.set_cons_zero, List.set_cons_succ, Nat.reduceAdd]
        refine flow_nil fun w1 hb1 hf => ?_
        have hx := Lib.hid hf.1
        have hbk := Lib.hid hf.2.1
        have hnm := Lib.hid hf.2.2.1
        have HB1 := Lib.hid hb1
        have hw0 := Lib.hid hwB
        clear hf hb1 hmk hwB
        go_wp2_with fail
        go_ret2
        have HL : ∀ k, k < nms.length → (List.replicate nms.length (Value.slice none 0 0)).getD k undef = .slice none 0 0 := fun k hk => by simp [List.getD, hk]
        have hB := hw0.out
        subst hB
        refine ⟨gR, gB, A1, c1, hgR, hgB, rfl, ⟨hx.out, hnm.out, ?_, by simp, by simp, fun k hk => ?_, fun i j b hi hj hij h => by rw [HL i hi] at h; cases h⟩, HB1.out⟩
        · simpa using hbk.out
        · rw [HL k hk, show (List.replicate nms.length ([] : List Bk)).getD k [] = [] from by simp [List.getD, hk]]
          exact ⟨rfl, .inl ⟨rfl, rfl⟩⟩
      · exact ⟨.slice none nms.length 0, none, 0, rfl⟩
      · exact fun v w w' hb ho => own_next ho hb
end Go.Proofs.Ytfindembancjdaa
