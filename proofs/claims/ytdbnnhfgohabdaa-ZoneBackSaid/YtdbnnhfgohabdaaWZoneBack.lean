/- The walk of ZoneBack: it returns true at every input; it writes nothing that was there. -/
import Derived.Test.YtdbnnhfgohabdaaZone3
import Derived.Test.YtdbnnhfgohabdaaZoneArg
namespace Go.Proofs.Ytdbnnhfgohabdaa.zoneBack
open Go.RowKit
set_option linter.unusedVariables false

theorem base_ok : ZoneOk ⟨#[98, 97, 115, 101]⟩ 3600000 [] := by
  refine ⟨⟨by decide, by decide, by rw [ByteArray.toList_eq]; decide, by rw [ByteArray.toList_eq]; decide, by rw [ByteArray.toList_eq]; decide, by rw [ByteArray.toList_eq]; decide, ?_⟩, ⟨by decide, by decide, by decide⟩, by decide, fun i hi => by simp at hi⟩
  intro k hk
  match k, hk with
  | 0, _ | 1, _ | 2, _ | 3, _ => decide +revert
theorem base_inst : instL (0 * 86400000 + 3600000) 3600000 [] 1 = [0] := by decide

set_option maxHeartbeats 2000000 in
set_option maxRecDepth 100000 in
theorem core (nm : ByteArray) (first : Int) (A : Option Addr) (c : Nat) (chs : List Chg) (t : Int) (w : World) (hz : ZIn w nm A chs) (h0 : -9223372036854775808 ≤ t) (h0' : t ≤ 9223372036854775807) :
    Calls Try.prog 10 #[.agg #[.string nm, .int .i64 first, .slice A chs.length c], .int .i64 t] w fun e w' => e = .returned (.bool true) ∧ Below w.heap.size w w' := by
  have HBase := Lib.hid (fun w hz => zinst_yes ⟨#[98, 97, 115, 101]⟩ 3600000 none 0 [] 0 3600000 w hz base_ok (by omega) (by omega) (by omega) (by omega))
  rw [show ([] : List Chg).length + 1 = 1 from rfl, base_inst] at HBase
  go_enter Try.func10, Try.ntmps10
  go_wp2_with fail
  refine (HBase.out _ ⟨.inl rfl, by decide, by decide, fun x hx => by cases hx⟩).mono ?_
  rintro e w1 ⟨P, cp, rfl, hP, hb1⟩
  have hB := below_next (below_alloc1 w _) hb1
  have hx := ((Box.new w 57 #[.string nm, .int .i64 first, .slice A chs.length c]).alloc _).below hb1
  replace hz := ((hz.alloc _).alloc _).next hb1
  clear hb1 HBase
  obtain ⟨bp, op, rfl, hbp, hcp⟩ := hP.open_ (by simp [ints])
  have y0 : w1.cell? ⟨bp, op, none⟩ = some (.int .i64 0) := by simpa using hcp 0 (.int .i64 0) rfl
  have x0 : w1.cell? ⟨w.heap.size, 0, none⟩ = some (.string nm) := hx.cell 0
  have x1 : w1.cell? ⟨w.heap.size, 1, none⟩ = some (.int .i64 first) := hx.cell 1
  have x2 : w1.cell? ⟨w.heap.size, 2, none⟩ = some (.slice A chs.length c) := hx.cell 2
  clear hcp hP
  go_wp2_with fail
  clear y0 hbp
  by_cases hok : ZoneOk nm first chs ∧ InstOk t
  case neg =>
    refine (zlocal_no nm first A c chs t _ hz hok h0 h0').mono ?_
    rintro e w2 ⟨E, hE, rfl, hb2⟩
    have t1 : (E != 0) = true := by rw [bne_iff_ne]; exact hE
    clear hE x0 x1 x2
    go_wp2_with fail
    go_ret
    exact ⟨rfl, below_then hB hb2⟩
  obtain ⟨hok, ht⟩ := hok
  refine (zlocal_yes nm first A c chs t _ hz hok ht).mono ?_
  rintro e w2 ⟨rfl, hb2⟩
  have ho := off_in hok (seg chs t) (seg_le chs t)
  change -64800000 ≤ offAt first chs t ∧ offAt first chs t ≤ 64800000 ∧ offAt first chs t % 1000 = 0 at ho
  have Hlo : Hid (t + offAt first chs t = t + offAt first chs t) := rfl
  replace hB := below_then hB hb2
  replace hx := hx.below hb2
  replace hz := hz.next hb2
  clear hb2 x0 x1 x2
  have x0 : w2.cell? ⟨w.heap.size, 0, none⟩ = some (.string nm) := hx.cell 0
  have x1 : w2.cell? ⟨w.heap.size, 1, none⟩ = some (.int .i64 first) := hx.cell 1
  have x2 : w2.cell? ⟨w.heap.size, 2, none⟩ = some (.slice A chs.length c) := hx.cell 2
  obtain ⟨lo, hlo⟩ : ∃ lo, t + offAt first chs t = lo := ⟨_, rfl⟩
  rw [hlo]
  have HLO := Lib.hid hlo
  clear hlo Hlo
  by_cases hr : -345600000000000 ≤ lo ∧ lo < 345600086400000
  case neg =>
    rw [show splitV lo = .tuple #[.int .i64 0, .int .i64 0, .int .i64 3] from if_neg hr]
    go_wp2_with fail
    go_ret
    exact ⟨rfl, hB⟩
  have hsv : splitV lo = .tuple #[.int .i64 (lo / 86400000), .int .i64 (lo % 86400000), .int .i64 0] := if_pos hr
  rw [hsv]
  have HSV := Lib.hid hsv
  clear hsv
  have HI := Lib.hid (fun w hz => zinst_yes nm first A c chs (lo / 86400000) (lo % 86400000) w hz hok (by omega) (by omega) (by omega) (by omega))
  rw [show lo / 86400000 * 86400000 + lo % 86400000 = lo from by omega] at HI
  -- what is known of the instants
  have hsort : Sorted chs := fun i h1 h2 => (hok.2.2.2 i h2).2.2.2 h1
  have HL1 : Hid (∀ x ∈ instL lo first chs (chs.length + 1), InstOk x ∧ x + offAt first chs x = lo) := fun x hx => by
    obtain ⟨i, hi, hb, he⟩ := (instL_mem lo first chs _ x).1 hx
    obtain ⟨h1, h2⟩ := (instB_iff lo first chs i).1 hb
    rw [← he] at h1 h2
    refine ⟨h1, ?_⟩
    unfold offAt
    rw [seg_eq hsort i (by omega) x h2]
    omega
  have HL2 := Lib.hid (instL_sorted lo first chs hsort (chs.length + 1) (Nat.le_refl _))
  have HL3 : Hid (t ∈ instL lo first chs (chs.length + 1)) := by
    refine (instL_mem lo first chs _ t).2 ⟨seg chs t, by have := seg_le chs t; omega, ?_, ?_⟩
    · rw [instB_iff]
      have e : lo - offI first chs (seg chs t) = t := by have := HLO.out; unfold offAt at this; omega
      rw [e]
      exact ⟨ht, inSeg_seg chs t⟩
    · have := HLO.out; unfold offAt at this; omega
  have HLn := Lib.hid (instL_length lo first chs (chs.length + 1))
  have hlen : (instL lo first chs (chs.length + 1)).length ≤ 201 := by have := HLn.out; have := hok.2.2.1; omega
  have HLoc := Lib.hid (fun x w hz (h : InstOk x) => zlocal_yes nm first A c chs x w hz hok h)
  clear hsort HLn hok
  generalize instL lo first chs (chs.length + 1) = L at *
  go_wp2_with fail
  refine (HI.out _ hz).mono ?_
  rintro e w3 ⟨P, cp, rfl, hP, hb3⟩
  replace hB := below_then hB hb3
  replace hx := hx.below hb3
  replace hz := hz.next hb3
  clear hb3 x0 x1 x2 HI
  go_wp2_with fail
  generalize lo / 86400000 = day at *
  generalize lo % 86400000 = ms at *
  have hxl := hx.lt
  go_loopw [12, 13, 14, 15, 16, 17, 55] (fun f _ _ _ _ _ i wr => ∃ (k : Nat) (fb : Bool), k ≤ L.length ∧ i = .int .i64 k ∧ f = .bool fb ∧ Hid (fb = true ↔ t ∈ L.take k) ∧ Below w3.heap.size w3 wr) (fun _ _ _ _ _ _ i _ => L.length - (intOf i).toNat)
  case atStart => exact ⟨0, false, by omega, rfl, rfl, (by simp [Hid]), Below.refl _ _⟩
  case round =>
    obtain ⟨k, fb, hk, rfl, rfl, hfb, hbr⟩ := hrel
    have hBw := Lib.hid (below_then hB hbr)
    have hzr := hz.next hbr
    have hxr := hx.belowB hbr hxl
    by_cases hlt : k < L.length
    · obtain ⟨bp, op, rfl, hbp, hcp⟩ := hP.open_ (ints_ne L (by omega))
      have hcp' : ∀ i, i < L.length → wr.cell? ⟨bp, op + i, none⟩ = some (.int .i64 (L.getD i 0)) := fun i hi => (hbr.cell (p := ⟨bp, op + i, none⟩) hbp).trans (ints_cell hcp i hi)
      have y0 := hcp' k hlt
      have hprev : 0 < k → wr.cell? ⟨bp, op + (k - 1), none⟩ = some (.int .i64 (L.getD (k - 1) 0)) := fun h => hcp' (k - 1) (by omega)
      have hmem : L.getD k 0 ∈ L := by simp [List.getD, List.getElem?_eq_getElem hlt]
      obtain ⟨e1, e2⟩ := HL1.out _ hmem
      have hs : 0 < k → L.getD (k - 1) 0 < L.getD k 0 := fun h => HL2.out (k - 1) k (by omega) hlt
      have htk : Hid (L.take (k + 1) = L.take k ++ [L.getD k 0]) := by
        show L.take (k + 1) = _
        rw [List.take_succ_eq_append_getElem hlt]; simp [List.getD, List.getElem?_eq_getElem hlt]
      have x0 : wr.cell? ⟨w.heap.size, 0, none⟩ = some (.string nm) := hxr.cell 0
      have x1 : wr.cell? ⟨w.heap.size, 1, none⟩ = some (.int .i64 first) := hxr.cell 1
      have x2 : wr.cell? ⟨w.heap.size, 2, none⟩ = some (.slice A chs.length c) := hxr.cell 2
      have HLk := Lib.hid (HLoc.out (L.getD k 0) wr hzr e1)
      rw [e2, HSV.out] at HLk
      clear e1 e2 hmem hcp hcp'
      generalize L.getD k 0 = x at *
      have HPv := Lib.hid hprev
      have HSs := Lib.hid hs
      clear hprev hs
      go_wp2_with fail
      refine (HLk.out).mono ?_
      rintro e w4 ⟨rfl, hb4⟩
      have hb5 := hbr.trans (hb4.mono hbr.size)
      have HPv4 : Hid (0 < k → w4.cell? ⟨bp, op + (k - 1), none⟩ = some (.int .i64 (L.getD (k - 1) 0))) := fun h => (hb4.cell (p := ⟨bp, op + (k - 1), none⟩) (Nat.lt_of_lt_of_le hbp hbr.size)).trans (HPv.out h)
      clear HPv HLk x0 x1 x2 y0 hb4
      have td : (day != day) = false := by simp
      have tm : (ms != ms) = false := by simp
      by_cases k0 : k = 0
      · subst k0
        have t0 : decide ((0 : Int) < 0) = false := by decide
        cases fb with
        | true =>
          go_wp2_with fail
          go_roundw
          case rel => exact ⟨0 + 1, true, by omega, by go_num, rfl, ⟨fun _ => by rw [htk.out]; exact List.mem_append_left _ (hfb.out.1 (by trivial)), fun _ => rfl⟩, hb5⟩
          case measure => simp [intOf] <;> omega
        | false =>
          by_cases hxt : x = t
          · have tx : (x == t) = true := beq_iff_eq.2 hxt
            have Hxt := Lib.hid hxt
            clear hxt
            go_wp2_with fail
            go_roundw
            case rel => exact ⟨0 + 1, true, by omega, by go_num, rfl, ⟨fun _ => by rw [htk.out, Hxt.out]; simp, fun _ => rfl⟩, hb5⟩
            case measure => simp [intOf] <;> omega
          · have tx : (x == t) = false := beq_eq_false_iff_ne.2 hxt
            have Hxt := Lib.hid hxt
            clear hxt
            go_wp2_with fail
            go_roundw
            case rel => exact ⟨0 + 1, false, by omega, by go_num, rfl, ⟨(fun h => by cases h), fun h => by
              rw [htk.out, List.mem_append] at h
              rcases h with h | h
              · exact hfb.out.2 h
              · simp at h; exact absurd h.symm Hxt.out⟩, hb5⟩
            case measure => simp [intOf] <;> omega
      · obtain ⟨m, rfl⟩ : ∃ m, k = m + 1 := ⟨k - 1, by omega⟩
        have y1 := HPv4.out (by omega)
        have hlt2 := HSs.out (by omega)
        rw [Nat.add_sub_cancel] at y1 hlt2
        generalize L.getD m 0 = px at *
        have t0 : decide ((0 : Int) < (m : Int) + 1) = true := decide_eq_true (by omega)
        have t2 : decide (x ≤ px) = false := decide_eq_false (by omega)
        clear HPv4 HSs k0
        cases fb with
        | true =>
          go_wp2_with fail
          go_roundw
          case rel => exact ⟨m + 1 + 1, true, by omega, by go_num, rfl, ⟨fun _ => by rw [htk.out]; exact List.mem_append_left _ (hfb.out.1 (by trivial)), fun _ => rfl⟩, hb5⟩
          case measure => simp [intOf] <;> omega
        | false =>
          by_cases hxt : x = t
          · have tx : (x == t) = true := beq_iff_eq.2 hxt
            have Hxt := Lib.hid hxt
            clear hxt
            go_wp2_with fail
            go_roundw
            case rel => exact ⟨m + 1 + 1, true, by omega, by go_num, rfl, ⟨fun _ => by rw [htk.out, Hxt.out]; simp, fun _ => rfl⟩, hb5⟩
            case measure => simp [intOf] <;> omega
          · have tx : (x == t) = false := beq_eq_false_iff_ne.2 hxt
            have Hxt := Lib.hid hxt
            clear hxt
            go_wp2_with fail
            go_roundw
            case rel => exact ⟨m + 1 + 1, false, by omega, by go_num, rfl, ⟨(fun h => by cases h), fun h => by
              rw [htk.out, List.mem_append] at h
              rcases h with h | h
              · exact hfb.out.2 h
              · simp at h; exact absurd h.symm Hxt.out⟩, hb5⟩
            case measure => simp [intOf] <;> omega
    · have Hall : Hid (fb = true) := hfb.out.2 (by rw [List.take_of_length_le (by omega)]; exact HL3.out)
      obtain rfl : fb = true := Hall.out
      go_wp2_with fail
      go_ret
      exact ⟨rfl, hBw.out⟩

set_option maxRecDepth 100000 in
theorem walk {H : Type} {enc : TypeId × Value → H} {base : Nat} {W : World} (v0 : Value) (d0 : DataW H) (p0 : List MemPlace) (hv : Value.okWide Try.prog W .any base 57 v0)
    (h0 : DataW.Trod enc Try.prog W 0 (fun _ => true) true 57 v0 d0 p0) (a1 : Int) (w1 : (Lit.int .i64 a1).wf = true) :
    Calls Try.prog 10 #[v0, .int .i64 a1] W fun e W' => e = .returned (.bool true) ∧ Below W.heap.size W W' := by
  obtain ⟨nm, first, A, chs, c, rfl, hz⟩ := zone_open hv h0
  exact core nm first A c chs a1 W hz (wf_bounds w1).1 (wf_bounds w1).2
end Go.Proofs.Ytdbnnhfgohabdaa.zoneBack
