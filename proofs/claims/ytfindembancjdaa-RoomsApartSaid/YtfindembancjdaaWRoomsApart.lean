/- The walk of RoomsApart: it returns true at every input; it writes nothing that was there. -/
import Derived.Test.YtfindembancjdaaBkArg
import Derived.Test.YtfindembancjdaaRoom9
import Derived.Deep.DeepCutAuto
namespace Go.Proofs.Ytfindembancjdaa.roomsApart
open Go.RowKit
set_option linter.unusedVariables false

/-- the names -/
abbrev N1 : List ByteArray := [nOne]
def nA : ByteArray := ⟨#[97]⟩
theorem a_nok : NameOk nA := by
  refine ⟨by decide, by decide, by rw [nA, Lib.toList_data]; decide, by rw [nA, Lib.toList_data]; decide, by rw [nA, Lib.toList_data]; decide, by rw [nA, Lib.toList_data]; decide, fun k hk => ?_⟩
  have : k = 0 := by
    have : nA.size = 1 := by decide
    omega
  subst this
  decide +revert
theorem idx1 : IdxS N1 nOne ((0 : Nat) : Int) := .inr ⟨0, rfl, by decide, by simp, fun j hj => by omega⟩
def bkA : Bk := ⟨nOne, 5, 6, nA⟩
theorem bkA_ok : BookOk ([[]].getD 0 []) bkA := ⟨a_nok, ⟨⟨by decide, by decide⟩, ⟨by decide, by decide⟩, by decide⟩, rfl, by decide⟩
theorem apart_at : ∀ (l : List Bk) (i : Nat), Apart l → i < l.length → (l.getD i bk0).fr < (l.getD i bk0).to ∧ (0 < i → (l.getD (i - 1) bk0).to ≤ (l.getD i bk0).fr)
  | b :: l, 0, h, _ => ⟨h.1, fun h => by omega⟩
  | b :: l, i + 1, h, hi => by
    have ih := apart_at l i h.2.2 (by simpa using hi)
    refine ⟨by simpa using ih.1, fun _ => ?_⟩
    cases i with
    | zero =>
      have hl : 0 < l.length := by simpa using hi
      have : l.getD 0 bk0 ∈ l := getD_mem bk0 l 0 hl
      simpa using h.2.1 _ this
    | succ i => simpa using ih.2 (by omega)

set_option maxHeartbeats 4000000 in
set_option maxRecDepth 100000 in
theorem core (A : Option Addr) (c : Nat) (l : List Bk) (x z : Int) (w : World) (hr : Row w w.heap.size A (l.flatMap bkF)) (hlc : l.length ≤ c) (hcm : c ≤ maxLen) (hf : ∀ b ∈ l, BkFit b)
    (h1 : -9223372036854775808 ≤ x) (h2 : x ≤ 9223372036854775807) (h3 : -9223372036854775808 ≤ z) (h4 : z ≤ 9223372036854775807) :
    Calls Try.prog 7 #[.slice A l.length c, .int .i64 x, .int .i64 z] w fun e w' => e = .returned (.bool true) ∧ Below w.heap.size w w' := by
  have hB1 := Lib.hid (below_alloc1 w (Obj.cells #[.string nOne] 9))
  have hX := Box.new w 9 #[.string nOne]
  have HNEW := Lib.hid (roomsNew_any (some ⟨w.heap.size, 0, none⟩) 1 N1 (w.alloc (Obj.cells #[.string nOne] 9)) (.inr ⟨w.heap.size, 0, rfl, by simp, fun j v hv => by
    rw [Nat.zero_add, hX.cell j, ← hv]; simp [strs]⟩) nms1 (by decide) (by decide))
  have HR := Lib.hid (hr.next hB1.out)
  have HF := Lib.hid hf
  unfold maxLen at hcm
  clear hr hf hX
  go_enter Try.func7, Try.ntmps7
  go_upto_region 2 with (go_at_call 22; refine HNEW.out.mono ?_; rintro e w1 ⟨g, gB, An, cn, hg, hgB, rfl, hRm, hb⟩)
  generalize hwB : (w.alloc (Obj.cells #[.string nOne] 9)).heap.size = B at *
  have HB := Lib.hid (hB1.out.trans (hb.mono (by have := hB1.out.size; omega)))
  have HR0 : Hid (∀ W, Below B w1 W → B ≤ W.heap.size → Row W W.heap.size A (l.flatMap bkF)) := fun W hW hz => (HR.out.below (hb.trans hW)).more hz
  have hbs := hb.size
  have HBK := Lib.hid (book_any bkA w1 hRm (by decide) hgB (by omega) (fun k => by have := (RInv.nil 1).len k; have h : (List.replicate 1 ([] : List Bk)).getD k [] = [] := by { simp only [List.getD, List.getElem?_replicate]; split <;> rfl }; show ((List.replicate 1 ([] : List Bk)).getD k []).length ≤ 1000; rw [h]; simp) (show nA.size ≤ maxLen by decide) (by decide) (by decide) (by decide) (by decide))
  clear hRm hb HNEW
  go_cut [7, 31] (fun s7 s31 wx => s7 = .pointer (some ⟨g, 0, none⟩) ∧ s31 = .bool false ∧ ∃ vs, Hid (Rms wx B g gB An cn N1 vs [[]]) ∧ Hid (Below B w1 wx) ∧ B ≤ wx.heap.size)
  case first =>
    go_wp2_with fail
    refine HBK.out.mono ?_
    rintro e w2 ⟨E, vs', ls', rfl, hbk, hRm', hb', hsz'⟩
    rcases hbk with ⟨rfl, k2, hk2, hix2, _, hls⟩ | ⟨hE, _, hno⟩
    rotate_left
    · exact absurd bkA_ok (hno 0 (by decide) idx1)
    obtain rfl : k2 = 0 := by
      have : k2 < 1 := hk2
      omega
    have hls' : ls' = [[bkA]] := hls
    subst hls'
    have HB2 := Lib.hid hb'
    have HDR := Lib.hid (drop_one nOne 0 bkA 5 w2 hRm' (by decide) hgB (by omega) (by decide) idx1 rfl rfl)
    clear hls hRm' hb' hix2 HBK
    go_wp2_with fail
    refine HDR.out.mono ?_
    rintro e w3 ⟨vs3, rfl, hRm3, hb3, hs3⟩
    have HR3 := Lib.hid hRm3
    have HB3 := Lib.hid (HB2.out.trans hb3)
    clear hRm3 hb3 HDR
    go_wp2_with fail
    go_meet
    exact ⟨rfl, rfl, vs3, HR3, HB3, by omega⟩
  case rest =>
    obtain ⟨rfl, rfl, vs0, HRm, HB0, hs0⟩ := hcut
    go_upto_region 4 with fail
    go_cut [36, 37, 38] (fun s36 s37 s38 wx => ∃ m : Nat, m ≤ l.length ∧ m ≤ 20 ∧ s36 = .slice A m c ∧ s37 = .int .i64 (m : Int) ∧ s38 = .int .i64 0 ∧ wx = wc)
    case first =>
      by_cases h20 : 20 < l.length
      · go_wp2_with fail
        go_meet
        exact ⟨20, by omega, by omega, rfl, rfl, rfl, rfl⟩
      · go_wp2_with fail
        go_meet
        exact ⟨l.length, by omega, by omega, rfl, rfl, rfl, rfl⟩
    case rest =>
      obtain ⟨m, hm1, hm2, rfl, rfl, rfl, rfl⟩ := hcut
      go_wp2_with fail
      have I0 : RInv 0 [[]] := RInv.nil 1
      go_loopw [38] (fun i wr => ∃ (j : Nat) (vs : List Value) (ls : List (List Bk)), j ≤ m ∧ i = .int .i64 (j : Int) ∧ Hid (Rms wr B g gB An cn N1 vs ls) ∧ Hid (RInv j ls) ∧ Hid (Below B w1 wr) ∧ B ≤ wr.heap.size) (fun i _ => m - (intOf i).toNat)
      case atStart => exact ⟨0, _, _, by omega, rfl, HRm, I0, HB0, hs0⟩
      case round =>
        obtain ⟨j, vs, ls, hj, rfl, hRr, hIr, hBr, hsr⟩ := hrel
        by_cases hlt : j < m
        · obtain ⟨b0, o, rfl, _, hcs⟩ := (HR0.out _ hBr.out hsr).open_ (flat_ne bkF_len (by omega) l (by omega))
          have hc0 := flat_cell bkF_len bk0 hcs j 0 (by omega) (by omega) _ rfl
          have hc1 := flat_cell bkF_len bk0 hcs j 1 (by omega) (by omega) _ rfl
          have hc2 := flat_cell bkF_len bk0 hcs j 2 (by omega) (by omega) _ rfl
          have hc3 := flat_cell bkF_len bk0 hcs j 3 (by omega) (by omega) _ rfl
          rw [Nat.add_zero] at hc0
          have HFy := Lib.hid (HF.out (l.getD j bk0) (getD_mem bk0 l j (by omega)))
          have j0 : (0 : Int) ≤ (j : Int) := by omega
          have j1 : (j : Int) < (m : Int) := by omega
          have j2 : (j : Int) < (l.length : Int) := by omega
          clear hcs
          generalize l.getD j bk0 = y at *
          have HBW := Lib.hid (fun o => hBr.out.alloc hsr o)
          have HBK2 := Lib.hid (fun o => book_any (⟨nOne, y.fr, y.to, nMe⟩ : Bk) (wr.alloc o) (hRr.out.next (below_alloc1 wr o)) (by decide) hgB (by rw [World.size_alloc]; omega) (fun k => by have := hIr.out.len k; omega) (show nMe.size ≤ maxLen by decide) HFy.out.f1 HFy.out.f2 HFy.out.t1 HFy.out.t2)
          have HLL := Lib.hid hRr.out.ll
          clear hRr hBr
          go_wp2_with fail
          refine (HBK2.out _).mono ?_
          rintro e w' ⟨E, vs', ls', rfl, hbk, hRm', hb', hsz'⟩
          have HR2 := Lib.hid hRm'
          have HI2 := Lib.hid (hIr.out.next HLL.out hbk)
          have HB2 := Lib.hid ((HBW.out _).trans hb')
          have hsz2 : B ≤ w'.heap.size := by rw [World.size_alloc] at hsz'; omega
          clear hbk hRm' hb' HBK2 HBW hsz'
          go_wp2_with fail
          go_roundw
          case rel => exact ⟨j + 1, vs', ls', by omega, by go_num, HR2, HI2, HB2, hsz2⟩
          case measure => simp [intOf]; omega
        · obtain rfl : j = m := by omega
          have BW : Hid (Below w.heap.size w wr) := HB.out.trans (hBr.out.mono (by have := hB1.out.size; omega))
          have HLI := Lib.hid (rlist_any nOne 0 wr hRr.out (by decide) (by decide) idx1 (by have := hIr.out.len 0; omega))
          have hlen := hIr.out.len 0
          have HAP := Lib.hid (hIr.out.ap 0)
          have HFR := Lib.hid (fun W (hW : Below wr.heap.size wr W) => free_room nOne 0 x z W (hRr.out.next hW) (by decide) (by decide) idx1 (by have := hIr.out.len 0; omega) h1 h2 h3 h4)
          have HBK2 := Lib.hid (fun W (hW : Below wr.heap.size wr W) => book_any (⟨nOne, x, z, nMe⟩ : Bk) W (hRr.out.next hW) (by decide) hgB (by have := hW.size; omega) (fun k => by have := hIr.out.len k; omega) (show nMe.size ≤ maxLen by decide) h1 h2 h3 h4)
          clear HR0 HR hlt hRr hBr HBK HB0 HRm
          go_wp2_with fail
          refine HLI.out.mono ?_
          rintro e w2 ⟨A2, c2, rfl, hrow, hb2⟩
          have HRW := Lib.hid hrow
          have HB2 := Lib.hid hb2
          clear hrow hb2 HLI
          generalize hll : ls.getD 0 [] = l2 at *
          have HLL := Lib.hid hll
          clear hll
          go_wp2_with fail
          go_loopw [57] (fun i wq => ∃ q : Nat, q ≤ l2.length ∧ i = .int .i64 (q : Int) ∧ Hid (Below w2.heap.size w2 wq)) (fun i _ => l2.length - (intOf i).toNat)
          case atStart => exact ⟨0, by omega, rfl, Below.refl _ _⟩
          case round =>
            obtain ⟨q, hq, rfl, hbq⟩ := hrel
            by_cases hlq : q < l2.length
            · obtain ⟨b0, o, rfl, _, hcs⟩ := (HRW.out.next hbq.out).open_ (flat_ne bkF_len (by omega) l2 (by omega))
              have hc1 := flat_cell bkF_len bk0 hcs q 1 (by omega) (by omega) _ rfl
              have hc2 := flat_cell bkF_len bk0 hcs q 2 (by omega) (by omega) _ rfl
              obtain ⟨hap1, hap2⟩ := apart_at l2 q HAP.out hlq
              have q0 : (0 : Int) ≤ (q : Int) := by omega
              have q1 : (q : Int) < (l2.length : Int) := by omega
              have hd1 : decide ((l2.getD q bk0).to ≤ (l2.getD q bk0).fr) = false := decide_eq_false (by omega)
              cases q with
              | zero =>
                clear hcs hap2
                generalize l2.getD 0 bk0 = y at *
                go_upto_region 16 with fail
                go_quiet (fail)
                go_wp2_with fail
                go_roundw
                case rel => exact ⟨1, by omega, by go_num, below_drew hbq.out _⟩
                case measure => simp [intOf]; omega
              | succ i =>
                have hc3 := flat_cell bkF_len bk0 hcs i 2 (by omega) (by omega) _ rfl
                have hap3 := hap2 (by omega)
                rw [Nat.add_sub_cancel] at hap3
                have hd2 : decide ((l2.getD (i + 1) bk0).fr < (l2.getD i bk0).to) = false := decide_eq_false (by omega)
                have q2 : (0 : Int) ≤ (i : Int) := by omega
                have q3 : (i : Int) < (l2.length : Int) := by omega
                clear hcs hap2
                generalize l2.getD (i + 1) bk0 = y at *
                generalize l2.getD i bk0 = y' at *
                go_upto_region 16 with fail
                go_quiet (fail)
                go_wp2_with fail
                go_roundw
                case rel => exact ⟨i + 1 + 1, by omega, by go_num, below_drew hbq.out _⟩
                case measure => simp [intOf]; omega
            · obtain rfl : q = l2.length := by omega
              have HB3 := Lib.hid (below_then HB2.out hbq.out)
              have BW3 := Lib.hid (below_then BW.out HB3.out)
              have HFR2 := Lib.hid (HFR.out _ HB3.out)
              clear HFR HRW hlq hbq
              go_wp2_with fail
              refine HFR2.out.mono ?_
              rintro e w4 ⟨r, E, rfl, hE, hr, hb4⟩
              have HE := Lib.hid hE
              have HRR := Lib.hid hr
              have HB4 := Lib.hid (below_then HB3.out hb4)
              have BW4 := Lib.hid (below_then BW3.out hb4)
              have HBK3 := Lib.hid (HBK2.out _ HB4.out)
              clear hE hr hb4 HFR2 HBK2
              by_cases e0 : E = 0
              case neg =>
                go_wp2_with fail
                go_ret
                exact ⟨rfl, BW4.out⟩
              subst e0
              have HST := Lib.hid (HE.out.1 rfl)
              have HR2 := Lib.hid (HRR.out rfl)
              clear HE HRR
              go_wp2_with fail
              refine HBK3.out.mono ?_
              rintro e w5 ⟨E2, vs5, ls5, rfl, hbk, hRm5, hb5, hsz5⟩
              have BW5 : Hid (Below w.heap.size w w5) := BW4.out.trans (hb5.mono (by have := hB1.out.size; omega))
              have HE2 : Hid (E2 = 0 ↔ r = true) := by
                unfold Hid
                rcases hbk with ⟨e1, k2, hk2, _, hok, _⟩ | ⟨e1, _, hno⟩
                · have hk0 : k2 = 0 := by
                    have : k2 < 1 := hk2
                    omega
                  subst hk0
                  have hfree := hok.free
                  rw [HLL.out] at hfree
                  refine ⟨fun _ => ?_, fun _ => e1⟩
                  rw [HR2.out]
                  have : (l2.any fun x_1 => x_1.over x z) = false := hfree
                  rw [this]; rfl
                · refine ⟨fun h => absurd h e1, fun h => ?_⟩
                  rw [HR2.out] at h
                  have hf : (l2.any fun x_1 => x_1.over x z) = false := by simpa using h
                  exact absurd ⟨me_ok, HST.out, (by rw [HLL.out]; exact hf), (by rw [HLL.out]; omega)⟩ (hno 0 (by decide) idx1)
              clear hbk hRm5 hb5 HBK3
              cases r with
              | true =>
                obtain rfl : E2 = 0 := HE2.out.2 rfl
                go_wp2_with fail
                go_ret
                exact ⟨rfl, BW5.out⟩
              | false =>
                have hne : E2 ≠ 0 := fun h => by have := HE2.out.1 h; cases this
                have hne2 : (E2 == 0) = false := by simp [hne]
                go_wp2_with fail
                go_ret
                exact ⟨rfl, BW5.out⟩

set_option maxRecDepth 100000 in
theorem walk {H : Type} {enc : TypeId × Value → H} {base : Nat} {W : World} (v0 : Value) (d0 : DataW H) (p0 : List MemPlace) (hv : Value.okWide Try.prog W .any base 49 v0) (h0 : DataW.Trod enc Try.prog W 0 (fun _ => true) true 49 v0 d0 p0) (a1 : Int) (w1 : (Lit.int .i64 a1).wf = true) (a2 : Int) (w2 : (Lit.int .i64 a2).wf = true) :
    Calls Try.prog 7 #[v0, .int .i64 a1, .int .i64 a2] W fun e w' => e = .returned (.bool true) ∧ Below W.heap.size W w' := by
  obtain ⟨A, l, c, rfl, h1, h2, h3, h4⟩ := bks_open hv h0
  exact core A c l a1 a2 W h3 h1 h2 h4 (bounds_i64 w1).1 (bounds_i64 w1).2 (bounds_i64 w2).1 (bounds_i64 w2).2
end Go.Proofs.Ytfindembancjdaa.roomsApart
