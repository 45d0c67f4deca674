/- The walk of RoomsFirst: it returns true at every input; it writes nothing that was there. -/
import Derived.Test.YtfindembancjdaaBkArg
import Derived.Deep.DeepCutAuto
namespace Go.Proofs.Ytfindembancjdaa.roomsFirst
open Go.RowKit
set_option linter.unusedVariables false

/-- the names -/
abbrev N2 : List ByteArray := [nOne, nTwo]

theorem run_names (j : Nat) (W : World) : (Instr.index 56 (.agg #[.string ⟨#[111, 110, 101]⟩, .string ⟨#[116, 119, 111]⟩]) (.int .i64 ((j : Int) % 2))).run Try.prog W = .ok (.string (N2.getD (j % 2) bs0)) W := by
  rcases Nat.mod_two_eq_zero_or_one j with h | h
  · rw [show (j : Int) % 2 = 0 from by omega, h]
    simp [Instr.index, run_underlying Try.underlying56, asIntOf, go_sem, nOne]
  · rw [show (j : Int) % 2 = 1 from by omega, h]
    simp [Instr.index, run_underlying Try.underlying56, asIntOf, go_sem, nTwo]

set_option maxHeartbeats 4000000 in
set_option maxRecDepth 100000 in
theorem core (A : Option Addr) (c : Nat) (l : List Bk) (x z : Int) (w : World) (hr : Row w w.heap.size A (l.flatMap bkF)) (hlc : l.length ≤ c) (hcm : c ≤ maxLen) (hf : ∀ b ∈ l, BkFit b) :
    Calls Try.prog 6 #[.slice A l.length c, .int .i64 x, .int .i64 z] w fun e w' => e = .returned (.bool true) ∧ Below w.heap.size w w' := by
  have hB1 := Lib.hid (below_alloc1 w (Obj.cells #[.string nOne, .string nTwo] 9))
  have hX := Box.new w 9 #[.string nOne, .string nTwo]
  have HNEW := Lib.hid (roomsNew_any (some ⟨w.heap.size, 0, none⟩) 2 N2 (w.alloc (Obj.cells #[.string nOne, .string nTwo] 9)) (.inr ⟨w.heap.size, 0, rfl, by simp, fun j v hv => by
    rw [Nat.zero_add, hX.cell j, ← hv]; simp [strs]⟩) nms12 (by decide) (by decide))
  have HR := Lib.hid (hr.next hB1.out)
  have HF := Lib.hid hf
  unfold maxLen at hcm
  clear hr hf hX
  go_enter Try.func6, Try.ntmps6
  go_upto_region 4 with (go_at_call 22; refine HNEW.out.mono ?_; rintro e w1 ⟨g, gB, An, cn, hg, hgB, rfl, hRm, hb⟩)
  generalize hwB : (w.alloc (Obj.cells #[.string nOne, .string nTwo] 9)).heap.size = B at *
  have HRm := Lib.hid hRm
  have HB := Lib.hid (hB1.out.trans (hb.mono (by have := hB1.out.size; omega)))
  have HBs := Lib.hid hb.size
  have HR1 : Hid (∀ W, Below B w1 W → Row W W.heap.size A (l.flatMap bkF)) := fun W hW => (HR.out.below (hb.trans hW)).more (by have := hb.size; have := hW.size; omega)
  clear hRm hb HNEW
  go_cut [26, 27, 28] (fun s26 s27 s28 wx => ∃ m : Nat, m ≤ l.length ∧ m ≤ 20 ∧ s26 = .slice A m c ∧ s27 = .int .i64 (m : Int) ∧ s28 = .int .i64 0 ∧ wx = w1)
  case first =>
    by_cases h20 : 20 < l.length
    · go_wp2_with fail
      go_meet
      exact ⟨20, by omega, by omega, rfl, rfl, rfl, rfl⟩
    · go_wp2_with fail
      go_meet
      exact ⟨l.length, by omega, by omega, rfl, rfl, rfl, rfl⟩
  case rest =>
    obtain ⟨m, hm1, hm2, rfl, rfl, rfl, rfl⟩ := hcut
    go_wp2_with fail
    go_loopw [28] (fun i wr => ∃ (j : Nat) (vs : List Value) (ls : List (List Bk)), j ≤ m ∧ i = .int .i64 (j : Int) ∧ Hid (Rms wr B g gB An cn N2 vs ls) ∧ Hid (RInv j ls) ∧ Hid (Below B wc wr)) (fun i _ => m - (intOf i).toNat)
    case atStart => exact ⟨0, _, _, by omega, rfl, HRm, RInv.nil _, Below.refl _ _⟩
    case round =>
      obtain ⟨j, vs, ls, hj, rfl, hRr, hIr, hBr⟩ := hrel
      by_cases hlt : j < m
      · obtain ⟨b0, o, rfl, _, hcs⟩ := (HR1.out _ hBr.out).open_ (flat_ne bkF_len (by omega) l (by omega))
        have hc0 := flat_cell bkF_len bk0 hcs j 0 (by omega) (by omega) _ rfl
        have hc1 := flat_cell bkF_len bk0 hcs j 1 (by omega) (by omega) _ rfl
        have hc2 := flat_cell bkF_len bk0 hcs j 2 (by omega) (by omega) _ rfl
        have hc3 := flat_cell bkF_len bk0 hcs j 3 (by omega) (by omega) _ rfl
        rw [Nat.add_zero] at hc0
        have HFy := Lib.hid (HF.out (l.getD j bk0) (getD_mem bk0 l j (by omega)))
        have j0 : (0 : Int) ≤ (j : Int) := by omega
        have j1 : (j : Int) < (m : Int) := by omega
        have j2 : (j : Int) < (l.length : Int) := by omega
        clear hcs
        generalize l.getD j bk0 = y at *
        have hix := run_names j
        generalize N2.getD (j % 2) bs0 = nm at *
        have hsz : B ≤ wr.heap.size := by have := HBs.out; have := hBr.out.size; omega
        have HBW := Lib.hid (fun o => hBr.out.alloc hsz o)
        have HBK := Lib.hid (fun o => book_any (⟨nm, y.fr, y.to, nMe⟩ : Bk) (wr.alloc o) (hRr.out.next (below_alloc1 wr o)) (by decide) hgB (by rw [World.size_alloc]; omega) (fun k => by have := hIr.out.len k; omega) (show nMe.size ≤ maxLen by decide) HFy.out.f1 HFy.out.f2 HFy.out.t1 HFy.out.t2)
        have HLL := Lib.hid hRr.out.ll
        clear hRr hBr
        go_wp2_with fail
        refine (HBK.out _).mono ?_
        rintro e w' ⟨E, vs', ls', rfl, hbk, hRm', hb', hsz'⟩
        have HR2 := Lib.hid hRm'
        have HI2 := Lib.hid (hIr.out.next HLL.out hbk)
        have HB2 := Lib.hid ((HBW.out _).trans hb')
        clear hbk hRm' hb' HBK HBW hsz'
        go_wp2_with fail
        go_roundw
        case rel => exact ⟨j + 1, vs', ls', by omega, by go_num, HR2, HI2, HB2⟩
        case measure => simp [intOf]; omega
      · obtain rfl : j = m := by omega
        have HC1 := Lib.hid (fun w => cut_any x 1 86400000 w (by omega) (by omega) (by omega) (by omega))
        have HC2 := Lib.hid (fun w => cut_any z 0 86400000000 w (by omega) (by omega) (by omega) (by omega))
        have hx1 : 1 ≤ 1 + x % 86400000 := by omega
        have hx2 : 1 + x % 86400000 ≤ 86400000 := by omega
        have hz1 : 0 ≤ 0 + z % 86400000000 := by omega
        have hz2 : 0 + z % 86400000000 < 86400000000 := by omega
        generalize 1 + x % 86400000 = len at *
        generalize 0 + z % 86400000000 = fr at *
        have HFI := Lib.hid (rfind_any len fr (fr + 172800000000) wr hRr.out (by decide) (fun k => by have := hIr.out.len k; omega) hIr.out.ins hx1 hx2 (by unfold InstOk; omega) (by unfold InstOk; omega) (by omega))
        have HSP := Lib.hid (bestOf_spec len fr (fr + 172800000000) ls 2)
        clear HR HR1 hlt
        go_wp2_with (first | (go_at_call 13; ((with_reducible refine (HC1.out _).mono ?_)); rintro e w' ⟨rfl, rfl⟩) | (go_at_call 13; ((with_reducible refine (HC2.out _).mono ?_)); rintro e w' ⟨rfl, rfl⟩))
        have BW : Hid (Below w.heap.size w wr) := HB.out.trans (hBr.out.mono (by have := hB1.out.size; omega))
        have hszr : B ≤ wr.heap.size := by have := HBs.out; have := hBr.out.size; omega
        refine HFI.out.mono ?_
        rintro e w2 ⟨hres, hbf⟩
        have HB2 := Lib.hid hbf
        have BW2 := Lib.hid (below_then BW.out hbf)
        clear hbf HFI
        rcases hres with ⟨hs1, rfl⟩ | ⟨k, hk, hs1, rfl⟩
        · clear hs1 HSP
          go_wp2_with fail
          go_ret
          exact ⟨rfl, BW2.out⟩
        have hS := HSP.out
        generalize hs : bestOf len fr (fr + 172800000000) ls 2 = s at hS
        rw [show (N2.length) = 2 from rfl, hs] at hs1
        rcases hS with ⟨h1, _⟩ | ⟨k', hk', h1, hs2, hfit, hbest⟩
        · omega
        obtain rfl : k' = k := by omega
        rw [hs2]
        obtain ⟨f1, f2, f3⟩ := findAt_spec (len := len) (by omega) (ls.getD k' []) fr (hIr.out.ap k')
        generalize ht : findAt len fr (ls.getD k' []) = t at *
        have HM2 := Lib.hid (hRr.out.next HB2.out)
        have HBK := Lib.hid (book_any (⟨N2.getD k' bs0, t, t + len, nMe⟩ : Bk) w2 HM2.out (by decide) hgB (by have := HB2.out.size; omega) (fun k => by have := hIr.out.len k; omega) (show nMe.size ≤ maxLen by decide) (by show -9223372036854775808 ≤ t; omega) (by show t ≤ 9223372036854775807; omega) (by show -9223372036854775808 ≤ t + len; omega) (by show t + len ≤ 9223372036854775807; omega))
        have HOK : Hid (BookOk (ls.getD k' []) (⟨N2.getD k' bs0, t, t + len, nMe⟩ : Bk)) := ⟨me_ok, ⟨by unfold InstOk; show _ ≤ t ∧ t < _; omega, by unfold InstOk; show _ ≤ t + len ∧ t + len < _; omega, by show t < t + len; omega⟩, free_any f2, by have := hIr.out.len k'; omega⟩
        have HIX := Lib.hid (idx12 hk')
        have HT := Lib.hid ht
        have HBEST := Lib.hid hbest
        have hft : ¬ t < fr := by omega
        have dft : decide (t < fr) = false := decide_eq_false hft
        clear f1 f2 f3 hbest ht hs hs2 hs1 h1 HSP
        generalize hnm : N2.getD k' bs0 = nm at *
        have HNM := Lib.hid hnm
        clear hnm
        go_wp2_with fail
        refine HBK.out.mono ?_
        rintro e w3 ⟨E, vs', ls', rfl, hbk, hRm', hb', hsz'⟩
        have HI3 := Lib.hid (hIr.out.next hRr.out.ll hbk)
        have BW3 := Lib.hid (BW2.out.trans (hb'.mono (by have := hB1.out.size; omega)))
        rcases hbk with ⟨rfl, k2, hk2, hix2, _, hls⟩ | ⟨hE, _, hno⟩
        rotate_left
        · exact absurd HOK.out (hno k' hk' HIX.out)
        obtain rfl : k2 = k' := hix2.one HIX.out
        have HLA := Lib.hid (fun m' h1 h2 => best_later (len := len) (fr := fr) (tt := fr + 172800000000) (by omega) (m' := m') (n := 2) hRr.out.ll hIr.out.ap (b := ⟨nm, t, t + len, nMe⟩) hk' h1 HT.out.symm rfl (by rw [HT.out]; exact HBEST.out) h2)
        rw [← hls] at HLA
        have HFI := Lib.hid (rfind_any len fr (fr + 172800000000) w3 hRm' (by decide) (fun k => by have := HI3.out.len k; omega) HI3.out.ins hx1 hx2 (by unfold InstOk; omega) (by unfold InstOk; omega) (by omega))
        have hS := bestOf_spec len fr (fr + 172800000000) ls' 2
        rw [show (2 : Nat) = N2.length from rfl] at hS
        have HS := Lib.hid hS
        clear hls hix2 hRm' hb' hsz' HBK HBEST HT HOK HI3 hS
        generalize bestOf len fr (fr + 172800000000) ls' N2.length = s2 at *
        have hsum : ¬ fr + 172800000000 < fr := by omega
        go_wp2_with fail
        refine HFI.out.mono ?_
        rintro e w4 ⟨hres, hbf⟩
        have BW4 := Lib.hid (below_then BW3.out hbf)
        clear hbf HFI
        rcases hres with ⟨_, rfl⟩ | ⟨k4, hk4, hs4, rfl⟩
        · go_wp2_with fail
          go_ret
          exact ⟨rfl, BW4.out⟩
        · rcases HS.out with ⟨e1, _⟩ | ⟨k5, hk5, e1, e2, e3, _⟩
          · omega
          obtain rfl : k5 = k4 := by omega
          rw [← e2] at e3
          have hla := HLA.out k5 hk5 (by rw [← e2]; exact e3)
          rw [← e2] at hla
          have HN4 : Hid (k5 ≠ k2 → ((N2.getD k5 bs0).toList == nm.toList) = false) := fun hne => by
            rw [← HNM.out]
            have h5 : k5 < 2 := hk5
            have h2 : k2 < 2 := hk'
            have : (k5 = 0 ∧ k2 = 1) ∨ (k5 = 1 ∧ k2 = 0) := by omega
            rcases this with ⟨rfl, rfl⟩ | ⟨rfl, rfl⟩
            · exact one_two
            · exact two_one
          clear e3 hs4 e1 HLA
          generalize hu : s2.2 = u at *
          generalize N2.getD k5 bs0 = nm5 at *
          clear hu e2
          by_cases hgt : t < u
          · have d1 : decide (t < u) = true := decide_eq_true hgt
            clear hla
            go_wp2_with fail
            go_ret
            exact ⟨rfl, BW4.out⟩
          · obtain ⟨rfl, hne⟩ : u = t ∧ k5 ≠ k2 := by
              rcases hla with h | h
              · exact absurd h hgt
              · exact h
            have hn := HN4.out hne
            go_wp2_with fail
            go_ret
            exact ⟨rfl, BW4.out⟩

set_option maxRecDepth 100000 in
theorem walk {H : Type} {enc : TypeId × Value → H} {base : Nat} {W : World} (v0 : Value) (d0 : DataW H) (p0 : List MemPlace) (hv : Value.okWide Try.prog W .any base 49 v0) (h0 : DataW.Trod enc Try.prog W 0 (fun _ => true) true 49 v0 d0 p0) (a1 : Int) (w1 : (Lit.int .i64 a1).wf = true) (a2 : Int) (w2 : (Lit.int .i64 a2).wf = true) :
    Calls Try.prog 6 #[v0, .int .i64 a1, .int .i64 a2] W fun e w' => e = .returned (.bool true) ∧ Below W.heap.size W w' := by
  obtain ⟨A, l, c, rfl, h1, h2, h3, h4⟩ := bks_open hv h0
  exact core A c l a1 a2 W h3 h1 h2 h4
end Go.Proofs.Ytfindembancjdaa.roomsFirst
