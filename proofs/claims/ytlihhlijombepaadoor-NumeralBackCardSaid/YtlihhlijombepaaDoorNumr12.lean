/- Contract of numeral.Lenient, one script more: prints of wip/gen/numr11.py. -/
import Derived.Test.YtlihhlijombepaaDoorNumr11
namespace Go.Proofs.YtlihhlijombepaaDoor
open Go.RowKit
set_option linter.unusedVariables false

set_option maxHeartbeats 4000000 in
set_option maxRecDepth 100000 in
theorem lenient_rom (sc : Nat) (hs : sc = 9) (rs : List Nat) (hne : rs ≠ []) (hb : ∀ r ∈ rs, Bmp r) (hlen : rs.length ≤ 1000) (t0 l0 d0 : Int) (h : rs.foldl (lenF sc) (some (0, 0, 0)) = some (t0, l0, d0)) (w : World) (hz : Zer w) :
    Calls Tryd.prog 87 #[.int .i64 (sc : Int), .string (str (encs rs))] w fun e w' => e = .returned (.tuple #[.int .i64 (t0 + d0), .bool true]) ∧ Below w.heap.size w w' := by
  have hV := Lib.hid (fun c v hv W hz => value_any sc (by omega) c v hv W hz)
  have HNE := encs_empty rs hb
  have hie : rs.isEmpty = false := by cases rs with | nil => exact absurd rfl hne | cons _ _ => rfl
  have hie2 : List.isEmpty rs = false := hie
  have HB := Lib.hid hb
  have H := Lib.hid h
  have hz0 := Lib.hid hz
  have HL : LenI sc rs 0 0 0 := ⟨fun _ => by omega, by omega, by omega, by omega, by omega, by omega, by omega⟩
  have HL := Lib.hid HL
  have HD : Hid (∀ (pos c : Nat) (ps : List Nat), (encs rs).drop pos = encs (c :: ps) → (∀ r ∈ c :: ps, Bmp r) → pos < (str (encs rs)).size ∧ Utf8.decode (str (encs rs)) pos = (c, (Lib.encodeRune (c : Int)).length) ∧ (encs rs).drop (pos + (Lib.encodeRune (c : Int)).length) = encs ps) := fun pos c ps hd hb => at_pos rs (c :: ps) pos hd c ps rfl hb
  have HE : Hid (∀ pos, (encs rs).drop pos = encs [] → ¬ pos < (str (encs rs)).size) := fun pos hd => at_end rs pos hd
  have hsmall : (str (encs rs)).size ≤ 3000 := by have := encs_small rs hb; omega
  rw [hie] at HNE
  have HSC := Lib.hid hs
  have T9 : Hid (((sc : Int) == 9) = true) := by show _ = _; rw [beq_iff_eq]; omega
  clear h hb hie hie2 hne hz hs
  generalize hA : encs rs = A at *
  have HS0 : Hid (A.drop 0 = encs rs) := hA.symm
  clear hA
  generalize hStr : str A = S at *
  clear hStr
  go_enter Tryd.func87, Tryd.ntmps87
  go_wp2_with fail
  go_loopw [6, 7, 8, 9, 10, 11, 12, 13] (fun tv lv dv nv _ _ _ _ wr => ∃ (pos : Nat) (post : List Nat) (t l d : Int), tv = .int .i64 t ∧ lv = .int .i64 l ∧ dv = .int .i64 d ∧ nv = .bool false ∧ Hid (A.drop pos = encs post) ∧ Hid (∀ r ∈ post, Bmp r) ∧ Hid (LenI sc post t l d) ∧ Hid (post.foldl (lenF sc) (some (t, l, d)) = some (t0, l0, d0)) ∧ wr.heap[w.heap.size]? = some (.stringIter S pos) ∧ Hid (Below w.heap.size w wr)) (fun _ _ _ _ _ _ _ _ wr => S.size - wr.iterPos w.heap.size)
  case atStart =>
    exact ⟨0, rs, 0, 0, 0, rfl, rfl, rfl, rfl, HS0.out, HB.out, HL.out, H.out, World.iter_heap w S 0, Lib.hid ((Below.refl _ w).alloc (Nat.le_refl _) _)⟩
  case round =>
    obtain ⟨pos, post, t, l, d, rfl, rfl, rfl, rfl, hd, hb, hi, hf, hit, hbw⟩ := hrel
    cases post with
    | nil =>
      have hp := HE.out pos hd.out
      have hnx : ∀ ty, (Instr.next (.pointer (some ⟨w.heap.size, 0, none⟩)) true ty).run Tryd.prog wr = _ := fun ty => Lib.run_next_end_at wr w.heap.size S pos ty hit hp
      have he : (t, l, d) = (t0, l0, d0) := Option.some.inj hf.out
      obtain ⟨i1, i2, i3, i4, i5, i6, i7⟩ := hi.out
      obtain ⟨rfl, rfl, rfl⟩ : t = t0 ∧ l = l0 ∧ d = d0 := by injection he with a b; injection b with b c; exact ⟨a, b, c⟩
      clear he hf hi i1
      simp only [List.length_nil] at i7
      go_wp2_with fail
      go_ret2
      exact ⟨rfl, hbw.out⟩
    | cons c ps =>
      obtain ⟨hp, hdec, hdr⟩ := HD.out pos c ps hd.out hb.out
      obtain ⟨v, hv, hg, hf2⟩ := len_step sc c ps t l d _ hf.out
      have hv1 := val_le sc c v hv
      obtain ⟨i1, i2, i3, i4, i5, i6, i7⟩ := hi.out
      have c1 := (enc_len c (hb.out c (List.mem_cons_self ..))).1
      have HF := Lib.hid hf2
      have HDR := Lib.hid hdr
      have HBP : Hid (∀ r ∈ ps, Bmp r) := fun r hr => hb.out r (List.mem_cons_of_mem _ hr)
      have hnx : ∀ ty, (Instr.next (.pointer (some ⟨w.heap.size, 0, none⟩)) true ty).run Tryd.prog wr = .ok (.tuple #[.bool true, .int .i64 pos, .int .i32 (c : Int)]) (wr.iterAt w.heap.size S (pos + (Lib.encodeRune (c : Int)).length)) := fun ty => by
        rw [Lib.run_next_any_at wr w.heap.size S pos ty hit hp, hdec]
      have hit2 := Lib.iterAt_heap wr w.heap.size S pos (pos + (Lib.encodeRune (c : Int)).length) hit
      have hbw2 := Lib.below_iterAt hbw.out (k := w.heap.size) (Nat.le_refl _) S (pos + (Lib.encodeRune (c : Int)).length)
      have hzw := hz0.out.next hbw2
      have hlt2 : w.heap.size < (wr.iterAt w.heap.size S (pos + (Lib.encodeRune (c : Int)).length)).heap.size := (Array.getElem?_eq_some_iff.1 hit2).1
      have HVc := Lib.hid (hV.out c v hv _ hzw)
      unfold ValQ at HVc
      have hps : (((c :: ps).length : Nat) : Int) = (ps.length : Int) + 1 := by simp
      rw [hps] at i7
      have hi0 : 0 ≤ (ps.length : Int) := by omega
      have hs := HSC.out
      have HI : Hid (LenI sc ps ((if (v : Int) > l then t - 2 * l else t) + (v : Int)) (v : Int) d) := ⟨fun h => absurd hs h, by split <;> omega, by omega, by omega, i5, i6, by split <;> omega⟩
      have hst : lenS sc t l d v = ((if (v : Int) > l then t - 2 * l else t) + (v : Int), (v : Int), d) := by unfold lenS; rw [if_pos (by omega)]
      rw [hst] at HF
      clear hst
      have HP1 : Hid (S.size - (pos + (Lib.encodeRune (c : Int)).length) < S.size - wr.iterPos w.heap.size) := by
        unfold World.iterPos
        rw [hit]
        show S.size - _ < S.size - pos
        omega
      clear hi hf hv hdec hdr hf2 hps hb hd hzw c1 hp i1 hs
      generalize (Lib.encodeRune (c : Int)).length = k at *
      generalize hW : wr.iterAt w.heap.size S (pos + k) = W1 at *
      clear hW hit hbw
      have HIT := Lib.hid hit2
      have HBW := Lib.hid hbw2
      have HLT := Lib.hid hlt2
      clear hit2 hbw2 hlt2
      go_wp2_with fail
      refine HVc.out.mono ?_
      rintro e W2 ⟨rfl, hb2⟩
      have HB2 := Lib.hid hb2
      have HIT2 : Hid (W2.heap[w.heap.size]? = some (.stringIter S (pos + k))) := (HB2.out.block _ HLT.out).trans HIT.out
      have HBW2 := Lib.hid (HBW.out.trans (HB2.out.mono (Nat.le_of_lt HLT.out)))
      clear hb2 HVc HB2
      have t9 := T9.out
      by_cases hvl : l < (v : Int)
      · have HI2 := Lib.hid HI.out
        have HF2 := Lib.hid HF.out
        rw [if_pos hvl] at HI2 HF2
        clear HI HF
        go_wp2_with fail
        go_roundw
        case rel => exact ⟨pos + k, ps, _, _, _, rfl, rfl, rfl, rfl, HDR.out, HBP.out, HI2.out, HF2.out, HIT2.out, HBW2.out⟩
        case measure => unfold World.iterPos; rw [HIT2.out]; exact HP1.out
      · have HI2 := Lib.hid HI.out
        have HF2 := Lib.hid HF.out
        rw [if_neg hvl] at HI2 HF2
        clear HI HF
        go_wp2_with fail
        go_roundw
        case rel => exact ⟨pos + k, ps, _, _, _, rfl, rfl, rfl, rfl, HDR.out, HBP.out, HI2.out, HF2.out, HIT2.out, HBW2.out⟩
        case measure => unfold World.iterPos; rw [HIT2.out]; exact HP1.out

end Go.Proofs.YtlihhlijombepaaDoor

