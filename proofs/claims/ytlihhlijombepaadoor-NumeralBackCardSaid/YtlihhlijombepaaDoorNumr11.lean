/- Contract of numeral.Lenient at a text that is read: prints of wip/gen/numr11.py. -/
import Derived.Test.YtlihhlijombepaaDoorNumr10
namespace Go.Proofs.YtlihhlijombepaaDoor
open Go.RowKit
set_option linter.unusedVariables false

theorem val_le (sc c v : Nat) (h : valR sc c = some v) : v ≤ 1000 := by
  unfold valR at h
  split at h
  · split at h
    · cases h; omega
    · cases h
  split at h
  · unfold romV at h
    repeat' split at h
    all_goals first | (cases h; omega) | cases h
  split at h
  · unfold sgV at h
    cases hf : (List.range 27).find? (fun i => sgnR sc (i / 9) (i % 9 + 1) == [c]) with
    | none => rw [hf] at h; cases h
    | some i =>
      rw [hf] at h
      have hi := (find_first _ _ _ hf).1
      have hv : (i % 9 + 1) * 10 ^ (i / 9) = v := Option.some.inj h
      have : ∀ i, i < 27 → (i % 9 + 1) * 10 ^ (i / 9) ≤ 1000 := by decide
      rw [← hv]; exact this i hi
  · unfold chV at h
    cases hf : (List.range 10).find? (fun n => chD n == c) with
    | some i =>
      rw [hf] at h
      have hi := (find_first _ _ _ hf).1
      obtain rfl := Option.some.inj h
      omega
    | none =>
      rw [hf] at h
      simp only at h
      repeat' split at h
      all_goals first | (cases h; omega) | cases h
theorem val_45 (sc c v : Nat) (hs : sc < 9) (h : valR sc c = some v) : ((c : Int) == 45) = false := by
  unfold valR at h
  rw [if_pos hs] at h
  have : ∀ sc, sc < 9 → 48 ≤ zeroN.getD sc 0 := by decide
  have := this sc hs
  rw [beq_eq_false_iff_ne]
  split at h
  · omega
  · cases h
def lenS (sc : Nat) (t l d : Int) (v : Nat) : Int × Int × Int :=
  if sc = 9 then ((if (v : Int) > l then t - 2 * l else t) + (v : Int), (v : Int), d)
  else if sc < 9 then (t * 10 + v, l, d)
  else if sc < 12 then (t + v, l, d)
  else if v < 10 then (t + d, l, v) else (t + d * v, l, 0)
theorem len_none (sc : Nat) : ∀ (rs : List Nat), rs.foldl (lenF sc) none = none
  | [] => rfl
  | _ :: rs => len_none sc rs
theorem len_step (sc c : Nat) (rs : List Nat) (t l d : Int) (R : Int × Int × Int) (h : (c :: rs).foldl (lenF sc) (some (t, l, d)) = some R) :
    ∃ v, valR sc c = some v ∧ t ≤ 1099511627776 ∧ rs.foldl (lenF sc) (some (lenS sc t l d v)) = some R := by
  rw [List.foldl_cons] at h
  cases hv : valR sc c with
  | none =>
    simp only [lenF, hv] at h
    rw [len_none] at h
    cases h
  | some v =>
    by_cases ht : t > 1099511627776
    · simp only [lenF, hv, if_pos ht] at h
      rw [len_none] at h
      cases h
    · refine ⟨v, rfl, by omega, ?_⟩
      have e : lenF sc (some (t, l, d)) c = some (lenS sc t l d v) := by
        simp only [lenF, hv, if_neg ht, lenS]
        repeat' split
        all_goals first | rfl | omega
      rw [e] at h
      exact h
theorem at_pos (rs post : List Nat) (pos : Nat) (h : (encs rs).drop pos = encs post) (c : Nat) (ps : List Nat) (hp : post = c :: ps) (hb : ∀ r ∈ post, Bmp r) :
    pos < (str (encs rs)).size ∧ Utf8.decode (str (encs rs)) pos = (c, (Lib.encodeRune (c : Int)).length) ∧ (encs rs).drop (pos + (Lib.encodeRune (c : Int)).length) = encs ps := by
  subst hp
  have e1 : encs (c :: ps) = Lib.encodeRune (c : Int) ++ encs ps := by simp [encs]
  have hc := hb c (List.mem_cons_self ..)
  refine ⟨?_, ?_, ?_⟩
  · have hl := congrArg List.length h
    rw [List.length_drop, e1, List.length_append] at hl
    have := (enc_len c hc).1
    simp only [str, ByteArray.size, List.size_toArray]
    omega
  · rw [← Lib.decodeL_drop]
    show Lib.decodeL ((encs rs).drop pos) = _
    rw [h, e1]
    exact decodeL_enc c hc _
  · rw [← List.drop_drop, h, e1]
    simp
theorem at_end (rs : List Nat) (pos : Nat) (h : (encs rs).drop pos = encs []) : ¬ pos < (str (encs rs)).size := by
  have hl := congrArg List.length h
  rw [List.length_drop, show encs [] = [] from rfl, List.length_nil] at hl
  simp only [str, ByteArray.size, List.size_toArray]
  omega
/-- what the loop keeps -/
def LenI (sc : Nat) (post : List Nat) (t l d : Int) : Prop :=
  (sc ≠ 9 → 0 ≤ t) ∧ t ≤ 10995116290000 ∧ 0 ≤ l ∧ l ≤ 1000 ∧ 0 ≤ d ∧ d ≤ 9 ∧ 1000 * (post.length : Int) - 1000000 ≤ t

set_option maxHeartbeats 4000000 in
set_option maxRecDepth 100000 in
theorem lenient_pos (sc : Nat) (hs : sc < 9) (rs : List Nat) (hne : rs ≠ []) (hb : ∀ r ∈ rs, Bmp r) (hlen : rs.length ≤ 1000) (t0 l0 d0 : Int) (h : rs.foldl (lenF sc) (some (0, 0, 0)) = some (t0, l0, d0)) (w : World) (hz : Zer w) :
    Calls Tryd.prog 87 #[.int .i64 (sc : Int), .string (str (encs rs))] w fun e w' => e = .returned (.tuple #[.int .i64 (t0 + d0), .bool true]) ∧ Below w.heap.size w w' := by
  have hV := Lib.hid (fun c v hv W hz => value_any sc (by omega) c v hv W hz)
  have HNE := encs_empty rs hb
  have hie : rs.isEmpty = false := by cases rs with | nil => exact absurd rfl hne | cons _ _ => rfl
  have hie2 : List.isEmpty rs = false := hie
  have HB := Lib.hid hb
  have H := Lib.hid h
  have hz0 := Lib.hid hz
  have HL : LenI sc rs 0 0 0 := ⟨fun _ => by omega, by omega, by omega, by omega, by omega, by omega, by omega⟩
  have HL := Lib.hid HL
  have HD : Hid (∀ (pos c : Nat) (ps : List Nat), (encs rs).drop pos = encs (c :: ps) → (∀ r ∈ c :: ps, Bmp r) → pos < (str (encs rs)).size ∧ Utf8.decode (str (encs rs)) pos = (c, (Lib.encodeRune (c : Int)).length) ∧ (encs rs).drop (pos + (Lib.encodeRune (c : Int)).length) = encs ps) := fun pos c ps hd hb => at_pos rs (c :: ps) pos hd c ps rfl hb
  have HE : Hid (∀ pos, (encs rs).drop pos = encs [] → ¬ pos < (str (encs rs)).size) := fun pos hd => at_end rs pos hd
  have hsmall : (str (encs rs)).size ≤ 3000 := by have := encs_small rs hb; omega
  rw [hie] at HNE
  have HSC := Lib.hid hs
  have t9 : ((sc : Int) == 9) = false := by rw [beq_eq_false_iff_ne]; omega
  have t10 : ((sc : Int) == 10) = false := by rw [beq_eq_false_iff_ne]; omega
  have t11 : ((sc : Int) == 11) = false := by rw [beq_eq_false_iff_ne]; omega
  have t12 : ((sc : Int) == 12) = false := by rw [beq_eq_false_iff_ne]; omega
  clear h hb hie hie2 hne hz hs
  generalize hA : encs rs = A at *
  have HS0 : Hid (A.drop 0 = encs rs) := hA.symm
  clear hA
  generalize hStr : str A = S at *
  clear hStr
  go_enter Tryd.func87, Tryd.ntmps87
  go_wp2_with fail
  go_loopw [6, 7, 8, 9, 10, 11, 12, 13] (fun tv lv dv nv _ _ _ _ wr => ∃ (pos : Nat) (post : List Nat) (t l d : Int), tv = .int .i64 t ∧ lv = .int .i64 l ∧ dv = .int .i64 d ∧ nv = .bool false ∧ Hid (A.drop pos = encs post) ∧ Hid (∀ r ∈ post, Bmp r) ∧ Hid (LenI sc post t l d) ∧ Hid (post.foldl (lenF sc) (some (t, l, d)) = some (t0, l0, d0)) ∧ wr.heap[w.heap.size]? = some (.stringIter S pos) ∧ Hid (Below w.heap.size w wr)) (fun _ _ _ _ _ _ _ _ wr => S.size - wr.iterPos w.heap.size)
  case atStart =>
    exact ⟨0, rs, 0, 0, 0, rfl, rfl, rfl, rfl, HS0.out, HB.out, HL.out, H.out, World.iter_heap w S 0, Lib.hid ((Below.refl _ w).alloc (Nat.le_refl _) _)⟩
  case round =>
    obtain ⟨pos, post, t, l, d, rfl, rfl, rfl, rfl, hd, hb, hi, hf, hit, hbw⟩ := hrel
    cases post with
    | nil =>
      have hp := HE.out pos hd.out
      have hnx : ∀ ty, (Instr.next (.pointer (some ⟨w.heap.size, 0, none⟩)) true ty).run Tryd.prog wr = _ := fun ty => Lib.run_next_end_at wr w.heap.size S pos ty hit hp
      have he : (t, l, d) = (t0, l0, d0) := Option.some.inj hf.out
      obtain ⟨i1, i2, i3, i4, i5, i6, i7⟩ := hi.out
      obtain ⟨rfl, rfl, rfl⟩ : t = t0 ∧ l = l0 ∧ d = d0 := by injection he with a b; injection b with b c; exact ⟨a, b, c⟩
      clear he hf hi i1
      simp only [List.length_nil] at i7
      go_wp2_with fail
      go_ret2
      exact ⟨rfl, hbw.out⟩
    | cons c ps =>
      obtain ⟨hp, hdec, hdr⟩ := HD.out pos c ps hd.out hb.out
      obtain ⟨v, hv, hg, hf2⟩ := len_step sc c ps t l d _ hf.out
      have hv1 := val_le sc c v hv
      obtain ⟨i1, i2, i3, i4, i5, i6, i7⟩ := hi.out
      have c1 := (enc_len c (hb.out c (List.mem_cons_self ..))).1
      have HF := Lib.hid hf2
      have HDR := Lib.hid hdr
      have HBP : Hid (∀ r ∈ ps, Bmp r) := fun r hr => hb.out r (List.mem_cons_of_mem _ hr)
      have hnx : ∀ ty, (Instr.next (.pointer (some ⟨w.heap.size, 0, none⟩)) true ty).run Tryd.prog wr = .ok (.tuple #[.bool true, .int .i64 pos, .int .i32 (c : Int)]) (wr.iterAt w.heap.size S (pos + (Lib.encodeRune (c : Int)).length)) := fun ty => by
        rw [Lib.run_next_any_at wr w.heap.size S pos ty hit hp, hdec]
      have hit2 := Lib.iterAt_heap wr w.heap.size S pos (pos + (Lib.encodeRune (c : Int)).length) hit
      have hbw2 := Lib.below_iterAt hbw.out (k := w.heap.size) (Nat.le_refl _) S (pos + (Lib.encodeRune (c : Int)).length)
      have hzw := hz0.out.next hbw2
      have hlt2 : w.heap.size < (wr.iterAt w.heap.size S (pos + (Lib.encodeRune (c : Int)).length)).heap.size := (Array.getElem?_eq_some_iff.1 hit2).1
      have HVc := Lib.hid (hV.out c v hv _ hzw)
      unfold ValQ at HVc
      have hps : (((c :: ps).length : Nat) : Int) = (ps.length : Int) + 1 := by simp
      rw [hps] at i7
      have hi0 : 0 ≤ (ps.length : Int) := by omega
      have hs := HSC.out
      have t0 := i1 (by omega)
      have c45 := val_45 sc c v hs hv
      have hst : lenS sc t l d v = (t * 10 + v, l, d) := by unfold lenS; rw [if_neg (by omega), if_pos (by omega)]
      rw [hst] at HF
      clear hst
      have HI : Hid (LenI sc ps (t * 10 + v) l d) := ⟨fun _ => by omega, by omega, i3, i4, i5, i6, by omega⟩
      have HP1 : Hid (S.size - (pos + (Lib.encodeRune (c : Int)).length) < S.size - wr.iterPos w.heap.size) := by
        unfold World.iterPos
        rw [hit]
        show S.size - _ < S.size - pos
        omega
      clear hi hf hv hdec hdr hf2 hps hb hd hzw c1 hp i1 hs
      generalize (Lib.encodeRune (c : Int)).length = k at *
      generalize hW : wr.iterAt w.heap.size S (pos + k) = W1 at *
      clear hW hit hbw
      have HIT := Lib.hid hit2
      have HBW := Lib.hid hbw2
      have HLT := Lib.hid hlt2
      clear hit2 hbw2 hlt2
      go_wp2_with fail
      refine HVc.out.mono ?_
      rintro e W2 ⟨rfl, hb2⟩
      have HB2 := Lib.hid hb2
      have HIT2 : Hid (W2.heap[w.heap.size]? = some (.stringIter S (pos + k))) := (HB2.out.block _ HLT.out).trans HIT.out
      have HBW2 := Lib.hid (HBW.out.trans (HB2.out.mono (Nat.le_of_lt HLT.out)))
      clear hb2 HVc HB2
      go_wp2_with fail
      go_roundw
      case rel => exact ⟨pos + k, ps, _, _, _, rfl, rfl, rfl, rfl, HDR.out, HBP.out, HI.out, HF.out, HIT2.out, HBW2.out⟩
      case measure => unfold World.iterPos; rw [HIT2.out]; exact HP1.out

set_option maxHeartbeats 4000000 in
set_option maxRecDepth 100000 in
theorem lenient_sgn (sc : Nat) (hs : sc = 10 ∨ sc = 11) (rs : List Nat) (hne : rs ≠ []) (hb : ∀ r ∈ rs, Bmp r) (hlen : rs.length ≤ 1000) (t0 l0 d0 : Int) (h : rs.foldl (lenF sc) (some (0, 0, 0)) = some (t0, l0, d0)) (w : World) (hz : Zer w) :
    Calls Tryd.prog 87 #[.int .i64 (sc : Int), .string (str (encs rs))] w fun e w' => e = .returned (.tuple #[.int .i64 (t0 + d0), .bool true]) ∧ Below w.heap.size w w' := by
  have hV := Lib.hid (fun c v hv W hz => value_any sc (by omega) c v hv W hz)
  have HNE := encs_empty rs hb
  have hie : rs.isEmpty = false := by cases rs with | nil => exact absurd rfl hne | cons _ _ => rfl
  have hie2 : List.isEmpty rs = false := hie
  have HB := Lib.hid hb
  have H := Lib.hid h
  have hz0 := Lib.hid hz
  have HL : LenI sc rs 0 0 0 := ⟨fun _ => by omega, by omega, by omega, by omega, by omega, by omega, by omega⟩
  have HL := Lib.hid HL
  have HD : Hid (∀ (pos c : Nat) (ps : List Nat), (encs rs).drop pos = encs (c :: ps) → (∀ r ∈ c :: ps, Bmp r) → pos < (str (encs rs)).size ∧ Utf8.decode (str (encs rs)) pos = (c, (Lib.encodeRune (c : Int)).length) ∧ (encs rs).drop (pos + (Lib.encodeRune (c : Int)).length) = encs ps) := fun pos c ps hd hb => at_pos rs (c :: ps) pos hd c ps rfl hb
  have HE : Hid (∀ pos, (encs rs).drop pos = encs [] → ¬ pos < (str (encs rs)).size) := fun pos hd => at_end rs pos hd
  have hsmall : (str (encs rs)).size ≤ 3000 := by have := encs_small rs hb; omega
  rw [hie] at HNE
  have HSC := Lib.hid hs
  have t9 : ((sc : Int) == 9) = false := by rw [beq_eq_false_iff_ne]; omega
  have hcase : ((sc : Int) == 10) = true ∨ (((sc : Int) == 10) = false ∧ ((sc : Int) == 11) = true) := by
    rcases hs with rfl | rfl
    · exact .inl rfl
    · exact .inr ⟨rfl, rfl⟩
  have HC := Lib.hid hcase
  clear hcase
  clear h hb hie hie2 hne hz hs
  generalize hA : encs rs = A at *
  have HS0 : Hid (A.drop 0 = encs rs) := hA.symm
  clear hA
  generalize hStr : str A = S at *
  clear hStr
  go_enter Tryd.func87, Tryd.ntmps87
  go_wp2_with fail
  go_loopw [6, 7, 8, 9, 10, 11, 12, 13] (fun tv lv dv nv _ _ _ _ wr => ∃ (pos : Nat) (post : List Nat) (t l d : Int), tv = .int .i64 t ∧ lv = .int .i64 l ∧ dv = .int .i64 d ∧ nv = .bool false ∧ Hid (A.drop pos = encs post) ∧ Hid (∀ r ∈ post, Bmp r) ∧ Hid (LenI sc post t l d) ∧ Hid (post.foldl (lenF sc) (some (t, l, d)) = some (t0, l0, d0)) ∧ wr.heap[w.heap.size]? = some (.stringIter S pos) ∧ Hid (Below w.heap.size w wr)) (fun _ _ _ _ _ _ _ _ wr => S.size - wr.iterPos w.heap.size)
  case atStart =>
    exact ⟨0, rs, 0, 0, 0, rfl, rfl, rfl, rfl, HS0.out, HB.out, HL.out, H.out, World.iter_heap w S 0, Lib.hid ((Below.refl _ w).alloc (Nat.le_refl _) _)⟩
  case round =>
    obtain ⟨pos, post, t, l, d, rfl, rfl, rfl, rfl, hd, hb, hi, hf, hit, hbw⟩ := hrel
    cases post with
    | nil =>
      have hp := HE.out pos hd.out
      have hnx : ∀ ty, (Instr.next (.pointer (some ⟨w.heap.size, 0, none⟩)) true ty).run Tryd.prog wr = _ := fun ty => Lib.run_next_end_at wr w.heap.size S pos ty hit hp
      have he : (t, l, d) = (t0, l0, d0) := Option.some.inj hf.out
      obtain ⟨i1, i2, i3, i4, i5, i6, i7⟩ := hi.out
      obtain ⟨rfl, rfl, rfl⟩ : t = t0 ∧ l = l0 ∧ d = d0 := by injection he with a b; injection b with b c; exact ⟨a, b, c⟩
      clear he hf hi i1
      simp only [List.length_nil] at i7
      go_wp2_with fail
      go_ret2
      exact ⟨rfl, hbw.out⟩
    | cons c ps =>
      obtain ⟨hp, hdec, hdr⟩ := HD.out pos c ps hd.out hb.out
      obtain ⟨v, hv, hg, hf2⟩ := len_step sc c ps t l d _ hf.out
      have hv1 := val_le sc c v hv
      obtain ⟨i1, i2, i3, i4, i5, i6, i7⟩ := hi.out
      have c1 := (enc_len c (hb.out c (List.mem_cons_self ..))).1
      have HF := Lib.hid hf2
      have HDR := Lib.hid hdr
      have HBP : Hid (∀ r ∈ ps, Bmp r) := fun r hr => hb.out r (List.mem_cons_of_mem _ hr)
      have hnx : ∀ ty, (Instr.next (.pointer (some ⟨w.heap.size, 0, none⟩)) true ty).run Tryd.prog wr = .ok (.tuple #[.bool true, .int .i64 pos, .int .i32 (c : Int)]) (wr.iterAt w.heap.size S (pos + (Lib.encodeRune (c : Int)).length)) := fun ty => by
        rw [Lib.run_next_any_at wr w.heap.size S pos ty hit hp, hdec]
      have hit2 := Lib.iterAt_heap wr w.heap.size S pos (pos + (Lib.encodeRune (c : Int)).length) hit
      have hbw2 := Lib.below_iterAt hbw.out (k := w.heap.size) (Nat.le_refl _) S (pos + (Lib.encodeRune (c : Int)).length)
      have hzw := hz0.out.next hbw2
      have hlt2 : w.heap.size < (wr.iterAt w.heap.size S (pos + (Lib.encodeRune (c : Int)).length)).heap.size := (Array.getElem?_eq_some_iff.1 hit2).1
      have HVc := Lib.hid (hV.out c v hv _ hzw)
      unfold ValQ at HVc
      have hps : (((c :: ps).length : Nat) : Int) = (ps.length : Int) + 1 := by simp
      rw [hps] at i7
      have hi0 : 0 ≤ (ps.length : Int) := by omega
      have hs := HSC.out
      have t0 := i1 (by omega)
      have hst : lenS sc t l d v = (t + v, l, d) := by unfold lenS; rw [if_neg (by omega), if_neg (by omega), if_pos (by omega)]
      rw [hst] at HF
      clear hst
      have HI : Hid (LenI sc ps (t + v) l d) := ⟨fun _ => by omega, by omega, i3, i4, i5, i6, by omega⟩
      have HP1 : Hid (S.size - (pos + (Lib.encodeRune (c : Int)).length) < S.size - wr.iterPos w.heap.size) := by
        unfold World.iterPos
        rw [hit]
        show S.size - _ < S.size - pos
        omega
      clear hi hf hv hdec hdr hf2 hps hb hd hzw c1 hp i1 hs
      generalize (Lib.encodeRune (c : Int)).length = k at *
      generalize hW : wr.iterAt w.heap.size S (pos + k) = W1 at *
      clear hW hit hbw
      have HIT := Lib.hid hit2
      have HBW := Lib.hid hbw2
      have HLT := Lib.hid hlt2
      clear hit2 hbw2 hlt2
      go_wp2_with fail
      refine HVc.out.mono ?_
      rintro e W2 ⟨rfl, hb2⟩
      have HB2 := Lib.hid hb2
      have HIT2 : Hid (W2.heap[w.heap.size]? = some (.stringIter S (pos + k))) := (HB2.out.block _ HLT.out).trans HIT.out
      have HBW2 := Lib.hid (HBW.out.trans (HB2.out.mono (Nat.le_of_lt HLT.out)))
      clear hb2 HVc HB2
      rcases HC.out with t10 | ⟨t10, t11⟩
      all_goals
        go_wp2_with fail
        go_roundw
      all_goals first
        | exact ⟨pos + k, ps, _, _, _, rfl, rfl, rfl, rfl, HDR.out, HBP.out, HI.out, HF.out, HIT2.out, HBW2.out⟩
        | (unfold World.iterPos; rw [HIT2.out]; exact HP1.out)

end Go.Proofs.YtlihhlijombepaaDoor

