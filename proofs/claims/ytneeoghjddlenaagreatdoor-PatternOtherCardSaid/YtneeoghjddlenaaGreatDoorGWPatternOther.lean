/- WPatternOther -/
import Derived.Test.YtneeoghjddlenaaGreatDoorGPat0
import Derived.Test.YtneeoghjddlenaaGreatDoorGPlainPat
import Derived.Test.YtneeoghjddlenaaGreatDoorGCat1
import Derived.Test.YtneeoghjddlenaaGreatDoorGCatOk
import Derived.Test.YtneeoghjddlenaaGreatDoorGBack1
import Derived.Test.YtneeoghjddlenaaGreatDoorGNumr1
import Derived.Test.YtneeoghjddlenaaGreatDoorGPlainDate
/- The walk of PatternOther: it returns true at every input; it writes nothing that was there. -/
namespace Go.Proofs.YtneeoghjddlenaaGreatDoor.patternOther
open Go Go.RowKit
set_option linter.unusedVariables false

/-- the pattern of a date -/
def R2 : List (List UInt8 × List UInt8) := [([], [121]), ([45], [109]), ([45], [100])]
theorem r2_ok : ∀ x ∈ R2, PrOk x := by
  intro x hx
  unfold R2 at hx
  simp only [List.mem_cons, List.not_mem_nil, or_false] at hx
  rcases hx with rfl | rfl | rfl
  · exact ⟨by decide, by decide, by decide, 1, by decide⟩
  · exact ⟨by decide, by decide, by decide, 2, by decide⟩
  · exact ⟨by decide, by decide, by decide, 3, by decide⟩
/-- a number as text -/
def ntI (n : Int) : List UInt8 := if n.natAbs < 100000 then Lib.itoa n else []
theorem nt_len (n : Int) : (ntI n).length ≤ 100 := by
  unfold ntI
  split
  · have := itoa_len n 5 (by omega) (by omega); omega
  · simp
theorem r2_text (mn : ByteArray) (y : Int) (m : Nat) (d : Int) (h1 : y.natAbs < 100000) (h2 : m < 90000) (h3 : 0 ≤ d) (h4 : d < 90000) : (partL R2).flatMap (partX mn ntI y m d) = ymdT y m d := by
  have e1 : ntI y = Lib.itoa y := if_pos h1
  have e2 : ntI ((m : Int) + 1) = Lib.itoa ((m : Int) + 1) := if_pos (by omega)
  have e3 : ntI (d + 1) = Lib.itoa (d + 1) := if_pos (by omega)
  have : (partL R2).flatMap (partX mn ntI y m d) = ntI y ++ ([45] ++ (ntI ((m : Int) + 1) ++ ([45] ++ ntI (d + 1)))) := by simp [R2, partL, partX, pnameI]
  rw [this, e1, e2, e3]
  simp [ymdT]
theorem mapD_self (l : List UInt8) (h : ∀ b ∈ l, b.toNat < 128) : Lib.mapD (dgt 48) l = l := by
  have hd : ∀ x : Int, dgt 48 x = x := fun x => by unfold dgt; split <;> omega
  rw [mapD_ascii (dgt 48) l (fun b hb => ⟨h b hb, by rw [hd]; omega⟩)]
  induction l with
  | nil => rfl
  | cons b l ih =>
    rw [List.flatMap_cons, ih (fun x hx => h x (List.mem_cons_of_mem _ hx)), hd, enc_one b.toNat (h b (List.mem_cons_self ..))]
    simp [Nat.toUInt8]
theorem num_any (n : Int) (h1 : -20000 ≤ n) (h2 : n ≤ 20000) (W : World) (hp : Pow W) (hz : Zer W) (hu : U8 W) :
    Calls Tryz.prog 31 #[.int .i64 ((0 : Nat) : Int), .int .i64 n] W fun e w' => e = .returned (.tuple #[.string (str (ntI n)), .int .i64 0]) ∧ Below W.heap.size W w' := by
  have h := nWrite_pos 0 (by omega) n (by omega) (by omega) W hp hz hu
  rw [show zerosL.getD 0 0 = 48 from rfl, mapD_self _ (fun b hb => by have := itoa_byte n b hb; omega)] at h
  rw [show ntI n = Lib.itoa n from if_pos (by omega)]
  exact h
theorem fd_o {c : Cal} (ok : CalOk c) {day : Int} {y : Int} {m : Nat} {d : Int} (h1 : -10000 ≤ y) (h2 : y ≤ 10000) (h : IsOn c y m d day) : c.ny (-10000) ≤ day ∧ day < c.ny 10001 := by
  have q := h.year ok
  have q1 := Cal.ny_le ok h1
  have q2 := Cal.ny_le ok (show y + 1 ≤ 10001 by omega)
  omega
/-- what the pattern writes of a day -/
def OthQ (r : CatRow) (day : Int) (w : World) (e : Ending) (w' : World) : Prop :=
  Below w.heap.size w w' ∧ ∃ (s : List UInt8) (E : Int) (c : Cal), e = .returned (.tuple #[.string (str s), .int .i64 E]) ∧ CalOf r c ∧ CalOk c ∧ ((E = 0 ∧ ∃ (y : Int) (m : Nat) (d : Int), IsOn c y m d day ∧ s = ymdT y m d) ∨ (E = 3 ∧ ¬ (c.ny (-10000) ≤ day ∧ day < c.ny 10001)))
theorem po_any (r : CatRow) (hr : r ∈ catR) (day : Int) (hd1 : -4000000 ≤ day) (hd2 : day ≤ 4000000) (w : World) (hv : Env w) (hp : Pow w) (hz : Zer w) (hu : U8 w) :
    Calls Tryz.prog 11 #[.string ⟨#[123, 121, 125, 45, 123, 109, 125, 45, 123, 100, 125]⟩, .string (str r.nm), .int .i64 0, .int .i64 day] w (OthQ r day w) := by
  have h := PWrite_any R2 r2_ok (by decide) (by decide) (by decide) ntI nt_len r hr 0 (by omega) day hd1 hd2 w hv (fun _ n W h1 h2 hb => num_any n h1 h2 W (hp.next hb) (hz.next hb) (hu.next hb))
  rw [show str (patT R2) = ⟨#[123, 121, 125, 45, 123, 109, 125, 45, 123, 100, 125]⟩ from rfl, show ((0 : Nat) : Int) = 0 from rfl] at h
  refine Calls.mono h ?_
  rintro e w' ⟨hb, c, hof, ok, hc⟩
  refine ⟨hb, ?_⟩
  rcases hc with ⟨y, m, d, h1, h2, h3, rfl⟩ | ⟨hno, rfl⟩
  · have hm := h3.m1
    have hm2 := ok.mo.n2
    have hd0 := h3.d0
    have hd1 := h3.d1
    have hdM := Cal.mlen_in ok y m hm
    rw [r2_text _ y m d (by omega) (by omega) hd0 (by omega)]
    exact ⟨_, 0, c, rfl, hof, ok, .inl ⟨rfl, y, m, d, h3, rfl⟩⟩
  · exact ⟨[], 3, c, rfl, hof, ok, .inr ⟨rfl, hno⟩⟩
theorem one_date (w : World) (hE : Env w) (hp : Pow w) (hz : Zer w) (hu : U8 w) : Calls Tryz.prog 11 #[.string ⟨#[123, 121, 125, 45, 123, 109, 125, 45, 123, 100, 125]⟩, .string ⟨#[103, 114, 101, 103, 111, 114, 105, 97, 110]⟩, .int .i64 0, .int .i64 1] w fun e w' => e = .returned (.tuple #[.string ⟨#[49, 45, 49, 45, 49]⟩, .int .i64 0]) ∧ Below w.heap.size w w' := by
  have h := po_any cr0 cr0_in 1 (by omega) (by omega) w hE hp hz hu
  rw [show str cr0.nm = ⟨#[103, 114, 101, 103, 111, 114, 105, 97, 110]⟩ from by decide +kernel] at h
  refine Calls.mono h ?_
  rintro e w' ⟨hb, s, E, c, rfl, hof, ok, hc⟩
  have hon : IsOn c 1 0 0 1 := by
    have hv : valid 1 0 1 := by unfold valid; decide
    have e : dayOf 1 0 1 = 1 := by decide
    have hh := greg_on hof ok 1 0 1 hv
    rw [e] at hh
    exact hh
  rcases hc with ⟨rfl, y, m, d, h3, rfl⟩ | ⟨rfl, hno⟩
  · obtain ⟨rfl, rfl, rfl⟩ := h3.unique ok hon
    rw [show str (ymdT 1 0 0) = ⟨#[49, 45, 49, 45, 49]⟩ from by decide +kernel]
    exact ⟨rfl, hb⟩
  · exact absurd (fd_o ok (by omega) (by omega) hon) hno
theorem same_iff {r : CatRow} {c c' : Cal} (hof : CalOf r c) (hof' : CalOf r c') (ok : CalOk c) {a b y y' : Int} {m m' : Nat} {d d' : Int} (h : IsOn c y m d a) (h' : IsOn c' y' m' d' b) : ymdT y m d = ymdT y' m' d' ↔ a = b := by
  have h2 := (hof.on hof' _ _ _ _).2 h'
  constructor
  · intro e
    obtain ⟨rfl, rfl, rfl⟩ := ymd_inj h.d0 h'.d0 e
    have q1 := h.on
    have q2 := h2.on
    omega
  · rintro rfl
    obtain ⟨rfl, rfl, rfl⟩ := h.unique ok h2
    rfl

set_option maxRecDepth 100000 in
set_option maxHeartbeats 4000000 in
theorem core (k a0 b0 : Int) (w : World) (hk1 : -9223372036854775808 ≤ k) (hk2 : k ≤ 9223372036854775807) (hv : Env w) (hp : Pow w) (hz : Zer w) (hu : U8 w) :
    Calls Tryz.prog 5 #[.int .i64 k, .int .i64 a0, .int .i64 b0] w fun e w' => e = .returned (.bool true) ∧ Below w.heap.size w w' := by
  have HN := Lib.hid (fun W (h : Env W) => name_any k W hk1 hk2 h.h)
  have HOne := Lib.hid (one_date w hv hp hz hu)
  have HV : Hid (∀ W, Below w.heap.size w W → Env W ∧ Pow W ∧ Zer W ∧ U8 W) := fun W hb => ⟨hv.next hb, hp.next hb, hz.next hb, hu.next hb⟩
  have HCutA := Lib.hid (fun W => cut_any a0 (-300000) 1300000 W (by omega) (by omega) (by omega) (by omega))
  have HCutB := Lib.hid (fun W => cut_any b0 (-500) 1001 W (by omega) (by omega) (by omega) (by omega))
  have p1 := Int.emod_nonneg a0 (show (1300000 : Int) ≠ 0 by omega)
  have p2 := Int.emod_lt_of_pos a0 (show (0 : Int) < 1300000 by omega)
  have p3 := Int.emod_nonneg b0 (show (1001 : Int) ≠ 0 by omega)
  have p4 := Int.emod_lt_of_pos b0 (show (0 : Int) < 1001 by omega)
  obtain ⟨a, hda⟩ : ∃ a, a = -300000 + a0 % 1300000 := ⟨_, rfl⟩
  obtain ⟨q, hdb⟩ : ∃ q, q = -500 + b0 % 1001 := ⟨_, rfl⟩
  rw [← hda] at HCutA
  rw [← hdb] at HCutB
  have hd1 : -300000 ≤ a := by omega
  have hd2 : a < 1000000 := by omega
  have hd3 : -500 ≤ q := by omega
  have hd4 : q < 501 := by omega
  have HWA := Lib.hid (fun W (h : Env W ∧ Pow W ∧ Zer W ∧ U8 W) => po_any (rowK k) (rowK_in k) a (by omega) (by omega) W h.1 h.2.1 h.2.2.1 h.2.2.2)
  have HWB := Lib.hid (fun W (h : Env W ∧ Pow W ∧ Zer W ∧ U8 W) => po_any (rowK k) (rowK_in k) (a + q) (by omega) (by omega) W h.1 h.2.1 h.2.2.1 h.2.2.2)
  clear p1 p2 p3 p4 hda hdb hk1 hk2 hv hp hz hu
  unfold OthQ at HWA HWB
  generalize rowK k = r at *
  obtain ⟨nr, hnr⟩ : ∃ nr, nr = str r.nm := ⟨_, rfl⟩
  rw [← hnr] at HN HWA HWB
  clear hnr
  go_enter Tryz.func5, Tryz.ntmps5
  go_wp2_with fail
  refine Calls.mono HOne.out ?_
  rintro e w1 ⟨rfl, hb1⟩
  have HB1 := Lib.hid hb1
  clear hb1 HOne
  go_wp2_with (go_at_call 8; first | (refine Calls.mono (HCutA.out _) ?_; rintro e w' ⟨rfl, rfl⟩; clear HCutA) | (refine Calls.mono (HCutB.out _) ?_; rintro e w' ⟨rfl, rfl⟩; clear HCutB))
  refine Calls.mono (HN.out w1 (HV.out w1 HB1.out).1) ?_
  rintro e w2 ⟨rfl, hb2⟩
  have HB2 := Lib.hid (below_then HB1.out hb2)
  clear hb2 HB1
  go_wp2_with fail
  refine Calls.mono (HWA.out w2 (HV.out w2 HB2.out)) ?_
  rintro e w3 ⟨hb3, s, E, c, rfl, hof, ok, hA⟩
  have HB3 := Lib.hid (below_then HB2.out hb3)
  have HOf := Lib.hid hof
  have HOk := Lib.hid ok
  have HA := Lib.hid hA
  clear hb3 HB2 hof ok hA HWA
  go_wp2_with fail
  refine Calls.mono (HN.out w3 (HV.out w3 HB3.out).1) ?_
  rintro e w4 ⟨rfl, hb4⟩
  have HB4 := Lib.hid (below_then HB3.out hb4)
  clear hb4 HB3
  go_wp2_with fail
  refine Calls.mono (HWB.out w4 (HV.out w4 HB4.out)) ?_
  rintro e w5 ⟨hb5, t, F, c2, rfl, hof2, ok2, hB⟩
  have HB5 := Lib.hid (below_then HB4.out hb5)
  have HOf2 := Lib.hid hof2
  have HB := Lib.hid hB
  clear hb5 HB4 hof2 ok2 hB HWB HN
  have hE : E = 0 ∨ E = 3 := by
    rcases HA.out with h | h
    · exact .inl h.1
    · exact .inr h.1
  have hF : F = 0 ∨ F = 3 := by
    rcases HB.out with h | h
    · exact .inl h.1
    · exact .inr h.1
  rcases hE with rfl | rfl
  case inr =>
    rcases hF with rfl | rfl
    all_goals
      clear HA HB
      go_wp2_with fail
      go_ret
      exact ⟨rfl, HB5.out⟩
  rcases hF with rfl | rfl
  case inr =>
    clear HA HB
    go_wp2_with fail
    go_ret
    exact ⟨rfl, HB5.out⟩
  have hst : s = t ↔ a = a + q := by
    rcases HA.out with ⟨_, y, m, d, h1, rfl⟩ | h
    case inr => exact absurd h.1 (by omega)
    rcases HB.out with ⟨_, y', m', d', h2, rfl⟩ | h
    case inr => exact absurd h.1 (by omega)
    exact same_iff HOf.out HOf2.out HOk.out h1 h2
  clear HA HB HOf HOf2 HOk HV
  by_cases hq : a = a + q
  · obtain rfl := hst.2 hq
    have t1 : ((str s).toList == (str s).toList) = true := beq_self_eq_true _
    have t2 : (a == a + q) = true := by rw [beq_iff_eq]; exact hq
    clear hq hst
    go_wp2_with fail
    go_ret
    exact ⟨rfl, HB5.out⟩
  · have hne : s ≠ t := fun e => hq (hst.1 e)
    have t1 : ((str s).toList == (str t).toList) = false := by
      rw [beq_eq_false_iff_ne]
      intro e
      exact hne (pat_tl_inj e)
    have t2 : (a == a + q) = false := by rw [beq_eq_false_iff_ne]; exact hq
    clear hq hst hne
    go_wp2_with fail
    go_ret
    exact ⟨rfl, HB5.out⟩

theorem walk (a0 : Int) (w0 : (Lit.int .i64 a0).wf = true) (a1 : Int) (w1 : (Lit.int .i64 a1).wf = true) (a2 : Int) (w2 : (Lit.int .i64 a2).wf = true) (W : World) (hL : laidMet Tryz.prog Rows.patternOtherRow.laid W) (hsh : W.ShapedOpen Tryz.prog) :
    Calls Tryz.prog 5 #[.int .i64 a0, .int .i64 a1, .int .i64 a2] W fun e w' => e = .returned (.bool true) ∧ Below W.heap.size W w' := by
  have h := core a0 a1 a2 W (bounds_i64 w0).1 (bounds_i64 w0).2 ⟨sgs_of hL.tail.tail.tail.tail.tail.tail.tail.tail, lvs_of hL.tail.tail.tail.tail.tail.tail.tail, Shp.of hsh⟩ (pow_of hL.tail.tail) (zer_of hL.tail.tail.tail.tail.tail.tail) (u8_of hL (by simp [Rows.patternOtherRow]) (by simp [Rows.patternOtherRow]))
  exact h
end Go.Proofs.YtneeoghjddlenaaGreatDoor.patternOther
