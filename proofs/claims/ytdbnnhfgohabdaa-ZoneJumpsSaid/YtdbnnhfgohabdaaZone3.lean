/- Contracts of package zone: Instants. -/
import Derived.Test.YtdbnnhfgohabdaaZone2
namespace Go.Proofs.Ytdbnnhfgohabdaa
open Go.RowKit
set_option linter.unusedVariables false

theorem int_info2 : (Try.prog.info? 3).map (fun i => (i.zero, i.size, i.bytes)) = some (some (.int .i64 0), 1, 8) := by kernel_rfl
/-- a slice of integers and no error -/
def IsIntsZ (xs : List Int) (w : World) (e : Ending) (w' : World) : Prop :=
  ∃ (A : Option Addr) (c : Nat), e = .returned (.tuple #[.slice A xs.length c, .int .i64 0]) ∧ Row w' w'.heap.size A (ints xs) ∧ Below w.heap.size w w'

theorem own_slice {w : World} {base : Nat} {e : TypeId} {size n : Nat} {v : Value} {xs : List Value} (h : w.ownsRow base e size v n xs) : ∃ (A : Option Addr) (c : Nat), v = .slice A n c := by
  rcases h.2 with ⟨rfl, rfl⟩ | ⟨g, cap, cur, rfl, _⟩
  · exact ⟨none, 0, rfl⟩
  · exact ⟨_, _, rfl⟩

set_option maxHeartbeats 2000000 in
set_option maxRecDepth 100000 in
theorem zinst_yes (nm : ByteArray) (first : Int) (A : Option Addr) (c : Nat) (chs : List Chg) (day ms : Int) (w : World) (hz : ZIn w nm A chs) (hok : ZoneOk nm first chs) (d1 : -4000000 ≤ day) (d2 : day ≤ 4000000) (m1 : 0 ≤ ms) (m2 : ms < 86400000) :
    Calls Try.prog 36 #[.agg #[.string nm, .int .i64 first, .slice A chs.length c], .int .i64 day, .int .i64 ms] w (IsIntsZ (instL (day * 86400000 + ms) first chs (chs.length + 1)) w) := by
  obtain ⟨i0, hi0, hz0, hz1, hz2⟩ := info_parts int_info2
  have HO := Lib.hid (fun i hi => off_in hok i hi)
  have h200 := hok.2.2.1
  have Hck := Lib.hid (fun w hz => ZIn.check (w := w) (nm := nm) (A := A) (chs := chs) hz first c)
  have HOK := Lib.hid hok
  clear hok
  have t1 : decide (ms < 0) = false := decide_eq_false (by omega)
  have t2 : decide (86400000 ≤ ms) = false := decide_eq_false (by omega)
  go_enter Try.func36, Try.ntmps36
  go_wp2_with fail
  refine (Hck.out _ (hz.alloc _)).mono ?_
  rintro e w1 ⟨E, rfl, hE, hb1⟩
  obtain rfl : E = 0 := hE.2 HOK.out
  have hB := below_next (Below.refl _ _) hb1
  have hx := (Box.new w 57 #[.string nm, .int .i64 first, .slice A chs.length c]).below hb1
  have hA := ((hz.alloc _).next hb1).row
  clear hE hb1 hz Hck
  go_wp2_with (go_at_call 51; refine (is_yes _ _ d1 d2).mono ?_; rintro e w' ⟨rfl, rfl⟩)
  have b1 : -345600000000000 ≤ day * 86400000 + ms := by omega
  have b2 : day * 86400000 + ms < 345600086400000 := by omega
  generalize day * 86400000 + ms = lo at *
  go_loopw [10, 11, 12, 13] (fun v i _ _ wr => ∃ k : Nat, k ≤ chs.length + 1 ∧ i = .int .i64 ((k : Int) - 1) ∧ wr.ownsRow w1.heap.size 3 1 v (instL lo first chs k).length (ints (instL lo first chs k)) ∧ Below w1.heap.size w1 wr) (fun _ i _ _ _ => (201 - intOf i).toNat)
  case atStart => exact ⟨0, by omega, rfl, World.ownsRow_nil _ _ _ _, Below.refl _ _⟩
  case round =>
    obtain ⟨k, hk, rfl, hown, hbr⟩ := hrel
    have hzr := hbr.size
    have hxr := hx.belowB hbr hx.lt
    have x1 : wr.cell? ⟨w.heap.size, 1, none⟩ = some (.int .i64 first) := hxr.cell 1
    have x2 : wr.cell? ⟨w.heap.size, 2, none⟩ = some (.slice A chs.length c) := hxr.cell 2
    have hin := instL_length lo first chs k
    by_cases hlt : k < chs.length + 1
    · have hoff := HO.out k (by omega)
      by_cases k0 : k = 0
      · subst k0
        have HOff : Hid (offI first chs 0 = first) := rfl
        rw [HOff.out] at hoff
        have hcell : 0 < chs.length → ∃ b o, A = some ⟨b, o, none⟩ ∧ wr.cell? ⟨b, o, none⟩ = some (.int .i64 (chs.getD 0 chg0).a) := fun h => by
          obtain ⟨b, o, e, hb, hc⟩ := hA.open_ (chCells_ne chs h)
          refine ⟨b, o, e, ?_⟩
          have hc' : ∀ j v, (chCells chs)[j]? = some v → wr.cell? ⟨b, o + j, none⟩ = some v := fun j v hv => (hbr.cell (p := ⟨b, o + j, none⟩) hb).trans (hc j v hv)
          simpa using (ch_cells hc' 0 h).1
        have HCell := Lib.hid hcell
        clear hcell
        by_cases hi : InstOk (lo - first)
        · go_wp2_with fail
          refine (isInstant_yes _ _ hi).mono ?_
          rintro e w' ⟨rfl, n1, rfl⟩
          by_cases hn0 : chs.length = 0
          · have tb : ((0 : Int) == (chs.length : Int)) = true := beq_iff_eq.2 (by omega)
            have Hn0 := Lib.hid hn0
            clear hn0
            replace hown : (wr.drewN n1).ownsRow w1.heap.size 3 1 u10 (instL lo first chs (0)).length (ints (instL lo first chs (0))) := hown
            replace hbr := below_drew hbr n1
            replace hzr : w1.heap.size ≤ (wr.drewN n1).heap.size := hzr
            replace x2 : (wr.drewN n1).cell? ⟨w.heap.size, 2, none⟩ = some (.slice A chs.length c) := x2
            clear x1 hxr
            generalize wr.drewN n1 = W2 at *
            have hI : instB lo first chs 0 = true := by rw [instB_iff, HOff.out]; exact ⟨hi, .inl rfl, .inl (Hn0.out).symm⟩
            have hsn : Hid (instL lo first chs (0 + 1) = instL lo first chs 0 ++ [lo - first]) := (if_pos hI).trans (by rw [HOff.out])
            clear hI
            go_wp2_with (at_builtin; refine wpList_append_own _ rfl (.tmp 87) (.tmp 89) 58 rfl w1.heap.size 3 i0 (.int .i64 0) 1 8 Try.underlying58 hi0 hz0 hz1 hz2 rfl (by decide) u10 _ _ rfl (hown.alloc _) ⟨W2.heap.size, 0, none⟩ 1 1 [.int .i64 (lo - first)] rfl rfl ?c1 ?c2 ?c3 ?c4 ?c5 ?_)
            case c1 => exact cell_one_new _ _ _
            case c2 => intro u hu; simp at hu; subst hu; rfl
            case c3 => simp only [maxLen]; omega
            case c4 => omega
            case c5 => simp; omega
            intro v' w3 hown' hgrow _
            have hb3 : Below w1.heap.size w1 w3 := (hbr.alloc hzr _).grown hgrow (by simp; omega) (own_base hown)
            rw [← ints_snoc, ← hsn.out] at hown'
            have hlen : (instL lo first chs (0)).length + 1 = (instL lo first chs (0 + 1)).length := by rw [hsn.out, List.length_append, List.length_singleton]
            rw [hlen] at hown'
            clear hown hgrow hbr hlen
            go_wp2_with fail
            go_roundw
            case rel => exact ⟨0 + 1, by omega, by go_num, hown', hb3⟩
            case measure => simp [intOf] <;> omega
          · have tb : ((0 : Int) == (chs.length : Int)) = false := beq_eq_false_iff_ne.2 (by omega)
            obtain ⟨b, o, rfl, y0⟩ := HCell.out (by omega)
            have m0 : (0 : Int) < (chs.length : Int) := by omega
            have Hn0 := Lib.hid hn0
            clear hn0
            generalize hca : (chs.getD 0 chg0).a = ca at *
            have Hca := Lib.hid hca
            clear hca
            replace hown : (wr.drewN n1).ownsRow w1.heap.size 3 1 u10 (instL lo first chs (0)).length (ints (instL lo first chs (0))) := hown
            replace hbr := below_drew hbr n1
            replace hzr : w1.heap.size ≤ (wr.drewN n1).heap.size := hzr
            replace x2 : (wr.drewN n1).cell? ⟨w.heap.size, 2, none⟩ = some (.slice (some ⟨b, o, none⟩) chs.length c) := x2
            replace y0 : (wr.drewN n1).cell? ⟨b, o, none⟩ = some (.int .i64 ca) := y0
            clear x1 hxr
            generalize wr.drewN n1 = W2 at *
            by_cases hlta : lo - first < ca
            · have tl : decide (lo - first < ca) = true := decide_eq_true hlta
              have hI : instB lo first chs 0 = true := by rw [instB_iff, HOff.out]; exact ⟨hi, .inl rfl, .inr (by rw [Hca.out]; exact hlta)⟩
              have hsn : Hid (instL lo first chs (0 + 1) = instL lo first chs 0 ++ [lo - first]) := (if_pos hI).trans (by rw [HOff.out])
              clear hI
              go_wp2_with (at_builtin; refine wpList_append_own _ rfl (.tmp 87) (.tmp 89) 58 rfl w1.heap.size 3 i0 (.int .i64 0) 1 8 Try.underlying58 hi0 hz0 hz1 hz2 rfl (by decide) u10 _ _ rfl (hown.alloc _) ⟨W2.heap.size, 0, none⟩ 1 1 [.int .i64 (lo - first)] rfl rfl ?c1 ?c2 ?c3 ?c4 ?c5 ?_)
              case c1 => exact cell_one_new _ _ _
              case c2 => intro u hu; simp at hu; subst hu; rfl
              case c3 => simp only [maxLen]; omega
              case c4 => omega
              case c5 => simp; omega
              intro v' w3 hown' hgrow _
              have hb3 : Below w1.heap.size w1 w3 := (hbr.alloc hzr _).grown hgrow (by simp; omega) (own_base hown)
              rw [← ints_snoc, ← hsn.out] at hown'
              have hlen : (instL lo first chs (0)).length + 1 = (instL lo first chs (0 + 1)).length := by rw [hsn.out, List.length_append, List.length_singleton]
              rw [hlen] at hown'
              clear hown hgrow hbr hlen
              go_wp2_with fail
              go_roundw
              case rel => exact ⟨0 + 1, by omega, by go_num, hown', hb3⟩
              case measure => simp [intOf] <;> omega
            · have tl : decide (lo - first < ca) = false := decide_eq_false hlta
              have hI : ¬ instB lo first chs (0) = true := by rw [instB_iff, HOff.out]; exact fun h => Or.elim h.2.2 (fun e => Hn0.out e.symm) (fun e => hlta (by rw [Hca.out] at e; exact e))
              have hsn : Hid (instL lo first chs (0 + 1) = instL lo first chs (0)) := if_neg hI
              clear hI
              go_wp2_with fail
              go_roundw
              case rel => exact ⟨0 + 1, by omega, by go_num, by rw [hsn.out]; exact hown, hbr⟩
              case measure => simp [intOf] <;> omega
        · go_wp2_with fail
          refine (isInstant_no _ _ (by omega) (by omega) hi).mono ?_
          rintro e w' ⟨rfl, n1, rfl⟩
          replace hown : (wr.drewN n1).ownsRow w1.heap.size 3 1 u10 (instL lo first chs (0)).length (ints (instL lo first chs (0))) := hown
          replace hbr := below_drew hbr n1
          replace hzr : w1.heap.size ≤ (wr.drewN n1).heap.size := hzr
          replace x2 : (wr.drewN n1).cell? ⟨w.heap.size, 2, none⟩ = some (.slice A chs.length c) := x2
          clear x1 hxr
          generalize wr.drewN n1 = W2 at *
          have hI : ¬ instB lo first chs (0) = true := by rw [instB_iff, HOff.out]; exact fun h => hi h.1
          have hsn : Hid (instL lo first chs (0 + 1) = instL lo first chs (0)) := if_neg hI
          clear hI
          go_wp2_with fail
          go_roundw
          case rel => exact ⟨0 + 1, by omega, by go_num, by rw [hsn.out]; exact hown, hbr⟩
          case measure => simp [intOf] <;> omega
      · obtain ⟨m, rfl⟩ : ∃ m, k = m + 1 := ⟨k - 1, by omega⟩
        have HOff : Hid (offI first chs (m + 1) = (chs.getD m chg0).o) := rfl
        rw [HOff.out] at hoff
        have em : (((m + 1 : Nat) : Int) - 1) = (m : Int) := by omega
        rw [em]
        clear em k0
        obtain ⟨b, o, rfl, hb, hc⟩ := hA.open_ (chCells_ne chs (by omega))
        have hc' : ∀ j v, (chCells chs)[j]? = some v → wr.cell? ⟨b, o + j, none⟩ = some v := fun j v hv => (hbr.cell (p := ⟨b, o + j, none⟩) hb).trans (hc j v hv)
        obtain ⟨y0, y1, _⟩ := ch_cells hc' m (by omega)
        have hnext : m + 1 < chs.length → wr.cell? ⟨b, o + (m + 1) * 3, none⟩ = some (.int .i64 (chs.getD (m + 1) chg0).a) := fun h => (ch_cells hc' (m + 1) h).1
        have HNx := Lib.hid hnext
        have hSeg : Hid (∀ t, InSeg chs (m + 1) t ↔ (chs.getD m chg0).a ≤ t ∧ (m + 1 = chs.length ∨ t < (chs.getD (m + 1) chg0).a)) := fun t => by
          unfold InSeg
          rw [Nat.add_sub_cancel]
          constructor
          · rintro ⟨h1, h2⟩
            exact ⟨by rcases h1 with e | e <;> omega, h2⟩
          · rintro ⟨h1, h2⟩
            exact ⟨.inr h1, h2⟩
        clear hc hc' hnext
        generalize (chs.getD m chg0).a = ca at *
        generalize (chs.getD m chg0).o = co at *
        generalize (chs.getD (m + 1) chg0).a = na at *
        have m0 : (0 : Int) ≤ (m : Int) := by omega
        have m1 : (m : Int) < (chs.length : Int) := by omega
        have m2 : decide ((m : Int) < 0) = false := decide_eq_false (by omega)
        by_cases hi : InstOk (lo - co)
        · go_wp2_with fail
          refine (isInstant_yes _ _ hi).mono ?_
          rintro e w' ⟨rfl, n1, rfl⟩
          replace hown : (wr.drewN n1).ownsRow w1.heap.size 3 1 u10 (instL lo first chs (m + 1)).length (ints (instL lo first chs (m + 1))) := hown
          replace hbr := below_drew hbr n1
          replace hzr : w1.heap.size ≤ (wr.drewN n1).heap.size := hzr
          replace x2 : (wr.drewN n1).cell? ⟨w.heap.size, 2, none⟩ = some (.slice (some ⟨b, o, none⟩) chs.length c) := x2
          replace y0 : (wr.drewN n1).cell? ⟨b, o + m * 3, none⟩ = some (.int .i64 ca) := y0
          replace HNx : Hid (m + 1 < chs.length → (wr.drewN n1).cell? ⟨b, o + (m + 1) * 3, none⟩ = some (.int .i64 na)) := HNx.out
          clear y1
          clear x1 hxr
          generalize wr.drewN n1 = W2 at *
          by_cases hle : ca ≤ lo - co
          · have tl : decide (ca ≤ lo - co) = true := decide_eq_true hle
            by_cases hn1 : m + 1 = chs.length
            · have tb : ((m : Int) + 1 == (chs.length : Int)) = true := beq_iff_eq.2 (by omega)
              have Hn1 := Lib.hid hn1
              clear hn1
              have hI : instB lo first chs (m + 1) = true := by rw [instB_iff, HOff.out]; exact ⟨hi, (hSeg.out _).2 ⟨hle, .inl Hn1.out⟩⟩
              have hsn : Hid (instL lo first chs ((m + 1) + 1) = instL lo first chs (m + 1) ++ [lo - co]) := (if_pos hI).trans (by rw [HOff.out])
              clear hI
              go_wp2_with (at_builtin; refine wpList_append_own _ rfl (.tmp 87) (.tmp 89) 58 rfl w1.heap.size 3 i0 (.int .i64 0) 1 8 Try.underlying58 hi0 hz0 hz1 hz2 rfl (by decide) u10 _ _ rfl (hown.alloc _) ⟨W2.heap.size, 0, none⟩ 1 1 [.int .i64 (lo - co)] rfl rfl ?c1 ?c2 ?c3 ?c4 ?c5 ?_)
              case c1 => exact cell_one_new _ _ _
              case c2 => intro u hu; simp at hu; subst hu; rfl
              case c3 => simp only [maxLen]; omega
              case c4 => omega
              case c5 => simp; omega
              intro v' w3 hown' hgrow _
              have hb3 : Below w1.heap.size w1 w3 := (hbr.alloc hzr _).grown hgrow (by simp; omega) (own_base hown)
              rw [← ints_snoc, ← hsn.out] at hown'
              have hlen : (instL lo first chs ((m + 1))).length + 1 = (instL lo first chs ((m + 1) + 1)).length := by rw [hsn.out, List.length_append, List.length_singleton]
              rw [hlen] at hown'
              clear hown hgrow hbr hlen
              go_wp2_with fail
              go_roundw
              case rel => exact ⟨(m + 1) + 1, by omega, by go_num, hown', hb3⟩
              case measure => simp [intOf] <;> omega
            · have tb : ((m : Int) + 1 == (chs.length : Int)) = false := beq_eq_false_iff_ne.2 (by omega)
              have y3 := HNx.out (by omega)
              have m3 : (m : Int) + 1 < (chs.length : Int) := by omega
              have Hn1 := Lib.hid hn1
              clear hn1
              by_cases hlta : lo - co < na
              · have tl2 : decide (lo - co < na) = true := decide_eq_true hlta
                have hI : instB lo first chs (m + 1) = true := by rw [instB_iff, HOff.out]; exact ⟨hi, (hSeg.out _).2 ⟨hle, .inr hlta⟩⟩
                have hsn : Hid (instL lo first chs ((m + 1) + 1) = instL lo first chs (m + 1) ++ [lo - co]) := (if_pos hI).trans (by rw [HOff.out])
                clear hI
                go_wp2_with (at_builtin; refine wpList_append_own _ rfl (.tmp 87) (.tmp 89) 58 rfl w1.heap.size 3 i0 (.int .i64 0) 1 8 Try.underlying58 hi0 hz0 hz1 hz2 rfl (by decide) u10 _ _ rfl (hown.alloc _) ⟨W2.heap.size, 0, none⟩ 1 1 [.int .i64 (lo - co)] rfl rfl ?c1 ?c2 ?c3 ?c4 ?c5 ?_)
                case c1 => exact cell_one_new _ _ _
                case c2 => intro u hu; simp at hu; subst hu; rfl
                case c3 => simp only [maxLen]; omega
                case c4 => omega
                case c5 => simp; omega
                intro v' w3 hown' hgrow _
                have hb3 : Below w1.heap.size w1 w3 := (hbr.alloc hzr _).grown hgrow (by simp; omega) (own_base hown)
                rw [← ints_snoc, ← hsn.out] at hown'
                have hlen : (instL lo first chs ((m + 1))).length + 1 = (instL lo first chs ((m + 1) + 1)).length := by rw [hsn.out, List.length_append, List.length_singleton]
                rw [hlen] at hown'
                clear hown hgrow hbr hlen
                go_wp2_with fail
                go_roundw
                case rel => exact ⟨(m + 1) + 1, by omega, by go_num, hown', hb3⟩
                case measure => simp [intOf] <;> omega
              · have tl2 : decide (lo - co < na) = false := decide_eq_false hlta
                have hI : ¬ instB lo first chs (m + 1) = true := by rw [instB_iff, HOff.out]; exact fun h => Or.elim ((hSeg.out _).1 h.2).2 (fun e => Hn1.out e) (fun e => hlta e)
                have hsn : Hid (instL lo first chs (m + 1 + 1) = instL lo first chs (m + 1)) := if_neg hI
                clear hI
                go_wp2_with fail
                go_roundw
                case rel => exact ⟨m + 1 + 1, by omega, by go_num, by rw [hsn.out]; exact hown, hbr⟩
                case measure => simp [intOf] <;> omega
          · have tl : decide (ca ≤ lo - co) = false := decide_eq_false hle
            have hI : ¬ instB lo first chs (m + 1) = true := by rw [instB_iff, HOff.out]; exact fun h => hle ((hSeg.out _).1 h.2).1
            have hsn : Hid (instL lo first chs (m + 1 + 1) = instL lo first chs (m + 1)) := if_neg hI
            clear hI
            go_wp2_with fail
            go_roundw
            case rel => exact ⟨m + 1 + 1, by omega, by go_num, by rw [hsn.out]; exact hown, hbr⟩
            case measure => simp [intOf] <;> omega
        · go_wp2_with fail
          refine (isInstant_no _ _ (by omega) (by omega) hi).mono ?_
          rintro e w' ⟨rfl, n1, rfl⟩
          replace hown : (wr.drewN n1).ownsRow w1.heap.size 3 1 u10 (instL lo first chs (m + 1)).length (ints (instL lo first chs (m + 1))) := hown
          replace hbr := below_drew hbr n1
          replace hzr : w1.heap.size ≤ (wr.drewN n1).heap.size := hzr
          replace x2 : (wr.drewN n1).cell? ⟨w.heap.size, 2, none⟩ = some (.slice (some ⟨b, o, none⟩) chs.length c) := x2
          clear y0 y1 HNx
          clear x1 hxr
          generalize wr.drewN n1 = W2 at *
          have hI : ¬ instB lo first chs (m + 1) = true := by rw [instB_iff, HOff.out]; exact fun h => hi h.1
          have hsn : Hid (instL lo first chs (m + 1 + 1) = instL lo first chs (m + 1)) := if_neg hI
          clear hI
          go_wp2_with fail
          go_roundw
          case rel => exact ⟨m + 1 + 1, by omega, by go_num, by rw [hsn.out]; exact hown, hbr⟩
          case measure => simp [intOf] <;> omega
    · have hke : k = chs.length + 1 := by omega
      subst hke
      obtain ⟨A', c', hv⟩ := own_slice hown
      have hrow : Row wr wr.heap.size A' (ints (instL lo first chs (chs.length + 1))) := by
        rw [hv] at hown
        exact Row.of_own hown
      have HV := Lib.hid hv
      clear hv hown
      have tt : decide ((((chs.length + 1 : Nat) : Int) - 1) < (chs.length : Int)) = false := decide_eq_false (by omega)
      have em : (((chs.length + 1 : Nat) : Int) - 1) = (chs.length : Int) := by omega
      rw [em]
      clear em tt
      go_wp2_with fail
      go_ret2
      refine ⟨A', c', ?_, hrow, below_then hB hbr⟩
      rw [← HV.out]
      rfl
end Go.Proofs.Ytdbnnhfgohabdaa
