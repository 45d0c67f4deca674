/- The walk of ObservedLonger: it returns true at every input; it writes nothing that was there. -/
import Derived.Test.YtfindembancjdaaObs7
namespace Go.Proofs.Ytfindembancjdaa.observedLonger
open Go.RowKit
set_option linter.unusedVariables false

theorem plain_days2 : OfDays plainM 1 (plainM.sm 1 2) := by
  have h : ∀ i, i < 25 → IsD (plainM.st 1 i) := by decide +kernel
  intro i hi
  exact h i (by have : plainM.sm 1 2 = 24 := by decide +kernel
                omega)
/-- the table of the plain rule -/
theorem plain_of (W : World) : Calls Try.prog 28 #[.agg #[.string ⟨#[112, 108, 97, 105, 110]⟩, .int .i64 1, .int .i64 0, .int .i64 1, .int .i64 59, .int .i64 2, .int .i64 1, .int .i64 1, .int .i64 1, .slice none 0 0, .slice none 0 0], .int .i64 1, .int .i64 2] W fun e w' => ∃ t : Tab, e = .returned (.tuple #[t.val, .int .i64 0]) ∧ t.ms.length = 2 ∧ Below W.heap.size W w' := by
  refine (show Calls Try.prog 28 #[plainM.val, .int .i64 1, .int .i64 ((2 : Nat) : Int)] W _ from Of_one plainM 1 2 W (plain_in W) plain_fit (by omega) (by omega) (by omega) (by omega)).mono ?_
  rintro e w' ⟨t, E, he, ⟨rfl, h⟩ | ⟨_, hn⟩, hb⟩
  · exact ⟨t, he, h.len.1, hb⟩
  · exact absurd ⟨plain_ok, plain_days2⟩ hn

/-- the last year of the longer table -/
def lastY (m : Mo) (first : Int) : List Int := (m.ss first (m.sm first 3 + 1)).drop (m.sm first 2 + 1)
theorem below_more {a W : World} (h : Below a.heap.size a W) (o : Obj) : Below a.heap.size a (W.alloc o) := h.alloc h.size o
theorem below_set4 {a W : World} {B n : Nat} (h : Below B a W) (hn : B ≤ n) (v0 v1 v2 v3 : Value) : Below B a ((((W.setCell ⟨n, 0, none⟩ v0).setCell ⟨n, 1, none⟩ v1).setCell ⟨n, 2, none⟩ v2).setCell ⟨n, 3, none⟩ v3) :=
  (((h.setCell (p := ⟨n, 0, none⟩) hn v0).setCell (p := ⟨n, 1, none⟩) hn v1).setCell (p := ⟨n, 2, none⟩) hn v2).setCell (p := ⟨n, 3, none⟩) hn v3
theorem tin_set4 {W : World} {t : Tab} {n : Nat} (h : TIn W t) (h1 : ∀ a, t.A1 = some a → a.block ≠ n) (h2 : ∀ a, t.A2 = some a → a.block ≠ n) (v0 v1 v2 v3 : Value) : TIn ((((W.setCell ⟨n, 0, none⟩ v0).setCell ⟨n, 1, none⟩ v1).setCell ⟨n, 2, none⟩ v2).setCell ⟨n, 3, none⟩ v3) t :=
  (((h.set_ ⟨n, 0, none⟩ v0 h1 h2).set_ ⟨n, 1, none⟩ v1 h1 h2).set_ ⟨n, 2, none⟩ v2 h1 h2).set_ ⟨n, 3, none⟩ v3 h1 h2
theorem row_drop {w : World} {B b o : Nat} {cs : List Value} (n : Nat) (hb : b < B) (h : ∀ j v, cs[j]? = some v → w.cell? ⟨b, o + j, none⟩ = some v) : Row w B (some ⟨b, o + n, none⟩) (cs.drop n) :=
  .inr ⟨b, o + n, rfl, hb, fun j v hv => by rw [List.getElem?_drop] at hv; rw [Nat.add_assoc]; exact h _ _ hv⟩
theorem ss_take (m : Mo) (first : Int) (a b : Nat) (h : a ≤ b) : m.ss first a = (m.ss first b).take a := by
  unfold Mo.ss
  rw [← List.map_take, List.take_range, Nat.min_eq_left h]
section
variable {m : Mo} {first : Int} (ok : MOk m)
include ok
theorem last_len : ((lastY m first).length : Int) = m.mon (first + 2) ∧ (lastY m first).length = m.sm first 3 - m.sm first 2 := by
  have h2 := ok.mon (first + (2 : Nat))
  have h3 : m.sm first 3 = m.sm first 2 + (m.mon (first + (2 : Nat))).toNat := rfl
  unfold lastY
  rw [List.length_drop, m.ss_len]
  have e : (first + ((2 : Nat) : Int)) = first + 2 := by omega
  rw [e] at h2 h3
  omega
theorem last_ms : m.ms first 2 ++ [((lastY m first).length : Int)] = m.ms first 3 := by
  rw [(last_len ok).1, m.ms_succ first 2]; rfl
end
theorem last_ss (m : Mo) (first : Int) : m.ss first (m.sm first 2 + 1) ++ lastY m first = m.ss first (m.sm first 3 + 1) := by
  have h := m.sm_mono first 2 3 (by omega)
  rw [ss_take m first (m.sm first 2 + 1) (m.sm first 3 + 1) (by omega)]
  exact List.take_append_drop _ _

set_option maxHeartbeats 8000000 in
set_option maxRecDepth 100000 in
theorem core (m : Mo) (x z : Int) (w : World) (hm : MIn w m) (hf : MFit m) :
    Calls Try.prog 9 #[m.val, .int .i64 x, .int .i64 z] w fun e w' => e = .returned (.bool true) ∧ Below w.heap.size w w' := by
  have HC := Lib.hid (fun w => cut_any x (-2000) 4000 w (by omega) (by omega) (by omega) (by omega))
  have hy1 : -2000 ≤ -2000 + x % 4000 := by omega
  have hy2 : -2000 + x % 4000 < 2000 := by omega
  generalize -2000 + x % 4000 = first at *
  have hB1 := below_alloc2 w (Obj.cells m.cells 36) (Obj.cells #[.string ⟨#[112, 108, 97, 105, 110]⟩, .int .i64 1, .int .i64 0, .int .i64 1, .int .i64 59, .int .i64 2, .int .i64 1, .int .i64 1, .int .i64 1, .slice none 0 0, .slice none 0 0] 36)
  have hx1 := (Box.new w 36 m.cells).alloc (Obj.cells #[.string ⟨#[112, 108, 97, 105, 110]⟩, .int .i64 1, .int .i64 0, .int .i64 1, .int .i64 59, .int .i64 2, .int .i64 1, .int .i64 1, .int .i64 1, .slice none 0 0, .slice none 0 0] 36)
  have HM0 := Lib.hid hm
  clear hm
  go_enter Try.func9, Try.ntmps9
  go_wp2_with fail
  generalize (w.alloc (Obj.cells m.cells 36)).alloc (Obj.cells #[.string ⟨#[112, 108, 97, 105, 110]⟩, .int .i64 1, .int .i64 0, .int .i64 1, .int .i64 59, .int .i64 2, .int .i64 1, .int .i64 1, .int .i64 1, .slice none 0 0, .slice none 0 0] 36) = W1 at *
  obtain ⟨g, hg⟩ : ∃ g, g = w.heap.size := ⟨_, rfl⟩
  rw [← hg] at hx1
  rw [← hg]
  clear hg
  refine (plain_of W1).mono ?_
  rintro e w1 ⟨t1, rfl, hl1, hb1⟩
  have hx2 := hx1.below hb1
  have hB2 := Lib.hid (below_then hB1 hb1)
  clear hx1 hB1 hb1
  have hgl := hx2.lt
  have t1l : ((t1.ms.length : Int) != 2) = false := by rw [bne_eq_false_iff_eq]; omega
  clear hl1
  obtain ⟨x0, x1, x2, x3, x4, x5, x6, x7, x8, x9, x10⟩ := mcells hx2
  go_wp2_with (go_at_call 13; refine (HC.out _).mono ?_; rintro e w' ⟨rfl, rfl⟩)
  clear x0 x1 x2 x3 x4 x5 x6 x7 x8 x9 x10 t1l hgl
  replace hx2 := hx2.alloc (Obj.cells t1.cells 67)
  replace hB2 := Lib.hid (below_then hB2.out (below_alloc1 w1 (Obj.cells t1.cells 67)))
  generalize w1.alloc (Obj.cells t1.cells 67) = W2 at *
  refine (show Calls Try.prog 28 #[m.val, .int .i64 first, .int .i64 2] W2 _ from Of_one m first 2 W2 (HM0.out.next hB2.out) hf (by omega) (by omega) (by omega) (by omega)).mono ?_
  rintro e w3 ⟨ta, Ea, rfl, hone, hb3⟩
  have HA := Lib.hid hone
  have HTA : Hid (Ea = 0 → TIn w3 ta) := fun h => by
    rcases HA.out with ⟨_, hg⟩ | ⟨hE, _⟩
    · exact hg.2.2.2.2.2.1
    · exact absurd h hE
  have hx3 := hx2.below hb3
  have hB3 := Lib.hid (below_then hB2.out hb3)
  clear hone hb3 hx2 hB2
  have hgl := hx3.lt
  obtain ⟨x0, x1, x2, x3, x4, x5, x6, x7, x8, x9, x10⟩ := mcells hx3
  go_wp2_with fail
  clear x0 x1 x2 x3 x4 x5 x6 x7 x8 x9 x10 hgl
  have hba := Box.new w3 67 ta.cells
  replace hx3 := hx3.alloc (Obj.cells ta.cells 67)
  replace hB3 := Lib.hid (below_then hB3.out (below_alloc1 w3 (Obj.cells ta.cells 67)))
  replace HTA := Lib.hid (fun h => (HTA.out h).next (below_alloc1 w3 (Obj.cells ta.cells 67)))
  generalize w3.alloc (Obj.cells ta.cells 67) = W4 at *
  generalize w3.heap.size = ga at *
  refine (show Calls Try.prog 28 #[m.val, .int .i64 first, .int .i64 3] W4 _ from Of_one m first 3 W4 (HM0.out.next hB3.out) hf (by omega) (by omega) (by omega) (by omega)).mono ?_
  rintro e w5 ⟨tb, Eb, rfl, hone, hb5⟩
  have HBo := Lib.hid hone
  have hba5 := (hba.below hb5).alloc (Obj.cells tb.cells 67)
  have hbb5 := Box.new w5 67 tb.cells
  have hB5 := Lib.hid (below_then (below_then hB3.out hb5) (below_alloc1 w5 (Obj.cells tb.cells 67)))
  have HTA5 := Lib.hid (fun h => ((HTA.out h).next hb5).next (below_alloc1 w5 (Obj.cells tb.cells 67)))
  have HTB5 : Hid (Eb = 0 → TIn (w5.alloc (Obj.cells tb.cells 67)) tb) := fun h => by
    rcases HBo.out with ⟨_, hg⟩ | ⟨hE, _⟩
    · exact hg.2.2.2.2.2.1.next (below_alloc1 w5 (Obj.cells tb.cells 67))
    · exact absurd h hE
  clear hone hb5 hba hB3 HTA hx3
  by_cases hEa : Ea = 0
  case neg =>
    have t1 : (Ea != 0) = true := by rw [bne_iff_ne]; exact hEa
    go_wp2_with fail
    go_ret
    exact ⟨rfl, hB5.out⟩
  by_cases hEb : Eb = 0
  case neg =>
    have t1 : (Eb != 0) = true := by rw [bne_iff_ne]; exact hEb
    subst hEa
    go_wp2_with fail
    go_ret
    exact ⟨rfl, hB5.out⟩
  subst hEa hEb
  go_wp2_with fail
  have hga : TabGood m first 2 W2 w3 ta := by
    rcases HA.out with ⟨_, h⟩ | ⟨h, _⟩
    · exact h
    · exact absurd rfl h
  have hgb : TabGood m first 3 W4 w5 tb := by
    rcases HBo.out with ⟨_, h⟩ | ⟨h, _⟩
    · exact h
    · exact absurd rfl h
  have HGA := Lib.hid hga
  have HGB := Lib.hid hgb
  have hTA := Lib.hid (HTA5.out (by first | rfl | trivial))
  have hTB := Lib.hid (HTB5.out (by first | rfl | trivial))
  have hll := last_len (first := first) hga.1
  have hmo := hga.1.mon (first + 2)
  have hsm := hga.1.sm_in first 2
  have hsm3 := hga.1.sm_in first 3
  have hle := m.sm_mono first 2 3 (by omega)
  have hla := hga.len.2
  have hlb := hgb.len.2
  have hlma := hga.len.1
  have hcb := hgb.2.2.2.2.2.2.2.2.1
  have hcb2 := hgb.2.2.2.2.2.2.2.2.2.1
  unfold maxLen at hcb2
  have hss : lastY m first = tb.ss.drop ta.ss.length := by rw [hla, hgb.2.2.2.2.1]; rfl
  obtain ⟨b2, o2, hA2, hb2l, hcs2⟩ := hTB.out.2.open_ (ints_ne tb.ss (by omega))
  have hRl : Hid (Row (w5.alloc (Obj.cells tb.cells 67)) (w5.alloc (Obj.cells tb.cells 67)).heap.size (some ⟨b2, o2 + ta.ss.length, none⟩) (ints (lastY m first))) := by
    rw [hss, show ints (tb.ss.drop ta.ss.length) = (ints tb.ss).drop ta.ss.length from by simp [ints, List.map_drop]]
    exact row_drop _ hb2l hcs2
  have HC2 := Lib.hid hcs2
  obtain ⟨Na, hNa⟩ : ∃ Na, Na = ta.ss.length := ⟨_, rfl⟩
  obtain ⟨Nb, hNb⟩ : ∃ Nb, Nb = tb.ss.length := ⟨_, rfl⟩
  rw [← hNa] at hla hRl
  rw [← hNb] at hlb hcb
  have hlL : (lastY m first).length = Nb - Na := by omega
  have hN1 : 25 ≤ Na := by omega
  have hN2 : Na + 12 ≤ Nb := by omega
  have hN3 : Nb ≤ 40 := by omega
  have hl1213 : (lastY m first).length = 12 ∨ (lastY m first).length = 13 := by omega
  have HOKu : Hid (∀ u : Tab, u.nm = ta.nm → u.first = ta.first → u.ms = ta.ms ++ [((lastY m first).length : Int)] → u.ss = ta.ss ++ lastY m first → TOk u) := fun u h1 h2 h3 h4 => by
    obtain ⟨ok, a1, a2, a3, a4, _⟩ := HGA.out
    have hd := HGB.out.2.2.2.2.2.2.2.2.2.2.2.2
    rw [a3, last_ms ok] at h3
    rw [a4, last_ss m first] at h4
    refine ok.tab u 3 (by omega) (by omega) (by rw [h2, a2]; omega) (by rw [h2, a2]; omega) (h1.trans a1) ?_ ?_ hf.nm ?_
    · rw [h2, a2]; exact h3
    · rw [h2, a2]; exact h4
    · rw [h2, a2]; exact hd
  have HTOKa := Lib.hid (HGA.out.ok hf (by omega) (by omega) (by omega) (by omega))
  generalize hW6 : w5.alloc (Obj.cells #[.string tb.nm, .int .i64 tb.first, .slice tb.A1 tb.ms.length tb.c1, .slice tb.A2 tb.ss.length tb.c2] 67) = W6 at *
  clear hW6
  have HEx : Hid (∀ W c, Below W6.heap.size W6 W → Calls Try.prog 31 #[.agg #[.string ta.nm, .int .i64 ta.first, .slice ta.A1 ta.ms.length ta.c1, .slice ta.A2 Na ta.c2], .slice (some ⟨b2, o2 + Na, none⟩) (Nb - Na) c] W (IsExt ta (lastY m first) W)) := fun W c hb => by
    have := Extend_yes ta (some ⟨b2, o2 + Na, none⟩) c (lastY m first) W (hTA.out.next hb) HTOKa.out (hRl.out.next hb) hl1213 HOKu.out
    rw [hlL] at this
    rw [hNa] at this ⊢
    exact this
  generalize w5.heap.size = gb at *
  have hgal := hba5.lt
  have hgbl := hbb5.lt
  have HS : Hid (∀ W, Below W6.heap.size W6 W → Below W6.heap.size W6 W ∧ W.cell? ⟨ga, 0, none⟩ = some (.string ta.nm) ∧ W.cell? ⟨ga, 1, none⟩ = some (.int .i64 ta.first) ∧ W.cell? ⟨ga, 2, none⟩ = some (.slice ta.A1 ta.ms.length ta.c1) ∧ W.cell? ⟨ga, 3, none⟩ = some (.slice ta.A2 Na ta.c2) ∧ W.cell? ⟨gb, 3, none⟩ = some (.slice (some ⟨b2, o2, none⟩) Nb tb.c2)) := fun W hb => by
    obtain ⟨a0, a1, a2, a3⟩ := tcells (hba5.below hb)
    obtain ⟨_, _, _, c3⟩ := tcells (hbb5.below hb)
    rw [← hNa] at a3
    rw [hA2, ← hNb] at c3
    exact ⟨hb, a0, a1, a2, a3, c3⟩
  have hS0 := HS.out W6.drew (below_drew (Below.refl _ _) 1)
  have HBA := Lib.hid hba5
  have HBB := Lib.hid hbb5
  have HLL := Lib.hid hlL
  have HAB := Lib.hid hA2
  have HNA := Lib.hid hNa
  have HNB := Lib.hid hNb
  have HLA := Lib.hid hla
  have HLB := Lib.hid hlb
  clear hga hgb HTA5 HTB5 hll hmo hsm hsm3 hle hla hlb hlma hcb2 hss hcs2 hRl hl1213 HTOKa hba5 hbb5 hA2 hNa hNb hlL HA HBo
  have n0 : (0 : Int) ≤ (Na : Int) := by omega
  have n1 : (Na : Int) ≤ (Nb : Int) := by omega
  have n2 : (Nb : Int) ≤ (tb.c2 : Int) := by omega
  have n3 : Na < tb.c2 := by omega
  have n4 : ¬ Na = tb.c2 := by omega
  have n4' : ¬ tb.c2 = Na := by omega
  have n5 : (Na : Int) ≤ (tb.c2 : Int) := by omega
  go_cut [11, 14] (fun s11 s14 wx => s11 = .int .i64 0 ∧ ∃ (u : Tab) (g14 : Nat), s14 = .pointer (some ⟨g14, 0, none⟩) ∧ Box wx g14 67 u.cells ∧ (u.nm = ta.nm ∧ u.first = ta.first ∧ u.ms = ta.ms ++ [((lastY m first).length : Int)] ∧ u.ss = ta.ss ++ lastY m first) ∧ TIn wx u ∧ Below W6.heap.size W6 wx)
  case first =>
    go_region_held3 (fun W => Below W6.heap.size W6 W ∧ W.cell? ⟨ga, 0, none⟩ = some (.string ta.nm) ∧ W.cell? ⟨ga, 1, none⟩ = some (.int .i64 ta.first) ∧ W.cell? ⟨ga, 2, none⟩ = some (.slice ta.A1 ta.ms.length ta.c1) ∧ W.cell? ⟨ga, 3, none⟩ = some (.slice ta.A2 Na ta.c2) ∧ W.cell? ⟨gb, 3, none⟩ = some (.slice (some ⟨b2, o2, none⟩) Nb tb.c2)) (first | assumption | exact HS.out _ (below_more (And.left (by assumption)) _) | (refine HS.out _ (below_set4 (And.left hS7) ?_ _ _ _ _); first | omega | (simp; done) | (simp; omega)))
      (first
        | (go_at_call 31; ((with_reducible refine (HEx.out _ _ (And.left (by assumption))).mono ?_)); rintro e w7 ⟨u, rfl, u1, u2, u3, u4, hT7, u5, u6, hb7⟩; have HU := Lib.hid (show u.nm = ta.nm ∧ u.first = ta.first ∧ u.ms = ta.ms ++ [((lastY m first).length : Int)] ∧ u.ss = ta.ss ++ lastY m first from ⟨u1, u2, u3, u4⟩); have HU7 := Lib.hid hT7; have HU5 := Lib.hid u5; have HU6 := Lib.hid u6; have H7 := Lib.hid hb7; have hS7 := HS.out _ (below_then (And.left (by assumption)) hb7); have hz7 := hb7.size; (try simp at hz7); (try ((first | (with_reducible (have hbz := Box.below (Box.new _ 67 #[.string ⟨#[]⟩, .int .i64 0, .slice none 0 0, .slice none 0 0]) hb7)) | (with_reducible (have hbz := Box.below (box_drew (Box.new _ 67 #[.string ⟨#[]⟩, .int .i64 0, .slice none 0 0, .slice none 0 0])) hb7))); (try simp at hbz); have q0 := hbz.cell 0; have q1 := hbz.cell 1; have q2 := hbz.cell 2; have q3 := hbz.cell 3; have qf := fun i => hbz.free i; simp at q0 q1 q2 q3)); clear u1 u2 u3 u4 hT7 u5 u6))
    all_goals (go_wp2_with fail; go_meet)
    all_goals first
      | with_reducible exact ⟨rfl, u, _, rfl, Box.new _ _ _, HU.out, HU7.out.next (below_alloc1 _ _), below_more (And.left hS7) _⟩
      | (refine ⟨rfl, u, _, rfl, ((((hbz.set_ 0 _).set_ 1 _).set_ 2 _).set_ 3 _), HU.out, ?_, below_set4 (And.left hS7) (Nat.le_refl _) _ _ _ _⟩; exact tin_set4 HU7.out (fun a ha => by have h9 := HU5.out a ha; simp at h9; omega) (fun a ha => by have h9 := HU6.out a ha; simp at h9; omega) _ _ _ _)
  case rest =>
    obtain ⟨rfl, u, g14, rfl, hbu, HU, hTu, hbx⟩ := hcut
    have hum : u.ms = tb.ms := by
      obtain ⟨ok, a1, a2, a3, a4, _⟩ := HGA.out
      rw [HU.2.2.1, a3, last_ms ok, HGB.out.2.2.2.1]
    have hus : u.ss = tb.ss := by
      obtain ⟨ok, a1, a2, a3, a4, _⟩ := HGA.out
      rw [HU.2.2.2, a4, last_ss m first, HGB.out.2.2.2.2.1]
    have huf : u.first = tb.first := by rw [HU.2.1, HGA.out.2.2.1, HGB.out.2.2.1]
    have TOKu := Lib.hid (HOKu.out u HU.1 HU.2.1 HU.2.2.1 HU.2.2.2)
    have TOKb := Lib.hid (HGB.out.ok hf (by omega) (by omega) (by omega) (by omega))
    have HUM := Lib.hid hum
    have HUS := Lib.hid hus
    have HUF := Lib.hid huf
    clear HU hum hus huf HOKu
    have hs0 := HGB.out.get 0 (by omega)
    have hsN := HGB.out.get (m.sm first 3) (Nat.le_refl _)
    have hdd0 := HGB.out.2.2.2.2.2.2.2.2.2.2.2.2 0 (by omega)
    have hddN := HGB.out.2.2.2.2.2.2.2.2.2.2.2.2 (m.sm first 3) (by omega)
    have hlast := HGB.out.last
    have hyl := HGB.out.1.yearLt first (first + 3) (by omega)
    rw [show ((3 : Nat) : Int) = 3 from rfl] at hlast
    have hlo : m.st first 0 = m.beg first 1 := rfl
    unfold IsD at hdd0 hddN
    obtain ⟨N, hN⟩ : ∃ N, N = m.sm first 3 := ⟨_, rfl⟩
    rw [← hN] at hsN hddN hlast
    obtain ⟨S0, hS0'⟩ : ∃ S0, S0 = m.st first 0 := ⟨_, rfl⟩
    obtain ⟨SN, hSN⟩ : ∃ SN, SN = m.st first N := ⟨_, rfl⟩
    rw [← hS0'] at hs0 hdd0 hlo
    rw [← hSN] at hsN hddN hlast
    have hdiff : S0 + 936 ≤ SN := by omega
    have HC2' := Lib.hid (fun w => cut_any z S0 (SN - S0) w (by omega) (by omega) (by omega) (by omega))
    have hd1 : S0 ≤ S0 + z % (SN - S0) := by have := Int.emod_nonneg z (show SN - S0 ≠ 0 by omega); omega
    have hd2 : S0 + z % (SN - S0) < SN := by have := Int.emod_lt_of_pos z (show 0 < SN - S0 by omega); omega
    generalize S0 + z % (SN - S0) = day at *
    obtain ⟨j, k, p, hpl⟩ := HGB.out.place day (by rw [← hS0']; exact hd1) (by rw [← hN, ← hSN]; exact hd2)
    have HPL := Lib.hid hpl
    have HNb : Hid (Nb = N + 1) := by rw [HLB.out, hN]; rfl
    have hNbe := HNb.out
    have hN600 : N ≤ 100 := by omega
    have hTB' := Lib.hid (hTB.out.next hbx)
    have hbb := HBB.out.below hbx
    have hBw := Lib.hid (below_then hB5.out hbx)
    have hc0 := ints_cell HC2.out 0 (by have := HNB.out; omega)
    have hcN := ints_cell HC2.out N (by have := HNB.out; omega)
    rw [hs0, Nat.add_zero] at hc0
    rw [hsN] at hcN
    replace hc0 := (hbx.cell (p := ⟨b2, o2, none⟩) hb2l).trans hc0
    replace hcN := (hbx.cell (p := ⟨b2, o2 + N, none⟩) hb2l).trans hcN
    obtain ⟨z0, z1, z2, z3⟩ := tcells hbb
    rw [HAB.out, ← HNB.out, hNbe] at z3
    have HBU := Lib.hid hbu
    have HTU := Lib.hid hTu
    have HBBx := Lib.hid hbb
    clear hpl hs0 hsN hlast hyl hlo hS0' hSN hN hNbe hbx hbu hTu hbb hS0 HS HEx n0 n1 n2 n3 n4 n4' n5 HC2 HC HBA HBB HNA
    have n0 : (0 : Int) ≤ (N : Int) := by omega
    have n1 : (N : Int) < ((N + 1 : Nat) : Int) := by omega
    have n2 : ((N + 1 : Nat) : Int) - 1 = (N : Int) := by omega
    have n3 : IntKind.i64.wrap (N : Int) = (N : Int) := intFits _ (by omega) (by omega)
    have n6 : (N : Int) < (N : Int) + 1 := by omega
    have e5 : IntKind.i64.wrap (SN - S0) = SN - S0 := intFits _ (by omega) (by omega)
    go_wp2_with fail
    go_quiet ((go_at_call 13; exact Calls.quiet_of ((HC2'.out _).mono fun _ _ ⟨h, hw⟩ => ⟨h, 0, hw ▸ rfl⟩)))
    replace HBU : Hid (Box (wc.drewN nq) g14 67 u.cells) := HBU
    replace HTU : Hid (TIn (wc.drewN nq) u) := HTU
    replace HBBx : Hid (Box (wc.drewN nq) gb 67 tb.cells) := HBBx
    replace hTB' : Hid (TIn (wc.drewN nq) tb) := hTB'
    replace hBw : Hid (Below w.heap.size w (wc.drewN nq)) := below_drew hBw.out nq
    clear z0 z1 z2 z3 hc0 hcN n0 n1 n2 n3 n6 e5 HC2'
    generalize wc.drewN nq = W7 at *
    obtain ⟨z0, z1, z2, z3⟩ := tcells HBBx.out
    go_wp2_with fail
    refine (oFromDay_yes tb day j k p _ hTB'.out TOKb.out HPL.out.hj HPL.out.k1 HPL.out.k2 HPL.out.kp HPL.out.d1 HPL.out.d2).mono ?_
    rintro e w8 ⟨rfl, hb8⟩
    clear z0 z1 z2 z3
    obtain ⟨D, hD⟩ : ∃ D, D = tb.ss.getD p 0 := ⟨_, rfl⟩
    rw [← hD]
    have HD := Lib.hid hD
    clear hD
    replace hBw := Lib.hid (below_then hBw.out hb8)
    replace HBU := Lib.hid (HBU.out.below hb8)
    replace HTU := Lib.hid (HTU.out.next hb8)
    clear hb8 HBBx hTB'
    have hgl8 := HBU.out.lt
    obtain ⟨z0, z1, z2, z3⟩ := tcells HBU.out
    go_wp2_with fail
    clear z0 z1 z2 z3
    have hda := Box.new w8 44 #[.int .i64 (tb.first + j), .int .i64 k, .int .i64 (day - D + 1)]
    have hb9 := below_alloc1 w8 (Obj.cells #[.int .i64 (tb.first + j), .int .i64 k, .int .i64 (day - D + 1)] 44)
    replace hBw := Lib.hid (below_then hBw.out hb9)
    replace HTU := Lib.hid (HTU.out.next hb9)
    clear hb9 HBU hgl8
    generalize w8.alloc (Obj.cells #[.int .i64 (tb.first + j), .int .i64 k, .int .i64 (day - D + 1)] 44) = W9 at *
    generalize w8.heap.size = gx at *
    refine (oFromDay_yes u day j k p _ HTU.out TOKu.out (by rw [HUM.out]; exact HPL.out.hj) HPL.out.k1 (by rw [HUM.out]; exact HPL.out.k2) (by rw [HUM.out]; exact HPL.out.kp) (by rw [HUS.out]; exact HPL.out.d1) (by rw [HUS.out]; exact HPL.out.d2)).mono ?_
    rw [HUF.out, HUS.out, ← HD.out]
    rintro e w10 ⟨rfl, hb10⟩
    replace hBw := Lib.hid (below_then hBw.out hb10)
    have hda10 := hda.below hb10
    clear hb10 hda HTU
    have hgx := hda10.lt
    have y0 : w10.cell? ⟨gx, 0, none⟩ = some (.int .i64 (tb.first + j)) := hda10.cell 0
    have y1 : w10.cell? ⟨gx, 1, none⟩ = some (.int .i64 k) := hda10.cell 1
    have y2 : w10.cell? ⟨gx, 2, none⟩ = some (.int .i64 (day - D + 1)) := hda10.cell 2
    have ds := date_same
    have dg := date_guard
    have db : dateB (tb.first + j) k (day - D + 1) (tb.first + j) k (day - D + 1) = true := dateB_yes ⟨rfl, rfl, rfl⟩
    go_wp2_with fail
    go_ret
    exact ⟨by simp, hBw.out.alloc hBw.out.size _⟩

set_option maxRecDepth 100000 in
theorem walk {H : Type} {enc : TypeId × Value → H} {base : Nat} {W : World} (v0 : Value) (d0 : DataW H) (p0 : List MemPlace) (hv : Value.okWide Try.prog W .any base 36 v0)
    (h0 : DataW.Trod enc Try.prog W 0 (fun _ => true) true 36 v0 d0 p0) (a1 : Int) (w1 : (Lit.int .i64 a1).wf = true) (a2 : Int) (w2 : (Lit.int .i64 a2).wf = true) :
    Calls Try.prog 9 #[v0, .int .i64 a1, .int .i64 a2] W fun e W' => e = .returned (.bool true) ∧ Below W.heap.size W W' := by
  obtain ⟨m, rfl, hm, hf⟩ := moon_open hv h0
  exact core m a1 a2 W hm hf

end Go.Proofs.Ytfindembancjdaa.observedLonger
