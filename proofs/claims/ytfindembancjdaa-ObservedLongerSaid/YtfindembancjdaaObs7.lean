/- Contract of observed.Extend where the longer table is valid. -/
import Derived.Test.YtfindembancjdaaObs6a
import Derived.Test.YtfindembancjdaaObs6b
namespace Go.Proofs.Ytfindembancjdaa
open Go.RowKit
set_option linter.unusedVariables false

set_option maxHeartbeats 4000000 in
set_option maxRecDepth 100000 in
theorem Extend_yes (t : Tab) (A : Option Addr) (c : Nat) (l : List Int) (w : World) (ht : TIn w t) (ok : TOk t) (hr : Row w w.heap.size A (ints l)) (hl : l.length = 12 ∨ l.length = 13)
    (hok : ∀ u : Tab, u.nm = t.nm → u.first = t.first → u.ms = t.ms ++ [(l.length : Int)] → u.ss = t.ss ++ l → TOk u) :
    Calls Try.prog 31 #[t.val, .slice A l.length c] w (IsExt t l w) := by
  obtain ⟨i0, hi0, hz0, hz1, hz2⟩ := info_parts infoInt2
  have hx := (Box.new w 67 t.cells).alloc (Obj.cells #[.string ⟨#[]⟩, .int .i64 0, .slice none 0 0, .slice none 0 0] 67)
  have hz := Box.new (w.alloc (Obj.cells t.cells 67)) 67 #[.string ⟨#[]⟩, .int .i64 0, .slice none 0 0, .slice none 0 0]
  rw [show (w.alloc (Obj.cells t.cells 67)).heap.size = w.heap.size + 1 from by simp] at hz
  have hB := below_alloc2 w (Obj.cells t.cells 67) (Obj.cells #[.string ⟨#[]⟩, .int .i64 0, .slice none 0 0, .slice none 0 0] 67)
  replace ht := ht.next hB
  replace hr := hr.next hB
  have hn1 := ok.n1
  have hn2 := ok.n2
  have hsn := sumTo_in t.ms ok.ms t.ms.length (Nat.le_refl _)
  have hlen := ok.len
  have hs1 : 0 < t.ss.length := by omega
  have hs2 : t.ss.length ≤ 600 := by omega
  have hl0 : 0 < l.length := by omega
  have hl3 : l.length ≤ 13 := by omega
  clear hsn hlen
  have OK := Lib.hid ok
  have HOK := Lib.hid hok
  clear ok hok
  go_enter Try.func31, Try.ntmps31
  go_wp2_with fail
  generalize (w.alloc (Obj.cells t.cells 67)).alloc (Obj.cells #[.string ⟨#[]⟩, .int .i64 0, .slice none 0 0, .slice none 0 0] 67) = W0 at *
  obtain ⟨g, hg⟩ : ∃ g, g = w.heap.size := ⟨_, rfl⟩
  rw [← hg] at hx hz
  rw [← hg]
  have hg1 : w.heap.size ≤ g + 1 := by omega
  clear hg
  refine (ocheck_yes t _ ht OK.out).mono ?_
  rintro e W1 ⟨rfl, hb⟩
  replace ht := ht.next hb
  replace hr := hr.next hb
  replace hx := hx.below hb
  replace hz := hz.below hb
  replace hB := Lib.hid (below_then hB hb)
  clear hb
  have hll : (((l.length : Int) != 12) = true ∧ ((l.length : Int) != 13) = false) ∨ ((l.length : Int) != 12) = false := by
    rcases hl with h | h
    · right; rw [bne_eq_false_iff_eq]; omega
    · left; exact ⟨by rw [bne_iff_ne]; omega, by rw [bne_eq_false_iff_eq]; omega⟩
  have HX := Lib.hid hx
  have HZ := Lib.hid hz
  have HT := Lib.hid ht
  have HR := Lib.hid hr
  have hgl := hx.lt
  obtain ⟨B, hBd⟩ : ∃ B, B = W1.heap.size := ⟨_, rfl⟩
  have HBd := Lib.hid hBd
  clear hx hz ht hr hl
  go_upto_region 4 with fail
  go_cut [22] (fun s22 wx => s22 = .bool false ∧ wx = W1)
  case first =>
    rcases hll with ⟨h1, h2⟩ | h1
    · go_wp2_with fail
      go_meet
      exact ⟨rfl, rfl⟩
    · go_wp2_with fail
      go_meet
      exact ⟨rfl, rfl⟩
  case rest =>
    obtain ⟨rfl, hw⟩ := hcut
    subst hw
    clear hll
    have HS : Hid (∀ W, Kept B wc W → Kept B wc W ∧ W.cell? ⟨g, 0, none⟩ = some (.string t.nm) ∧ W.cell? ⟨g, 1, none⟩ = some (.int .i64 t.first) ∧ W.cell? ⟨g, 2, none⟩ = some (.slice t.A1 t.ms.length t.c1) ∧ W.cell? ⟨g, 3, none⟩ = some (.slice t.A2 t.ss.length t.c2)) := fun W hk => by
      have hx := HX.out.belowB hk.be (by have := HBd.out; omega)
      exact ⟨hk, tcells hx⟩
    have HCl : Hid (∀ W, (Kept B wc W ∧ W.cell? ⟨g, 0, none⟩ = some (.string t.nm) ∧ W.cell? ⟨g, 1, none⟩ = some (.int .i64 t.first) ∧ W.cell? ⟨g, 2, none⟩ = some (.slice t.A1 t.ms.length t.c1) ∧ W.cell? ⟨g, 3, none⟩ = some (.slice t.A2 t.ss.length t.c2)) → Calls Try.prog 65 #[.slice t.A1 t.ms.length t.c1] W fun e w' => ∃ v, e = .returned v ∧ w'.ownsRow W.heap.size 3 1 v t.ms.length (ints t.ms) ∧ Below W.heap.size W w') := fun W h =>
      clone_ints t.A1 t.c1 t.ms W ((HT.out.1.below (by have := HBd.out; rw [this] at h; exact h.1.be)).more (by have := HBd.out; rw [this] at h; exact h.1.sz)) (by omega) (by omega)
    have HCo : Hid (∀ W gs, (Kept B wc W ∧ W.cell? ⟨g, 0, none⟩ = some (.string t.nm) ∧ W.cell? ⟨g, 1, none⟩ = some (.int .i64 t.first) ∧ W.cell? ⟨g, 2, none⟩ = some (.slice t.A1 t.ms.length t.c1) ∧ W.cell? ⟨g, 3, none⟩ = some (.slice t.A2 t.ss.length t.c2)) → Box W gs 22 #[.slice t.A2 t.ss.length t.c2, .slice A l.length c] → Calls Try.prog 66 #[.slice (some ⟨gs, 0, none⟩) 2 2] W fun e w' => ∃ v, e = .returned v ∧ w'.ownsRow W.heap.size 3 1 v (t.ss ++ l).length (ints (t.ss ++ l)) ∧ Below W.heap.size W w') := fun W gs h hbx =>
      concat_ints t.A2 A t.c2 c gs _ t.ss l W hbx ((HT.out.2.below (by have := HBd.out; rw [this] at h; exact h.1.be)).more (by have := HBd.out; rw [this] at h; exact h.1.sz)) ((HR.out.below (by have := HBd.out; rw [this] at h; exact h.1.be)).more (by have := HBd.out; rw [this] at h; exact h.1.sz)) hs1 hl0 (by omega) (by omega)
    have hne67 : (3 : TypeId) ≠ 67 := by decide
    have hne22 : (3 : TypeId) ≠ 22 := by decide
    have hBle : B ≤ wc.heap.size := by have := HBd.out; omega
    have hBle' : B ≤ wc.drew.heap.size := hBle
    have hS0 := HS.out wc.drew ⟨below_drew (Below.refl _ _) 1, by show B ≤ wc.heap.size; have := HBd.out; omega⟩
    go_upto_region 6 with fail
    go_cut [7] (fun s7 wx => ∃ (vA vE : Value) (g7 : Nat), s7 = .pointer (some ⟨g7, 0, none⟩) ∧ Box wx g7 67 #[.string t.nm, .int .i64 t.first, vA, vE] ∧ wx.ownsRow B 3 1 vA (t.ms.length + 1) (ints t.ms ++ [.int .i64 (l.length : Int)]) ∧ wx.ownsRow B 3 1 vE (t.ss ++ l).length (ints (t.ss ++ l)) ∧ Kept B wc wx)
    case first =>
      obtain rfl := HBd.out
      have c0 := fun W (hb : Below wc.heap.size wc W) => tcells (HX.out.below hb)
      refine flowW_begin_tail 18 (writeOf [(10, OnlyAt wc.heap.size t.ms.length)])
        (tellOf [(6, toldRow wc.heap.size t.ms.length (ints t.ms)), (15, toldRow wc.heap.size (t.ss ++ l).length (ints (t.ss ++ l)))])
        (by kernel_rfl) (by kernel_rfl) ?_ ?_
      · intro j T hT w1 w2 h12 hb
        obtain ⟨_, rfl⟩ := writeOf_one hT
        exact hb.trans h12.be
      simp only [List.take_succ_cons, List.take_zero, List.drop_succ_cons, List.drop_zero]
      repeat (first | (refine flowW_val (v := ?_) (by rfl) (by rfl) (by rfl) (fun w hb => ?_) ?_; rotate_left; (· ((go_simp) <;> ((repeat' apply And.intro) <;> with_reducible rfl))); try simp only [Act.put, List.setIfInBounds_toArray, List.set_cons_zero, List.set_cons_succ, Nat.reduceAdd]) | (refine flowW_skip (by rfl) (by rfl) (by rfl) ?_; try simp only [Act.put, List.setIfInBounds_toArray, List.set_cons_zero, List.set_cons_succ, Nat.reduceAdd]))
      refine flowW_row (f := ?_) (args := ?_) [] (by kernel_rfl) ?_ (by rfl) (by rfl) (by rfl) (fun w hb => ?_) (fun w hb hu => ?_) (fun A6 c6 => ?_); rotate_left 3; (· ((go_simp) <;> ((repeat' apply And.intro) <;> with_reducible rfl)))
      · exact (clone_ints t.A1 t.c1 t.ms w (HT.out.1.next hb) (by omega) (by omega)).mono fun e w' ⟨v, he, ho, hb'⟩ => ⟨v, he, own_lower ho hb.size, hb'⟩
      try simp only [Act.put, List.setIfInBounds_toArray, List.set_cons_zero, List.set_cons_succ, Nat.reduceAdd]
      repeat (first | (refine flowW_val (v := ?_) (by rfl) (by rfl) (by rfl) (fun w hb => ?_) ?_; rotate_left; (· ((go_simp) <;> ((repeat' apply And.intro) <;> with_reducible rfl))); try simp only [Act.put, List.setIfInBounds_toArray, List.set_cons_zero, List.set_cons_succ, Nat.reduceAdd]) | (refine flowW_skip (by rfl) (by rfl) (by rfl) ?_; try simp only [Act.put, List.setIfInBounds_toArray, List.set_cons_zero, List.set_cons_succ, Nat.reduceAdd]))
      refine flowW_lits (n := ?_) (c := ?_) (t := ?_) (cs := ?_) ?_ (by rfl) (by rfl) (by rfl) (fun w hb => ?_) (fun g9 hg9 => ?_); rotate_left 5; (· ((go_simp) <;> ((repeat' apply And.intro) <;> with_reducible rfl))); try simp only [Act.put, List.setIfInBounds_toArray, List.set_cons_zero, List.set_cons_succ, Nat.reduceAdd]
      refine flowW_wrow (base := wc.heap.size) (n := t.ms.length + 1) (xs := ints t.ms ++ [.int .i64 (l.length : Int)]) [9, 6] (by kernel_rfl) (fun _ _ => keeps_own) (by rfl) (by rfl) (by rfl) (fun w hb hu => ?_) (fun A10 c10 => ?_)
      · obtain ⟨v', w', h1, h2, h3⟩ := append_one 22 (usef_at (k := 6) rfl hu (by decide)) (usef_at (k := 9) rfl hu (by decide)) (by omega) hb.size
        exact ⟨v', w', run_append_op _ _ _ _ rfl _ _ _ rfl rfl h1, h2, h3⟩
      try simp only [Act.put, List.setIfInBounds_toArray, List.set_cons_zero, List.set_cons_succ, Nat.reduceAdd]
      repeat (first | (refine flowW_val (v := ?_) (by rfl) (by rfl) (by rfl) (fun w hb => ?_) ?_; rotate_left; (· ((go_simp) <;> ((repeat' apply And.intro) <;> with_reducible rfl))); try simp only [Act.put, List.setIfInBounds_toArray, List.set_cons_zero, List.set_cons_succ, Nat.reduceAdd]) | (refine flowW_skip (by rfl) (by rfl) (by rfl) ?_; try simp only [Act.put, List.setIfInBounds_toArray, List.set_cons_zero, List.set_cons_succ, Nat.reduceAdd]))
      refine flowW_lits (n := ?_) (c := ?_) (t := ?_) (cs := ?_) ?_ (by rfl) (by rfl) (by rfl) (fun w hb => ?_) (fun g14 hg14 => ?_); rotate_left 5; (· ((go_simp) <;> ((repeat' apply And.intro) <;> with_reducible rfl))); try simp only [Act.put, List.setIfInBounds_toArray, List.set_cons_zero, List.set_cons_succ, Nat.reduceAdd]
      refine flowW_row (f := ?_) (args := ?_) [14] (by kernel_rfl) ?_ (by rfl) (by rfl) (by rfl) (fun w hb => ?_) (fun w hb hu => ?_) (fun A15 c15 => ?_); rotate_left 3; (· ((go_simp) <;> ((repeat' apply And.intro) <;> with_reducible rfl)))
      · exact (concat_ints t.A2 A t.c2 c g14 _ t.ss l w (usef_at (k := 14) rfl hu (by decide)) (HT.out.2.next hb) (HR.out.next hb) hs1 hl0 (by omega) (by omega)).mono fun e w' ⟨v, he, ho, hb'⟩ => ⟨v, he, own_lower ho hb.size, hb'⟩
      try simp only [Act.put, List.setIfInBounds_toArray, List.set_cons_zero, List.set_cons_succ, Nat.reduceAdd]
      repeat (first | (refine flowW_val (v := ?_) (by rfl) (by rfl) (by rfl) (fun w hb => ?_) ?_; rotate_left; (· ((go_simp) <;> ((repeat' apply And.intro) <;> with_reducible rfl))); try simp only [Act.put, List.setIfInBounds_toArray, List.set_cons_zero, List.set_cons_succ, Nat.reduceAdd]) | (refine flowW_skip (by rfl) (by rfl) (by rfl) ?_; try simp only [Act.put, List.setIfInBounds_toArray, List.set_cons_zero, List.set_cons_succ, Nat.reduceAdd]))
      refine flowW_box (t := ?_) (cs := ?_) ?_ (by rfl) (by rfl) (by rfl) (fun w hb => ?_) (fun g17 hg17 => ?_); rotate_left 3; (· ((go_simp) <;> ((repeat' apply And.intro) <;> with_reducible rfl))); try simp only [Act.put, List.setIfInBounds_toArray, List.set_cons_zero, List.set_cons_succ, Nat.reduceAdd]
      refine flow_nil fun w1 hb1 hf => ?_
      · have hb17 := hf.1
        have ho15 := hf.2.1
        have ho10 := hf.2.2.2.1
        have hK1 : Kept wc.heap.size wc w1 := ⟨hb1, hb1.size⟩
        obtain ⟨z0, z1, z2, z3⟩ : w1.cell? ⟨g17, 0, none⟩ = some (.string ⟨#[]⟩) ∧ w1.cell? ⟨g17, 1, none⟩ = some (.int .i64 0) ∧ w1.cell? ⟨g17, 2, none⟩ = some (.slice none 0 0) ∧ w1.cell? ⟨g17, 3, none⟩ = some (.slice none 0 0) := ⟨hb17.cell 0, hb17.cell 1, hb17.cell 2, hb17.cell 3⟩
        have zf := fun i => hb17.free i
        have H17 := Lib.hid hb17
        have H15 := Lib.hid ho15
        have H10 := Lib.hid ho10
        have HK1 := Lib.hid hK1
        clear hf hb17 ho15 ho10 hK1 c0 hb1
        go_wp2_with fail
        go_meet
        refine ⟨_, _, _, rfl, ((((H17.out.set_ 0 _).set_ 1 _).set_ 2 _).set_ 3 _), own_set4 H10.out H17.out (by decide) _ _ _ _, ?_, ?_⟩
        · have h15 := H15.out
          simp only [List.length_append] at h15 ⊢
          exact own_set4 h15 H17.out (by decide) _ _ _ _
        · exact Kept.set_ (Kept.set_ (Kept.set_ (Kept.set_ HK1.out _ _ hg17) _ _ hg17) _ _ hg17) _ _ hg17
      · exact fun A c => keeps_one fun w w' h ho => h.own ho (Nat.le_refl _)
      · exact fun g => keeps_one fun w w' h hx => h.box hx (.inr (by simp; omega))
      · exact fun g => keeps_one fun w w' h hx => h.box hx (.inl (by decide))
      · exact fun A c => keeps_past (by kernel_rfl)
      · exact fun g => keeps_one fun w w' h hx => h.box hx (.inl (by decide))
    case rest =>
      obtain ⟨vA, vE, g7, rfl, hb7, hOA, hOE, hK⟩ := hcut
      obtain ⟨A1', c1', rfl, k1, k2⟩ := own_form hOA
      obtain ⟨A2', c2', rfl, k3, k4⟩ := own_form hOE
      have hlm : t.ms.length + 1 = (t.ms ++ [(l.length : Int)]).length := by simp
      rw [hlm] at hb7 hOA
      rw [← ints_snoc] at hOA
      have hgB : g + 1 < B := by have h1 := HZ.out.lt; have h2 := HBd.out; omega
      have hz := HZ.out.belowB hK.be hgB
      have hBB : Hid (Below w.heap.size w wc) := hB.out.trans (hK.be.mono (by have := hB.out.size; have := HBd.out; omega))
      have hT : Hid (TIn wc ⟨t.nm, t.first, t.ms ++ [(l.length : Int)], t.ss ++ l, A1', c1', A2', c2'⟩) := ⟨Row.of_own hOA, Row.of_own hOE⟩
      have hb7' : Box wc g7 67 (Tab.cells ⟨t.nm, t.first, t.ms ++ [(l.length : Int)], t.ss ++ l, A1', c1', A2', c2'⟩) := hb7
      have HOU := Lib.hid (HOK.out ⟨t.nm, t.first, t.ms ++ [(l.length : Int)], t.ss ++ l, A1', c1', A2', c2'⟩ rfl rfl rfl rfl)
      obtain ⟨x0, x1, x2, x3⟩ := tcells hb7'
      have HCk := Lib.hid (fun W hT => ocheck_yes ⟨t.nm, t.first, t.ms ++ [(l.length : Int)], t.ss ++ l, A1', c1', A2', c2'⟩ W hT HOU.out)
      have hf1 : ∀ a, A1' = some a → a.block ≠ g + 1 := fun a ha => by have := (own_lt hOA a.block (by rw [ha]; rfl)).1; omega
      have hf2 : ∀ a, A2' = some a → a.block ≠ g + 1 := fun a ha => by have := (own_lt hOE a.block (by rw [ha]; rfl)).1; omega
      have hwB : w.heap.size ≤ B := by have := hB.out.size; have := HBd.out; omega
      have HG1 : Hid (∀ a, A1' = some a → w.heap.size ≤ a.block) := fun a ha => by have := (own_lt hOA a.block (by rw [ha]; rfl)).1; omega
      have HG2 : Hid (∀ a, A2' = some a → w.heap.size ≤ a.block) := fun a ha => by have := (own_lt hOE a.block (by rw [ha]; rfl)).1; omega
      have HF1 := Lib.hid hf1
      have HF2 := Lib.hid hf2
      clear HCl HCo HS hS0 hOA hOE hb7 HX HZ HT HR hK hlm hf1 hf2
      generalize hms2 : (t.ms ++ [(l.length : Int)]) = ms2 at *
      generalize hss2 : (t.ss ++ l) = ss2 at *
      have HMS := Lib.hid hms2.symm
      have HSS := Lib.hid hss2.symm
      clear hms2 hss2
      go_wp2_with fail
      refine (HCk.out _ hT.out).mono ?_
      rintro e w9 ⟨rfl, hb9⟩
      clear x0 x1 x2 x3
      obtain ⟨x0, x1, x2, x3⟩ := tcells (hb7'.below hb9)
      have hz9 := hz.below hb9
      have r0 : w9.cell? ⟨g + 1, 0, none⟩ = some (.string ⟨#[]⟩) := hz9.cell 0
      have r1 : w9.cell? ⟨g + 1, 1, none⟩ = some (.int .i64 0) := hz9.cell 1
      have r2 : w9.cell? ⟨g + 1, 2, none⟩ = some (.slice none 0 0) := hz9.cell 2
      have r3 : w9.cell? ⟨g + 1, 3, none⟩ = some (.slice none 0 0) := hz9.cell 3
      have rf : ∀ i, w9.frozen? ⟨g + 1, i, none⟩ = false := fun i => hz9.free i
      have hT9 := Lib.hid (hT.out.next hb9)
      have hB9 := Lib.hid (below_then hBB.out hb9)
      clear hb9 hz9 hT hBB hz hb7'
      go_wp2_with fail
      refine bodyPost_ret (v := .tuple #[.agg #[.string t.nm, .int .i64 t.first, .slice A1' ms2.length c1', .slice A2' ss2.length c2'], .int .i64 0]) (by simp [results, Try.results31, go_sem, r0, r1, r2, r3]) rfl ?_
      refine ⟨⟨t.nm, t.first, ms2, ss2, A1', c1', A2', c2'⟩, rfl, rfl, rfl, HMS.out, HSS.out, ?_, HG1.out, HG2.out, (((hB9.out.setCell (p := ⟨g + 1, 0, none⟩) hg1 _).setCell (p := ⟨g + 1, 1, none⟩) hg1 _).setCell (p := ⟨g + 1, 2, none⟩) hg1 _).setCell (p := ⟨g + 1, 3, none⟩) hg1 _⟩
      exact (((hT9.out.set_ ⟨g + 1, 0, none⟩ _ HF1.out HF2.out).set_ ⟨g + 1, 1, none⟩ _ HF1.out HF2.out).set_ ⟨g + 1, 2, none⟩ _ HF1.out HF2.out).set_ ⟨g + 1, 3, none⟩ _ HF1.out HF2.out
end Go.Proofs.Ytfindembancjdaa
