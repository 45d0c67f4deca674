/- Contract of observed.Of. -/
import Derived.Test.YtfindembancjdaaObs4
namespace Go.Proofs.Ytfindembancjdaa
open Go.RowKit
set_option linter.unusedVariables false

theorem infoInt : (Try.prog.info? 3).map (fun i => (i.zero, i.size, i.bytes)) = some (some (.int .i64 0), 1, 8) := by kernel_rfl
theorem news_one (w : World) (x : Value) (t : TypeId) : ∀ j u, [x][j]? = some u → (w.alloc (.cells #[x] t)).cell? ((⟨w.heap.size, 0, none⟩ : Addr).add j) = some u :=
  World.news_of_block (cs := #[x]) (t := t) (fr := (0, 0)) (heap_alloc_new w _)

/-- all beginnings are days -/
def OfDays (m : Mo) (first : Int) (q : Nat) : Prop := ∀ i, i ≤ q → IsD (m.st first i)
/-- what Of says -/
def IsTab (m : Mo) (first : Int) (n : Nat) (w : World) (e : Ending) (w' : World) : Prop :=
  Below w.heap.size w w' ∧ ((∃ t : Tab, MOk m ∧ e = .returned (.tuple #[t.val, .int .i64 0]) ∧ t.nm = m.nm ∧ t.first = first ∧ t.ms = m.ms first n ∧ t.ss = m.ss first (m.sm first n + 1) ∧ TIn w' t ∧ t.ms.length ≤ t.c1 ∧ t.c1 ≤ maxLen ∧ t.ss.length ≤ t.c2 ∧ t.c2 ≤ maxLen ∧ (∀ a, t.A1 = some a → w.heap.size ≤ a.block) ∧ (∀ a, t.A2 = some a → w.heap.size ≤ a.block) ∧ OfDays m first (m.sm first n)) ∨
    (∃ E : Int, E ≠ 0 ∧ ¬ (MOk m ∧ OfDays m first (m.sm first n)) ∧ e = .returned (.tuple #[.agg #[.string ⟨#[]⟩, .int .i64 0, .slice none 0 0, .slice none 0 0], .int .i64 E])))

set_option maxHeartbeats 8000000 in
set_option maxRecDepth 100000 in
theorem Of_any (m : Mo) (first : Int) (n : Nat) (w : World) (hm : MIn w m) (hf : MFit m) (hf1 : -10000 ≤ first) (hf2 : first ≤ 9960) (hn1 : 1 ≤ n) (hn2 : n ≤ 40) :
    Calls Try.prog 28 #[m.val, .int .i64 first, .int .i64 (n : Int)] w (IsTab m first n w) := by
  obtain ⟨i0, hi0, hz0, hz1, hz2⟩ := info_parts infoInt
  have hx := (Box.new w 36 m.cells).alloc (Obj.cells #[.string ⟨#[]⟩, .int .i64 0, .slice none 0 0, .slice none 0 0] 67)
  have hr := Box.new (w.alloc (Obj.cells m.cells 36)) 67 #[.string ⟨#[]⟩, .int .i64 0, .slice none 0 0, .slice none 0 0]
  rw [show (w.alloc (Obj.cells m.cells 36)).heap.size = w.heap.size + 1 from by simp] at hr
  have hB := below_alloc2 w (Obj.cells m.cells 36) (Obj.cells #[.string ⟨#[]⟩, .int .i64 0, .slice none 0 0, .slice none 0 0] 67)
  have HM0 := Lib.hid hm
  replace hm := hm.next hB
  have t1 : decide ((n : Int) < 1) = false := decide_eq_false (by omega)
  have t1' : decide (n < 1) = false := decide_eq_false (by omega)
  have t2 : decide ((40 : Int) < (n : Int)) = false := decide_eq_false (by omega)
  have t2' : decide (40 < n) = false := decide_eq_false (by omega)
  have t3 : decide (first < -10000) = false := decide_eq_false (by omega)
  have t4 : decide (9960 < first) = false := decide_eq_false (by omega)
  go_enter Try.func28, Try.ntmps28
  go_wp2_with fail
  generalize (w.alloc (Obj.cells m.cells 36)).alloc (Obj.cells #[.string ⟨#[]⟩, .int .i64 0, .slice none 0 0, .slice none 0 0] 67) = W0 at *
  obtain ⟨g, hg⟩ : ∃ g, g = w.heap.size := ⟨_, rfl⟩
  rw [← hg] at hx hr
  rw [← hg]
  have HG := Lib.hid hg.symm
  have hg1 : w.heap.size ≤ g + 1 := by omega
  clear hg
  refine (mcheck_any m _ hm hf).mono ?_
  rintro e W1 ⟨E, rfl, hE, hb⟩
  have HE := Lib.hid hE
  clear hE
  replace hm := hm.next hb
  replace hx := hx.below hb
  replace hr := hr.below hb
  replace hB := Lib.hid (below_then hB hb)
  clear hb
  have r0 : W1.cell? ⟨g + 1, 0, none⟩ = some (.string ⟨#[]⟩) := hr.cell 0
  have r1 : W1.cell? ⟨g + 1, 1, none⟩ = some (.int .i64 0) := hr.cell 1
  have r2 : W1.cell? ⟨g + 1, 2, none⟩ = some (.slice none 0 0) := hr.cell 2
  have r3 : W1.cell? ⟨g + 1, 3, none⟩ = some (.slice none 0 0) := hr.cell 3
  have rf : ∀ i, W1.frozen? ⟨g + 1, i, none⟩ = false := fun i => hr.free i
  by_cases hE0 : E = 0
  case neg =>
    have t5 : (E != 0) = true := by rw [bne_iff_ne]; exact hE0
    go_wp2_with fail
    refine bodyPost_ret (v := .tuple #[.agg #[.string ⟨#[]⟩, .int .i64 0, .slice none 0 0, .slice none 0 0], .int .i64 E]) (by simp [results, Try.results28, go_sem, r0, r1, r2, r3]) rfl ?_
    exact ⟨(((hB.out.setCell hg1 _).setCell hg1 _).setCell hg1 _).setCell hg1 _, .inr ⟨E, hE0, fun h => hE0 (HE.out.2 h.1), rfl⟩⟩
  subst hE0
  have OK := Lib.hid (HE.out.1 rfl)
  clear HE
  obtain ⟨x0, x1, x2, x3, x4, x5, x6, x7, x8, x9, x10⟩ := mcells hx
  go_wp2_with fail
  clear x0 x1 x2 x3 x4 x5 x6 x7 x8 x9 x10 t1 t2 t1' t2' t3 t4 r0 r1 r2 r3 rf
  have hlt1 : g + 1 < W1.heap.size := hr.lt
  have HS0 : Hid (OfSt m w g W1.heap.size first (W1.alloc (Obj.cells #[.string m.nm, .int .i64 first, .slice none 0 0, .slice none 0 0] 67)) [] [] (.slice none 0 0) (.slice none 0 0)) :=
    ⟨hx.alloc _, hr.alloc _, Box.new _ _ _, World.ownsRow_nil _ _ _ _, World.ownsRow_nil _ _ _ _, fun b hb => by simp [Value.ownBlock] at hb, hlt1, HG.out, hB.out.alloc hB.out.size _⟩
  clear hx hr hB hm
  generalize W1.alloc (Obj.cells #[.string m.nm, .int .i64 first, .slice none 0 0, .slice none 0 0] 67) = W2 at *
  generalize W1.heap.size = gt at *
  go_loopw [10, 11, 12, 13, 14, 15, 16] (fun y _ _ _ _ _ _ wr => ∃ (j : Nat) (v u : Value), j ≤ n ∧ y = .int .i64 (first + (j : Int)) ∧ Hid (OfSt m w g gt first wr (m.ms first j) (m.sl first (m.sm first j)) v u) ∧ Hid (0 < j → OfDays m first (m.sm first j))) (fun y _ _ _ _ _ _ _ => (first + n - intOf y).toNat)
  case atStart => exact ⟨0, _, _, by omega, by simp, HS0, fun h => by omega⟩
  case round =>
    obtain ⟨wo, hwo⟩ : ∃ wo : World, wo = wr := ⟨_, rfl⟩
    subst hwo
    obtain ⟨j, v, u, hj, rfl, HS, HD⟩ := hrel
    clear HS0
    by_cases hlt : j < n
    · have hmo := OK.out.mon (first + j)
      obtain ⟨x0, x1, x2, x3, x4, x5, x6, x7, x8, x9, x10⟩ := mcells HS.out.bx
      have hMI := Lib.hid (HM0.out.next HS.out.be)
      go_wp2_with fail
      refine (Months_yes m (first + j) _ hMI.out hf OK.out (by omega) (by omega)).mono ?_
      rintro e w3 ⟨rfl, hb3⟩
      clear x0 x1 x2 x3 x4 x5 x6 x7 x8 x9 x10 hMI
      replace HS := Lib.hid (HS.out.next hb3)
      clear hb3
      have z2 : w3.cell? ⟨gt, 2, none⟩ = some v := HS.out.bt.cell 2
      have hgtl := HS.out.bt.lt
      have hfz : w3.frozen? ⟨gt, 2, none⟩ = false := HS.out.bt.free 2
      have hms := m.ms_len first j
      have HML := Lib.hid hms
      obtain ⟨M, hM⟩ : ∃ M, M = m.mon (first + (j : Int)) := ⟨_, rfl⟩
      rw [← hM] at hmo
      have HMo := Lib.hid hM
      clear hms
      rw [← hM]
      clear hM
      go_wp2_with (at_builtin; refine wpList_append_lies _ rfl (.tmp 56) (.tmp 58) 22 rfl (gt + 1) 3 i0 (.int .i64 0) 1 8 Try.underlying22 hi0 hz0 hz1 hz2 rfl (by decide) v _ _ rfl (HS.out.o1.alloc _) ⟨w3.heap.size, 0, none⟩ 1 1 [.int .i64 M] rfl rfl ?c1 ?c2 (by decide) ?c3 ?c4 ?c5 (w3.heap.size + 1) ?c6 ?_)
      case c1 => exact news_one w3 _ _
      case c2 => intro u hu; simp at hu; subst hu; rfl
      case c3 => rw [HML.out]; simp only [maxLen]; omega
      case c4 => rw [HML.out]; omega
      case c5 => simp; omega
      case c6 => simp
      intro gg cap w4 hown' hgrow hat hlt4
      have hne4 : some gt ≠ v.ownBlock := fun e => by have := (own_lt HS.out.o1 gt e.symm).1; omega
      have hbt4 := (HS.out.bt.alloc (Obj.cells #[.int .i64 M] 3)).grown hgrow hne4
      have z2' : w4.cell? ⟨gt, 2, none⟩ = some v := hbt4.cell 2
      have hfz' : w4.frozen? ⟨gt, 2, none⟩ = false := hbt4.free 2
      replace HS := Lib.hid (HS.out.app1 M hown' hgrow hat)
      clear hown' hgrow hat hne4 hbt4
      go_wp2_with fail
      rw [HMo.out, ← m.ms_succ] at HS
      generalize w4.setCell ⟨gt, 2, none⟩ (.slice (some ⟨gg, 0, none⟩) ((m.ms first j).length + 1) cap) = W5 at *
      generalize (Value.slice (some ⟨gg, 0, none⟩) ((m.ms first j).length + 1) cap) = v5 at *
      clear z2 hgtl hfz z2' hfz' hlt4 HML
      have hsm := OK.out.sm_in first j
      have HSM : Hid (m.sm first (j + 1) = m.sm first j + M.toNat) := by rw [HMo.out]; rfl
      obtain ⟨q0, hq0⟩ : ∃ q0, q0 = m.sm first j := ⟨_, rfl⟩
      rw [← hq0] at HS HD hsm HSM
      have HQ0 := Lib.hid hq0
      clear hq0
      have HD0 : Hid (0 < q0 + 0 → OfDays m first (q0 + 0)) := fun h => HD.out (by omega)
      clear HD
      go_loopw [13, 14, 15, 16] (fun mo _ _ _ wr => ∃ (k : Nat) (v u : Value), (k : Int) ≤ M ∧ mo = .int .i64 ((k : Int) + 1) ∧ Hid (OfSt m w g gt first wr (m.ms first (j + 1)) (m.sl first (q0 + k)) v u) ∧ Hid (0 < q0 + k → OfDays m first (q0 + k))) (fun mo _ _ _ _ => (20 - intOf mo).toNat)
      case atStart => exact ⟨0, _, _, by omega, rfl, HS, HD0⟩
      case round =>
        clear HS HD0
        obtain ⟨k, v, u, hk, rfl, HS, HD⟩ := hrel
        by_cases hkM : (k : Int) < M
        · obtain ⟨x0, x1, x2, x3, x4, x5, x6, x7, x8, x9, x10⟩ := mcells HS.out.bx
          have hMI := Lib.hid (HM0.out.next HS.out.be)
          have e1 : Hid (m.st first (q0 + k) = m.beg (first + j) ((k : Int) + 1)) := by rw [HQ0.out]; exact OK.out.st_at first j k (by rw [← HMo.out]; omega)
          have e2 : Hid (m.st first (q0 + k + 1) = m.beg (first + j) ((k : Int) + 1 + 1)) := by rw [HQ0.out]; exact OK.out.st_next first j k (by rw [← HMo.out]; omega)
          have HAf := Lib.hid (After_any m (first + j) ((k : Int) + 1) wr hMI.out OK.out (by omega) (by omega) (by omega) (by omega))
          rw [← e1.out, ← e2.out] at HAf
          clear hMI e1 e2
          go_wp2_with fail
          refine HAf.out.mono ?_
          rintro e w6 ⟨rfl, hb6⟩
          replace HS := Lib.hid (HS.out.next hb6)
          clear hb6 x0 x1 x2 x3 x4 x5 x6 x7 x8 x9 x10 HAf
          by_cases htwo : IsD (m.st first (q0 + k)) ∧ IsD (m.st first (q0 + k + 1))
          case neg =>
            have ht : twoD (m.st first (q0 + k)) (m.st first (q0 + k + 1)) = false := decide_eq_false htwo
            have hbad : Hid (¬ (MOk m ∧ OfDays m first (m.sm first n))) := fun h => htwo ⟨h.2 _ (by have := m.sm_mono first (j + 1) n (by omega); have := HSM.out; omega), h.2 _ (by have := m.sm_mono first (j + 1) n (by omega); have := HSM.out; omega)⟩
            rw [ht]
            clear ht htwo
            have r0 : w6.cell? ⟨g + 1, 0, none⟩ = some (.string ⟨#[]⟩) := HS.out.bz.cell 0
            have r1 : w6.cell? ⟨g + 1, 1, none⟩ = some (.int .i64 0) := HS.out.bz.cell 1
            have r2 : w6.cell? ⟨g + 1, 2, none⟩ = some (.slice none 0 0) := HS.out.bz.cell 2
            have r3 : w6.cell? ⟨g + 1, 3, none⟩ = some (.slice none 0 0) := HS.out.bz.cell 3
            have rf : ∀ i, w6.frozen? ⟨g + 1, i, none⟩ = false := fun i => HS.out.bz.free i
            go_wp2_with fail
            refine bodyPost_ret (v := .tuple #[.agg #[.string ⟨#[]⟩, .int .i64 0, .slice none 0 0, .slice none 0 0], .int .i64 3]) (by simp [results, Try.results28, go_sem, r0, r1, r2, r3]) rfl ?_
            exact ⟨(((HS.out.be.setCell hg1 _).setCell hg1 _).setCell hg1 _).setCell hg1 _, .inr ⟨3, by omega, hbad.out, rfl⟩⟩
          have ht : twoD (m.st first (q0 + k)) (m.st first (q0 + k + 1)) = true := decide_eq_true htwo
          rw [ht]
          clear ht
          have HD' : Hid (0 < q0 + (k + 1) → OfDays m first (q0 + (k + 1))) := fun _ i hi => by
            rcases Nat.lt_or_ge i (q0 + k) with h | h
            · exact HD.out (by omega) i (by omega)
            · rcases (show i = q0 + k ∨ i = q0 + k + 1 by omega) with rfl | rfl
              · exact htwo.1
              · exact htwo.2
          clear HD htwo
          obtain ⟨A, c, hu, hc1, hc2⟩ := own_form HS.out.o2
          obtain ⟨q, hq⟩ : ∃ q, q = q0 + k := ⟨_, rfl⟩
          have hql : q ≤ 600 := by omega
          rw [← hq] at HS hu hc1
          rw [← hq]
          have HQ := Lib.hid hq
          clear hq
          have hll := m.sl_len first q
          have hgtl := HS.out.bt.lt
          have z3 : w6.cell? ⟨gt, 3, none⟩ = some (.slice A (m.sl first q).length c) := by rw [← hu]; exact HS.out.bt.cell 3
          have hfz : w6.frozen? ⟨gt, 3, none⟩ = false := HS.out.bt.free 3
          rw [hu] at HS
          clear hu
          by_cases hq : q = 0
          · subst hq
            have hl0 : m.sl first 0 = [] := rfl
            rw [hl0] at HS z3
            clear hl0 hll hc1
            simp only [List.length_nil] at z3 HS
            generalize hhi : m.st first (0 + 1) = hi at *
            have HHI := Lib.hid hhi
            clear hhi
            go_wp2_with (at_builtin; refine wpList_append_lies _ rfl (.tmp 82) (.tmp 84) 22 rfl (gt + 1) 3 i0 (.int .i64 0) 1 8 Try.underlying22 hi0 hz0 hz1 hz2 rfl (by decide) _ _ _ rfl (HS.out.o2.alloc _) ⟨w6.heap.size, 0, none⟩ 1 1 [.int .i64 (m.st first 0)] rfl rfl ?c1 ?c2 (by decide) ?c3 ?c4 ?c5 (w6.heap.size + 1) ?c6 ?_)
            case c1 => exact news_one w6 _ _
            case c2 => intro u hu; simp at hu; subst hu; rfl
            case c3 => simp [maxLen]
            case c4 => simp
            case c5 => simp; omega
            case c6 => simp
            intro gg cap w7 hown' hgrow hat hlt4
            have hne7 : some gt ≠ (Value.slice A 0 c).ownBlock := fun e => by have := (own_lt HS.out.o2 gt e.symm).1; omega
            have hbt7 := (HS.out.bt.alloc (Obj.cells #[.int .i64 (m.st first 0)] 3)).grown hgrow hne7
            have z3' : w7.cell? ⟨gt, 3, none⟩ = some (.slice A 0 c) := hbt7.cell 3
            have hfz' : w7.frozen? ⟨gt, 3, none⟩ = false := hbt7.free 3
            have hgt7 := hbt7.lt
            replace HS := Lib.hid (HS.out.app2 (m.st first 0) hown' hgrow hat)
            clear hown' hgrow hat hne7 hbt7 z3 hfz
            simp only [List.length_nil, Nat.zero_add, List.nil_append] at HS
            go_wp2_with (at_builtin; refine wpList_append_lies _ rfl (.tmp 88) (.tmp 90) 22 rfl (gt + 1) 3 i0 (.int .i64 0) 1 8 Try.underlying22 hi0 hz0 hz1 hz2 rfl (by decide) _ _ _ rfl (HS.out.o2.alloc _) ⟨w7.heap.size, 0, none⟩ 1 1 [.int .i64 hi] rfl rfl ?c1 ?c2 (by decide) ?c3 ?c4 ?c5 (w7.heap.size + 1) ?c6 ?_)
            case c1 => have := news_one (w7.setCell ⟨gt, 3, none⟩ (.slice (some ⟨gg, 0, none⟩) 1 cap)) (.int .i64 hi) 3; simpa using this
            case c2 => intro u hu; simp at hu; subst hu; rfl
            case c3 => simp [maxLen]
            case c4 => simp
            case c5 => simp; omega
            case c6 => simp
            intro gg' cap' w8 hown' hgrow hat hlt8
            have hne8 : some gt ≠ (Value.slice (some ⟨gg, 0, none⟩) 1 cap).ownBlock := fun e => by have := (own_lt HS.out.o2 gt e.symm).1; omega
            have hbt8 := (HS.out.bt.alloc (Obj.cells #[.int .i64 hi] 3)).grown hgrow hne8
            have z4 : w8.cell? ⟨gt, 3, none⟩ = some (.slice (some ⟨gg, 0, none⟩) 1 cap) := hbt8.cell 3
            have hfz4 : w8.frozen? ⟨gt, 3, none⟩ = false := hbt8.free 3
            have HS8 := Lib.hid (HS.out.app2 hi hown' hgrow (by simpa using hat))
            rw [show [m.st first 0] ++ [hi] = m.sl first (q0 + (k + 1)) from by rw [show q0 + (k + 1) = 1 from by have := HQ.out; omega, m.sl_first, ← HHI.out]; rfl] at HS8
            clear hown' hgrow hat hne8 hbt8 z3' hfz' HS
            go_wp2_with fail
            go_roundw
            case rel => exact ⟨k + 1, v, _, by omega, by go_num, HS8, HD'⟩
            case measure => simp [intOf]; omega
          · have t5 : (((m.sl first q).length : Int) == 0) = false := by rw [beq_eq_false_iff_ne]; rw [if_neg hq] at hll; omega
            have hll' : (m.sl first q).length ≤ 601 := by rw [if_neg hq] at hll; omega
            generalize hhi : m.st first (q + 1) = hi at *
            have HHI := Lib.hid hhi
            clear hhi hll
            generalize m.st first q = lo at *
            obtain ⟨L, hL⟩ : ∃ L, L = (m.sl first q).length := ⟨_, rfl⟩
            rw [← hL] at z3 t5 hll'
            have HL := Lib.hid hL
            clear hL
            go_wp2_with (at_builtin; refine wpList_append_lies _ rfl (.tmp 88) (.tmp 90) 22 rfl (gt + 1) 3 i0 (.int .i64 0) 1 8 Try.underlying22 hi0 hz0 hz1 hz2 rfl (by decide) (.slice A L c) _ _ rfl ((show OfSt m w g gt first w6 (m.ms first (j + 1)) (m.sl first q) v (.slice A L c) from by rw [HL.out]; exact HS.out).o2.alloc _) ⟨w6.heap.size, 0, none⟩ 1 1 [.int .i64 hi] rfl rfl ?c1 ?c2 (by decide) ?c3 ?c4 ?c5 (w6.heap.size + 1) ?c6 ?_)
            case c1 => exact news_one w6 _ _
            case c2 => intro u hu; simp at hu; subst hu; rfl
            case c3 => rw [← HL.out]; simp [maxLen]; omega
            case c4 => rw [← HL.out]; omega
            case c5 => simp; omega
            case c6 => simp
            intro gg' cap' w8 hown' hgrow hat hlt8
            have hne8 : some gt ≠ (Value.slice A L c).ownBlock := fun e => by have := (own_lt HS.out.o2 gt (by rw [← HL.out]; exact e.symm)).1; omega
            have hbt8 := (HS.out.bt.alloc (Obj.cells #[.int .i64 hi] 3)).grown hgrow hne8
            have z4 : w8.cell? ⟨gt, 3, none⟩ = some (.slice A (m.sl first q).length c) := hbt8.cell 3
            have hfz4 : w8.frozen? ⟨gt, 3, none⟩ = false := hbt8.free 3
            have HS8 := Lib.hid (HS.out.app2 hi hown' (by rw [← HL.out]; exact hgrow) (by rw [← HL.out]; exact hat))
            rw [show m.sl first q ++ [hi] = m.sl first (q0 + (k + 1)) from by rw [← HHI.out, show q0 + (k + 1) = q + 1 from by have := HQ.out; omega, m.sl_next first q (by omega)]] at HS8
            clear hown' hgrow hat hne8 hbt8 z3 hfz HS
            go_wp2_with fail
            go_roundw
            case rel => exact ⟨k + 1, v, _, by omega, by go_num, HS8, HD'⟩
            case measure => simp [intOf]; omega
        · have hke : (k : Int) = M := by omega
          have hqe : q0 + k = m.sm first (j + 1) := by have := HSM.out; omega
          rw [hqe] at HS HD
          clear hqe hke
          go_wp2_with fail
          go_roundw
          case rel => exact ⟨j + 1, v, u, by omega, by go_num, HS, fun _ => HD.out (by have := OK.out.sm_in first (j + 1); omega)⟩
          case measure => simp [intOf]; omega
    · obtain rfl : j = n := by omega
      obtain ⟨A1, c1, rfl, a1, a2⟩ := own_form HS.out.o1
      obtain ⟨A2, c2, rfl, b1, b2⟩ := own_form HS.out.o2
      have hsl : m.sl first (m.sm first j) = m.ss first (m.sm first j + 1) := by
        have := OK.out.sm_in first j
        unfold Mo.sl; rw [if_neg (by omega)]
      have z0 : wo.cell? ⟨gt, 0, none⟩ = some (.string m.nm) := HS.out.bt.cell 0
      have z1 : wo.cell? ⟨gt, 1, none⟩ = some (.int .i64 first) := HS.out.bt.cell 1
      have z2 : wo.cell? ⟨gt, 2, none⟩ = some (.slice A1 (m.ms first j).length c1) := HS.out.bt.cell 2
      have z3 : wo.cell? ⟨gt, 3, none⟩ = some (.slice A2 (m.sl first (m.sm first j)).length c2) := HS.out.bt.cell 3
      have r0 : wo.cell? ⟨g + 1, 0, none⟩ = some (.string ⟨#[]⟩) := HS.out.bz.cell 0
      have r1 : wo.cell? ⟨g + 1, 1, none⟩ = some (.int .i64 0) := HS.out.bz.cell 1
      have r2 : wo.cell? ⟨g + 1, 2, none⟩ = some (.slice none 0 0) := HS.out.bz.cell 2
      have r3 : wo.cell? ⟨g + 1, 3, none⟩ = some (.slice none 0 0) := HS.out.bz.cell 3
      have rf : ∀ i, wo.frozen? ⟨g + 1, i, none⟩ = false := fun i => HS.out.bz.free i
      have HSL := Lib.hid hsl
      clear hsl
      go_wp2_with fail
      refine bodyPost_ret (v := .tuple #[.agg #[.string m.nm, .int .i64 first, .slice A1 (m.ms first j).length c1, .slice A2 (m.sl first (m.sm first j)).length c2], .int .i64 0]) (by simp [results, Try.results28, go_sem, r0, r1, r2, r3]) rfl ?_
      have hB8 : Below w.heap.size w ((((wo.setCell ⟨g + 1, 0, none⟩ (.string m.nm)).setCell ⟨g + 1, 1, none⟩ (.int .i64 first)).setCell ⟨g + 1, 2, none⟩ (.slice A1 (m.ms first j).length c1)).setCell ⟨g + 1, 3, none⟩ (.slice A2 (m.sl first (m.sm first j)).length c2)) := (((HS.out.be.setCell (p := ⟨g + 1, 0, none⟩) hg1 _).setCell (p := ⟨g + 1, 1, none⟩) hg1 _).setCell (p := ⟨g + 1, 2, none⟩) hg1 _).setCell (p := ⟨g + 1, 3, none⟩) hg1 _
      refine ⟨hB8, .inl ⟨⟨m.nm, first, m.ms first j, m.sl first (m.sm first j), A1, c1, A2, c2⟩, OK.out, rfl, rfl, rfl, rfl, HSL.out, ?_, a1, a2, b1, b2, fun a ha => ?_, fun a ha => ?_, HD.out (by omega)⟩⟩
      rotate_left
      · have ha' : A1 = some a := ha
        have := (own_lt HS.out.o1 a.block (by rw [ha']; rfl)).1
        have := HS.out.gw
        have := HS.out.lt
        omega
      · have ha' : A2 = some a := ha
        have := (own_lt HS.out.o2 a.block (by rw [ha']; rfl)).1
        have := HS.out.gw
        have := HS.out.lt
        omega
      have hl := HS.out.lt
      have q1 := own_set (own_set (own_set (own_set HS.out.o1 ⟨g + 1, 0, none⟩ (.string m.nm) (by show g + 1 < gt + 1; omega)) ⟨g + 1, 1, none⟩ (.int .i64 first) (by show g + 1 < gt + 1; omega)) ⟨g + 1, 2, none⟩ (.slice A1 (m.ms first j).length c1) (by show g + 1 < gt + 1; omega)) ⟨g + 1, 3, none⟩ (.slice A2 (m.sl first (m.sm first j)).length c2) (by show g + 1 < gt + 1; omega)
      have q2 := own_set (own_set (own_set (own_set HS.out.o2 ⟨g + 1, 0, none⟩ (.string m.nm) (by show g + 1 < gt + 1; omega)) ⟨g + 1, 1, none⟩ (.int .i64 first) (by show g + 1 < gt + 1; omega)) ⟨g + 1, 2, none⟩ (.slice A1 (m.ms first j).length c1) (by show g + 1 < gt + 1; omega)) ⟨g + 1, 3, none⟩ (.slice A2 (m.sl first (m.sm first j)).length c2) (by show g + 1 < gt + 1; omega)
      exact ⟨Row.of_own q1, Row.of_own q2⟩

/-- what Of says, in one form -/
def TabGood (m : Mo) (first : Int) (n : Nat) (w w' : World) (t : Tab) : Prop :=
  MOk m ∧ t.nm = m.nm ∧ t.first = first ∧ t.ms = m.ms first n ∧ t.ss = m.ss first (m.sm first n + 1) ∧ TIn w' t ∧ t.ms.length ≤ t.c1 ∧ t.c1 ≤ maxLen ∧ t.ss.length ≤ t.c2 ∧ t.c2 ≤ maxLen ∧ (∀ a, t.A1 = some a → w.heap.size ≤ a.block) ∧ (∀ a, t.A2 = some a → w.heap.size ≤ a.block) ∧ OfDays m first (m.sm first n)
def TabOne (m : Mo) (first : Int) (n : Nat) (w w' : World) (t : Tab) (E : Int) : Prop := (E = 0 ∧ TabGood m first n w w' t) ∨ (E ≠ 0 ∧ ¬ (MOk m ∧ OfDays m first (m.sm first n)))
theorem Of_one (m : Mo) (first : Int) (n : Nat) (w : World) (hm : MIn w m) (hf : MFit m) (hf1 : -10000 ≤ first) (hf2 : first ≤ 9960) (hn1 : 1 ≤ n) (hn2 : n ≤ 40) :
    Calls Try.prog 28 #[m.val, .int .i64 first, .int .i64 (n : Int)] w fun e w' => ∃ (t : Tab) (E : Int), e = .returned (.tuple #[t.val, .int .i64 E]) ∧ TabOne m first n w w' t E ∧ Below w.heap.size w w' := by
  refine (Of_any m first n w hm hf hf1 hf2 hn1 hn2).mono ?_
  rintro e w' ⟨hb, ⟨t, ok, he, h⟩ | ⟨E, hE, hn, he⟩⟩
  · exact ⟨t, 0, he, .inl ⟨rfl, ok, h⟩, hb⟩
  · exact ⟨⟨⟨#[]⟩, 0, [], [], none, 0, none, 0⟩, E, he, .inr ⟨hE, hn⟩, hb⟩
theorem Row.set_ {w : World} {B : Nat} {A : Option Addr} {cs : List Value} (h : Row w B A cs) (p : Addr) (v : Value) (hp : ∀ a, A = some a → a.block ≠ p.block) : Row (w.setCell p v) B A cs := by
  rcases h with h | ⟨b, o, e, hB, hc⟩
  · exact .inl h
  · refine .inr ⟨b, o, e, hB, fun j u hu => ?_⟩
    rw [World.cell?_setCell_far w p ⟨b, o + j, none⟩ v (fun e' => hp _ e e'.symm)]
    exact hc j u hu
theorem TIn.set_ {w : World} {t : Tab} (h : TIn w t) (p : Addr) (v : Value) (h1 : ∀ a, t.A1 = some a → a.block ≠ p.block) (h2 : ∀ a, t.A2 = some a → a.block ≠ p.block) : TIn (w.setCell p v) t := by
  have hs : (w.setCell p v).heap.size = w.heap.size := by simp
  unfold TIn
  rw [hs]
  exact ⟨h.1.set_ p v h1, h.2.set_ p v h2⟩
end Go.Proofs.Ytfindembancjdaa
