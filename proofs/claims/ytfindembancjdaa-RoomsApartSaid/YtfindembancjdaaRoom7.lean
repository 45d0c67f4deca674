/- Contract of Find. -/
import Derived.Test.YtfindembancjdaaRoom3
import Derived.Test.YtfindembancjdaaPlainRoom
import Derived.BigQuiet
import Derived.Deep.DeepCutAuto
namespace Go.Proofs.Ytfindembancjdaa
open Go.RowKit
set_option linter.unusedVariables false

def FindQ (nms : List ByteArray) (s : Int × Int) (w : World) (e : Ending) (w' : World) : Prop :=
  ((s.1 < 0 ∧ e = .returned (.tuple #[.string ⟨#[]⟩, .int .i64 0, .int .i64 6])) ∨ (∃ k : Nat, k < nms.length ∧ s.1 = (k : Int) ∧ e = .returned (.tuple #[.string (nms.getD k bs0), .int .i64 s.2, .int .i64 0]))) ∧ Below w.heap.size w w'
/-- all bookings are at instants -/
def Insts (l : List Bk) : Prop := ∀ b ∈ l, InstOk b.fr ∧ InstOk b.to

theorem take_snocB (l : List Bk) (k : Nat) (h : k < l.length) : l.take (k + 1) = l.take k ++ [l.getD k bk0] := by
  rw [List.take_add_one, List.getElem?_eq_getElem h]
  simp [List.getD, List.getElem?_eq_getElem h]

theorem strs_ne7 (l : List ByteArray) (h : 0 < l.length) : strs l ≠ [] := fun e => by
  have := congrArg List.length e; simp [strs] at this; rw [this] at h; simp at h
set_option maxHeartbeats 1000000 in
set_option maxRecDepth 100000 in
theorem rfind_any {base g gB : Nat} {An : Option Addr} {cn : Nat} {nms : List ByteArray} {vs : List Value} {ls : List (List Bk)} (len fr tt : Int) (w : World) (h : Rms w base g gB An cn nms vs ls) (hn : nms.length ≤ 20) (hl : ∀ k, (ls.getD k []).length ≤ 1000) (hi : ∀ k, Insts (ls.getD k []))
    (h1 : 1 ≤ len) (h2 : len ≤ 86400000) (h3 : InstOk fr) (h4 : InstOk tt) (h5 : fr ≤ tt) :
    Calls Try.prog 24 #[.pointer (some ⟨g, 0, none⟩), .int .i64 len, .int .i64 fr, .int .i64 tt] w (FindQ nms (bestOf len fr tt ls nms.length) w) := by
  have HH := Lib.hid h
  have HI1 := Lib.hid (fun w => isInstant_yes fr w h3)
  have HI2 := Lib.hid (fun w => isInstant_yes tt w h4)
  have HL := Lib.hid hl
  have HIN := Lib.hid hi
  have X0 : Hid (∀ W, Below w.heap.size w W → W.cell? ⟨g, 0, none⟩ = some (.slice An nms.length cn)) := fun W hW => (HH.out.next hW).bx.cell 0
  have X1 : Hid (∀ W, Below w.heap.size w W → W.cell? ⟨g, 1, none⟩ = some (.slice (some ⟨gB, 0, none⟩) nms.length nms.length)) := fun W hW => (HH.out.next hW).bx.cell 1
  have H3 := Lib.hid h3
  have H4 := Lib.hid h4
  have t1 : decide (len < 1) = false := decide_eq_false (by omega)
  have t2 : decide (86400000 < len) = false := decide_eq_false (by omega)
  have t3 : decide (tt < fr) = false := decide_eq_false (by omega)
  have q1 : ¬ len < 1 := by omega
  have q2 : ¬ 86400000 < len := by omega
  have q3 : ¬ tt < fr := by omega
  have x1 := X1.out w (Below.refl _ _)
  clear h hl hi h3 h4
  go_enter Try.func24, Try.ntmps24
  go_wp2_with (first | (go_at_call 59; ((with_reducible refine (HI1.out _).mono ?_)); rintro e w' ⟨rfl, n, rfl⟩) | (go_at_call 59; ((with_reducible refine (HI2.out _).mono ?_)); rintro e w' ⟨rfl, n2, rfl⟩))
  have HB0 := Lib.hid (below_drewN w (n + n2))
  generalize w.drewN (n + n2) = w1 at *
  clear x1 HI1 HI2
  go_loopw [11, 12, 43] (fun b f i wr => ∃ k : Nat, k ≤ nms.length ∧ i = .int .i64 (k : Int) ∧ b = .int .i64 (bestOf len fr tt ls k).1 ∧ f = .int .i64 (bestOf len fr tt ls k).2 ∧ Hid (Below w.heap.size w wr)) (fun _ _ i _ => nms.length - (intOf i).toNat)
  case atStart => exact ⟨0, by omega, rfl, rfl, rfl, HB0⟩
  case round =>
    obtain ⟨k, hk, rfl, rfl, rfl, hbr⟩ := hrel
    by_cases hlt : k < nms.length
    · have HMr := Lib.hid (HH.out.next hbr.out)
      obtain ⟨A, c, hv, hcn, hcm⟩ := own_form (HMr.out.rows k hlt)
      have x2 : wr.cell? ⟨gB, k, none⟩ = some (.slice A (ls.getD k []).length c) := by
        rw [HMr.out.bk.cell k, ← hv]
        have : k < vs.length := by rw [HMr.out.lv]; exact hlt
        simp [List.getD, List.getElem?_eq_getElem this]
      have HROW := Lib.hid (show Row wr wr.heap.size A ((ls.getD k []).flatMap bkF) from row_ownB (by have := HMr.out.rows k hlt; rwa [hv] at this))
      have HLk := HL.out k
      have HINk := Lib.hid (HIN.out k)
      have HS := Lib.hid (show bestOf len fr tt ls (k + 1) = bestF len fr tt (bestOf len fr tt ls k) k (ls.getD k []) from rfl)
      have kk0 : (0 : Int) ≤ (k : Int) := by omega
      have kk1 : (k : Int) < (nms.length : Int) := by omega
      clear hv hcn hcm HMr
      generalize ls.getD k [] = l at *
      generalize hs : bestOf len fr tt ls k = s at *
      go_wp2_with fail
      go_loopw [15, 51] (fun a i wi => ∃ j : Nat, j ≤ l.length ∧ i = .int .i64 (j : Int) ∧ a = .int .i64 (findAt len fr (l.take j)) ∧ Hid (Below w.heap.size w wi) ∧ Hid (Below wr.heap.size wr wi)) (fun _ i _ => l.length - (intOf i).toNat)
      case atStart => exact ⟨0, by omega, rfl, rfl, hbr, Below.refl _ _⟩
      case round =>
        obtain ⟨j, hj, rfl, rfl, hbi, hbri⟩ := hrel
        obtain ⟨ba1, ba2⟩ := findAt_le (len := len) (lo := -345600000000000) (hi := 345600086400000) (l.take j) fr H3.out.1 (by have := H3.out.2; omega) (fun b hb => by have := (HINk.out b (List.mem_of_mem_take hb)).2; unfold InstOk at this; omega)
        by_cases hlj : j < l.length
        · obtain ⟨b0, o, rfl, _, hcs⟩ := (HROW.out.next hbri.out).open_ (flat_ne bkF_len (by omega) l (by omega))
          have hc0 := flat_cell bkF_len bk0 hcs j 0 hlj (by omega) _ rfl
          have hc1 := flat_cell bkF_len bk0 hcs j 1 hlj (by omega) _ rfl
          have hc2 := flat_cell bkF_len bk0 hcs j 2 hlj (by omega) _ rfl
          have hc3 := flat_cell bkF_len bk0 hcs j 3 hlj (by omega) _ rfl
          rw [Nat.add_zero] at hc0
          have HSJ : Hid (findAt len fr (l.take (j + 1)) = stepF len (findAt len fr (l.take j)) (l.getD j bk0)) := by unfold Hid; rw [take_snocB l j hlj, findAt_snoc]
          have j0 : (0 : Int) ≤ (j : Int) := by omega
          have j1 : (j : Int) < (l.length : Int) := by omega
          clear hcs
          generalize l.getD j bk0 = y at *
          generalize hat : findAt len fr (l.take j) = a at *
          generalize hat' : findAt len fr (l.take (j + 1)) = a' at *
          have HB1 := Lib.hid (fun o => hbi.out.alloc hbi.out.size o)
          have HB2 := Lib.hid (fun o => hbri.out.alloc hbri.out.size o)
          unfold stepF at HSJ
          have hat2 := Lib.hid hat'
          clear hat hat'
          by_cases e1 : y.fr < a + len
          · have d1 : decide (y.fr < a + len) = true := decide_eq_true e1
            by_cases e2 : a < y.to
            · have d2 : decide (a < y.to) = true := decide_eq_true e2
              have hr : Hid (a' = y.to) := by unfold Hid; rw [HSJ.out, if_pos ⟨e1, e2⟩]
              go_wp2_with fail
              go_roundw
              case rel => exact ⟨j + 1, by omega, by go_num, by rw [hat2.out, hr.out], HB1.out _, HB2.out _⟩
              case measure => simp [intOf]; omega
            · have d2 : decide (a < y.to) = false := decide_eq_false e2
              have hr : Hid (a' = a) := by unfold Hid; rw [HSJ.out, if_neg (fun h => e2 h.2)]
              go_wp2_with fail
              go_roundw
              case rel => exact ⟨j + 1, by omega, by go_num, by rw [hat2.out, hr.out], HB1.out _, HB2.out _⟩
              case measure => simp [intOf]; omega
          · have d1 : decide (y.fr < a + len) = false := decide_eq_false e1
            have hr : Hid (a' = a) := by unfold Hid; rw [HSJ.out, if_neg (fun h => e1 h.1)]
            go_wp2_with fail
            go_roundw
            case rel => exact ⟨j + 1, by omega, by go_num, by rw [hat2.out, hr.out], HB1.out _, HB2.out _⟩
            case measure => simp [intOf]; omega
        · obtain rfl : j = l.length := by omega
          rw [List.take_length] at ba1 ba2
          rw [List.take_length]
          generalize hat : findAt len fr l = a at *
          have HS2 := HS.out
          unfold bestF at HS2
          rw [hat] at HS2
          have HS3 := Lib.hid HS2
          clear HS HS2 hat
          by_cases e1 : a + len ≤ tt
          · have d1 : decide (a + len ≤ tt) = true := decide_eq_true e1
            by_cases e2 : s.1 < 0
            · have d2 : decide (s.1 < 0) = true := decide_eq_true e2
              have hr : Hid (bestOf len fr tt ls (k + 1) = ((k : Int), a)) := by unfold Hid; rw [HS3.out, if_pos ⟨e1, .inl e2⟩]
              go_wp2_with fail
              go_roundw
              case rel => exact ⟨k + 1, by omega, by go_num, by rw [hr.out], by rw [hr.out], hbi⟩
              case measure => simp [intOf]; omega
            · have d2 : decide (s.1 < 0) = false := decide_eq_false e2
              by_cases e3 : a < s.2
              · have d3 : decide (a < s.2) = true := decide_eq_true e3
                have hr : Hid (bestOf len fr tt ls (k + 1) = ((k : Int), a)) := by unfold Hid; rw [HS3.out, if_pos ⟨e1, .inr e3⟩]
                go_wp2_with fail
                go_roundw
                case rel => exact ⟨k + 1, by omega, by go_num, by rw [hr.out], by rw [hr.out], hbi⟩
                case measure => simp [intOf]; omega
              · have d3 : decide (a < s.2) = false := decide_eq_false e3
                have hr : Hid (bestOf len fr tt ls (k + 1) = s) := by unfold Hid; rw [HS3.out, if_neg (fun h => h.2.elim e2 e3)]
                go_wp2_with fail
                go_roundw
                case rel => exact ⟨k + 1, by omega, by go_num, by rw [hr.out], by rw [hr.out], hbi⟩
                case measure => simp [intOf]; omega
          · have d1 : decide (a + len ≤ tt) = false := decide_eq_false e1
            have hr : Hid (bestOf len fr tt ls (k + 1) = s) := by unfold Hid; rw [HS3.out, if_neg (fun h => e1 h.1)]
            go_wp2_with fail
            go_roundw
            case rel => exact ⟨k + 1, by omega, by go_num, by rw [hr.out], by rw [hr.out], hbi⟩
            case measure => simp [intOf]; omega
    · obtain rfl : k = nms.length := by omega
      have HSP := bestOf_spec len fr tt ls nms.length
      have x0 := X0.out _ hbr.out
      have HNM := Lib.hid (row_ownB (HH.out.next hbr.out).nm)
      clear hlt
      rcases HSP with ⟨e1, _⟩ | ⟨m, hm, e1, _, _, _⟩
      · have d1 : decide ((bestOf len fr tt ls nms.length).1 < 0) = true := decide_eq_true (by omega)
        generalize hs : bestOf len fr tt ls nms.length = s at *
        have E1 := Lib.hid e1
        clear e1
        go_wp2_with fail
        go_ret3
        exact ⟨.inl ⟨by have := E1.out; omega, rfl⟩, hbr.out⟩
      · have d1 : decide ((bestOf len fr tt ls nms.length).1 < 0) = false := decide_eq_false (by omega)
        generalize hs : bestOf len fr tt ls nms.length = s at *
        obtain ⟨s1, s2⟩ := s
        simp only at e1 d1
        subst e1
        obtain ⟨b0, o, rfl, _, hcs⟩ := HNM.out.open_ (strs_ne7 nms (by omega))
        have hck := hcs m (.string (nms.getD m bs0)) (by simp [strs, List.getElem?_eq_getElem hm])
        have k0 : (0 : Int) ≤ (m : Int) := by omega
        have k1 : (m : Int) < (nms.length : Int) := by omega
        clear hcs hs
        generalize hy : nms.getD m bs0 = y at *
        have HY := Lib.hid hy
        clear hy
        go_wp2_with fail
        go_ret3
        exact ⟨.inr ⟨m, hm, rfl, by rw [HY.out]; rfl⟩, hbr.out⟩
end Go.Proofs.Ytfindembancjdaa
