/- WPageBack -/
import Derived.Deep.QuietTactic
import Derived.BigQuiet
import Derived.Test.YtonepibojojcaaaDoorGPk1
import Derived.Test.YtonepibojojcaaaDoorGPgArg
/- The walk of PageBack: it returns true at every input; it writes nothing that was there. -/
namespace Go.Proofs.YtonepibojojcaaaDoor.pageBack
open Go Go.Shelf Go.RowKit Go.Lib
set_option linter.unusedVariables false

set_option maxHeartbeats 4000000 in
set_option maxRecDepth 100000 in
theorem core (t : Tb) (a b : Int) (w : World) (hT : TbIn w w.heap.size t) (hu : U8 w) (hp : Pow w) (hs : Shp w) :
    Calls Tryd.prog 4 #[t.val, .int .i64 a, .int .i64 b] w fun e w' => e = .returned (.bool true) ∧ Below w.heap.size w w' := by
  have HX := Lib.hid (Box.new w 25 t.cells)
  have HB := Lib.hid (below_alloc1 w (Obj.cells t.cells 25))
  have HT := Lib.hid (hT.next HB.out HB.out.size)
  have HU := Lib.hid (hu.next HB.out)
  have HP := Lib.hid (hp.next HB.out)
  have HS := Lib.hid (hs.next HB.out)
  have HC1 := Lib.hid (fun w => cut_any a 20 181 w (by omega) (by omega) (by omega) (by omega))
  have HC2 := Lib.hid (fun w => cut_any b 4 97 w (by omega) (by omega) (by omega) (by omega))
  obtain ⟨wd, hwd, h20, h200⟩ : ∃ wd : Nat, 20 + a % 181 = (wd : Int) ∧ 20 ≤ wd ∧ wd ≤ 200 := ⟨(20 + a % 181).toNat, by omega, by omega, by omega⟩
  obtain ⟨ht, hht, h4, h100⟩ : ∃ ht : Nat, 4 + b % 97 = (ht : Int) ∧ 4 ≤ ht ∧ ht ≤ 100 := ⟨(4 + b % 97).toNat, by omega, by omega, by omega⟩
  rw [hwd] at HC1
  rw [hht] at HC2
  clear hT hu hp hs hwd hht
  unfold Tb.val at *
  go_enter Tryd.func4, Tryd.ntmps4
  go_upto_region 1 with fail
  generalize w.alloc (Obj.cells t.cells 25) = W0 at *
  obtain ⟨g, hg⟩ : ∃ g, g = w.heap.size := ⟨_, rfl⟩
  rw [← hg] at HX ⊢
  clear hg
  obtain ⟨g1, hg1⟩ : ∃ g1, g1 = W0.heap.size := ⟨_, rfl⟩
  have hgW0 : g < W0.heap.size := HX.out.lt
  have h1 := below_alloc2 W0 (Obj.cells #[.string ⟨#[97]⟩] 9) (Obj.cells #[.string ⟨#[98]⟩] 9)
  have y1 := (Box.new W0 9 #[.string ⟨#[97]⟩]).alloc (Obj.cells #[.string ⟨#[98]⟩] 9)
  have y2 := Box.new (W0.alloc (Obj.cells #[.string ⟨#[97]⟩] 9)) 9 #[.string ⟨#[98]⟩]
  rw [World.size_alloc] at y2
  obtain ⟨W1, hW1⟩ : ∃ W1, W1 = (W0.alloc (Obj.cells #[.string ⟨#[97]⟩] 9)).alloc (Obj.cells #[.string ⟨#[98]⟩] 9) := ⟨_, rfl⟩
  rw [← hW1] at h1 y1 y2
  rw [← hg1] at y1 y2
  have e1 : W1.heap.size = g1 + 2 := by rw [hW1, World.size_alloc, World.size_alloc, hg1]
  have h2 := below_alloc2 W1 (Obj.cells #[.slice (some ⟨g1 + 1, 0, none⟩) 1 1] 22) (Obj.cells #[.slice (some ⟨g1, 0, none⟩) 1 1, .slice (some ⟨g1 + 2, 0, none⟩) 1 1] 25)
  have y3 := (Box.new W1 22 #[.slice (some ⟨g1 + 1, 0, none⟩) 1 1]).alloc (Obj.cells #[.slice (some ⟨g1, 0, none⟩) 1 1, .slice (some ⟨g1 + 2, 0, none⟩) 1 1] 25)
  have y4 := Box.new (W1.alloc (Obj.cells #[.slice (some ⟨g1 + 1, 0, none⟩) 1 1] 22)) 25 #[.slice (some ⟨g1, 0, none⟩) 1 1, .slice (some ⟨g1 + 2, 0, none⟩) 1 1]
  rw [World.size_alloc, e1] at y4
  rw [e1] at y3
  have z1 := y1.below h2
  have z2 := y2.below h2
  have hb02 := below_then h1 h2
  go_upto_region 2 with fail
  rw [← hW1, ← hg1]
  have HZ1 := Lib.hid z1
  have HZ2 := Lib.hid z2
  have HZ3 := Lib.hid y3
  have hx2 := y4
  have HB2 := Lib.hid (below_then HB.out hb02)
  have HT2 := Lib.hid (HT.out.next hb02 hb02.size)
  have HU2 := Lib.hid (HU.out.next hb02)
  have HP2 := Lib.hid (HP.out.next hb02)
  have HS2 := Lib.hid (HS.out.next hb02)
  have HXt := Lib.hid (HX.out.below hb02)
  clear h1 h2 y1 y2 y3 y4 z1 z2 hb02 hW1 hg1 HT HU HP HS HX HB e1
  generalize (W1.alloc (Obj.cells #[.slice (some ⟨g1 + 1, 0, none⟩) 1 1] 22)).alloc (Obj.cells #[.slice (some ⟨g1, 0, none⟩) 1 1, .slice (some ⟨g1 + 2, 0, none⟩) 1 1] 25) = W2 at *
  have hgW : g < W2.heap.size := HXt.out.lt
  have HOT : Hid (TbIn W2 W2.heap.size (oneB g1)) := by
    refine ⟨⟨Row.of_box HZ1.out, by show 1 ≤ 1; omega, by show 1 ≤ maxLen; unfold maxLen; omega, fun s hs => ?_⟩, Row.of_box HZ3.out, by show 1 ≤ 1; omega, by show 1 ≤ maxLen; unfold maxLen; omega, fun r hr => ?_⟩
    · have hs : s ∈ [(⟨#[97]⟩ : ByteArray)] := hs
      obtain rfl := List.mem_singleton.1 hs
      unfold maxLen; decide
    · have hr : r ∈ [(⟨some ⟨g1 + 1, 0, none⟩, 1, [⟨#[98]⟩]⟩ : SR)] := hr
      obtain rfl := List.mem_singleton.1 hr
      refine ⟨Row.of_box HZ2.out, by show 1 ≤ 1; omega, by show 1 ≤ maxLen; unfold maxLen; omega, fun s hs => ?_⟩
      have hs : s ∈ [(⟨#[98]⟩ : ByteArray)] := hs
      obtain rfl := List.mem_singleton.1 hs
      unfold maxLen; decide
  have HL1 : Hid (Calls Tryd.prog 5 #[.agg #[.slice (some ⟨g1, 0, none⟩) 1 1, .slice (some ⟨g1 + 2, 0, none⟩) 1 1], .int .i64 20, .int .i64 4] W2 (LayQ (oneB g1) 20 4 W2)) := play_any (oneB g1) 20 4 W2 HOT.out HU2.out HP2.out (by omega) (by omega) (by omega) (by omega)
  have HQ1 : Hid (∀ e w', LayQ (oneB g1) 20 4 W2 e w' → ∃ A c, e = .returned (.tuple #[.slice A 1 c, .int .i64 0]) ∧ Row w' w'.heap.size A [.string ⟨#[97, 10, 45, 10, 98, 10, 112, 97, 103, 101, 32, 49, 32, 111, 102, 32, 49, 10]⟩] ∧ Below W2.heap.size W2 w') := fun e w' h => by
    obtain ⟨hb, h | ⟨hok, gs, A, c, hgs, he, hr⟩⟩ := h
    · exact absurd ⟨oneB_ok g1, [[0]], oneB_gs g1⟩ h.1
    · rw [oneB_gs] at hgs
      cases hgs
      rw [show 4 - 3 = 1 from rfl, oneB_lay] at he hr
      exact ⟨A, c, he, hr, hb⟩
  have c20 : W2.cell? ⟨g1 + 3, 0, none⟩ = some (.slice (some ⟨g1, 0, none⟩) 1 1) := hx2.cell 0
  have c21 : W2.cell? ⟨g1 + 3, 1, none⟩ = some (.slice (some ⟨g1 + 2, 0, none⟩) 1 1) := hx2.cell 1
  go_upto_region 3 with (go_at_call 5; refine HL1.out.mono ?_; intro e w3 hq; obtain ⟨A1, c1, rfl, hr1, hb3⟩ := HQ1.out e w3 hq; clear hq)
  clear c20 c21
  obtain ⟨bA, oA, rfl, _, hcA⟩ := hr1.open_ (by simp)
  have hc0 := hcA 0 _ rfl
  rw [Nat.add_zero] at hc0
  have HB3 := Lib.hid (below_then HB2.out hb3)
  have HT3 := Lib.hid (HT2.out.next hb3 hb3.size)
  have HU3 := Lib.hid (HU2.out.next hb3)
  have HP3 := Lib.hid (HP2.out.next hb3)
  have HS3 := Lib.hid (HS2.out.next hb3)
  have HX3 := Lib.hid (HXt.out.below hb3)
  have x0 : w3.cell? ⟨g, 0, none⟩ = some (.slice t.h.A t.h.l.length t.h.c) := HX3.out.cell 0
  have x1 : w3.cell? ⟨g, 1, none⟩ = some (.slice t.A t.rs.length t.c) := HX3.out.cell 1
  have HL := Lib.hid (play_any t wd ht w3 HT3.out HU3.out HP3.out h20 h200 h4 h100)
  unfold Tb.val at HL
  clear hcA hr1 hb3 HL1 HQ1 HOT HB2 HT2 HU2 HP2 HS2 HXt HZ1 HZ2 HZ3 hx2
  go_upto_region 7 with (first
    | (go_at_call 6; first | (refine (HC1.out _).mono ?_; rintro e w4 ⟨rfl, rfl⟩; clear HC1) | (refine (HC2.out _).mono ?_; rintro e w4 ⟨rfl, rfl⟩; clear HC2))
    | (go_at_call 5; refine HL.out.mono ?_; rintro e w5 ⟨hb5, ⟨hno, E, hE, rfl⟩ | ⟨hok, gs, A5, c5, hgs, rfl, hr5⟩⟩))
  · have t1 : (E != 0) = true := by rw [bne_iff_ne]; exact hE
    have HF := Lib.hid (below_then HB3.out hb5)
    clear hno hE hb5 x0 x1
    go_wp2_with fail
    go_ret
    exact ⟨rfl, HF.out⟩
  have HB5 := Lib.hid (below_then HB3.out hb5)
  have HS5 := Lib.hid (HS3.out.next hb5)
  have HR5 := Lib.hid hr5
  have hfew : (layB t gs (ht - 3)).length < 10000 := by
    rw [layB_len]
    have n1 := hok.n1
    have hl := wsT_len t
    exact pages_few _ wd _ _ _ gs hgs (by omega) (by omega) (by rw [List.length_map]; exact hok.n2)
  have hfound := hok.found hgs (ht - 3) (by omega)
  have hne : 1 ≤ (layB t gs (ht - 3)).length := by
    rw [layB_len]
    refine Classical.byContradiction fun h => ?_
    have h0 : layP t gs (ht - 3) = [] := List.eq_nil_of_length_eq_zero (by omega)
    rw [h0] at hfound
    exact groups_ne _ _ _ hgs (List.map_eq_nil_iff.1 hfound.symm)
  have hglen : (gs.map (grp (wsT t) t.h.tx (t.rs.map SR.tx))).length = gs.length := List.length_map ..
  have hread := pread_any A5 c5 (layB t gs (ht - 3)) (layP t gs (ht - 3)) wd ht t.rs.length (fun k => (gs.getD k []).map fun i => (wsT t).getD i 0) (fun k => (colsK gs k).map (colT t.h.tx)) (fun k i => (colsK gs k).map (colT (t.rs.getD i sr0).tx)) w5 hr5 hne (layB_len t gs (ht - 3)) (by omega)
    (fun k hk => pgin_of hok h20 h4 h100 hgs k hk) HS5.out h20 h200 h4 h100 (by rw [hfound]; exact hok.readIn hgs) (by
      rw [hfound, hglen]
      exact layBack_of hok h20 h200 h4 h100 hgs (HU3.out.next hb5) (HP3.out.next hb5))
  rw [hfound, hglen] at hread
  have HRead := Lib.hid hread
  have HSame := Lib.hid (fun t' ho => sameT_of (t' := t') hok hgs ho)
  have HX5 := Lib.hid (HX3.out.below hb5)
  have HT5 := Lib.hid (HT3.out.next hb5 hb5.size)
  have HEq := Lib.hid hok.eq
  have hN12 : t.h.l.length ≤ 12 := hok.n1.2
  have hR4 : t.rs.length ≤ 400 := hok.n2
  clear hfound hne hglen hread hr5 hok hgs hb5 x0 x1 HL HT3 HU3 HP3 HS3 HX3 HB3 hc0 hfew HR5
  generalize layB t gs (ht - 3) = L at *
  go_upto_region 9 with fail
  go_upto_region 10 with (go_at_call 10; refine HRead.out.mono ?_; rintro e w6 ⟨t', rfl, hT6, ho6, hb6⟩; unfold Tb.val Tb.cells)
  have hst := HSame.out t' ho6
  have HSt := Lib.hid hst
  have hn : t'.h.l.length = t.h.l.length := by rw [hst.1]
  have hr : t'.rs.length = t.rs.length := hst.len
  have hb7 := below_alloc1 w6 (Obj.cells t'.cells 25)
  have hx7 := Box.new w6 25 t'.cells
  have HX7 := Lib.hid hx7
  have HT7 := Lib.hid (hT6.next hb7 hb7.size)
  have HXg := Lib.hid (HX5.out.below (below_then hb6 hb7))
  have HTg := Lib.hid (HT5.out.next (below_then hb6 hb7) (below_then hb6 hb7).size)
  have HB7 := Lib.hid (below_then HB5.out (below_then hb6 hb7))
  show Code.wp _ _ _ _ (w6.alloc (Obj.cells t'.cells 25))
  clear hst ho6 hT6 hb6 hb7 hx7 HRead HSame HX5 HT5 HB5
  generalize w6.alloc (Obj.cells t'.cells 25) = W7 at *
  generalize w6.heap.size = g7 at *
  have HF : Hid (∀ V, Below W7.heap.size W7 V → V.cell? ⟨g7, 0, none⟩ = some (.slice t'.h.A t'.h.l.length t'.h.c) ∧ V.cell? ⟨g7, 1, none⟩ = some (.slice t'.A t'.rs.length t'.c) ∧ V.cell? ⟨g, 0, none⟩ = some (.slice t.h.A t.h.l.length t.h.c) ∧ V.cell? ⟨g, 1, none⟩ = some (.slice t.A t.rs.length t.c)) := fun V hV => ⟨(HX7.out.below hV).cell 0, (HX7.out.below hV).cell 1, (HXg.out.below hV).cell 0, (HXg.out.below hV).cell 1⟩
  obtain ⟨f0, f1, f2, f3⟩ := HF.out W7 (Below.refl _ _)
  have hrz : ((t'.rs.length : Int) != (t.rs.length : Int)) = false := by rw [hr]; simp
  have hnz : ((t'.h.l.length : Int) != (t.h.l.length : Int)) = false := by rw [hn]; simp
  have HN := Lib.hid hn
  have HR := Lib.hid hr
  clear hn hr
  go_wp2_with fail
  clear f0 f1 f2 f3 hrz hnz
  go_loopw [13, 14, 80, 97] (fun _ _ i _ wr => ∃ q : Nat, q ≤ t.h.l.length ∧ i = .int .i64 (q : Int) ∧ Hid (Below W7.heap.size W7 wr)) (fun _ _ i _ _ => t.h.l.length - (intOf i).toNat)
  case atStart => exact ⟨0, by omega, rfl, Below.refl _ _⟩
  case round =>
    obtain ⟨q, hq, rfl, hbr⟩ := hrel
    rename World => w8
    by_cases hlt : q < t.h.l.length
    case neg =>
      have t1 : decide ((q : Int) < (t.h.l.length : Int)) = false := decide_eq_false (by omega)
      have t1' : decide (q < t.h.l.length) = false := decide_eq_false hlt
      have HFi := Lib.hid (below_then HB7.out hbr.out)
      go_wp2_with fail
      go_ret
      exact ⟨rfl, HFi.out⟩
    have t1 : decide ((q : Int) < (t.h.l.length : Int)) = true := decide_eq_true (by omega)
    have t1' : decide (q < t.h.l.length) = true := decide_eq_true hlt
    have tz : (q : Int) < (t.h.l.length : Int) := by omega
    have tz2 : (q : Int) < (t'.h.l.length : Int) := by have := HN.out; omega
    obtain ⟨s0, hs0⟩ : ∃ s0, s0 = t.h.l.getD q ⟨#[]⟩ := ⟨_, rfl⟩
    obtain ⟨f0, f1, f2, f3⟩ := HF.out w8 hbr.out
    obtain ⟨ba, oa, hA, hba, hca⟩ := (HTg.out.h.row).open_ (sVs_ne _ (by omega))
    obtain ⟨bb, ob, hB, hbb, hcb⟩ := (HT7.out.h.row).open_ (sVs_ne _ (by have := HN.out; omega))
    have ca : w8.cell? ⟨ba, oa + q, none⟩ = some (.string s0) := by rw [hs0]; exact (hbr.out.cell (p := ⟨ba, oa + q, none⟩) hba).trans (hca q _ (sVs_get _ q hlt))
    have cb : w8.cell? ⟨bb, ob + q, none⟩ = some (.string s0) := by
      have h := hcb q _ (sVs_get _ q (by have := HN.out; omega))
      rw [HSt.out.1, ← hs0] at h
      exact (hbr.out.cell (p := ⟨bb, ob + q, none⟩) hbb).trans h
    have ts : (s0.toList == s0.toList) = true := beq_self_eq_true _
    clear hca hcb hs0
    rw [hA] at f2
    rw [hB] at f0
    go_upto_region 15 with fail
    go_quiet (fail)
    go_wp2_with fail
    clear ca cb f0 f1 f2 f3 ts
    go_loopw [14, 97] (fun _ i wr => ∃ k : Nat, k ≤ t.rs.length ∧ i = .int .i64 (k : Int) ∧ Hid (Below W7.heap.size W7 wr)) (fun _ i _ => t.rs.length - (intOf i).toNat)
    case atStart => exact ⟨0, by omega, rfl, hbr.out.trans ((below_drewN w8 _).mono hbr.out.size)⟩
    case round =>
      obtain ⟨k, hk, rfl, hbk⟩ := hrel
      rename World => w9
      by_cases hlk : k < t.rs.length
      case neg =>
        have t2 : decide ((k : Int) < (t.rs.length : Int)) = false := decide_eq_false (by omega)
        have t2' : decide (k < t.rs.length) = false := decide_eq_false hlk
        go_wp2_with fail
        go_roundw
        case rel => exact ⟨q + 1, by omega, by go_num, hbk⟩
        case measure => simp [intOf]; omega
      have t2 : decide ((k : Int) < (t.rs.length : Int)) = true := decide_eq_true (by omega)
      have t2' : decide (k < t.rs.length) = true := decide_eq_true hlk
      have tk : (k : Int) < (t.rs.length : Int) := by omega
      have tk2 : (k : Int) < (t'.rs.length : Int) := by have := HR.out; omega
      have hlk' : k < t'.rs.length := by have := HR.out; omega
      obtain ⟨f0, f1, f2, f3⟩ := HF.out w9 hbk.out
      have hl1 := HEq.out k hlk
      have hl2 := HSt.out.get k
      have r1 := HTg.out.rs _ (getD_sr hlk)
      have r2 := HT7.out.rs _ (getD_sr hlk')
      obtain ⟨ba2, oa2, hA2, hba2, hca2⟩ := HTg.out.row.open_ (srV_ne _ (by omega))
      obtain ⟨bb2, ob2, hB2, hbb2, hcb2⟩ := HT7.out.row.open_ (srV_ne _ (by omega))
      have da := (hbk.out.cell (p := ⟨ba2, oa2 + k, none⟩) hba2).trans (hca2 k _ (srV_get _ k hlk))
      have db := (hbk.out.cell (p := ⟨bb2, ob2 + k, none⟩) hbb2).trans (hcb2 k _ (srV_get _ k hlk'))
      unfold srV at da db
      obtain ⟨ra, hra⟩ : ∃ ra, ra = t.rs.getD k sr0 := ⟨_, rfl⟩
      obtain ⟨rb, hrb⟩ : ∃ rb, rb = t'.rs.getD k sr0 := ⟨_, rfl⟩
      rw [← hra] at da r1 hl1 hl2
      rw [← hrb] at db r2 hl2
      obtain ⟨b3, o3, h3, hb3, hc3⟩ := r1.row.open_ (sVs_ne _ (by omega))
      obtain ⟨b4, o4, h4, hb4, hc4⟩ := r2.row.open_ (sVs_ne _ (by rw [hl2]; omega))
      obtain ⟨s1, hs1⟩ : ∃ s1, s1 = ra.l.getD q ⟨#[]⟩ := ⟨_, rfl⟩
      have ea : w9.cell? ⟨b3, o3 + q, none⟩ = some (.string s1) := by rw [hs1]; exact (hbk.out.cell (p := ⟨b3, o3 + q, none⟩) hb3).trans (hc3 q _ (sVs_get _ q (by omega)))
      have eb : w9.cell? ⟨b4, o4 + q, none⟩ = some (.string s1) := by
        have h := hc4 q _ (sVs_get _ q (by rw [hl2]; omega))
        rw [hl2, ← hs1] at h
        exact (hbk.out.cell (p := ⟨b4, o4 + q, none⟩) hb4).trans h
      rw [h3, hl1] at da
      rw [h4, hl2, hl1] at db
      rw [hA2] at f3
      rw [hB2] at f1
      have ts : (s1.toList == s1.toList) = true := beq_self_eq_true _
      clear hca2 hcb2 hs1 hra hrb hc3 hc4 r1 r2 hl1 hl2 h3 h4 f0 f2
      go_upto_region 20 with fail
      go_quiet (fail)
      go_wp2_with fail
      go_roundw
      case rel => exact ⟨k + 1, by omega, by go_num, hbk.out.trans ((below_drewN w9 _).mono hbk.out.size)⟩
      case measure => simp [intOf]; omega
set_option maxRecDepth 100000 in
theorem walk {H : Type} {enc : TypeId × Value → H} {base : Nat} {W : World} (v0 : Value) (d0 : DataW H) (p0 : List MemPlace) (hv0 : Value.okWide Tryd.prog W .any base 25 v0) (h0 : DataW.Trod enc Tryd.prog W 0 (fun _ => true) true 25 v0 d0 p0) (a1 : Int) (w1 : (Lit.int .i64 a1).wf = true) (a2 : Int) (w2 : (Lit.int .i64 a2).wf = true)
    (hL : laidMet Tryd.prog Rows.pageBackRow.laid W) (hsh : W.ShapedOpen Tryd.prog) :
    Calls Tryd.prog 4 #[v0, .int .i64 a1, .int .i64 a2] W fun e w' => e = .returned (.bool true) ∧ Below W.heap.size W w' := by
  obtain ⟨t, rfl, hT⟩ := table_open hv0 h0
  exact core t a1 a2 W hT (u8_of hL (by simp [Rows.pageBackRow]) (by simp [Rows.pageBackRow])) (pow_of hL.tail.tail) (laysM146.s1_3 W hsh)
end Go.Proofs.YtonepibojojcaaaDoor.pageBack
