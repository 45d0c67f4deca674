/- WPageFits -/
import Derived.Test.YtonepibojojcaaaDoorGPg2
import Derived.Test.YtonepibojojcaaaDoorGPgCtl
import Derived.Test.YtonepibojojcaaaDoorGShelf1
import Derived.Test.YtonepibojojcaaaDoorGNumShp
/- The walk of PageFits: it returns true at every input; it writes nothing that was there. -/
namespace Go.Proofs.YtonepibojojcaaaDoor.pageFits
open Go Go.Shelf Go.RowKit Go.Lib
set_option linter.unusedVariables false

/-- the table of the first look -/
def oneT (g : Nat) : Tb := ⟨⟨some ⟨g, 0, none⟩, 2, [⟨#[97]⟩, ⟨#[98]⟩]⟩, none, 0, []⟩
theorem one_tx (b : UInt8) (h : b = 97 ∨ b = 98) : TxOk ⟨#[b]⟩ := by
  rcases h with rfl | rfl <;> exact ⟨by decide, by kernel_rfl, by kernel_rfl, by kernel_rfl, by rw [show idxFunc ctlR true _ = -1 from by kernel_rfl]; decide⟩
theorem one_ok (g : Nat) : TbOk (oneT g) := by
  refine ⟨⟨by show 1 ≤ 2; omega, by show 2 ≤ 12; omega⟩, by show 0 ≤ 400; omega, fun q hq => absurd hq (Nat.not_lt_zero q), fun q hq k hk => ?_, fun q hq => ?_⟩
  · have : q = 0 := by
      have : q < 0 + 1 := hq
      omega
    subst this
    have hk2 : k < 2 := hk
    rcases (show k = 0 ∨ k = 1 by omega) with rfl | rfl
    · exact one_tx 97 (.inl rfl)
    · exact one_tx 98 (.inr rfl)
  · have hk2 : q < 2 := hq
    rcases (show q = 0 ∨ q = 1 by omega) with rfl | rfl
    · exact ⟨by show (1 : Nat) ≠ 0; omega, rfl⟩
    · exact ⟨by show (1 : Nat) ≠ 0; omega, by kernel_rfl⟩
theorem one_ws (g : Nat) : wsT (oneT g) = [1, 1] := by kernel_rfl
theorem one_gs (g : Nat) : groupsR (wsT (oneT g)) 20 = some [[0, 1]] := by rw [one_ws]; rfl
theorem one_lay (g : Nat) : layB (oneT g) [[0, 1]] 1 = [⟨#[97, 32, 32, 98, 10, 45, 32, 32, 45, 10, 112, 97, 103, 101, 32, 49, 32, 111, 102, 32, 49, 10]⟩] := by kernel_rfl
theorem suf_no (l : List UInt8) (h : ¬ [32] <:+ l) : hasSuffix l [32] = false := by
  unfold hasSuffix
  cases hb : [32].isSuffixOf l with
  | false => rfl
  | true => exact absurd (List.isSuffixOf_iff_suffix.1 hb) h
theorem pg_size {t : Tb} (h : TbOk t) {wd : Nat} {gs : List (List Nat)} (hg : groupsR (wsT t) wd = some gs) (n : Nat) (hn : n ≤ 97) (p : List (List UInt8)) (hp : p ∈ layP t gs n) : (nlL p).length ≤ 400000 := by
  unfold layP pagesR at hp
  obtain ⟨gI, hg1, hm⟩ := List.mem_flatMap.1 hp
  obtain ⟨c, hc, e⟩ := List.mem_map.1 hm
  have hc1 := chk_map SR.tx n t.rs.length t.rs
  rw [List.length_map, hc1] at hc
  obtain ⟨c', hc', rfl⟩ := List.mem_map.1 hc
  obtain ⟨q1, q2⟩ := chk_mem n _ t.rs c' hc'
  rw [← e]
  refine Nat.le_trans (nlL_len _ (pgL_line h gI (h.gr hg gI hg1) c' q2)) ?_
  unfold pgL
  simp only [List.length_cons, List.length_map]
  omega
/-- what is asked of a page -/
structure PgFit (wd ht : Nat) (s : ByteArray) (ls : List (List UInt8)) : Prop where
  sz : s.size ≤ 500000
  split : countB s ⟨#[10]⟩ + 1 = ls.length ∧ splitB ⟨#[10]⟩ 0 (countB s ⟨#[10]⟩) s = ls.map str
  len : 1 ≤ ls.length ∧ ls.length ≤ ht + 1
  last : ls.getD (ls.length - 1) [] = []
  each : ∀ i, i < ls.length → rcT (ls.getD i []) ≤ wd ∧ hasSuffix (ls.getD i []) [32] = false ∧ (ls.getD i []).length ≤ 500000
theorem pg_fit {t : Tb} (h : TbOk t) {wd ht : Nat} (h20 : 20 ≤ wd) (h4 : 4 ≤ ht) (h100 : ht ≤ 100) {gs : List (List Nat)} (hg : groupsR (wsT t) wd = some gs) (i : Nat) (hi : i < (layB t gs (ht - 3)).length) :
    ∃ ls, PgFit wd ht ((layB t gs (ht - 3)).getD i ⟨#[]⟩) ls := by
  rw [layB_len] at hi
  have n1 := h.n1
  have n2 := h.n2
  have hl := wsT_len t
  have hmem : (layP t gs (ht - 3)).getD i [] ∈ layP t gs (ht - 3) := by rw [List.getD_eq_getElem?_getD, List.getElem?_eq_getElem hi]; exact List.getElem_mem hi
  have hfew : (layP t gs (ht - 3)).length < 10000 := pages_few _ wd _ _ _ gs hg (by omega) (by omega) (by rw [List.length_map]; exact n2)
  obtain ⟨f1, f2⟩ := h.fit hg (ht - 3) _ hmem
  have hne := pagesR_ne _ _ _ gs _ _ hmem
  have hsz := pg_size h hg (ht - 3) (by omega) _ hmem
  have e : (layB t gs (ht - 3)).getD i ⟨#[]⟩ = str (pgT ((layP t gs (ht - 3)).getD i []) ((i : Int) + 1) ((layP t gs (ht - 3)).length : Int)) := by
    unfold layB
    simp [List.getD, hi]
  rw [e]
  generalize (layP t gs (ht - 3)).getD i [] = p at *
  generalize hN : (layP t gs (ht - 3)).length = N at *
  have k1 : ((i : Int) + 1).natAbs < 10000 := by omega
  have k2 : (N : Int).natAbs < 10000 := by omega
  obtain ⟨⟨a, l, e1, e2⟩, q2, q3, q4⟩ := pg_split wd (ht - 3) h20 p f1 f2 hne ((i : Int) + 1) (N : Int) k1 k2
  have hnl : ∀ w ∈ a :: l, ∀ b ∈ w, b ≠ 10 := fun w hw => by rw [← e1] at hw; exact (q2 w hw).1
  have hT : (pgT p ((i : Int) + 1) (N : Int)).length ≤ 500000 := by
    have w1 := itoa_len ((i : Int) + 1) 4 (by omega) (by omega)
    have w2 := itoa_len (N : Int) 4 (by omega) (by omega)
    rw [pgT_nl]
    unfold footT
    simp only [List.length_append, List.length_cons, List.length_nil]
    omega
  have hll : (pgS p ((i : Int) + 1) (N : Int)).length = l.length + 1 := by rw [e1]; rfl
  refine ⟨pgS p ((i : Int) + 1) (N : Int), ⟨by rw [str_size]; exact hT, ⟨?_, ?_⟩, ⟨by omega, by omega⟩, ?_, fun j hj => ?_⟩⟩
  · rw [e2, count_join 10 l a hnl, hll]
  · rw [e2, count_join 10 l a hnl, split_join 10 l a hnl, e1]
  · rw [List.getLast?_eq_getElem?] at q4
    rw [List.getD_eq_getElem?_getD, q4]
    rfl
  · have hm : (pgS p ((i : Int) + 1) (N : Int)).getD j [] ∈ pgS p ((i : Int) + 1) (N : Int) := by rw [List.getD_eq_getElem?_getD, List.getElem?_eq_getElem hj]; exact List.getElem_mem hj
    obtain ⟨z1, z2, z3⟩ := q2 _ hm
    refine ⟨z2, suf_no _ z3, ?_⟩
    have key : ∀ (l : List (List UInt8)) (a x : List UInt8), x ∈ a :: l → x.length ≤ (joinW 10 a l).length := by
      intro l
      induction l with
      | nil => intro a x hx; rw [List.mem_singleton.1 hx]; exact Nat.le_refl _
      | cons b l ih =>
        intro a x hx
        simp only [joinW, List.length_append, List.length_cons]
        rcases List.mem_cons.1 hx with rfl | hx
        · omega
        · have := ih b x hx
          omega
    rw [e1] at hm
    have := key l a _ hm
    rw [← e2] at this
    rw [e1]
    omega
theorem split_any (s : ByteArray) (W : World) (hs : s.size ≤ 500000) (h : Shp W) : Calls Tryd.prog 7 #[.string s, .string ⟨#[10]⟩] W fun e w' => e = .returned (.slice (some ⟨W.heap.size, 0, none⟩) (countB s ⟨#[10]⟩ + 1) (countB s ⟨#[10]⟩ + 1)) ∧ w' = W.alloc (.cells ((splitB ⟨#[10]⟩ 0 (countB s ⟨#[10]⟩) s).map Value.string).toArray 9) := by
  obtain ⟨m, hm⟩ := h
  exact strings_Split s ⟨#[10]⟩ m W (by omega) hm (by decide)
/-- the lines of a page, in memory -/
theorem split_fit {wd ht : Nat} {s : ByteArray} {ls : List (List UInt8)} (hF : PgFit wd ht s ls) (W : World) (h : Shp W) : Calls Tryd.prog 7 #[.string s, .string ⟨#[10]⟩] W fun e w' => e = .returned (.slice (some ⟨W.heap.size, 0, none⟩) ls.length ls.length) ∧ Box w' W.heap.size 9 (sVs (ls.map str)).toArray ∧ Below W.heap.size W w' := by
  refine (split_any s W hF.sz h).mono fun e w' ⟨he, hw⟩ => ?_
  rw [hF.split.1] at he
  rw [hF.split.2] at hw
  exact ⟨he, by rw [hw]; exact Box.new W 9 _, by rw [hw]; exact below_alloc1 _ _⟩
set_option maxHeartbeats 4000000 in
set_option maxRecDepth 100000 in
theorem core (t : Tb) (a b : Int) (w : World) (hT : TbIn w w.heap.size t) (hu : U8 w) (hp : Pow w) (hs : Shp w) :
    Calls Tryd.prog 3 #[t.val, .int .i64 a, .int .i64 b] w fun e w' => e = .returned (.bool true) ∧ Below w.heap.size w w' := by
  have HX := Lib.hid (Box.new w 25 t.cells)
  have HB := Lib.hid (below_alloc1 w (Obj.cells t.cells 25))
  have HT := Lib.hid (hT.next HB.out HB.out.size)
  have HU := Lib.hid (hu.next HB.out)
  have HP := Lib.hid (hp.next HB.out)
  have HS := Lib.hid (hs.next HB.out)
  have HC1 := Lib.hid (fun w => cut_any a 20 181 w (by omega) (by omega) (by omega) (by omega))
  have HC2 := Lib.hid (fun w => cut_any b 4 97 w (by omega) (by omega) (by omega) (by omega))
  obtain ⟨wd, hwd, h20, h200⟩ : ∃ wd : Nat, 20 + a % 181 = (wd : Int) ∧ 20 ≤ wd ∧ wd ≤ 200 := ⟨(20 + a % 181).toNat, by omega, by omega, by omega⟩
  obtain ⟨ht, hht, h4, h100⟩ : ∃ ht : Nat, 4 + b % 97 = (ht : Int) ∧ 4 ≤ ht ∧ ht ≤ 100 := ⟨(4 + b % 97).toNat, by omega, by omega, by omega⟩
  rw [hwd] at HC1
  rw [hht] at HC2
  clear hT hu hp hs hwd hht
  unfold Tb.val at *
  go_enter Tryd.func3, Tryd.ntmps3
  go_upto_region 1 with fail
  generalize w.alloc (Obj.cells t.cells 25) = W0 at *
  obtain ⟨g, hg⟩ : ∃ g, g = w.heap.size := ⟨_, rfl⟩
  rw [← hg] at HX ⊢
  clear hg
  obtain ⟨g1, hg1⟩ : ∃ g1, g1 = W0.heap.size := ⟨_, rfl⟩
  have hb1 := below_alloc1 W0 (Obj.cells #[.string ⟨#[97]⟩, .string ⟨#[98]⟩] 9)
  have hx1 := Box.new W0 9 #[.string ⟨#[97]⟩, .string ⟨#[98]⟩]
  obtain ⟨W1, hW1⟩ : ∃ W1, W1 = W0.alloc (Obj.cells #[.string ⟨#[97]⟩, .string ⟨#[98]⟩] 9) := ⟨_, rfl⟩
  rw [← hW1] at hb1 hx1
  rw [← hg1] at hx1
  have hb2 := below_alloc1 W1 (Obj.cells #[.slice (some ⟨g1, 0, none⟩) 2 2, .slice none 0 0] 25)
  have hx2 := Box.new W1 25 #[.slice (some ⟨g1, 0, none⟩) 2 2, .slice none 0 0]
  go_upto_region 2 with fail
  rw [← hW1, ← hg1]
  have e2 : W1.heap.size = g1 + 1 := by rw [hW1, World.size_alloc, hg1]
  rw [e2] at hx2
  have hb02 : Below W0.heap.size W0 (W1.alloc (Obj.cells #[.slice (some ⟨g1, 0, none⟩) 2 2, .slice none 0 0] 25)) := below_then hb1 hb2
  have HX1 := Lib.hid (hx1.below hb2)
  have HB2 := Lib.hid (below_then HB.out hb02)
  have HT2 := Lib.hid (HT.out.next hb02 hb02.size)
  have HU2 := Lib.hid (HU.out.next hb02)
  have HP2 := Lib.hid (HP.out.next hb02)
  have HS2 := Lib.hid (HS.out.next hb02)
  have HXt := Lib.hid (HX.out.below hb02)
  clear hb1 hb2 hb02 hx1 hW1 hg1 HT HU HP HS HX HB
  generalize W1.alloc (Obj.cells #[.slice (some ⟨g1, 0, none⟩) 2 2, .slice none 0 0] 25) = W2 at *
  have hgW : g < W2.heap.size := HXt.out.lt
  have HOT : Hid (TbIn W2 W2.heap.size (oneT g1)) := by
    refine ⟨⟨?_, by show 2 ≤ 2; omega, by show 2 ≤ maxLen; unfold maxLen; omega, fun s hs => ?_⟩, .inl rfl, by show 0 ≤ 0; omega, by show 0 ≤ maxLen; unfold maxLen; omega, fun r hr => by cases hr⟩
    · have := Row.of_box HX1.out
      exact this
    · have hs : s ∈ [(⟨#[97]⟩ : ByteArray), ⟨#[98]⟩] := hs
      simp only [List.mem_cons, List.not_mem_nil, or_false] at hs
      unfold maxLen
      rcases hs with rfl | rfl <;> decide
  have HL1 : Hid (Calls Tryd.prog 5 #[.agg #[.slice (some ⟨g1, 0, none⟩) 2 2, .slice none 0 0], .int .i64 20, .int .i64 4] W2 (LayQ (oneT g1) 20 4 W2)) := play_any (oneT g1) 20 4 W2 HOT.out HU2.out HP2.out (by omega) (by omega) (by omega) (by omega)
  have HQ1 : Hid (∀ e w', LayQ (oneT g1) 20 4 W2 e w' → ∃ A c, e = .returned (.tuple #[.slice A 1 c, .int .i64 0]) ∧ Row w' w'.heap.size A [.string ⟨#[97, 32, 32, 98, 10, 45, 32, 32, 45, 10, 112, 97, 103, 101, 32, 49, 32, 111, 102, 32, 49, 10]⟩] ∧ Below W2.heap.size W2 w') := fun e w' h => by
    obtain ⟨hb, h | ⟨hok, gs, A, c, hgs, he, hr⟩⟩ := h
    · exact absurd ⟨one_ok g1, [[0, 1]], one_gs g1⟩ h.1
    · rw [one_gs] at hgs
      cases hgs
      rw [show 4 - 3 = 1 from rfl, one_lay] at he hr
      exact ⟨A, c, he, hr, hb⟩
  clear e2
  have c20 : W2.cell? ⟨g1 + 1, 0, none⟩ = some (.slice (some ⟨g1, 0, none⟩) 2 2) := hx2.cell 0
  have c21 : W2.cell? ⟨g1 + 1, 1, none⟩ = some (.slice none 0 0) := hx2.cell 1
  go_upto_region 3 with (go_at_call 5; refine HL1.out.mono ?_; intro e w3 hq; obtain ⟨A1, c1, rfl, hr1, hb3⟩ := HQ1.out e w3 hq; clear hq)
  clear c20 c21
  obtain ⟨bA, oA, rfl, _, hcA⟩ := hr1.open_ (by simp)
  have hc0 := hcA 0 _ rfl
  rw [Nat.add_zero] at hc0
  have HB3 := Lib.hid (below_then HB2.out hb3)
  have HT3 := Lib.hid (HT2.out.next hb3 hb3.size)
  have HU3 := Lib.hid (HU2.out.next hb3)
  have HP3 := Lib.hid (HP2.out.next hb3)
  have HS3 := Lib.hid (HS2.out.next hb3)
  have HX3 := Lib.hid (HXt.out.below hb3)
  have x0 : w3.cell? ⟨g, 0, none⟩ = some (.slice t.h.A t.h.l.length t.h.c) := HX3.out.cell 0
  have x1 : w3.cell? ⟨g, 1, none⟩ = some (.slice t.A t.rs.length t.c) := HX3.out.cell 1
  have HL := Lib.hid (play_any t wd ht w3 HT3.out HU3.out HP3.out h20 h200 h4 h100)
  unfold Tb.val at HL
  clear hcA hr1 hb3 HL1 HQ1 HOT HB2 HT2 HU2 HP2 HS2 HXt HX1 hx2
  go_upto_region 7 with (first
    | (go_at_call 6; first | (refine (HC1.out _).mono ?_; rintro e w4 ⟨rfl, rfl⟩; clear HC1) | (refine (HC2.out _).mono ?_; rintro e w4 ⟨rfl, rfl⟩; clear HC2))
    | (go_at_call 5; refine HL.out.mono ?_; rintro e w5 ⟨hb5, ⟨hno, E, hE, rfl⟩ | ⟨hok, gs, A5, c5, hgs, rfl, hr5⟩⟩))
  · have t1 : (E != 0) = true := by rw [bne_iff_ne]; exact hE
    have HF := Lib.hid (below_then HB3.out hb5)
    clear hno hE hb5 x0 x1
    go_wp2_with fail
    go_ret
    exact ⟨rfl, HF.out⟩
  have HB5 := Lib.hid (below_then HB3.out hb5)
  have HS5 := Lib.hid (HS3.out.next hb5)
  have HPg := Lib.hid (fun i (hi : i < (layB t gs (ht - 3)).length) => pg_fit hok h20 h4 h100 hgs i hi)
  have HR5 := Lib.hid hr5
  have hfew : (layB t gs (ht - 3)).length < 10000 := by
    rw [layB_len]
    have n1 := hok.n1
    have hl := wsT_len t
    exact pages_few _ wd _ _ _ gs hgs (by omega) (by omega) (by rw [List.length_map]; exact hok.n2)
  clear hr5 hok hgs hb5 x0 x1 HL HT3 HU3 HP3 HS3 HX3 HB3 hc0
  generalize layB t gs (ht - 3) = L at *
  go_wp2_with fail
  go_loopw [13, 14, 16, 52, 72, 73, 74] (fun _ _ _ i _ _ _ wr => ∃ k : Nat, k ≤ L.length ∧ i = .int .i64 (k : Int) ∧ Hid (Below w5.heap.size w5 wr)) (fun _ _ _ i _ _ _ _ => L.length - (intOf i).toNat)
  case atStart => exact ⟨0, by omega, rfl, Below.refl _ _⟩
  case round =>
    obtain ⟨k, hk, rfl, hbr⟩ := hrel
    rename World => w6
    by_cases hlt : k < L.length
    · obtain ⟨bL, oL, hA, hbl, hcs⟩ := HR5.out.open_ (sVs_ne _ (by omega))
      have c1 := (hbr.out.cell (p := ⟨bL, oL + k, none⟩) hbl).trans (hcs k _ (sVs_get L k hlt))
      obtain ⟨ls, hF⟩ := HPg.out k hlt
      clear hcs
      subst hA
      have HSp := Lib.hid (fun W (h : Shp W) => split_fit hF W h)
      have HSh := Lib.hid (HS5.out.next hbr.out)
      obtain ⟨f1, f2⟩ := hF.len
      have f3 := hF.last
      have HEa := Lib.hid hF.each
      generalize L.getD k ⟨#[]⟩ = s at *
      have t5 : decide ((k : Int) < (L.length : Int)) = true := decide_eq_true (by omega)
      clear hF
      go_upto_region 13 with (go_at_call 7; refine (HSp.out _ HSh.out).mono ?_; rintro e w7 ⟨rfl, hx7, hb7⟩)
      have HB7 := Lib.hid (below_then hbr.out hb7)
      obtain ⟨gS, hgS⟩ : ∃ gS, gS = w6.heap.size := ⟨_, rfl⟩
      rw [← hgS] at hx7 ⊢
      have HX7 := Lib.hid hx7
      obtain ⟨m, hm⟩ : ∃ m, m = ls.length - 1 := ⟨_, rfl⟩
      have e1 : IntKind.i64.wrap ((ls.length : Int) - 1) = (m : Int) := by rw [intFits _ (by omega) (by omega)]; omega
      have e2 : ((ls.length : Int) - 1) = (m : Int) := by omega
      have hcm : w7.cell? ⟨gS, m, none⟩ = some (.string ⟨#[]⟩) := by
        rw [hx7.cell m]
        rw [← hm] at f3
        simp only [List.getElem?_toArray]
        rw [sVs_get _ m (by rw [List.length_map]; omega)]
        have : (ls.map str).getD m ⟨#[]⟩ = str (ls.getD m []) := by simp [List.getD, List.getElem?_eq_getElem (show m < ls.length by omega)]
        rw [this, f3]
        rfl
      have t6 : decide ((ls.length : Int) > (ht : Int) + 1) = false := decide_eq_false (by omega)
      have t6' : decide ((ht : Int) + 1 < (ls.length : Int)) = false := decide_eq_false (by omega)
      have hml : (m : Int) < (ls.length : Int) := by omega
      clear hgS hm c1 hb7 hx7 f3 HSp HSh
      go_wp2_with fail
      clear hcm e1 e2 t6 t6' hml
      go_loopw [16, 74] (fun _ i wr => ∃ j : Nat, j ≤ ls.length ∧ i = .int .i64 (j : Int) ∧ Hid (Below w7.heap.size w7 wr)) (fun _ i _ => ls.length - (intOf i).toNat)
      case atStart => exact ⟨0, by omega, rfl, Below.refl _ _⟩
      case round =>
        obtain ⟨j, hj, rfl, hbi⟩ := hrel
        rename World => w8
        by_cases hjl : j < ls.length
        · obtain ⟨r1, r2, r3⟩ := HEa.out j hjl
          have d0 : w8.cell? ⟨gS, j, none⟩ = some (.string (str (ls.getD j []))) := by
            rw [(HX7.out.below hbi.out).cell j]
            simp only [List.getElem?_toArray]
            rw [sVs_get _ j (by rw [List.length_map]; exact hjl)]
            simp [List.getD, List.getElem?_eq_getElem hjl]
          have HRC := Lib.hid (fun W => rcount_any (str (ls.getD j [])) (by rw [str_size]; omega) W)
          have HSf := Lib.hid (fun W => strings_HasSuffix (str (ls.getD j [])) ⟨#[32]⟩ W (by rw [str_size]; omega))
          rw [show (str (ls.getD j [])).data.toList = ls.getD j [] from str_data _, show (⟨#[32]⟩ : ByteArray).data.toList = [32] from rfl, r2] at HSf
          rw [show tx (str (ls.getD j [])) = ls.getD j [] from str_data _] at HRC
          generalize str (ls.getD j []) = sj at *
          generalize rcT (ls.getD j []) = rc at *
          have t7 : decide (wd < rc) = false := decide_eq_false (by omega)
          have t7' : decide ((rc : Int) > (wd : Int)) = false := decide_eq_false (by omega)
          clear r2 r3
          go_wp2_with (first
            | (go_at_call 8; refine (HRC.out _).mono ?_; rintro e w9 ⟨rfl, hb9⟩; have HB9 := Lib.hid (below_then hbi.out hb9); clear hb9)
            | (go_at_call 9; refine (HSf.out _).mono ?_; rintro e w10 ⟨rfl, hw10⟩; rw [hw10]; clear hw10))
          go_roundw
          case rel => exact ⟨j + 1, by omega, by go_num, HB9⟩
          case measure => simp [intOf]; omega
        · have t7 : decide ((j : Int) < (ls.length : Int)) = false := decide_eq_false (by omega)
          have HF := Lib.hid (below_then HB7.out hbi.out)
          go_wp2_with fail
          go_roundw
          case rel => exact ⟨k + 1, by omega, by go_num, HF⟩
          case measure => simp [intOf]; omega
    · have t5 : decide ((k : Int) < (L.length : Int)) = false := decide_eq_false (by omega)
      have HF := Lib.hid (below_then HB5.out hbr.out)
      go_wp2_with fail
      go_ret
      exact ⟨rfl, HF.out⟩

set_option maxRecDepth 100000 in
theorem walk {H : Type} {enc : TypeId × Value → H} {base : Nat} {W : World} (v0 : Value) (d0 : DataW H) (p0 : List MemPlace) (hv0 : Value.okWide Tryd.prog W .any base 25 v0) (h0 : DataW.Trod enc Tryd.prog W 0 (fun _ => true) true 25 v0 d0 p0) (a1 : Int) (w1 : (Lit.int .i64 a1).wf = true) (a2 : Int) (w2 : (Lit.int .i64 a2).wf = true)
    (hL : laidMet Tryd.prog Rows.pageFitsRow.laid W) (hsh : W.ShapedOpen Tryd.prog) :
    Calls Tryd.prog 3 #[v0, .int .i64 a1, .int .i64 a2] W fun e w' => e = .returned (.bool true) ∧ Below W.heap.size W w' := by
  obtain ⟨t, rfl, hT⟩ := table_open hv0 h0
  exact core t a1 a2 W hT (u8_of hL (by simp [Rows.pageFitsRow]) (by simp [Rows.pageFitsRow])) (pow_of hL.tail.tail) (laysM146.s1_3 W hsh)
end Go.Proofs.YtonepibojojcaaaDoor.pageFits
