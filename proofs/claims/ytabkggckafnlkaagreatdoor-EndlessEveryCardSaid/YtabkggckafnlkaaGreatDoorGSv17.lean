/- Sv17, Sv18 -/
import Derived.Test.YtabkggckafnlkaaGreatDoorGSv7
/- Contracts of solve.Tree.First and Next. -/
namespace Go.Proofs.YtabkggckafnlkaaGreatDoor
open Go Go.RowKit
attribute [local go_sem] Oper.semAt_some
set_option linter.unusedVariables false

/-- what First says -/
def FirstQ (t : FE) (low high : Int) (w : World) (e : Ending) (w' : World) : Prop := ∃ (d : Int) (is : Bool), e = .returned (.tuple #[.int .i64 d, .bool is]) ∧ (is = true → low ≤ d ∧ d ≤ high ∧ memF t d ∧ ∀ x, low ≤ x → x < d → ¬ memF t x) ∧ (is = false → d = 0 ∧ ∀ x, low ≤ x → x ≤ high → ¬ memF t x) ∧ Below w.heap.size w w'
theorem FirstQ.yes {t : FE} {low high d : Int} {w w' : World} (h : low ≤ d ∧ d ≤ high ∧ memF t d ∧ ∀ x, low ≤ x → x < d → ¬ memF t x) (hb : Below w.heap.size w w') : FirstQ t low high w (.returned (.tuple #[.int .i64 d, .bool true])) w' := ⟨d, true, rfl, fun _ => h, fun h => (by cases h), hb⟩
theorem FirstQ.no {t : FE} {low high : Int} {w w' : World} (h : ∀ x, low ≤ x → x ≤ high → ¬ memF t x) (hb : Below w.heap.size w w') : FirstQ t low high w (.returned (.tuple #[.int .i64 0, .bool false])) w' := ⟨0, false, rfl, fun h => (by cases h), fun _ => ⟨rfl, h⟩, hb⟩

set_option maxHeartbeats 4000000 in
set_option maxRecDepth 100000 in
theorem first_any {p : Nat → Prop} {T : ST} {t : FE} (w : World) (h : StAt w p T t) (hok : FeOk t) (hht : fht t ≤ 10) (low high : Int) (hlo : -4000000 ≤ low) (hhi : high ≤ 4000000) (hlo2 : low ≤ 4000000) (hhi2 : -4000000 ≤ high) :
    Calls Tryz.prog 19 #[.agg (stF T).toArray, .int .i64 low, .int .i64 high] w (FirstQ t low high w) := by
  have HSet0 := (fun W (hW : Below w.heap.size w W) (lo hi : Int) (n : Nat) (h1 : hi = lo + n - 1) (h2 : -4000000 ≤ lo) (h3 : hi ≤ 4000000) (h4 : 1 ≤ n) (h5 : n ≤ 2000) => set_any h hok W lo hi n hW h1 (by omega) (by omega) h4 (by omega))
  unfold SetQ at HSet0
  obtain ⟨k3, a3, b3, nm3, A3, c3, cal3, B3, d3, ks3⟩ := T
  have HSet : Hid (∀ W (hW : Below w.heap.size w W) (lo hi : Int) (n : Nat) (h1 : hi = lo + n - 1) (h2 : -4000000 ≤ lo) (h3 : hi ≤ 4000000) (h4 : 1 ≤ n) (h5 : n ≤ 2000), Calls Tryz.prog 23 #[.agg #[.int .i64 k3, .int .i64 a3, .int .i64 b3, .string nm3, .slice A3 ks3.length c3, .string cal3.nm, .int .i64 cal3.ep, .int .i64 cal3.cy, .slice cal3.A1 cal3.mo.length cal3.c1, .slice cal3.A2 cal3.lp.length cal3.c2, .slice B3 ks3.length d3], .int .i64 lo, .int .i64 hi] W fun e w' => ∃ gs, e = .returned (.slice (some ⟨gs, 0, none⟩) n n) ∧ BoolsAt w' gs lo n (memF t) ∧ W.heap.size ≤ gs ∧ Below W.heap.size W w') := HSet0
  show Calls Tryz.prog 19 #[.agg #[.int .i64 k3, .int .i64 a3, .int .i64 b3, .string nm3, .slice A3 ks3.length c3, .string cal3.nm, .int .i64 cal3.ep, .int .i64 cal3.cy, .slice cal3.A1 cal3.mo.length cal3.c1, .slice cal3.A2 cal3.lp.length cal3.c2, .slice B3 ks3.length d3], .int .i64 low, .int .i64 high] w _
  have HB := Lib.hid (below_alloc1 w (Obj.cells #[.int .i64 k3, .int .i64 a3, .int .i64 b3, .string nm3, .slice A3 ks3.length c3, .string cal3.nm, .int .i64 cal3.ep, .int .i64 cal3.cy, .slice cal3.A1 cal3.mo.length cal3.c1, .slice cal3.A2 cal3.lp.length cal3.c2, .slice B3 ks3.length d3] 49))
  have HX := Lib.hid (Box.new w 49 #[.int .i64 k3, .int .i64 a3, .int .i64 b3, .string nm3, .slice A3 ks3.length c3, .string cal3.nm, .int .i64 cal3.ep, .int .i64 cal3.cy, .slice cal3.A1 cal3.mo.length cal3.c1, .slice cal3.A2 cal3.lp.length cal3.c2, .slice B3 ks3.length d3])
  have HN := Lib.hid (show -4000000 ≤ low ∧ high ≤ 4000000 ∧ low ≤ 4000000 ∧ -4000000 ≤ high from ⟨hlo, hhi, hlo2, hhi2⟩)
  clear h hok hht HSet0
  go_enter Tryz.func19, Tryz.ntmps19
  go_upto_region 1 with fail
  generalize w.alloc (Obj.cells #[.int .i64 k3, .int .i64 a3, .int .i64 b3, .string nm3, .slice A3 ks3.length c3, .string cal3.nm, .int .i64 cal3.ep, .int .i64 cal3.cy, .slice cal3.A1 cal3.mo.length cal3.c1, .slice cal3.A2 cal3.lp.length cal3.c2, .slice B3 ks3.length d3] 49) = W1 at *
  obtain ⟨g, hg⟩ : ∃ g, g = w.heap.size := ⟨_, rfl⟩
  rw [← hg] at HX ⊢
  clear hg
  go_wp2_with fail
  go_loopw [1, 8, 9, 10, 11] (fun s1 s8 _ _ _ wr => ∃ l sz : Int, s1 = .int .i64 l ∧ s8 = .int .i64 sz ∧ low ≤ l ∧ l ≤ 4000001 ∧ 16 ≤ sz ∧ sz ≤ 1024 ∧ Hid (∀ x, low ≤ x → x < l → ¬ memF t x) ∧ Hid (Box wr g 49 #[.int .i64 k3, .int .i64 a3, .int .i64 b3, .string nm3, .slice A3 ks3.length c3, .string cal3.nm, .int .i64 cal3.ep, .int .i64 cal3.cy, .slice cal3.A1 cal3.mo.length cal3.c1, .slice cal3.A2 cal3.lp.length cal3.c2, .slice B3 ks3.length d3]) ∧ Hid (Below w.heap.size w wr)) (fun s1 _ _ _ _ _ => (high + 1 - intOf s1).toNat)
  case atStart => exact ⟨low, 16, rfl, rfl, by omega, by omega, by omega, by omega, fun x h1 h2 => by omega, HX, HB⟩
  case round =>
    obtain ⟨l, sz, rfl, rfl, hl1, hl2, hz1, hz2, hno, hx, hbr⟩ := hrel
    clear HX HB
    have hnn := HN.out
    by_cases hle : l ≤ high
    case neg =>
      have t1 : decide (l ≤ high) = false := decide_eq_false hle
      have t1' : decide (high < l) = true := decide_eq_true (by omega)
      have HR : Hid (∀ x, low ≤ x → x ≤ high → ¬ memF t x) := fun x h1 h2 => hno.out x h1 (by omega)
      clear hle
      go_wp2_with fail
      go_ret2
      exact FirstQ.no HR.out hbr.out
    have t1 : decide (l ≤ high) = true := decide_eq_true hle
    obtain ⟨z0, z1, z2, z3, z4⟩ := tcells0 hx.out
    obtain ⟨z5, z6, z7, z8, z9, z10⟩ := tcells1 hx.out
    have ew1 : IntKind.i64.wrap (l + sz) = l + sz := intFits _ (by omega) (by omega)
    have ew2 : IntKind.i64.wrap (l + sz - 1) = l + sz - 1 := intFits _ (by omega) (by omega)
    go_upto_region 5 with fail
    obtain ⟨en, hen⟩ : ∃ en, en = min high (l + sz - 1) := ⟨_, rfl⟩
    rw [← hen]
    have he1 : en ≤ high ∧ en ≤ l + sz - 1 ∧ l ≤ en := by omega
    obtain ⟨n, hn⟩ : ∃ n : Nat, (n : Int) = en - l + 1 := ⟨(en - l + 1).toNat, by omega⟩
    have HS2 := Lib.hid (HSet.out wr hbr.out l en n (by omega) (by omega) (by omega) (by omega) (by omega))
    have hnb : n ≤ 1024 := by omega
    have HEn := Lib.hid hen
    have hn1 : (n : Int) ≤ en - l + 1 ∧ en - l + 1 ≤ n := by omega
    clear hen hn ew1 ew2
    go_wp2_with fail
    refine HS2.out.mono ?_
    rintro e w2 ⟨gq, rfl, hbs, _, hb2⟩
    have HB2 := Lib.hid (below_then hbr.out hb2)
    have HX2 := Lib.hid (hx.out.below hb2)
    obtain ⟨L, hL, hLc, hLm⟩ := hbs.list
    have HL := Lib.hid (And.intro hLc hLm)
    clear hbs hb2 hLc hLm HS2 hbr hx z0 z1 z2 z3 z4 z5 z6 z7 z8 z9 z10
    go_wp2_with fail
    go_loopw [10, 11, 29] (fun _ _ i wq => ∃ j : Nat, j ≤ n ∧ i = .int .i64 (j : Int) ∧ wq = w2 ∧ Hid (∀ x, l ≤ x → x < l + (j : Int) → ¬ memF t x)) (fun _ _ i _ => n - (intOf i).toNat)
    case atStart => exact ⟨0, by omega, rfl, rfl, fun x h1 h2 => by omega⟩
    case round =>
      obtain ⟨j, hj, rfl, rfl, hnj⟩ := hrel
      by_cases hjt : j < n
      case neg =>
        have hje : n ≤ j := by omega
        have ew3 : IntKind.i64.wrap (en + 1) = en + 1 := intFits _ (by omega) (by omega)
        have ew4 : IntKind.i64.wrap (2 * sz) = 2 * sz := intFits _ (by omega) (by omega)
        have HR : Hid (∀ x, low ≤ x → x < en + 1 → ¬ memF t x) := fun x h1 h2 => by
          by_cases hxl : x < l
          · exact hno.out x h1 hxl
          · exact hnj.out x (by omega) (by omega)
        have hm1 : 16 ≤ min (2 * sz) 1024 ∧ min (2 * sz) 1024 ≤ 1024 := by omega
        clear hjt hnj
        go_wp2_with fail
        go_roundw
        case rel => exact ⟨en + 1, min (2 * sz) 1024, rfl, rfl, by omega, by omega, hm1.1, hm1.2, HR, HX2, HB2⟩
        case measure => simp [intOf]; omega
      obtain ⟨x, hx⟩ : ∃ x, L[j]? = some x := ⟨_, List.getElem?_eq_getElem (by omega)⟩
      have hcx := HL.out.1 j x hx
      have hxm : x = true ↔ memF t (l + (j : Int)) := by
        have := HL.out.2 j hjt
        rwa [List.getD_eq_getElem?_getD, hx] at this
      have HXm := Lib.hid hxm
      have ew3 : IntKind.i64.wrap (l + (j : Int)) = l + (j : Int) := intFits _ (by omega) (by omega)
      clear hx hxm
      cases x with
      | false =>
        have HR : Hid (∀ x, l ≤ x → x < l + ((j + 1 : Nat) : Int) → ¬ memF t x) := fun x h1 h2 h3 => by
          by_cases e : x = l + (j : Int)
          · rw [e] at h3; have := HXm.out.2 h3; cases this
          · exact hnj.out x h1 (by omega) h3
        clear HXm hnj
        go_wp2_with fail
        go_roundw
        case rel => exact ⟨j + 1, by omega, by go_num, by first | rfl | trivial, HR⟩
        case measure => simp [intOf]; omega
      | true =>
        have HR : Hid (low ≤ l + (j : Int) ∧ l + (j : Int) ≤ high ∧ memF t (l + (j : Int)) ∧ ∀ x, low ≤ x → x < l + (j : Int) → ¬ memF t x) := ⟨by omega, by omega, HXm.out.1 rfl, fun x h1 h2 => by
          by_cases hxl : x < l
          · exact hno.out x h1 hxl
          · exact hnj.out x (by omega) h2⟩
        clear HXm hnj
        go_wp2_with fail
        go_ret2
        exact FirstQ.yes HR.out HB2.out

/-- what Next says -/
def NextQ (t : FE) (day : Int) (w : World) (e : Ending) (w' : World) : Prop := ∃ (d E : Int), e = .returned (.tuple #[.int .i64 d, .int .i64 E]) ∧ Below w.heap.size w w' ∧ (¬ (FeGood t ∧ DayIn day) → E ≠ 0) ∧ (FeGood t ∧ DayIn day → (E = 0 ∧ day ≤ d ∧ d ≤ day + 3000 ∧ memF t d ∧ ∀ x, day ≤ x → x < d → ¬ memF t x) ∨ (E = 6 ∧ d = 0 ∧ ∀ x, day ≤ x → x ≤ day + 3000 → ¬ memF t x))
set_option maxHeartbeats 2000000 in
set_option maxRecDepth 100000 in
theorem next_any (t : FE) (day : Int) (w : World) (hv : Env w) (hin : FeIn w w.heap.size t) : Calls Tryz.prog 14 #[feV t, .int .i64 day] w (NextQ t day w) := by
  have HV := Lib.hid (fun W (h : Below w.heap.size w W) => hv.next h)
  have HIn := Lib.hid (fun W (h : Below w.heap.size w W) => hin.next h h.size)
  clear hv hin
  obtain ⟨t0, ht0⟩ : ∃ t0, t0 = t := ⟨_, rfl⟩
  obtain ⟨k, a, b, nm, A, c, ks⟩ := t
  have HCk := Lib.hid (fun g1 W (h : Below w.heap.size w W) (hg : g1 < W.heap.size) (hc : W.cell? ⟨g1, 0, none⟩ = some (.int .i64 day)) => check_any (.node k a b nm A c ks) [day] g1 0 1 W (HV.out W h) (HIn.out W h) hg (one_at day g1 W hc) (by simp))
  have HOp := Lib.hid (fun (hok : FeOk (.node k a b nm A c ks)) W (h : Below w.heap.size w W) => open_any W (HV.out W h) (.node k a b nm A c ks) (HIn.out W h) hok W (Below.refl _ _))
  have HSt := Lib.hid (fun (hg : FeGood (.node k a b nm A c ks)) (hd : DayIn day) (hi : Int) (h1 : -4000000 ≤ hi) (h2 : hi ≤ 4000000) (T : ST) (p : Nat → Prop) W (h : StAt W p T (.node k a b nm A c ks)) => first_any W h hg.ok hg.ht day hi hd.1 h2 hd.2 h1)
  rw [← ht0] at HCk HOp HSt ⊢
  have HT0 := Lib.hid ht0
  have hfe : feV t0 = .agg #[.int .i64 k, .int .i64 a, .int .i64 b, .string nm, .slice A ks.length c] := by rw [ht0]; rfl
  rw [hfe] at HCk HOp ⊢
  have HB := Lib.hid (below_alloc2 w (Obj.cells #[.int .i64 k, .int .i64 a, .int .i64 b, .string nm, .slice A ks.length c] 24) (Obj.cells #[.int .i64 day] 3))
  have HX := Lib.hid ((Box.new w 24 #[.int .i64 k, .int .i64 a, .int .i64 b, .string nm, .slice A ks.length c]).alloc (Obj.cells #[.int .i64 day] 3))
  have hY := Box.new (w.alloc (Obj.cells #[.int .i64 k, .int .i64 a, .int .i64 b, .string nm, .slice A ks.length c] 24)) 3 #[.int .i64 day]
  rw [World.size_alloc] at hY
  have HY := Lib.hid hY
  have xb := Box.new w 24 #[.int .i64 k, .int .i64 a, .int .i64 b, .string nm, .slice A ks.length c]
  obtain ⟨x0, x1, x2, x3, x4⟩ := fecells xb
  unfold ChkQ at HCk
  unfold OpenQ at HOp
  unfold FirstQ at HSt
  clear ht0 hfe hY
  go_enter Tryz.func14, Tryz.ntmps14
  go_wp2_with fail
  clear x0 x1 x2 x3 x4 xb
  generalize (w.alloc (Obj.cells #[.int .i64 k, .int .i64 a, .int .i64 b, .string nm, .slice A ks.length c] 24)).alloc (Obj.cells #[.int .i64 day] 3) = W2 at *
  refine (HCk.out _ W2 HB.out HY.out.lt (HY.out.cell 0)).mono ?_
  rintro e w3 ⟨E, rfl, hE, hb3⟩
  have HB3 := Lib.hid (below_then HB.out hb3)
  have HX3 := Lib.hid (HX.out.below hb3)
  have HE := Lib.hid hE
  clear hb3 hE HCk HB HX HY
  by_cases hE0 : E = 0
  case neg =>
    have t1 : (E != 0) = true := by rw [bne_iff_ne]; exact hE0
    have HR : Hid (E ≠ 0 ∧ ¬ (FeGood t0 ∧ DayIn day)) := ⟨hE0, fun h => hE0 (HE.out.2 ⟨h.1, fun d hd => by rw [List.mem_singleton] at hd; rw [hd]; exact h.2⟩)⟩
    clear hE0 HE
    go_wp2_with fail
    go_ret2
    exact ⟨0, E, rfl, HB3.out, fun _ => HR.out.1, fun h => absurd h HR.out.2⟩
  subst hE0
  have HGd := Lib.hid (HE.out.1 rfl)
  have hday := HGd.out.2 day (by simp)
  have HDay := Lib.hid hday
  have HOk := Lib.hid HGd.out.1.ok
  have hd1 : -4000000 ≤ day ∧ day ≤ 4000000 := hday
  have ew : IntKind.i64.wrap (day + 3000) = day + 3000 := intFits _ (by omega) (by omega)
  clear HE hday
  obtain ⟨x0, x1, x2, x3, x4⟩ := fecells HX3.out
  go_wp2_with fail
  refine (HOp.out HOk.out w3 HB3.out).mono ?_
  rintro e w4 ⟨T, rfl, hT, hb4⟩
  have HB4 := Lib.hid (below_then HB3.out hb4)
  have HS4 := Lib.hid (HSt.out HGd.out.1 HDay.out (min (day + 3000) 4000000) (by omega) (by omega) T _ w4 hT)
  have HMb : Hid (∀ x, x ≤ 4000000 → x ≤ day + 3000 → x ≤ min (day + 3000) 4000000) := fun x h1 h2 => by omega
  have HMc : Hid (min (day + 3000) 4000000 ≤ day + 3000) := by unfold Hid; omega
  clear hT hb4 HOp HSt HX3 x0 x1 x2 x3 x4
  go_wp2_with fail
  refine HS4.out.mono ?_
  rintro e w5 ⟨d, is, rfl, hy, hn, hb5⟩
  have HB5 := Lib.hid (below_then HB4.out hb5)
  have HY := Lib.hid hy
  have HN := Lib.hid hn
  clear hb5 HB4 HS4 hy hn
  cases is with
  | true =>
    have HR : Hid (day ≤ d ∧ d ≤ day + 3000 ∧ memF t0 d ∧ ∀ x, day ≤ x → x < d → ¬ memF t0 x) := by
      obtain ⟨q1, q2, q3, q4⟩ := HY.out rfl
      exact ⟨q1, Int.le_trans q2 HMc.out, q3, q4⟩
    clear HY HN
    go_wp2_with fail
    go_ret2
    exact ⟨d, 0, rfl, HB5.out, fun h => absurd ⟨HGd.out.1, HDay.out⟩ h, fun _ => .inl ⟨rfl, HR.out⟩⟩
  | false =>
    have HR : Hid (∀ x, day ≤ x → x ≤ day + 3000 → ¬ memF t0 x) := fun x h1 h2 h3 => (HN.out rfl).2 x h1 (HMb.out x (memF_day h3).2 h2) h3
    clear HY HN
    go_wp2_with fail
    go_ret2
    exact ⟨0, 6, rfl, HB5.out, fun h => absurd ⟨HGd.out.1, HDay.out⟩ h, fun _ => .inr ⟨rfl, rfl, HR.out⟩⟩
end Go.Proofs.YtabkggckafnlkaaGreatDoor

/- Contracts of tenth, solves and map3 of the laws. -/
namespace Go.Proofs.YtabkggckafnlkaaGreatDoor
open Go Go.RowKit
attribute [local go_sem] Oper.semAt_some
set_option linter.unusedVariables false
set_option linter.unusedSimpArgs false

/-- the set of the days divisible by 10 -/
def fe10 : FE := .node 4 10 0 ⟨#[]⟩ none 0 []
theorem fe10_ok : FeOk fe10 := .mk ⟨by omega, by omega, rfl, fun h => (by cases h), fun h => (by cases h), fun _ => rfl, fun _ => (by show (1 ≤ (10 : Int) ∧ (10 : Int) ≤ 100000) ∧ (0 ≤ (0 : Int) ∧ (0 : Int) ≤ 10 - 1); omega), fun h => (by cases h)⟩ (fun x hx => by cases hx)
theorem fe10_good : FeGood fe10 := ⟨fe10_ok, by simp [fe10, fsz, fszL], by simp [fe10, fht, fhtL], by simp [fe10, fdh, fdhL, isDp]⟩
theorem fe10_in (w : World) (B : Nat) : FeIn w B fe10 := .mk ⟨by decide, by decide⟩ ⟨by decide, by decide⟩ ⟨by decide, by decide⟩ (by decide) (by decide) (.inl rfl) (fun x hx => by cases hx)
theorem fe10_mem (d : Int) : memF fe10 d ↔ DayIn d ∧ d % 10 = 0 := by
  unfold fe10
  rw [memF]
  show DayIn d ∧ (d - 0) % 10 = 0 ↔ _
  rw [Int.sub_zero]
theorem tenth_any (w : World) : Calls Tryz.prog 7 #[] w fun e w' => e = .returned (.agg #[.int .i64 4, .int .i64 10, .int .i64 0, .string ⟨#[]⟩, .slice none 0 0]) ∧ Below w.heap.size w w' := by
  have hx := Box.new w 24 #[.int .i64 4, .int .i64 10, .int .i64 0, .string ⟨#[]⟩, .slice none 0 0]
  have HB := Lib.hid (below_alloc1 w (Obj.cells #[.int .i64 4, .int .i64 10, .int .i64 0, .string ⟨#[]⟩, .slice none 0 0] 24))
  obtain ⟨r0, r1, r2, r3, r4⟩ := fecells hx
  go_enter Tryz.func7, Tryz.ntmps7
  go_wp2_with fail
  refine bodyPost_ret (v := .agg #[.int .i64 4, .int .i64 10, .int .i64 0, .string ⟨#[]⟩, .slice none 0 0]) (by simp [results, Tryz.results7, go_sem, r0, r1, r2, r3, r4]) rfl ?_
  exact ⟨rfl, HB.out⟩
end Go.Proofs.YtabkggckafnlkaaGreatDoor
