/- FtPl, SvBf -/
import Derived.Test.YtabidjmmgnkhkaaGreatDoorGFpPlain
import Derived.Test.YtabidjmmgnkhkaaGreatDoorGSv16
/- The days of a feast do not depend on its places; the listed days, one after the other (plain). -/
namespace Go.Proofs.YtabidjmmgnkhkaaGreatDoor
open Go Go.RowKit
set_option linter.unusedVariables false
theorem memF_shp : ∀ (n : Nat) (t : FE), fsz t ≤ n → memF (shp t) = memF t := by
 intro n
 induction n with
 | zero => intro t h; cases t; rw [fsz] at h; omega
 | succ n ih =>
  intro t h
  obtain ⟨k, a, b, nm, A, c, ks⟩ := t
  rw [fsz] at h
  have key : ∀ l : List FE, fszL l ≤ n → memL (l.map shp) = memL l := by
   intro l
   induction l with
   | nil => intro _; rfl
   | cons x r ihl =>
    intro hx
    rw [fszL] at hx
    funext i d
    cases i with
    | zero => rw [List.map_cons, memL, memL, ih x (by omega)]
    | succ i => rw [List.map_cons, memL, memL, ihl (by omega)]
  funext d
  rw [shp_node, memF, memF, key ks (by omega)]
theorem memF_same {t u : FE} (h : shp t = shp u) (d : Int) : memF t d ↔ memF u d := by
 rw [← memF_shp _ t (Nat.le_refl _), ← memF_shp _ u (Nat.le_refl _), h]
theorem daysF_up (t : FE) (a : Int) (n : Nat) : (daysF t a n).Pairwise (· < ·) := by
 unfold daysF
 apply List.Pairwise.filter
 rw [List.pairwise_map]
 exact List.Pairwise.imp (fun h => by omega) List.pairwise_lt_range
theorem up_at {l : List Int} (h : l.Pairwise (· < ·)) {i j : Nat} (hij : i < j) (hj : j < l.length) : l.getD i 0 < l.getD j 0 := by
 have := List.pairwise_iff_getElem.1 h i j (by omega) hj hij
 simpa [List.getD_eq_getElem?_getD, List.getElem?_eq_getElem hj, List.getElem?_eq_getElem (show i < l.length by omega)] using this
theorem ftGet {l : List Int} {i : Nat} (h : i < l.length) : l.getD i 0 ∈ l := by
 rw [List.getD_eq_getElem?_getD, List.getElem?_eq_getElem h]
 exact List.getElem_mem h
theorem ftMem {l : List Int} {x : Int} (h : x ∈ l) : ∃ i, i < l.length ∧ l.getD i 0 = x := by
 obtain ⟨i, hi, he⟩ := List.getElem_of_mem h
 exact ⟨i, hi, by rw [List.getD_eq_getElem?_getD, List.getElem?_eq_getElem hi]; exact he⟩
def atF (l : List Int) (a : Int) (i : Nat) : Int := if i = 0 then a else l.getD (i - 1) 0 + 1
theorem atF_zero (l : List Int) (a : Int) : atF l a 0 = a := rfl
theorem atF_succ (l : List Int) (a : Int) (i : Nat) : atF l a (i + 1) = l.getD i 0 + 1 := rfl
theorem none_between {t : FE} {a : Int} {n : Nat} {i : Nat} (hi : i ≤ (daysF t a n).length) {x : Int} (h1 : atF (daysF t a n) a i ≤ x) (h2 : i < (daysF t a n).length → x < (daysF t a n).getD i 0) (h3 : x < a + n) : ¬ memF t x := by
 intro hm
 have hup := daysF_up t a n
 have hmem := daysF_mem t a n
 generalize daysF t a n = l at *
 have hax : a ≤ x := by
  cases i with
  | zero => exact h1
  | succ i =>
   rw [atF_succ] at h1
   have := ((hmem _).1 (ftGet (show i < l.length by omega))).1
   omega
 obtain ⟨j, hj, rfl⟩ := ftMem ((hmem x).2 ⟨hax, h3, hm⟩)
 by_cases hji : j < i
 ·obtain ⟨i', rfl⟩ : ∃ i', i = i' + 1 := ⟨i - 1, by omega⟩
  rw [atF_succ] at h1
  by_cases e : j = i'
  ·subst e; omega
  ·have := up_at hup (show j < i' by omega) (by omega)
   omega
 ·have h4 := h2 (by omega)
  by_cases e : j = i
  ·subst e; omega
  ·have := up_at hup (show i < j by omega) hj
   omega
theorem listed {t : FE} {a : Int} {n i : Nat} (hi : i < (daysF t a n).length) : a ≤ (daysF t a n).getD i 0 ∧ (daysF t a n).getD i 0 < a + n ∧ memF t ((daysF t a n).getD i 0) := (daysF_mem t a n _).1 (ftGet hi)
theorem atF_range {t : FE} {a : Int} {n i : Nat} (hi : i ≤ (daysF t a n).length) : a ≤ atF (daysF t a n) a i ∧ atF (daysF t a n) a i ≤ a + n := by
 cases i with
 | zero => rw [atF_zero]; omega
 | succ i => rw [atF_succ]; have := listed (t := t) (a := a) (n := n) (i := i) (by omega); omega
theorem atF_le {t : FE} {a : Int} {n i : Nat} (hi : i < (daysF t a n).length) : atF (daysF t a n) a i ≤ (daysF t a n).getD i 0 := by
 cases i with
 | zero => rw [atF_zero]; exact (listed hi).1
 | succ i => rw [atF_succ]; have := up_at (daysF_up t a n) (show i < i + 1 by omega) hi; omega
theorem ft_next {t u : FE} (hs : ∀ d, memF u d ↔ memF t d) {a : Int} {n i : Nat} (hn : n ≤ 3000) (hi : i < (daysF t a n).length) {d E : Int}
  (h : (E = 0 ∧ atF (daysF t a n) a i ≤ d ∧ d ≤ atF (daysF t a n) a i + 3000 ∧ memF u d ∧ ∀ x, atF (daysF t a n) a i ≤ x → x < d → ¬ memF u x) ∨ (E = 6 ∧ d = 0 ∧ ∀ x, atF (daysF t a n) a i ≤ x → x ≤ atF (daysF t a n) a i + 3000 → ¬ memF u x)) : E = 0 ∧ d = (daysF t a n).getD i 0 := by
 obtain ⟨l1, l2, l3⟩ := listed hi
 have hle := atF_le hi
 obtain ⟨r1, r2⟩ := atF_range (t := t) (a := a) (n := n) (Nat.le_of_lt hi)
 rcases h with ⟨h0, h1, h2, h3, h4⟩ | ⟨_, _, h4⟩
 ·refine ⟨h0, ?_⟩
  have n1 : ¬ d < (daysF t a n).getD i 0 := fun hlt => none_between (Nat.le_of_lt hi) h1 (fun _ => hlt) (by omega) ((hs d).1 h3)
  have n2 : ¬ (daysF t a n).getD i 0 < d := fun hlt => h4 _ hle hlt ((hs _).2 l3)
  omega
 ·exact absurd ((hs _).2 l3) (h4 _ hle (by omega))
theorem ft_self {t u : FE} (hs : ∀ d, memF u d ↔ memF t d) {D : Int} (hD : memF t D) {d E : Int} (h : (E = 0 ∧ d ≤ D ∧ memF u d ∧ ∀ x, d < x → x ≤ D → ¬ memF u x) ∨ (E = 6 ∧ d = 0 ∧ ∀ x, D - 3000 ≤ x → x ≤ D → ¬ memF u x)) : E = 0 ∧ d = D := by
 rcases h with ⟨h0, h1, h2, h3⟩ | ⟨_, _, h3⟩
 ·refine ⟨h0, ?_⟩
  have : ¬ d < D := fun hlt => h3 D hlt (Int.le_refl _) ((hs D).2 hD)
  omega
 ·exact absurd ((hs D).2 hD) (h3 D (by omega) (Int.le_refl _))
theorem ft_back {t u : FE} (hs : ∀ d, memF u d ↔ memF t d) {a : Int} {n i : Nat} (hn : n ≤ 3000) (hi : i + 1 < (daysF t a n).length) {d E : Int}
  (h : (E = 0 ∧ d ≤ (daysF t a n).getD (i + 1) 0 - 1 ∧ memF u d ∧ ∀ x, d < x → x ≤ (daysF t a n).getD (i + 1) 0 - 1 → ¬ memF u x) ∨ (E = 6 ∧ d = 0 ∧ ∀ x, (daysF t a n).getD (i + 1) 0 - 1 - 3000 ≤ x → x ≤ (daysF t a n).getD (i + 1) 0 - 1 → ¬ memF u x)) : E = 0 ∧ d = (daysF t a n).getD i 0 := by
 obtain ⟨l1, l2, l3⟩ := listed (t := t) (a := a) (n := n) (i := i) (by omega)
 obtain ⟨m1, m2, m3⟩ := listed hi
 have hle := atF_le hi
 rw [atF_succ] at hle
 rcases h with ⟨h0, h1, h2, h3⟩ | ⟨_, _, h3⟩
 ·refine ⟨h0, ?_⟩
  have n1 : ¬ d < (daysF t a n).getD i 0 := fun hlt => h3 _ hlt (by omega) ((hs _).2 l3)
  have n2 : ¬ (daysF t a n).getD i 0 < d := fun hlt => none_between (i := i + 1) (Nat.le_of_lt hi) (by rw [atF_succ]; omega) (fun _ => by omega) (by omega) ((hs d).1 h2)
  omega
 ·exact absurd ((hs _).2 l3) (h3 _ (by omega) (by omega))
theorem ft_last {t u : FE} (hs : ∀ d, memF u d ↔ memF t d) {a : Int} {n : Nat} {d : Int} (h1 : atF (daysF t a n) a (daysF t a n).length ≤ d) (h2 : memF u d) : a + n ≤ d := by
 refine Int.not_lt.1 fun hlt => ?_
 exact none_between (Nat.le_refl _) h1 (fun h => absurd h (Nat.lt_irrefl _)) hlt ((hs d).1 h2)
end Go.Proofs.YtabidjmmgnkhkaaGreatDoor
/- Contract of solve.Before. -/
namespace Go.Proofs.YtabidjmmgnkhkaaGreatDoor
open Go Go.RowKit
attribute [local go_sem] Oper.semAt_some
set_option linter.unusedVariables false
def BefQ (t : FE) (day : Int) (w : World) (e : Ending) (w' : World) : Prop := ∃ (d E : Int), e = .returned (.tuple #[.int .i64 d, .int .i64 E]) ∧ Below w.heap.size w w' ∧ (¬ (FeGood t ∧ DayIn day) → E ≠ 0) ∧ (FeGood t ∧ DayIn day → (E = 0 ∧ d ≤ day ∧ memF t d ∧ ∀ x, d < x → x ≤ day → ¬ memF t x) ∨ (E = 6 ∧ d = 0 ∧ ∀ x, day - 3000 ≤ x → x ≤ day → ¬ memF t x))
set_option maxHeartbeats 2000000 in
set_option maxRecDepth 100000 in
theorem before_any (t : FE) (day : Int) (w : World) (hv : Env w) (hin : FeIn w w.heap.size t) : Calls Tryz.prog 21 #[feV t, .int .i64 day] w (BefQ t day w) := by
 have HV := Lib.hid (fun W (h : Below w.heap.size w W) => hv.next h)
 have HIn := Lib.hid (fun W (h : Below w.heap.size w W) => hin.next h h.size)
 clear hv hin
 obtain ⟨t0, ht0⟩ : ∃ t0, t0 = t := ⟨_, rfl⟩
 obtain ⟨k, a, b, nm, A, c, ks⟩ := t
 have HCk := Lib.hid (fun g1 W (h : Below w.heap.size w W) (hg : g1 < W.heap.size) (hc : W.cell? ⟨g1, 0, none⟩ = some (.int .i64 day)) => check_any (.node k a b nm A c ks) [day] g1 0 1 W (HV.out W h) (HIn.out W h) hg (one_at day g1 W hc) (by simp))
 have HOp := Lib.hid (fun (hok : FeOk (.node k a b nm A c ks)) W (h : Below w.heap.size w W) => open_any W (HV.out W h) (.node k a b nm A c ks) (HIn.out W h) hok W (Below.refl _ _))
 have HSt := Lib.hid (fun (hg : FeGood (.node k a b nm A c ks)) (hd : DayIn day) (lo : Int) (n : Nat) (h1 : -4000000 ≤ lo) (hn : day = lo + n - 1) (hn1 : 1 ≤ n) (hn2 : n ≤ 3001) (T : ST) (p : Nat → Prop) W (h : StAt W p T (.node k a b nm A c ks)) => set_any h hg.ok W lo day n (Below.refl _ _) hn (by have := hg.ht; omega) (by have := hg.ht; have := hd.2; omega) hn1 (by have := hg.ht; omega))
 rw [← ht0] at HCk HOp HSt ⊢
 have HT0 := Lib.hid ht0
 have hfe : feV t0 = .agg #[.int .i64 k, .int .i64 a, .int .i64 b, .string nm, .slice A ks.length c] := by rw [ht0]; rfl
 rw [hfe] at HCk HOp ⊢
 have HB := Lib.hid (below_alloc2 w (Obj.cells #[.int .i64 k, .int .i64 a, .int .i64 b, .string nm, .slice A ks.length c] 57) (Obj.cells #[.int .i64 day] 3))
 have HX := Lib.hid ((Box.new w 57 #[.int .i64 k, .int .i64 a, .int .i64 b, .string nm, .slice A ks.length c]).alloc (Obj.cells #[.int .i64 day] 3))
 have hY := Box.new (w.alloc (Obj.cells #[.int .i64 k, .int .i64 a, .int .i64 b, .string nm, .slice A ks.length c] 57)) 3 #[.int .i64 day]
 rw [World.size_alloc] at hY
 have HY := Lib.hid hY
 have xb := Box.new w 57 #[.int .i64 k, .int .i64 a, .int .i64 b, .string nm, .slice A ks.length c]
 obtain ⟨x0, x1, x2, x3, x4⟩ := fecells xb
 unfold ChkQ at HCk
 unfold OpenQ at HOp
 unfold SetQ at HSt
 clear ht0 hfe hY
 go_enter Tryz.func21, Tryz.ntmps21
 go_wp2_with fail
 clear x0 x1 x2 x3 x4 xb
 generalize (w.alloc (Obj.cells #[.int .i64 k, .int .i64 a, .int .i64 b, .string nm, .slice A ks.length c] 57)).alloc (Obj.cells #[.int .i64 day] 3) = W2 at *
 refine (HCk.out _ W2 HB.out HY.out.lt (HY.out.cell 0)).mono ?_
 rintro e w3 ⟨E, rfl, hE, hb3⟩
 have HB3 := Lib.hid (below_then HB.out hb3)
 have HX3 := Lib.hid (HX.out.below hb3)
 have HE := Lib.hid hE
 clear hb3 hE HCk HB HX HY
 by_cases hE0 : E = 0
 case neg =>
  have t1 : (E != 0) = true := by rw [bne_iff_ne]; exact hE0
  have HR : Hid (E ≠ 0 ∧ ¬ (FeGood t0 ∧ DayIn day)) := ⟨hE0, fun h => hE0 (HE.out.2 ⟨h.1, fun d hd => by rw [List.mem_singleton] at hd; rw [hd]; exact h.2⟩)⟩
  clear hE0 HE
  go_wp2_with fail
  go_ret2
  exact ⟨0, E, rfl, HB3.out, fun _ => HR.out.1, fun h => absurd h HR.out.2⟩
 subst hE0
 have HGd := Lib.hid (HE.out.1 rfl)
 have hday := HGd.out.2 day (by simp)
 have HDay := Lib.hid hday
 have HOk := Lib.hid HGd.out.1.ok
 have hd1 : -4000000 ≤ day ∧ day ≤ 4000000 := hday
 have ew : IntKind.i64.wrap (day - 3000) = day - 3000 := intFits _ (by omega) (by omega)
 clear HE hday
 obtain ⟨x0, x1, x2, x3, x4⟩ := fecells HX3.out
 go_upto_region 5 with fail
 obtain ⟨lo, hlo⟩ : ∃ lo, lo = max (day - 3000) (-4000000) := ⟨_, rfl⟩
 rw [← hlo]
 have hlo1 : -4000000 ≤ lo ∧ lo ≤ day ∧ day - 3000 ≤ lo := by omega
 have HLo : Hid (∀ x, day - 3000 ≤ x → -4000000 ≤ x → lo ≤ x) := fun x h1 h2 => by omega
 obtain ⟨n, hn⟩ : ∃ n : Nat, n = (day - lo + 1).toNat := ⟨_, rfl⟩
 have hn1 : 1 ≤ n ∧ n ≤ 3001 ∧ (n : Int) ≤ day - lo + 1 ∧ day - lo + 1 ≤ n := by omega
 clear hlo hn ew
 go_wp2_with fail
 refine (HOp.out HOk.out w3 HB3.out).mono ?_
 rintro e w4 ⟨T, rfl, hT, hb4⟩
 have HB4 := Lib.hid (below_then HB3.out hb4)
 have HS4 := Lib.hid (HSt.out HGd.out.1 HDay.out lo n (by omega) (by omega) (by omega) (by omega) T _ w4 hT)
 clear hT hb4 HOp HSt HX3 x0 x1 x2 x3 x4
 go_wp2_with fail
 refine HS4.out.mono ?_
 rintro e w5 ⟨gs, rfl, hbs, _, hb5⟩
 have HB5 := Lib.hid (below_then HB4.out hb5)
 obtain ⟨ls, hL, hLc, hLm⟩ := hbs.list
 have HL := Lib.hid (And.intro hLc hLm)
 have ew1 : IntKind.i64.wrap ((n : Int) - 1) = (n : Int) - 1 := intFits _ (by omega) (by omega)
 clear hb5 HB4 HS4 hLc hLm hbs
 go_wp2_with fail
 clear ew1
 go_loopw [4, 5, 9] (fun _ _ i wr => ∃ v : Int, i = .int .i64 v ∧ -1 ≤ v ∧ v ≤ (n : Int) - 1 ∧ wr = w5 ∧ Hid (∀ x, lo + v < x → x ≤ day → ¬ memF t0 x)) (fun _ _ i _ => (intOf i + 1).toNat)
 case atStart => exact ⟨(n : Int) - 1, rfl, by omega, by omega, rfl, fun x h1 h2 => by omega⟩
 case round =>
  obtain ⟨v, rfl, hv1, hv2, rfl, hno⟩ := hrel
  by_cases hv0 : 0 ≤ v
  case neg =>
   have t1 : decide (0 ≤ v) = false := decide_eq_false hv0
   have t1' : decide (v < 0) = true := decide_eq_true (by omega)
   have HR : Hid (∀ x, day - 3000 ≤ x → x ≤ day → ¬ memF t0 x) := fun x h1 h2 h3 => hno.out x (by have := HLo.out x h1 (memF_day h3).1; omega) h2 h3
   clear hv0 hno
   go_wp2_with fail
   go_ret2
   exact ⟨0, 6, rfl, HB5.out, fun h => absurd ⟨HGd.out.1, HDay.out⟩ h, fun _ => .inr ⟨rfl, rfl, HR.out⟩⟩
  obtain ⟨j, rfl⟩ : ∃ j : Nat, v = (j : Int) := ⟨v.toNat, by omega⟩
  have hjn : j < n := by omega
  have hjn' : (j : Int) < (n : Int) := by omega
  obtain ⟨x, hx⟩ : ∃ x, ls[j]? = some x := ⟨_, List.getElem?_eq_getElem (by omega)⟩
  have hcx := HL.out.1 j x hx
  have hxm : x = true ↔ memF t0 (lo + (j : Int)) := by
   have := HL.out.2 j hjn
   rwa [List.getD_eq_getElem?_getD, hx] at this
  have HXm := Lib.hid hxm
  have ew3 : IntKind.i64.wrap (lo + (j : Int)) = lo + (j : Int) := intFits _ (by omega) (by omega)
  have ew4 : IntKind.i64.wrap ((j : Int) - 1) = (j : Int) - 1 := intFits _ (by omega) (by omega)
  clear hx hxm
  cases x with
  | false =>
   have HR : Hid (∀ x, lo + ((j : Int) - 1) < x → x ≤ day → ¬ memF t0 x) := fun x h1 h2 h3 => by
    by_cases e : x = lo + (j : Int)
    ·rw [e] at h3; have := HXm.out.2 h3; cases this
    ·exact hno.out x (by omega) h2 h3
   clear HXm hno
   go_wp2_with fail
   go_roundw
   case rel => exact ⟨(j : Int) - 1, rfl, by omega, by omega, by first | rfl | trivial, HR⟩
   case measure => simp [intOf] <;> omega
  | true =>
   have HR : Hid (lo + (j : Int) ≤ day ∧ memF t0 (lo + (j : Int)) ∧ ∀ x, lo + (j : Int) < x → x ≤ day → ¬ memF t0 x) := ⟨by omega, HXm.out.1 rfl, hno.out⟩
   clear HXm hno
   go_wp2_with fail
   go_ret2
   exact ⟨lo + (j : Int), 0, rfl, HB5.out, fun h => absurd ⟨HGd.out.1, HDay.out⟩ h, fun _ => .inl ⟨rfl, HR.out⟩⟩
end Go.Proofs.YtabidjmmgnkhkaaGreatDoor
