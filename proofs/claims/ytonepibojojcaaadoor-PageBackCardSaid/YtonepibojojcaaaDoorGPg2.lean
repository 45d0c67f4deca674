/- Pg2, Pg1, Pg3, Pg4, Pg5, Pg6, Pg7, Pg8, Pg9 -/
import Derived.Lib.OthersKept
import Derived.Deep.OwnRows
import Derived.Laws.EntriesVeiled
import Derived.Test.YtonepibojojcaaaDoorGPgMem
import Derived.Test.YtonepibojojcaaaDoorGShelf1
import Derived.Test.YtonepibojojcaaaDoorGLaid
import Derived.Test.YtonepibojojcaaaDoorGMoon1
/- strings.Repeat, TrimRight, utf8.RuneCountInString at lists; page.write, over any texts of columns. -/
namespace Go.Proofs.YtonepibojojcaaaDoor
open Go Go.RowKit
set_option linter.unusedVariables false

theorem below_iter (w : World) (s : ByteArray) (pos : Nat) : Below w.heap.size w (w.iter s pos) := (Below.refl _ _).alloc (Nat.le_refl _) _
theorem repeat_str (b : UInt8) (n : Nat) : Lib.repeatL (str [b]).data.toList n = List.replicate n b := by
  rw [str_data]
  have := Lib.repeatL_replicate b 1 n
  rw [Nat.mul_one] at this
  exact this
theorem repeat_any (b : UInt8) (n : Nat) (h : n ≤ 1000000) (w : World) : Calls Tryd.prog 18 #[.string (str [b]), .int .i64 (n : Int)] w fun e w' => e = .returned (.string (str (List.replicate n b))) ∧ Below w.heap.size w w' := by
  have h := strings_Repeat (str [b]) n w (by omega) (by rw [str_size]; simp only [List.length_cons, List.length_nil]; omega)
  rw [repeat_str] at h
  exact h
theorem repeat_two (w : World) : Calls Tryd.prog 18 #[.string ⟨#[32]⟩, .int .i64 2] w fun e w' => e = .returned (.string (str (List.replicate 2 32))) ∧ Below w.heap.size w w' := repeat_any 32 2 (by omega) w
theorem repeat_sp (n : Nat) (h : n ≤ 1000000) (w : World) : Calls Tryd.prog 18 #[.string ⟨#[32]⟩, .int .i64 (n : Int)] w fun e w' => e = .returned (.string (str (List.replicate n 32))) ∧ Below w.heap.size w w' := repeat_any 32 n h w
theorem rcount_any (s : ByteArray) (h : s.size ≤ 1000000) (w : World) : Calls Tryd.prog 8 #[.string s] w fun e w' => e = .returned (.int .i64 ((rcT (tx s) : Nat) : Int)) ∧ Below w.heap.size w w' :=
  (utf8_RuneCountInString s w (by omega)).mono fun e w' ⟨he, pos, hw⟩ => ⟨by rw [he]; have := rcT_str (tx s); rw [show (⟨(tx s).toArray⟩ : ByteArray) = s from by simp] at this; rw [this], by rw [hw]; exact below_iter _ _ _⟩
theorem trimr_any (l : List UInt8) (h : l.length ≤ 1000000) (w : World) : Calls Tryd.prog 30 #[.string (str l), .string ⟨#[32]⟩] w fun e w' => e = .returned (.string (str (trR l))) ∧ w' = w := by
  have h := strings_TrimRight_one (str l) 32 (by decide) w (by rw [str_size]; omega)
  rw [str_data] at h
  exact h
/-- what is left of a line -/
def restL (w : List Nat) (t : Nat → List UInt8) (g : List Nat) (k : Nat) : List UInt8 := if k = 0 then lnT w t g else if k < g.length then 32 :: 32 :: lnT w t (g.drop k) else []
theorem lnT_drop (w : List Nat) (t : Nat → List UInt8) (g : List Nat) (k : Nat) (h : k < g.length) :
    lnT w t (g.drop k) = t (g.getD k 0) ++ (if k + 1 < g.length then List.replicate (w.getD (g.getD k 0) 0 - rcT (t (g.getD k 0))) 32 ++ 32 :: 32 :: lnT w t (g.drop (k + 1)) else []) := by
  have h1 : g.drop k = g.getD k 0 :: g.drop (k + 1) := by
    rw [List.getD_eq_getElem?_getD, List.getElem?_eq_getElem h, Option.getD_some]
    exact List.drop_eq_getElem_cons h
  rw [h1]
  by_cases h2 : k + 1 < g.length
  · rw [if_pos h2]
    have h3 : g.drop (k + 1) = g.getD (k + 1) 0 :: g.drop (k + 1 + 1) := by
      rw [List.getD_eq_getElem?_getD, List.getElem?_eq_getElem h2, Option.getD_some]
      exact List.drop_eq_getElem_cons h2
    rw [h3]
    rfl
  · rw [if_neg h2, List.drop_eq_nil_of_le (by omega), List.append_nil]
    rfl
/-- one text more -/
theorem restL_step (w : List Nat) (t : Nat → List UInt8) (g : List Nat) (k : Nat) (h : k < g.length) :
    restL w t g k = (if 0 < k then [32, 32] else []) ++ (t (g.getD k 0) ++ ((if k + 1 < g.length then List.replicate (w.getD (g.getD k 0) 0 - rcT (t (g.getD k 0))) 32 else []) ++ restL w t g (k + 1))) := by
  have h1 := lnT_drop w t g k h
  unfold restL
  rw [if_neg (show ¬ k + 1 = 0 by omega)]
  by_cases h0 : k = 0
  · subst h0
    rw [if_pos rfl, if_neg (by omega), List.nil_append]
    rw [List.drop_zero] at h1
    rw [h1]
    by_cases h2 : 0 + 1 < g.length
    · rw [if_pos h2, if_pos h2, if_pos h2]
    · rw [if_neg h2, if_neg h2, if_neg h2]; simp
  · rw [if_neg h0, if_pos h, if_pos (show 0 < k by omega), h1]
    by_cases h2 : k + 1 < g.length
    · rw [if_pos h2, if_pos h2, if_pos h2]; rfl
    · rw [if_neg h2, if_neg h2, if_neg h2]; simp
theorem restL_end (w : List Nat) (t : Nat → List UInt8) (g : List Nat) (h : 0 < g.length) : restL w t g g.length = [] := by
  unfold restL; rw [if_neg (by omega), if_neg (by omega)]
def natI (l : List Nat) : List Int := l.map Int.ofNat
theorem natI_len (l : List Nat) : (natI l).length = l.length := by simp [natI]
theorem natI_get (l : List Nat) (i : Nat) (h : i < l.length) : (natI l).getD i 0 = ((l.getD i 0 : Nat) : Int) := by simp [natI, List.getD, List.getElem?_eq_getElem h]

set_option maxHeartbeats 4000000 in
set_option maxRecDepth 100000 in
/-- a line of a group -/
theorem pwrite_any (f : Nat) (lb : Array Value) (Ag Aw : Option Addr) (cg cw : Nat) (g ws : List Nat) (t : Nat → List UInt8) (w : World) (hg : Row w w.heap.size Ag (ints (natI g))) (hw : Row w w.heap.size Aw (ints (natI ws)))
    (h0 : 0 < g.length) (hgl : g.length ≤ 1000) (hwl : ws.length ≤ 1000) (hm : ∀ i ∈ g, i < ws.length ∧ (t i).length ≤ 1000 ∧ rcT (t i) ≤ ws.getD i 0 ∧ ws.getD i 0 ≤ 1000) (hL : (lnT ws t g).length ≤ 1000000)
    (eg : ∀ args w, (callFunc f args).run Tryd.prog w = .ok (.enter f args) w)
    (hf : ∀ W i, Below w.heap.size w W → i ∈ g → Calls Tryd.prog f (#[.int .i64 (i : Int)] ++ lb) W fun e w' => e = .returned (.string (str (t i))) ∧ Below W.heap.size W w') :
    Calls Tryd.prog 15 #[.slice Ag g.length cg, .slice Aw ws.length cw, .func (.func f) #[] lb] w fun e w' => e = .returned (.string (str (trR (lnT ws t g) ++ [10]))) ∧ Below w.heap.size w w' := by
  obtain ⟨bg, og, rfl, hbg, hcg⟩ := hg.open_ (ints_ne _ (by rw [natI_len]; omega))
  have HCG := Lib.hid hcg
  have HW := Lib.hid hw
  have HM := Lib.hid hm
  have HF := Lib.hid hf
  have HL := Lib.hid hL
  obtain ⟨LN, hLN⟩ : ∃ LN, LN = lnT ws t g := ⟨_, rfl⟩
  have HLN := Lib.hid hLN
  rw [← hLN] at HL ⊢
  have HTR := Lib.hid (fun W => trimr_any LN HL.out W)
  have HR2 := Lib.hid (fun W => repeat_two W)
  clear hcg hw hm hf hL hg hLN
  go_enter Tryd.func15, Tryd.ntmps15
  go_wp2_with fail
  go_loopw [7, 8, 9, 10, 13] (fun s7 _ _ _ i wr => ∃ (k : Nat) (s : List UInt8), k ≤ g.length ∧ i = .int .i64 (k : Int) ∧ s7 = .string (str s) ∧ Hid (LN = s ++ restL ws t g k) ∧ Hid (Below w.heap.size w wr)) (fun _ _ _ _ i _ => g.length - (intOf i).toNat)
  case atStart => exact ⟨0, [], by omega, rfl, rfl, by unfold Hid restL; rw [HLN.out, if_pos rfl]; rfl, Below.refl _ _⟩
  case round =>
    obtain ⟨k, s, hk, rfl, rfl, hs, hbr⟩ := hrel
    by_cases hlt : k < g.length
    case neg =>
      have hke : k = g.length := by omega
      have HE : Hid (s = LN) := by unfold Hid; rw [hs.out, hke, restL_end ws t g h0, List.append_nil]
      rw [HE.out]
      have hsz : (str (trR LN)).size ≤ 1000000 := by
        rw [str_size]
        obtain ⟨q, hq⟩ := trR_eq LN
        have := congrArg List.length hq
        rw [List.length_append] at this
        have := HL.out
        omega
      have e2 : Hid (str (trR LN) ++ ⟨#[10]⟩ = str (trR LN ++ [10])) := str_append _ [10]
      have hz1 : (⟨#[10]⟩ : ByteArray).size = 1 := rfl
      generalize str (trR LN) = TL at *
      subst hke
      clear hs hlt
      go_wp2_with (go_at_call 30; refine (HTR.out _).mono ?_; rintro e w' ⟨rfl, rfl⟩)
      go_ret
      exact ⟨by rw [e2.out]; rfl, hbr.out⟩
    obtain ⟨gk, hgk⟩ : ∃ gk, gk = g.getD k 0 := ⟨_, rfl⟩
    have hmem : gk ∈ g := by rw [hgk, List.getD_eq_getElem?_getD, List.getElem?_eq_getElem hlt]; exact List.getElem_mem hlt
    obtain ⟨m1, m2, m3, m4⟩ := HM.out gk hmem
    have hcell : wr.cell? ⟨bg, og + k, none⟩ = some (.int .i64 (gk : Int)) := by
      have h := HCG.out k _ (ints_get (natI g) k (by rw [natI_len]; exact hlt))
      rw [natI_get g k hlt, ← hgk] at h
      exact (hbr.out.cell (p := ⟨bg, og + k, none⟩) hbg).trans h
    obtain ⟨bw, ow, hAw, hbw, hcw⟩ := HW.out.open_ (ints_ne _ (by rw [natI_len]; omega))
    have hcw2 : ∀ W, Below w.heap.size w W → W.cell? ⟨bw, ow + gk, none⟩ = some (.int .i64 ((ws.getD gk 0 : Nat) : Int)) := fun W hb => by
      have h := hcw gk _ (ints_get (natI ws) gk (by rw [natI_len]; exact m1))
      rw [natI_get ws gk m1] at h
      exact (hb.cell (p := ⟨bw, ow + gk, none⟩) hbw).trans h
    have HCW := Lib.hid hcw2
    subst hAw
    have hst := restL_step ws t g k hlt
    rw [← hgk] at hst
    have HS := Lib.hid (hs.out.trans (by rw [hst]))
    have hsl : s.length ≤ 1000000 := by
      have h := congrArg List.length hs.out
      rw [List.length_append] at h
      have := HL.out
      omega
    have t1 : decide ((k : Int) < (g.length : Int)) = true := decide_eq_true (by omega)
    have z0 : (str s).size ≤ 1000000 := by rw [str_size]; exact hsl
    have z1 : (str (t gk)).size ≤ 1000 := by rw [str_size]; exact m2
    have z2 : (str (List.replicate 2 32)).size = 2 := rfl
    have HA : Hid (∀ a b : List UInt8, str a ++ str b = str (a ++ b)) := fun a b => str_append a b
    have HFk := Lib.hid (fun W (h : Below w.heap.size w W) => HF.out W gk h hmem)
    have HRC := Lib.hid (fun W => rcount_any (str (t gk)) (by omega) W)
    rw [show tx (str (t gk)) = t gk from str_data _] at HRC
    obtain ⟨n, hn⟩ : ∃ n, n = ws.getD gk 0 - rcT (t gk) := ⟨_, rfl⟩
    have HRP := Lib.hid (fun W => repeat_sp n (by omega) W)
    have z3 : (str (List.replicate n 32)).size ≤ 1000 := by rw [str_size, List.length_replicate]; omega
    have HSt : Hid (LN = ((s ++ (if 0 < k then List.replicate 2 32 else [])) ++ t gk) ++ (if k + 1 < g.length then List.replicate n 32 else []) ++ restL ws t g (k + 1)) := by
      unfold Hid
      rw [HS.out, hn]
      simp only [List.append_assoc, List.replicate]
    have en : IntKind.i64.wrap (((ws.getD gk 0 : Nat) : Int) - ((rcT (t gk) : Nat) : Int)) = ((n : Nat) : Int) := by rw [intFits _ (by omega) (by omega)]; omega
    clear hcw hcw2 hst HS hs hgk hn m2 m3 m4
    generalize ws.getD gk 0 = wk at *
    generalize rcT (t gk) = rk at *
    generalize List.replicate n (32 : UInt8) = pad at *
    generalize t gk = tk at *
    generalize hPQ : str s = P at *
    generalize hTQ : str tk = T at *
    generalize hDQ : str (List.replicate 2 32) = D at *
    generalize hEQ : str pad = E at *
    have HQ : Hid (str s = P ∧ str tk = T ∧ str (List.replicate 2 32) = D ∧ str pad = E) := ⟨hPQ, hTQ, hDQ, hEQ⟩
    clear hPQ hTQ hDQ hEQ
    have y1 : (P ++ D : ByteArray).size ≤ 1000002 := by rw [ByteArray.size_append]; omega
    have y2 : (P ++ D ++ T : ByteArray).size ≤ 1001002 := by rw [ByteArray.size_append]; omega
    have y3 : (P ++ T : ByteArray).size ≤ 1001000 := by rw [ByteArray.size_append]; omega
    by_cases h1 : 0 < k
    · rw [if_pos h1] at HSt
      have t2 : decide ((k : Int) > 0) = true := decide_eq_true (by omega)
      go_upto_region 9 with (first
        | (go_at_call 18; refine (HR2.out _).mono ?_; rintro e w1 ⟨rfl, hb1⟩; have HB1 := Lib.hid (below_then hbr.out hb1); clear hb1 HR2)
        | (go_at_fn f; refine (HFk.out _ HB1.out).mono ?_; rintro e w2 ⟨rfl, hb2⟩; have HB2 := Lib.hid (below_then HB1.out hb2); clear hb2 HFk))
      obtain ⟨s2, hs2⟩ : ∃ s2, s2 = s ++ List.replicate 2 32 := ⟨_, rfl⟩
      rw [← hs2] at HSt
      have HX : Hid (P ++ D ++ T = str (s2 ++ tk)) := by unfold Hid; rw [← HQ.out.1, ← HQ.out.2.2.1, ← HQ.out.2.1, hs2, str_append, str_append]
      have zx : (P ++ D ++ T : ByteArray).size ≤ 1001002 := y2
      generalize P ++ D ++ T = X at *
      clear hs2
      have hc : ∀ W, Below w2.heap.size w2 W → W.cell? ⟨bw, ow + gk, none⟩ = some (.int .i64 (wk : Int)) := fun W h => HCW.out W (below_then HB2.out h)
      by_cases h2 : k + 1 < g.length
      · rw [if_pos h2] at HSt
        have t3 : decide ((k : Int) + 1 < (g.length : Int)) = true := decide_eq_true (by omega)
        have HE : Hid (X ++ E = str (s2 ++ tk ++ pad)) := by unfold Hid; rw [HX.out, ← HQ.out.2.2.2, str_append]
        go_upto_region 10 with fail
        refine flow_begin (tellOf [(6, det (.int .i64 (rk : Int))), (8, det (.string E))]) (by kernel_rfl) (by kernel_rfl) ?_
        repeat (first | (refine flow_val (v := ?_) (by rfl) (by rfl) (fun w hb => ?_) ?_; rotate_left; (· ((go_simp) <;> ((repeat' apply And.intro) <;> with_reducible rfl))); try simp only [Act.put, List.setIfInBounds_toArray, List.set_cons_zero, List.set_cons_succ, Nat.reduceAdd]) | (refine flow_skip (by rfl) (by rfl) ?_; try simp only [Act.put, List.setIfInBounds_toArray, List.set_cons_zero, List.set_cons_succ, Nat.reduceAdd]))
        refine flow_call (f := ?_) (args := ?_) [] (by kernel_rfl) (by rfl) (by rfl) (fun w hb => ?_) (fun w hb hu => ?_) ?_; rotate_left 2; (· ((go_simp) <;> ((repeat' apply And.intro) <;> with_reducible rfl)))
        · exact HRC.out w
        try simp only [Act.put, List.setIfInBounds_toArray, List.set_cons_zero, List.set_cons_succ, Nat.reduceAdd]
        repeat (first | (refine flow_val (v := ?_) (by rfl) (by rfl) (fun w hb => ?_) ?_; rotate_left; (· ((go_simp) <;> ((repeat' apply And.intro) <;> with_reducible rfl))); try simp only [Act.put, List.setIfInBounds_toArray, List.set_cons_zero, List.set_cons_succ, Nat.reduceAdd]) | (refine flow_skip (by rfl) (by rfl) ?_; try simp only [Act.put, List.setIfInBounds_toArray, List.set_cons_zero, List.set_cons_succ, Nat.reduceAdd]))
        refine flow_call (f := ?_) (args := ?_) [] (by kernel_rfl) (by rfl) (by rfl) (fun w hb => ?_) (fun w hb hu => ?_) ?_; rotate_left 2; (· ((go_simp) <;> ((repeat' apply And.intro) <;> with_reducible rfl)))
        · exact HRP.out w
        try simp only [Act.put, List.setIfInBounds_toArray, List.set_cons_zero, List.set_cons_succ, Nat.reduceAdd]
        repeat (first | (refine flow_val (v := ?_) (by rfl) (by rfl) (fun w hb => ?_) ?_; rotate_left; (· ((go_simp) <;> ((repeat' apply And.intro) <;> with_reducible rfl))); try simp only [Act.put, List.setIfInBounds_toArray, List.set_cons_zero, List.set_cons_succ, Nat.reduceAdd]) | (refine flow_val (v := ?_) (by rfl) (by rfl) (fun w hb => ?_) ?_; rotate_left; (· (go_simp; (refine (if_neg ?_).trans ?_); (· omega); (· with_reducible rfl))); try simp only [Act.put, List.setIfInBounds_toArray, List.set_cons_zero, List.set_cons_succ, Nat.reduceAdd]) | (refine flow_skip (by rfl) (by rfl) ?_; try simp only [Act.put, List.setIfInBounds_toArray, List.set_cons_zero, List.set_cons_succ, Nat.reduceAdd]))
        refine flow_nil fun w3 hb3 _ => ?_
        have HB3 := Lib.hid (below_then HB2.out hb3)
        clear hb3 hc hcell y1 y2 y3 z0 z1 z2 z3 zx
        rw [HE.out]
        go_wp2_with fail
        go_roundw
        case rel => exact ⟨k + 1, s2 ++ tk ++ pad, by omega, by go_num, rfl, HSt, HB3⟩
        case measure => simp [intOf]; omega
      · rw [if_neg h2, List.append_nil] at HSt
        have t3 : decide ((k : Int) + 1 < (g.length : Int)) = false := decide_eq_false (by omega)
        clear hc hcell y1 y2 y3 z0 z1 z2 z3 zx
        rw [HX.out]
        go_wp2_with fail
        go_roundw
        case rel => exact ⟨k + 1, s2 ++ tk, by omega, by go_num, rfl, HSt, HB2⟩
        case measure => simp [intOf]; omega
    · rw [if_neg h1, List.append_nil] at HSt
      have t2 : decide ((k : Int) > 0) = false := decide_eq_false (by omega)
      have HB1 := hbr
      go_upto_region 9 with (go_at_fn f; refine (HFk.out _ HB1.out).mono ?_; rintro e w2 ⟨rfl, hb2⟩; have HB2 := Lib.hid (below_then HB1.out hb2); clear hb2 HFk)
      obtain ⟨s2, hs2⟩ : ∃ s2, s2 = s := ⟨_, rfl⟩
      have HX : Hid (P ++ T = str (s2 ++ tk)) := by unfold Hid; rw [← HQ.out.1, ← HQ.out.2.1, hs2, str_append]
      rw [← hs2] at HSt
      have zx : (P ++ T : ByteArray).size ≤ 1001000 := y3
      generalize P ++ T = X at *
      clear hs2
      have hc : ∀ W, Below w2.heap.size w2 W → W.cell? ⟨bw, ow + gk, none⟩ = some (.int .i64 (wk : Int)) := fun W h => HCW.out W (below_then HB2.out h)
      by_cases h2 : k + 1 < g.length
      · rw [if_pos h2] at HSt
        have t3 : decide ((k : Int) + 1 < (g.length : Int)) = true := decide_eq_true (by omega)
        have HE : Hid (X ++ E = str (s2 ++ tk ++ pad)) := by unfold Hid; rw [HX.out, ← HQ.out.2.2.2, str_append]
        go_upto_region 10 with fail
        refine flow_begin (tellOf [(6, det (.int .i64 (rk : Int))), (8, det (.string E))]) (by kernel_rfl) (by kernel_rfl) ?_
        repeat (first | (refine flow_val (v := ?_) (by rfl) (by rfl) (fun w hb => ?_) ?_; rotate_left; (· ((go_simp) <;> ((repeat' apply And.intro) <;> with_reducible rfl))); try simp only [Act.put, List.setIfInBounds_toArray, List.set_cons_zero, List.set_cons_succ, Nat.reduceAdd]) | (refine flow_skip (by rfl) (by rfl) ?_; try simp only [Act.put, List.setIfInBounds_toArray, List.set_cons_zero, List.set_cons_succ, Nat.reduceAdd]))
        refine flow_call (f := ?_) (args := ?_) [] (by kernel_rfl) (by rfl) (by rfl) (fun w hb => ?_) (fun w hb hu => ?_) ?_; rotate_left 2; (· ((go_simp) <;> ((repeat' apply And.intro) <;> with_reducible rfl)))
        · exact HRC.out w
        try simp only [Act.put, List.setIfInBounds_toArray, List.set_cons_zero, List.set_cons_succ, Nat.reduceAdd]
        repeat (first | (refine flow_val (v := ?_) (by rfl) (by rfl) (fun w hb => ?_) ?_; rotate_left; (· ((go_simp) <;> ((repeat' apply And.intro) <;> with_reducible rfl))); try simp only [Act.put, List.setIfInBounds_toArray, List.set_cons_zero, List.set_cons_succ, Nat.reduceAdd]) | (refine flow_skip (by rfl) (by rfl) ?_; try simp only [Act.put, List.setIfInBounds_toArray, List.set_cons_zero, List.set_cons_succ, Nat.reduceAdd]))
        refine flow_call (f := ?_) (args := ?_) [] (by kernel_rfl) (by rfl) (by rfl) (fun w hb => ?_) (fun w hb hu => ?_) ?_; rotate_left 2; (· ((go_simp) <;> ((repeat' apply And.intro) <;> with_reducible rfl)))
        · exact HRP.out w
        try simp only [Act.put, List.setIfInBounds_toArray, List.set_cons_zero, List.set_cons_succ, Nat.reduceAdd]
        repeat (first | (refine flow_val (v := ?_) (by rfl) (by rfl) (fun w hb => ?_) ?_; rotate_left; (· ((go_simp) <;> ((repeat' apply And.intro) <;> with_reducible rfl))); try simp only [Act.put, List.setIfInBounds_toArray, List.set_cons_zero, List.set_cons_succ, Nat.reduceAdd]) | (refine flow_val (v := ?_) (by rfl) (by rfl) (fun w hb => ?_) ?_; rotate_left; (· (go_simp; (refine (if_neg ?_).trans ?_); (· omega); (· with_reducible rfl))); try simp only [Act.put, List.setIfInBounds_toArray, List.set_cons_zero, List.set_cons_succ, Nat.reduceAdd]) | (refine flow_skip (by rfl) (by rfl) ?_; try simp only [Act.put, List.setIfInBounds_toArray, List.set_cons_zero, List.set_cons_succ, Nat.reduceAdd]))
        refine flow_nil fun w3 hb3 _ => ?_
        have HB3 := Lib.hid (below_then HB2.out hb3)
        clear hb3 hc hcell y1 y2 y3 z0 z1 z2 z3 zx
        rw [HE.out]
        go_wp2_with fail
        go_roundw
        case rel => exact ⟨k + 1, s2 ++ tk ++ pad, by omega, by go_num, rfl, HSt, HB3⟩
        case measure => simp [intOf]; omega
      · rw [if_neg h2, List.append_nil] at HSt
        have t3 : decide ((k : Int) + 1 < (g.length : Int)) = false := decide_eq_false (by omega)
        clear hc hcell y1 y2 y3 z0 z1 z2 z3 zx
        rw [HX.out]
        go_wp2_with fail
        go_roundw
        case rel => exact ⟨k + 1, s2 ++ tk, by omega, by go_num, rfl, HSt, HB2⟩
        case measure => simp [intOf]; omega
end Go.Proofs.YtonepibojojcaaaDoor

/- page.checkText. -/
namespace Go.Proofs.YtonepibojojcaaaDoor
open Go Go.Shelf Go.RowKit Go.Lib
set_option linter.unusedVariables false

/-- a control character -/
def ctlR (c : Nat) : Bool := decide (c < 32) || decide (c = 127)
/-- a text of a table that is valid -/
structure TxOk (s : ByteArray) : Prop where
  sz : s.size ≤ 120
  utf : validD (tx s) = true
  pre : hasPrefix (tx s) [32] = false
  suf : hasSuffix (tx s) [32] = false
  ctl : idxFunc ctlR true s < 0
set_option maxHeartbeats 1000000 in
set_option maxRecDepth 100000 in
theorem ctl_any (x : Nat) (hx : x ≤ 1114111) (W : World) : Calls Tryd.prog 44 #[.int .i32 (x : Int)] W fun e w' => e = .returned (.bool (ctlR x)) ∧ ∃ q, w' = W.drewN q := by
  unfold ctlR
  by_cases h1 : x < 32
  · have t1 : decide ((x : Int) < 32) = true := decide_eq_true (by omega)
    rw [decide_eq_true h1]
    go_enter Tryd.func44, Tryd.ntmps44
    go_wp2_with fail
    go_ret
    exact ⟨rfl, 0, rfl⟩
  · have t1 : decide ((x : Int) < 32) = false := decide_eq_false (by omega)
    rw [decide_eq_false h1]
    by_cases h2 : x = 127
    · subst h2
      have t2 : (((127 : Nat) : Int) == 127) = true := rfl
      go_enter Tryd.func44, Tryd.ntmps44
      go_wp2_with fail
      go_ret
      exact ⟨rfl, 0, rfl⟩
    · rw [decide_eq_false h2]
      have t2 : ((x : Int) == 127) = false := beq_eq_false_iff_ne.2 (by omega)
      go_enter Tryd.func44, Tryd.ntmps44
      go_wp2_with fail
      go_ret
      exact ⟨rfl, 0, rfl⟩
theorem ctl_pred (w : World) : PredAtRunes Tryd.prog 44 #[] ctlR w := fun W x hx _ => ctl_any x hx W
theorem valid_any (s : ByteArray) (w : World) (hs : s.size ≤ 1000000) (hu : U8 w) : Calls Tryd.prog 42 #[.string s] w fun e w' => e = .returned (.bool (validD (tx s))) ∧ Below w.heap.size w w' :=
  Any.utf8_ValidString lays196 s w (by omega) hu
theorem ctlF_any (s : ByteArray) (w : World) : Calls Tryd.prog 43 #[.string s, .func (.func 44) #[] #[]] w fun e w' => e = .returned (.bool (decide (0 ≤ idxFunc ctlR true s))) ∧ Below w.heap.size w w' :=
  strings_ContainsFunc_runes 44 #[] (enters_of Tryd.func44 (by kernel_rfl) rfl) ctlR s w (ctl_pred w)

set_option maxHeartbeats 2000000 in
set_option maxRecDepth 100000 in
theorem checkText_any (s : ByteArray) (w : World) (hs : s.size ≤ maxLen) (hu : U8 w) : Calls Tryd.prog 28 #[.string s] w (Errs (TxOk s) w) := by
  unfold maxLen at hs
  obtain ⟨Q, hQ⟩ : ∃ Q : Prop, Q = TxOk s := ⟨_, rfl⟩
  have QI : Hid (Q ↔ TxOk s) := by unfold Hid; rw [hQ]
  rw [← hQ]
  clear hQ
  by_cases h1 : 120 < s.size
  · have t1 : decide ((s.size : Int) > 120) = true := decide_eq_true (by omega)
    have HN : Hid (¬ Q) := fun h => by have := (QI.out.1 h).sz; omega
    go_enter Tryd.func28, Tryd.ntmps28
    go_wp2_with fail
    go_ret
    exact Errs.no (by decide) HN.out (Below.refl _ _)
  have t1 : decide ((s.size : Int) > 120) = false := decide_eq_false (by omega)
  have HS : Hid (s.size ≤ 120) := by unfold Hid; omega
  have HV := Lib.hid (valid_any s w (by omega) hu)
  have HP := Lib.hid (fun W => strings_HasPrefix s ⟨#[32]⟩ W)
  have HX := Lib.hid (fun W => strings_HasSuffix s ⟨#[32]⟩ W (by omega))
  have HC := Lib.hid (fun W => ctlF_any s W)
  rw [show (⟨#[32]⟩ : ByteArray).data.toList = [32] from rfl] at HP HX
  clear hu
  have QV : Hid (Q → validD (tx s) = true) := fun h => (QI.out.1 h).utf
  have QP : Hid (Q → hasPrefix (tx s) [32] = false) := fun h => (QI.out.1 h).pre
  have QX : Hid (Q → hasSuffix (tx s) [32] = false) := fun h => (QI.out.1 h).suf
  have QC : Hid (Q → decide (0 ≤ idxFunc ctlR true s) = false) := fun h => decide_eq_false (by have := (QI.out.1 h).ctl; omega)
  have QY : Hid (validD (tx s) = true → hasPrefix (tx s) [32] = false → hasSuffix (tx s) [32] = false → decide (0 ≤ idxFunc ctlR true s) = false → Q) := fun a b c d => QI.out.2 ⟨HS.out, a, b, c, by have := of_decide_eq_false d; omega⟩
  clear QI HS
  generalize decide (0 ≤ idxFunc ctlR true s) = bc at *
  generalize hasSuffix (tx s) [32] = bx at *
  generalize hasPrefix (tx s) [32] = bp at *
  generalize validD (tx s) = bv at *
  cases bv
  case false =>
    have HN : Hid (¬ Q) := fun h => by have := QV.out h; cases this
    go_enter Tryd.func28, Tryd.ntmps28
    go_wp2_with (go_at_call 42; refine HV.out.mono ?_; rintro e w1 ⟨rfl, hb1⟩)
    go_ret
    exact Errs.no (by decide) HN.out hb1
  cases bp
  case true =>
    have HN : Hid (¬ Q) := fun h => by have := QP.out h; cases this
    go_enter Tryd.func28, Tryd.ntmps28
    go_wp2_with (first
      | (go_at_call 42; refine HV.out.mono ?_; rintro e w1 ⟨rfl, hb1⟩)
      | (go_at_call 32; refine (HP.out _).mono ?_; rintro e w2 ⟨rfl, rfl⟩))
    go_ret
    exact Errs.no (by decide) HN.out hb1
  cases bx
  case true =>
    have HN : Hid (¬ Q) := fun h => by have := QX.out h; cases this
    go_enter Tryd.func28, Tryd.ntmps28
    go_wp2_with (first
      | (go_at_call 42; refine HV.out.mono ?_; rintro e w1 ⟨rfl, hb1⟩)
      | (go_at_call 32; refine (HP.out _).mono ?_; rintro e w2 ⟨rfl, rfl⟩)
      | (go_at_call 9; refine (HX.out _).mono ?_; rintro e w3 ⟨rfl, rfl⟩))
    go_ret
    exact Errs.no (by decide) HN.out hb1
  cases bc
  · have HY : Hid Q := QY.out rfl rfl rfl rfl
    go_enter Tryd.func28, Tryd.ntmps28
    go_wp2_with (first
      | (go_at_call 42; refine HV.out.mono ?_; rintro e w1 ⟨rfl, hb1⟩)
      | (go_at_call 32; refine (HP.out _).mono ?_; rintro e w2 ⟨rfl, rfl⟩)
      | (go_at_call 9; refine (HX.out _).mono ?_; rintro e w3 ⟨rfl, rfl⟩)
      | (go_at_call 43; refine (HC.out _).mono ?_; rintro e w4 ⟨rfl, hb4⟩))
    go_ret
    exact Errs.ok HY.out (below_then hb1 hb4)
  · have HN : Hid (¬ Q) := fun h => by have := QC.out h; cases this
    go_enter Tryd.func28, Tryd.ntmps28
    go_wp2_with (first
      | (go_at_call 42; refine HV.out.mono ?_; rintro e w1 ⟨rfl, hb1⟩)
      | (go_at_call 32; refine (HP.out _).mono ?_; rintro e w2 ⟨rfl, rfl⟩)
      | (go_at_call 9; refine (HX.out _).mono ?_; rintro e w3 ⟨rfl, rfl⟩)
      | (go_at_call 43; refine (HC.out _).mono ?_; rintro e w4 ⟨rfl, hb4⟩))
    go_ret
    exact Errs.no (by decide) HN.out (below_then hb1 hb4)
end Go.Proofs.YtonepibojojcaaaDoor

/- page.Check. -/
namespace Go.Proofs.YtonepibojojcaaaDoor
open Go Go.Shelf Go.RowKit Go.Lib
set_option linter.unusedVariables false

/-- a table that is valid -/
structure TbOk (t : Tb) : Prop where
  n1 : 1 ≤ t.h.l.length ∧ t.h.l.length ≤ 12
  n2 : t.rs.length ≤ 400
  eq : ∀ q, q < t.rs.length → (t.rs.getD q sr0).l.length = t.h.l.length
  tx : ∀ q, q < t.rs.length + 1 → ∀ k, k < ((t.h :: t.rs).getD q sr0).l.length → TxOk (((t.h :: t.rs).getD q sr0).l.getD k ⟨#[]⟩)
  hd : ∀ q, q < t.h.l.length → (t.h.l.getD q ⟨#[]⟩).size ≠ 0 ∧ containsS (t.h.l.take q) (t.h.l.getD q ⟨#[]⟩) = false
set_option maxHeartbeats 4000000 in
set_option maxRecDepth 100000 in
theorem pcheck_any (t : Tb) (w : World) (hT : TbIn w w.heap.size t) (hu : U8 w) : Calls Tryd.prog 11 #[t.val] w (Errs (TbOk t) w) := by
  obtain ⟨Q, hQ⟩ : ∃ Q : Prop, Q = TbOk t := ⟨_, rfl⟩
  rw [← hQ]
  obtain ⟨⟨Ah, ch, lh⟩, A, c, rs⟩ := t
  have Q1 : Hid (Q → 1 ≤ lh.length ∧ lh.length ≤ 12) := fun h => by rw [hQ] at h; exact h.n1
  have Q2 : Hid (Q → rs.length ≤ 400) := fun h => by rw [hQ] at h; exact h.n2
  have Q3 : Hid (Q → ∀ q, q < rs.length → (rs.getD q sr0).l.length = lh.length) := fun h => by rw [hQ] at h; exact h.eq
  have Q4 : Hid (Q → ∀ q, q < rs.length + 1 → ∀ k, k < (((⟨Ah, ch, lh⟩ : SR) :: rs).getD q sr0).l.length → TxOk ((((⟨Ah, ch, lh⟩ : SR) :: rs).getD q sr0).l.getD k ⟨#[]⟩)) := fun h => by rw [hQ] at h; exact h.tx
  have Q5 : Hid (Q → ∀ q, q < lh.length → (lh.getD q ⟨#[]⟩).size ≠ 0 ∧ containsS (lh.take q) (lh.getD q ⟨#[]⟩) = false) := fun h => by rw [hQ] at h; exact h.hd
  have QY : Hid ((1 ≤ lh.length ∧ lh.length ≤ 12) → rs.length ≤ 400 → (∀ q, q < rs.length → (rs.getD q sr0).l.length = lh.length) → (∀ q, q < rs.length + 1 → ∀ k, k < (((⟨Ah, ch, lh⟩ : SR) :: rs).getD q sr0).l.length → TxOk ((((⟨Ah, ch, lh⟩ : SR) :: rs).getD q sr0).l.getD k ⟨#[]⟩)) → (∀ q, q < lh.length → (lh.getD q ⟨#[]⟩).size ≠ 0 ∧ containsS (lh.take q) (lh.getD q ⟨#[]⟩) = false) → Q) := fun a b c d e => by rw [hQ]; exact ⟨a, b, c, d, e⟩
  clear hQ
  have HX := Lib.hid (Box.new w 25 #[.slice Ah lh.length ch, .slice A rs.length c])
  have HB := Lib.hid (below_alloc1 w (Obj.cells #[.slice Ah lh.length ch, .slice A rs.length c] 25))
  have hT' := hT.next HB.out HB.out.size
  have HH : Hid (SRIn (w.alloc (Obj.cells #[.slice Ah lh.length ch, .slice A rs.length c] 25)) (w.alloc (Obj.cells #[.slice Ah lh.length ch, .slice A rs.length c] 25)).heap.size ⟨Ah, ch, lh⟩) := hT'.h
  have HRw : Hid (Row (w.alloc (Obj.cells #[.slice Ah lh.length ch, .slice A rs.length c] 25)) (w.alloc (Obj.cells #[.slice Ah lh.length ch, .slice A rs.length c] 25)).heap.size A (rs.map srV)) := hT'.row
  have HRs : Hid (∀ r ∈ rs, SRIn (w.alloc (Obj.cells #[.slice Ah lh.length ch, .slice A rs.length c] 25)) (w.alloc (Obj.cells #[.slice Ah lh.length ch, .slice A rs.length c] 25)).heap.size r) := hT'.rs
  have HU := Lib.hid (hu.next HB.out)
  have l1 : lh.length ≤ ch := hT.h.ln
  have l2 : ch ≤ maxLen := hT.h.cm
  have l3 : rs.length ≤ c := hT.ln
  have l4 : c ≤ maxLen := hT.cm
  unfold maxLen at l2 l4
  clear hT hu hT'
  show Calls Tryd.prog 11 #[.agg #[.slice Ah lh.length ch, .slice A rs.length c]] w _
  go_enter Tryd.func11, Tryd.ntmps11
  go_upto_region 1 with fail
  generalize w.alloc (Obj.cells #[.slice Ah lh.length ch, .slice A rs.length c] 25) = W0 at *
  obtain ⟨g, hg⟩ : ∃ g, g = w.heap.size := ⟨_, rfl⟩
  rw [← hg] at HX ⊢
  have x0 : W0.cell? ⟨g, 0, none⟩ = some (.slice Ah lh.length ch) := HX.out.cell 0
  have x1 : W0.cell? ⟨g, 1, none⟩ = some (.slice A rs.length c) := HX.out.cell 1
  have hgl : g < W0.heap.size := HX.out.lt
  by_cases h1 : lh.length < 1
  · have t1 : decide ((lh.length : Int) < 1) = true := decide_eq_true (by omega)
    have HNo : Hid (¬ Q) := fun h => by have := Q1.out h; omega
    clear h1 hg
    go_wp2_with fail
    go_ret
    exact Errs.no (by decide) HNo.out HB.out
  have t1 : decide ((lh.length : Int) < 1) = false := decide_eq_false (by omega)
  by_cases h2 : 12 < lh.length
  · have t2 : decide ((lh.length : Int) > 12) = true := decide_eq_true (by omega)
    have HNo : Hid (¬ Q) := fun h => by have := Q1.out h; omega
    clear h1 h2 hg
    go_wp2_with fail
    go_ret
    exact Errs.no (by decide) HNo.out HB.out
  have t2 : decide ((lh.length : Int) > 12) = false := decide_eq_false (by omega)
  by_cases h3 : 400 < rs.length
  · have t3 : decide ((rs.length : Int) > 400) = true := decide_eq_true (by omega)
    have HNo : Hid (¬ Q) := fun h => by have := Q2.out h; omega
    clear h1 h2 h3 hg
    go_wp2_with fail
    go_ret
    exact Errs.no (by decide) HNo.out HB.out
  have t3 : decide ((rs.length : Int) > 400) = false := decide_eq_false (by omega)
  have hn1 : 1 ≤ lh.length := by omega
  have hn2 : lh.length ≤ 12 := by omega
  have hn3 : rs.length ≤ 400 := by omega
  clear h1 h2 h3 hg Q1 Q2
  go_wp2_with fail
  go_loop [4, 31] (fun _ i => ∃ j : Nat, j ≤ rs.length ∧ i = .int .i64 (j : Int) ∧ Hid (∀ q, q < j → (rs.getD q sr0).l.length = lh.length)) (fun _ i => rs.length - (intOf i).toNat)
  case atStart => exact ⟨0, by omega, rfl, fun q h => absurd h (Nat.not_lt_zero q)⟩
  case round =>
    obtain ⟨j, hj, rfl, hall⟩ := hrel
    by_cases hlt : j < rs.length
    · obtain ⟨b, o, hA, hbl, hcs⟩ := HRw.out.open_ (srV_ne _ (by omega))
      have c0 := hcs j _ (srV_get rs j hlt)
      clear HRw
      subst hA
      have t4 : decide ((j : Int) < (rs.length : Int)) = true := decide_eq_true (by omega)
      have HR := Lib.hid (HRs.out _ (getD_sr hlt))
      obtain ⟨r, hr⟩ : ∃ r, r = rs.getD j sr0 := ⟨_, rfl⟩
      rw [← hr] at c0 HR
      unfold srV at c0
      have rl1 := HR.out.ln
      have rl2 := HR.out.cm
      unfold maxLen at rl2
      have HRj := Lib.hid hr
      clear hcs hr HR
      by_cases h5 : r.l.length = lh.length
      · have t5 : ((r.l.length : Int) != (lh.length : Int)) = false := by rw [bne_eq_false_iff_eq]; omega
        have HAll : Hid (∀ q, q < j + 1 → (rs.getD q sr0).l.length = lh.length) := fun q hq => by
          by_cases e : q = j
          · subst e; rw [← HRj.out]; exact h5
          · exact hall.out q (by omega)
        clear h5 hall
        go_wp2_with fail
        go_round
        case rel => exact ⟨j + 1, by omega, by go_num, HAll⟩
        case measure => simp [intOf]; omega
      · have t5 : ((r.l.length : Int) != (lh.length : Int)) = true := by rw [bne_iff_ne]; omega
        have HNo : Hid (¬ Q) := fun h => h5 (by have := Q3.out h j hlt; rw [← HRj.out] at this; exact this)
        clear h5 hall
        go_wp2_with fail
        go_ret
        exact Errs.no (by decide) HNo.out HB.out
    have t4 : decide ((j : Int) < (rs.length : Int)) = false := decide_eq_false (by omega)
    have HEq : Hid (∀ q, q < rs.length → (rs.getD q sr0).l.length = lh.length) := fun q hq => hall.out q (by omega)
    have hj2 : j = rs.length := by omega
    clear hall hj
    obtain ⟨A', c', w3, hap, hrow, hbel⟩ := append_table (w := W0.alloc (.cells #[srV ⟨Ah, ch, lh⟩] 22)) (g := W0.heap.size) (h := ⟨Ah, ch, lh⟩) (c := c) 23 (World.ownsRow_lit (base := W0.heap.size) (e := 22) (size := 1) W0 #[srV ⟨Ah, ch, lh⟩] 1 (Nat.le_refl _) (by unfold maxLen; omega) rfl) (HRw.out.alloc (.cells #[srV ⟨Ah, ch, lh⟩] 22)) (by omega)
    have hbel2 : Below W0.heap.size W0 w3 := (below_alloc1 W0 _).trans hbel
    have HR3 := Lib.hid hrow
    have HB3 := Lib.hid hbel2
    obtain ⟨all, hall⟩ : ∃ all : List SR, all = ⟨Ah, ch, lh⟩ :: rs := ⟨_, rfl⟩
    obtain ⟨N, hN⟩ : ∃ N, N = rs.length + 1 := ⟨_, rfl⟩
    have hNl : N = all.length := by rw [hN, hall]; rfl
    have HAll : Hid (∀ q, q < N → SRIn w3 w3.heap.size (all.getD q sr0)) := fun q hq => by
      have hm := getD_sr (l := all) (i := q) (by omega)
      generalize all.getD q sr0 = r at *
      rw [hall] at hm
      rcases List.mem_cons.1 hm with e | hm
      · rw [e]; exact HH.out.next hbel2 hbel2.size
      · exact (HRs.out r hm).next hbel2 hbel2.size
    have HNl := Lib.hid hNl
    have hN1 : N ≤ 401 := by omega
    rw [← hall] at HR3 Q4 QY
    rw [← hN] at hap Q4 QY
    have HU3 := Lib.hid (HU.out.next hbel2)
    have hgw : g < w3.heap.size := Nat.lt_of_lt_of_le hgl hbel2.size
    have x0' : w3.cell? ⟨g, 0, none⟩ = some (.slice Ah lh.length ch) := (hbel2.cell (p := ⟨g, 0, none⟩) hgl).trans x0
    clear hrow hbel hbel2 hN hall hNl HRs HRw HU
    unfold srV at hap
    go_wp2_with (at_builtin; refine wpList_append_any rfl (.tmp 44) (.tmp 46) 23 23 rfl _ _ _ rfl rfl hap ?_)
    clear hap x1 x0
    go_loopw [6, 8, 9, 49, 53, 54, 55] (fun _ _ _ i _ _ _ wr => ∃ q : Nat, q ≤ N ∧ i = .int .i64 (q : Int) ∧ Hid (∀ p, p < q → ∀ k, k < (all.getD p sr0).l.length → TxOk ((all.getD p sr0).l.getD k ⟨#[]⟩)) ∧ Hid (Below w3.heap.size w3 wr)) (fun _ _ _ i _ _ _ _ => N - (intOf i).toNat)
    case atStart => exact ⟨0, by omega, rfl, fun q h => absurd h (Nat.not_lt_zero q), Below.refl _ _⟩
    case round =>
      obtain ⟨q, hq, rfl, hall, hbr⟩ := hrel
      rename World => w4
      by_cases hlt : q < N
      · obtain ⟨bA, oA, hA, hbl, hcs⟩ := HR3.out.open_ (srV_ne _ (by rw [← HNl.out]; omega))
        have c0 := hcs q _ (srV_get all q (by rw [← HNl.out]; exact hlt))
        have c1 := (hbr.out.cell (p := ⟨bA, oA + q, none⟩) hbl).trans c0
        clear hcs c0
        subst hA
        have t5 : decide ((q : Int) < (N : Int)) = true := decide_eq_true (by omega)
        have hr3 := HAll.out q hlt
        obtain ⟨⟨Ar, cr, lr⟩, hr⟩ : ∃ r, r = all.getD q sr0 := ⟨_, rfl⟩
        rw [← hr] at c1 hr3
        replace c1 : w4.cell? ⟨bA, oA + q, none⟩ = some (.slice Ar lr.length cr) := c1
        have HRj : Hid (all.getD q sr0 = ⟨Ar, cr, lr⟩) := hr.symm
        have r1 : lr.length ≤ cr := hr3.ln
        have r2 : cr ≤ maxLen := hr3.cm
        have HRr : Hid (Row w4 w3.heap.size Ar (sVs lr)) := hr3.row.below hbr.out
        have HSz : Hid (∀ s ∈ lr, s.size ≤ maxLen) := hr3.sz
        have HU4 := Lib.hid (HU3.out.next hbr.out)
        have HW4 : Hid (w3.heap.size ≤ w4.heap.size) := hbr.out.size
        unfold maxLen at r2
        clear hr hr3
        go_wp2_with fail
        go_loopw [8, 9, 55] (fun _ _ i wr => ∃ k : Nat, k ≤ lr.length ∧ i = .int .i64 (k : Int) ∧ Hid (∀ m, m < k → TxOk (lr.getD m ⟨#[]⟩)) ∧ Hid (Below w4.heap.size w4 wr)) (fun _ _ i _ => lr.length - (intOf i).toNat)
        case atStart => exact ⟨0, by omega, rfl, fun q h => absurd h (Nat.not_lt_zero q), Below.refl _ _⟩
        case round =>
          obtain ⟨k, hk, rfl, hin, hbi⟩ := hrel
          rename World => w5
          by_cases hkl : k < lr.length
          · obtain ⟨b2, o2, hA2, hb2l, hc2⟩ := HRr.out.open_ (sVs_ne _ (by omega))
            have d0 := (hbi.out.cell (p := ⟨b2, o2 + k, none⟩) (Nat.lt_of_lt_of_le hb2l HW4.out)).trans (hc2 k _ (sVs_get lr k hkl))
            clear hc2 HRr
            subst hA2
            have t6 : decide ((k : Int) < (lr.length : Int)) = true := decide_eq_true (by omega)
            have HC := Lib.hid (checkText_any (lr.getD k ⟨#[]⟩) w5 (HSz.out _ (getD_bs hkl)) (HU4.out.next hbi.out))
            obtain ⟨s, hs⟩ : ∃ s, s = lr.getD k ⟨#[]⟩ := ⟨_, rfl⟩
            rw [← hs] at d0 HC
            have HSk := Lib.hid hs
            clear hs c1
            go_upto_region 16 with (go_at_call 28; refine HC.out.mono ?_; rintro e w6 ⟨E, rfl, hE, hb6⟩)
            have HB6 := Lib.hid (below_then hbi.out hb6)
            clear hb6 d0
            by_cases hE0 : E = 0
            · have HTx : Hid (TxOk s) := hE.1 hE0
              subst hE0
              clear hE
              have HIn : Hid (∀ m, m < k + 1 → TxOk (lr.getD m ⟨#[]⟩)) := fun m hm => by
                by_cases e : m = k
                · subst e; rw [← HSk.out]; exact HTx.out
                · exact hin.out m (by omega)
              clear hin
              go_wp2_with fail
              go_roundw
              case rel => exact ⟨k + 1, by omega, by go_num, HIn, HB6⟩
              case measure => simp [intOf]; omega
            · have t7 : (E != 0) = true := by rw [bne_iff_ne]; exact hE0
              have HNo : Hid (¬ Q) := fun h => by
                have h2 := Q4.out h q hlt k (by rw [HRj.out]; exact hkl)
                rw [HRj.out] at h2
                exact hE0 (hE.2 (by rw [HSk.out]; exact h2))
              have HBf := Lib.hid (below_then HB.out (below_then (below_then (HB3.out) hbr.out) HB6.out))
              have HE0 := Lib.hid hE0
              clear hE hin hE0
              go_wp2_with fail
              go_ret
              exact Errs.no HE0.out HNo.out HBf.out
          · have t6 : decide ((k : Int) < (lr.length : Int)) = false := decide_eq_false (by omega)
            have HNext : Hid (∀ p, p < q + 1 → ∀ k, k < (all.getD p sr0).l.length → TxOk ((all.getD p sr0).l.getD k ⟨#[]⟩)) := fun p hp m hm => by
              by_cases e : p = q
              · subst e
                rw [HRj.out] at hm ⊢
                exact hin.out m (Nat.lt_of_lt_of_le hm (by show lr.length ≤ k; omega))
              · exact hall.out p (by omega) m hm
            have HB5 := Lib.hid (below_then hbr.out hbi.out)
            clear hall hin hbi c1
            go_wp2_with fail
            go_roundw
            case rel => exact ⟨q + 1, by omega, by go_num, HNext, HB5⟩
            case measure => simp [intOf]; omega
      · have t5 : decide ((q : Int) < (N : Int)) = false := decide_eq_false (by omega)
        have HTx : Hid (∀ p, p < N → ∀ k, k < (all.getD p sr0).l.length → TxOk ((all.getD p sr0).l.getD k ⟨#[]⟩)) := fun p hp => hall.out p (by omega)
        have x0 : w4.cell? ⟨g, 0, none⟩ = some (.slice Ah lh.length ch) := (hbr.out.cell (p := ⟨g, 0, none⟩) hgw).trans x0'
        have HB4 := Lib.hid (below_then HB.out (below_then HB3.out hbr.out))
        obtain ⟨bH, oH, hA, hbl, hcs⟩ := HH.out.row.open_ (sVs_ne _ (by show 0 < lh.length; omega))
        have HCs : Hid (∀ j v, (sVs lh)[j]? = some v → w4.cell? ⟨bH, oH + j, none⟩ = some v) := fun j v hv => ((below_then HB3.out hbr.out).cell (p := ⟨bH, oH + j, none⟩) hbl).trans (hcs j v hv)
        have hA : Ah = some ⟨bH, oH, none⟩ := hA
        have HAh := Lib.hid hA
        clear hcs hall hbr x0' HH HAll HR3 hA
        have HYq := Lib.hid (fun h5 => QY.out ⟨hn1, hn2⟩ hn3 HEq.out HTx.out h5)
        clear QY HTx HEq Q4 Q3
        rw [HAh.out] at x0
        go_wp2_with fail
        go_loop [10, 11, 69] (fun _ _ i => ∃ k : Nat, k ≤ lh.length ∧ i = .int .i64 (k : Int) ∧ Hid (∀ q, q < k → (lh.getD q ⟨#[]⟩).size ≠ 0 ∧ containsS (lh.take q) (lh.getD q ⟨#[]⟩) = false)) (fun _ _ i => lh.length - (intOf i).toNat)
        case atStart => exact ⟨0, by omega, rfl, fun q h => absurd h (Nat.not_lt_zero q)⟩
        case round =>
          obtain ⟨k, hk, rfl, hin⟩ := hrel
          clear t5
          by_cases hkl : k < lh.length
          · have d0 := HCs.out k _ (sVs_get lh k hkl)
            have HSc := Lib.hid (fun W (h : ∀ j, j < lh.length → W.cell? ⟨bH, oH + j, none⟩ = some (.string (lh.getD j ByteArray.empty))) => slices_Contains_string bH oH k ch lh (lh.getD k ⟨#[]⟩) W (by omega) (by omega) h)
            have HCc : Hid (∀ j, j < lh.length → w4.cell? ⟨bH, oH + j, none⟩ = some (.string (lh.getD j ByteArray.empty))) := fun j hj => HCs.out j _ (sVs_get lh j hj)
            have t6 : decide ((k : Int) < (lh.length : Int)) = true := decide_eq_true (by omega)
            obtain ⟨s, hs⟩ : ∃ s, s = lh.getD k ⟨#[]⟩ := ⟨_, rfl⟩
            rw [← hs] at d0 HSc
            have HSk := Lib.hid hs
            clear hs
            obtain ⟨bc, hbc⟩ : ∃ bc, bc = containsS (lh.take k) s := ⟨_, rfl⟩
            rw [← hbc] at HSc
            have HBc := Lib.hid hbc
            clear hbc
            by_cases hz : s.size = 0
            · have hsz : s = ⟨#[]⟩ := by
                have h : s.data.size = 0 := hz
                cases s with
                | mk d => simp only [Array.size_eq_zero_iff] at h; subst h; rfl
              have HNo : Hid (¬ Q) := fun h => (Q5.out h k hkl).1 (by rw [← HSk.out]; exact hz)
              subst hsz
              clear hz hin
              go_wp2_with fail
              go_ret
              exact Errs.no (by decide) HNo.out HB4.out
            · have t7 : s.toList.isEmpty = false := by
                rw [toList_data]
                cases h : s.data.toList with
                | nil => exact absurd (by rw [← Array.length_toList, h]; rfl : s.data.size = 0) hz
                | cons a l => rfl
              have HZ := Lib.hid hz
              clear hz
              cases bc
              · have HIn : Hid (∀ q, q < k + 1 → (lh.getD q ⟨#[]⟩).size ≠ 0 ∧ containsS (lh.take q) (lh.getD q ⟨#[]⟩) = false) := fun m hm => by
                  by_cases e : m = k
                  · subst e; rw [← HSk.out]; exact ⟨HZ.out, HBc.out.symm⟩
                  · exact hin.out m (by omega)
                clear hin
                go_wp2_with (go_at_call 29; refine (HSc.out _ HCc.out).mono ?_; rintro e w6 ⟨rfl, hw6⟩; rw [hw6]; clear hw6)
                go_round
                case rel => exact ⟨k + 1, by omega, by go_num, HIn⟩
                case measure => simp [intOf]; omega
              · have HNo : Hid (¬ Q) := fun h => by have h2 := (Q5.out h k hkl).2; rw [← HSk.out, ← HBc.out] at h2; cases h2
                clear hin
                go_wp2_with (go_at_call 29; refine (HSc.out _ HCc.out).mono ?_; rintro e w6 ⟨rfl, hw6⟩; rw [hw6]; clear hw6)
                go_ret
                exact Errs.no (by decide) HNo.out HB4.out
          · have t6 : decide ((k : Int) < (lh.length : Int)) = false := decide_eq_false (by omega)
            have HY : Hid Q := HYq.out fun q hq => hin.out q (by omega)
            clear hin
            go_wp2_with fail
            go_ret
            exact Errs.ok HY.out HB4.out
end Go.Proofs.YtonepibojojcaaaDoor

/- page.widths. -/
namespace Go.Proofs.YtonepibojojcaaaDoor
open Go Go.Shelf Go.RowKit Go.Lib
set_option linter.unusedVariables false

/-- the greatest width of a column -/
def mxC (all : List (List (List UInt8))) (i : Nat) : Nat := (all.map fun r => rcT (colT r i)).foldl max 0
/-- the widths when q rows, and k texts of the next one, have been seen -/
def wdS (cols : Nat) (all : List (List (List UInt8))) (q k : Nat) : List Nat := (List.range cols).map fun i => mxC (if i < k then all.take (q + 1) else all.take q) i
theorem wdS_len (cols : Nat) (all : List (List (List UInt8))) (q k : Nat) : (wdS cols all q k).length = cols := by simp [wdS]
theorem wdS_get (cols : Nat) (all : List (List (List UInt8))) (q k i : Nat) (h : i < cols) : (wdS cols all q k).getD i 0 = mxC (if i < k then all.take (q + 1) else all.take q) i := by
  simp [wdS, List.getD, h]
theorem mxC_snoc (all : List (List (List UInt8))) (q i : Nat) (h : q < all.length) : mxC (all.take (q + 1)) i = max (mxC (all.take q) i) (rcT (colT (all.getD q []) i)) := by
  unfold mxC
  rw [List.take_add_one, List.getElem?_eq_getElem h, List.map_append, List.foldl_append]
  rw [List.getD_eq_getElem?_getD, List.getElem?_eq_getElem h]
  rfl
theorem wdS_set (cols : Nat) (all : List (List (List UInt8))) (q k : Nat) (h : q < all.length) (hk : k < cols) :
    (wdS cols all q k).set k (max ((wdS cols all q k).getD k 0) (rcT (colT (all.getD q []) k))) = wdS cols all q (k + 1) := by
  refine List.ext_getElem? fun j => ?_
  by_cases hj : j < cols
  · have e1 : (wdS cols all q (k + 1))[j]? = some ((wdS cols all q (k + 1)).getD j 0) := by rw [List.getD_eq_getElem?_getD, List.getElem?_eq_getElem (by rw [wdS_len]; exact hj)]; rfl
    have e2 : (wdS cols all q k)[j]? = some ((wdS cols all q k).getD j 0) := by rw [List.getD_eq_getElem?_getD, List.getElem?_eq_getElem (by rw [wdS_len]; exact hj)]; rfl
    rw [List.getElem?_set, e1, e2, wdS_get _ _ _ _ _ hj, wdS_get _ _ _ _ _ hj, wdS_len]
    by_cases e : k = j
    · subst e
      rw [if_pos rfl, if_pos hj, if_pos (show k < k + 1 by omega), mxC_snoc _ _ _ h]
      rw [wdS_get _ _ _ _ _ hj, if_neg (by omega)]
    · rw [if_neg e]
      by_cases e2 : j < k
      · rw [if_pos e2, if_pos (by omega)]
      · rw [if_neg e2, if_neg (by omega)]
  · rw [List.getElem?_eq_none (by rw [List.length_set, wdS_len]; omega), List.getElem?_eq_none (by rw [wdS_len]; omega)]
theorem wdS_next (cols : Nat) (all : List (List (List UInt8))) (q : Nat) : wdS cols all q cols = wdS cols all (q + 1) 0 := by
  unfold wdS
  refine List.map_congr_left fun i hi => ?_
  rw [if_pos (List.mem_range.1 hi), if_neg (by omega)]
theorem wdS_end (cols : Nat) (all : List (List (List UInt8))) : wdS cols all all.length 0 = widR cols all := by
  unfold wdS widR mxC
  refine List.map_congr_left fun i hi => ?_
  rw [if_neg (by omega), List.take_length]
theorem wdS_zero (cols : Nat) (all : List (List (List UInt8))) : wdS cols all 0 0 = List.replicate cols 0 := by
  unfold wdS mxC
  rw [List.eq_replicate_iff]
  refine ⟨by simp, fun b hb => ?_⟩
  obtain ⟨i, hi, rfl⟩ := List.mem_map.1 hb
  simp
theorem made_ints (n : Nat) : madeCells #[.int .i64 0] n = (ints (natI (List.replicate n 0))).toArray := by
  apply Array.ext'
  simp only [madeCells, ints, natI, Array.toList_map, Array.toList_range, List.map_replicate]
  rw [List.eq_replicate_iff]
  refine ⟨by simp, fun b hb => ?_⟩
  obtain ⟨i, hi, rfl⟩ := List.mem_map.1 hb
  simp [Nat.mod_one]
theorem natI_set (l : List Nat) (i n : Nat) : (ints (natI l)).toArray.setIfInBounds i (.int .i64 (n : Int)) = (ints (natI (l.set i n))).toArray := by
  simp [ints, natI]
theorem mxC_le (all : List (List (List UInt8))) (i B : Nat) (h : ∀ r ∈ all, rcT (colT r i) ≤ B) : mxC all i ≤ B := by
  unfold mxC
  have key : ∀ (l : List Nat) (a : Nat), a ≤ B → (∀ x ∈ l, x ≤ B) → l.foldl max a ≤ B := by
    intro l
    induction l with
    | nil => intro a h _; exact h
    | cons x l ih => intro a h1 h2; exact ih _ (Nat.max_le.2 ⟨h1, h2 x (List.mem_cons_self ..)⟩) fun y hy => h2 y (List.mem_cons_of_mem _ hy)
  refine key _ 0 (Nat.zero_le _) fun x hx => ?_
  obtain ⟨r, hr, rfl⟩ := List.mem_map.1 hx
  exact h r hr
theorem getD_map_sr (all : List SR) (q : Nat) (h : q < all.length) : (all.map SR.tx).getD q [] = (all.getD q sr0).tx := by simp [List.getD, List.getElem?_eq_getElem h]

theorem box_ints_ne {w : World} {g : Nat} {l : List Int} (h : Box w g 3 (ints l).toArray) {b o : Nat} {v : Value} (hc : w.cell? ⟨b, o, none⟩ = some v) (hv : ∀ x, v ≠ .int .i64 x) : b ≠ g := by
  rintro rfl
  rw [h.cell] at hc
  simp only [ints, List.getElem?_toArray, List.getElem?_map] at hc
  obtain ⟨x, _, e⟩ := Option.map_eq_some_iff.1 hc
  exact hv x e.symm
/-- all blocks that were there, but one, are as they were -/
def But (g : Nat) (w w' : World) : Prop := ∀ b, b < w.heap.size → b ≠ g → w'.heap[b]? = w.heap[b]?
theorem But.cell {g : Nat} {w w' : World} (h : But g w w') {b o : Nat} {v : Value} (hc : w.cell? ⟨b, o, none⟩ = some v) (hb : b ≠ g) : w'.cell? ⟨b, o, none⟩ = some v :=
  (World.cell?_of_block (a := ⟨b, o, none⟩) (h b (block_lt_of_cell hc) hb)).trans hc
theorem But.then_ {g : Nat} {w w1 w2 : World} (h : But g w w1) (hs : w.heap.size ≤ w1.heap.size) (hb : Below w1.heap.size w1 w2) : But g w w2 := fun b hbl hne => (hb.block b (by omega)).trans (h b hbl hne)
theorem But.set {g : Nat} {w w1 : World} (h : But g w w1) (o : Nat) (v : Value) : But g w (w1.setCell ⟨g, o, none⟩ v) := fun b hbl hne => (Below.heap_setCell w1 ⟨g, o, none⟩ v b hne).trans (h b hbl hne)

set_option maxHeartbeats 4000000 in
set_option maxRecDepth 100000 in
theorem pwidths_any (t : Tb) (w : World) (hT : TbIn w w.heap.size t) (hok : TbOk t) :
    Calls Tryd.prog 13 #[t.val] w fun e w' => ∃ g, e = .returned (.slice (some ⟨g, 0, none⟩) t.h.l.length t.h.l.length) ∧ Box w' g 3 (ints (natI (widR t.h.l.length ((t.h :: t.rs).map SR.tx)))).toArray ∧ Below w.heap.size w w' := by
  obtain ⟨⟨Ah, ch, lh⟩, A, c, rs⟩ := t
  have n1 : 1 ≤ lh.length ∧ lh.length ≤ 12 := hok.n1
  have n2 : rs.length ≤ 400 := hok.n2
  obtain ⟨all, hall⟩ : ∃ all : List SR, all = ⟨Ah, ch, lh⟩ :: rs := ⟨_, rfl⟩
  obtain ⟨N, hN⟩ : ∃ N, N = rs.length + 1 := ⟨_, rfl⟩
  have hNl : N = all.length := by rw [hN, hall]; rfl
  have Q4 : Hid (∀ q, q < N → ∀ k, k < (all.getD q sr0).l.length → TxOk ((all.getD q sr0).l.getD k ⟨#[]⟩)) := by rw [hN, hall]; exact hok.tx
  have Q3 : Hid (∀ q, q < N → (all.getD q sr0).l.length = lh.length) := fun q hq => by
    rw [hall]
    cases q with
    | zero => rfl
    | succ q => exact hok.eq q (show q < rs.length by omega)
  show Calls Tryd.prog 13 #[.agg #[.slice Ah lh.length ch, .slice A rs.length c]] w fun e w' => ∃ g, e = .returned (.slice (some ⟨g, 0, none⟩) lh.length lh.length) ∧ Box w' g 3 (ints (natI (widR lh.length (((⟨Ah, ch, lh⟩ : SR) :: rs).map SR.tx)))).toArray ∧ Below w.heap.size w w'
  rw [← hall]
  have HAl := Lib.hid hall
  have HNN := Lib.hid hN
  have HNl := Lib.hid hNl
  clear hall hN hNl
  have hmk := fun W => run_make_row' (P := Tryd.prog) 38 3 (.int .i64 0) 8 Tryd.underlying38 infoInt2 rfl .i64 .i64 lh.length (by omega) (by omega) W
  rw [made_ints, ← wdS_zero lh.length (all.map SR.tx)] at hmk
  have HX := Lib.hid (Box.new w 25 #[.slice Ah lh.length ch, .slice A rs.length c])
  have HB := Lib.hid (below_alloc1 w (Obj.cells #[.slice Ah lh.length ch, .slice A rs.length c] 25))
  have HT := Lib.hid (hT.next HB.out HB.out.size)
  have l1 : lh.length ≤ ch := hT.h.ln
  have l2 : ch ≤ maxLen := hT.h.cm
  have l3 : rs.length ≤ c := hT.ln
  have l4 : c ≤ maxLen := hT.cm
  unfold maxLen at l2 l4
  clear hT hok
  go_enter Tryd.func13, Tryd.ntmps13
  go_upto_region 1 with fail
  generalize w.alloc (Obj.cells #[.slice Ah lh.length ch, .slice A rs.length c] 25) = W0 at *
  obtain ⟨g, hg⟩ : ∃ g, g = w.heap.size := ⟨_, rfl⟩
  rw [← hg] at HX ⊢
  have x0 : W0.cell? ⟨g, 0, none⟩ = some (.slice Ah lh.length ch) := HX.out.cell 0
  have hgl : g < W0.heap.size := HX.out.lt
  clear hg
  go_upto_region 2 with fail
  have HBX := Lib.hid (Box.new W0 3 (ints (natI (wdS lh.length (all.map SR.tx) 0 0))).toArray)
  have hBF := below_alloc1 W0 (Obj.cells (ints (natI (wdS lh.length (all.map SR.tx) 0 0))).toArray 3)
  have HBF := Lib.hid hBF
  generalize W0.alloc (Obj.cells (ints (natI (wdS lh.length (all.map SR.tx) 0 0))).toArray 3) = W1 at *
  obtain ⟨gF, hgF⟩ : ∃ gF, gF = W0.heap.size := ⟨_, rfl⟩
  rw [← hgF] at HBX hBF hgl HBF ⊢
  have HGF := Lib.hid hgF
  have HT1 := Lib.hid (HT.out.next (show Below W0.heap.size W0 W1 from hgF ▸ hBF) (show W0.heap.size ≤ W1.heap.size from hgF ▸ hBF.size))
  have HX1 := Lib.hid (HX.out.below (show Below W0.heap.size W0 W1 from hgF ▸ hBF))
  have x0' : W1.cell? ⟨g, 0, none⟩ = some (.slice Ah lh.length ch) := HX1.out.cell 0
  have x1' : W1.cell? ⟨g, 1, none⟩ = some (.slice A rs.length c) := HX1.out.cell 1
  have hgW : g < W1.heap.size := HX1.out.lt
  have hgFW : Hid (gF ≤ W1.heap.size) := Nat.le_of_lt HBX.out.lt
  clear hmk hgF x0 hBF
  obtain ⟨A', c', w3, hap, hrow, hbel⟩ := append_table (w := W1.alloc (.cells #[srV ⟨Ah, ch, lh⟩] 22)) (g := W1.heap.size) (h := ⟨Ah, ch, lh⟩) (c := c) 23 (World.ownsRow_lit (base := W1.heap.size) (e := 22) (size := 1) W1 #[srV ⟨Ah, ch, lh⟩] 1 (Nat.le_refl _) (by unfold maxLen; omega) rfl) (HT1.out.row.alloc (.cells #[srV ⟨Ah, ch, lh⟩] 22)) (by show rs.length ≤ 1000; omega)
  replace hap : (Builtin.append_ #[23, 23] 23 #[.slice (some ⟨W1.heap.size, 0, none⟩) 1 1, .slice A rs.length c]).run Tryd.prog (W1.alloc (.cells #[srV ⟨Ah, ch, lh⟩] 22)) = .ok (.slice A' (rs.length + 1) c') w3 := hap
  replace hrow : Row w3 w3.heap.size A' (((⟨Ah, ch, lh⟩ : SR) :: rs).map srV) := hrow
  have hbel2 : Below W1.heap.size W1 w3 := (below_alloc1 W1 _).trans hbel
  have HAll : Hid (∀ q, q < N → SRIn w3 w3.heap.size (all.getD q sr0)) := fun q hq => by
    have hm := getD_sr (l := all) (i := q) (by rw [← HNl.out]; exact hq)
    generalize all.getD q sr0 = r at *
    rw [HAl.out] at hm
    rcases List.mem_cons.1 hm with e | hm
    · rw [e]; exact HT1.out.h.next hbel2 hbel2.size
    · exact (HT1.out.rs r hm).next hbel2 hbel2.size
  have HR3 := Lib.hid hrow
  have HB3 := Lib.hid hbel2
  have HBX3 := Lib.hid (HBX.out.below hbel2)
  rw [← HAl.out] at HR3
  rw [← HNN.out] at hap
  have hN1 : N ≤ 401 := by rw [HNN.out]; omega
  have HG3 : Hid (gF < w3.heap.size) := HBX3.out.lt
  clear hrow hbel hbel2 HT HT1 HBX HX HX1
  unfold srV at hap
  go_wp2_with (at_builtin; refine wpList_append_any rfl (.tmp 14) (.tmp 16) 23 23 rfl _ _ _ rfl rfl hap ?_)
  clear hap x1' x0'
  go_loopw [5, 6, 7, 19, 23, 24, 25] (fun _ _ _ i _ _ _ wr => ∃ q : Nat, q ≤ N ∧ i = .int .i64 (q : Int) ∧ Hid (Box wr gF 3 (ints (natI (wdS lh.length (all.map SR.tx) q 0))).toArray) ∧ Hid (Below gF w3 wr) ∧ Hid (But gF w3 wr)) (fun _ _ _ i _ _ _ _ => N - (intOf i).toNat)
  case atStart => exact ⟨0, by omega, rfl, HBX3, Below.refl _ _, fun _ _ _ => rfl⟩
  case round =>
    obtain ⟨q, hq, rfl, hbx, hbr, hbt⟩ := hrel
    rename World => w4
    by_cases hlt : q < N
    · obtain ⟨bA, oA, hA, hbl, hcs⟩ := HR3.out.open_ (srV_ne _ (by rw [← HNl.out]; omega))
      have c0 := hcs q _ (srV_get all q (by rw [← HNl.out]; exact hlt))
      have c1 := hbt.out.cell c0 (box_ints_ne HBX3.out c0 (fun x e => by unfold srV at e; cases e))
      clear hcs c0
      subst hA
      have t5 : decide ((q : Int) < (N : Int)) = true := decide_eq_true (by omega)
      have hr3 := HAll.out q hlt
      have hrl := Q3.out q hlt
      obtain ⟨⟨Ar, cr, lr⟩, hr⟩ : ∃ r, r = all.getD q sr0 := ⟨_, rfl⟩
      rw [← hr] at c1 hr3 hrl
      replace c1 : w4.cell? ⟨bA, oA + q, none⟩ = some (.slice Ar lr.length cr) := c1
      replace hrl : lr.length = lh.length := hrl
      have HRl := Lib.hid hrl
      have HRj : Hid (all.getD q sr0 = ⟨Ar, cr, lr⟩) := hr.symm
      have r1 : lr.length ≤ cr := hr3.ln
      have r2 : cr ≤ maxLen := hr3.cm
      have HRr : Hid (Row w3 w3.heap.size Ar (sVs lr)) := hr3.row
      have HTx : Hid (∀ k, k < lr.length → TxOk (lr.getD k ⟨#[]⟩)) := fun k hk => by
        have h := Q4.out q hlt k
        rw [HRj.out] at h
        exact h hk
      unfold maxLen at r2
      have HWS : Hid (w3.heap.size ≤ w4.heap.size) := hbr.out.size
      clear hr hr3 hrl
      go_wp2_with fail
      clear c1
      go_loopw [6, 7, 25] (fun _ _ i wr => ∃ k : Nat, k ≤ lr.length ∧ i = .int .i64 (k : Int) ∧ Hid (Box wr gF 3 (ints (natI (wdS lh.length (all.map SR.tx) q k))).toArray) ∧ Hid (Below gF w3 wr) ∧ Hid (But gF w3 wr)) (fun _ _ i _ => lr.length - (intOf i).toNat)
      case atStart => exact ⟨0, by omega, rfl, hbx, hbr, hbt⟩
      case round =>
        clear hbx hbr hbt HWS
        obtain ⟨k, hk, rfl, hbx, hbr, hbt⟩ := hrel
        rename World => w5
        by_cases hkl : k < lr.length
        · obtain ⟨b2, o2, hA2, hb2l, hc2⟩ := HRr.out.open_ (sVs_ne _ (by omega))
          have d1 := hc2 k _ (sVs_get lr k hkl)
          have d0 := hbt.out.cell d1 (box_ints_ne HBX3.out d1 (fun x e => by cases e))
          clear hc2 HRr d1
          subst hA2
          have t6 : decide ((k : Int) < (lr.length : Int)) = true := decide_eq_true (by omega)
          have hsz := (HTx.out k hkl).sz
          have hwe := wdS_set lh.length (all.map SR.tx) q k (by rw [List.length_map, ← HNl.out]; exact hlt) (by rw [← HRl.out]; exact hkl)
          have hwg := wdS_get lh.length (all.map SR.tx) q k k (by rw [← HRl.out]; exact hkl)
          have hcl : colT ((all.map SR.tx).getD q []) k = tx (lr.getD k ⟨#[]⟩) := by
            rw [getD_map_sr all q (by rw [← HNl.out]; exact hlt), HRj.out]
            exact colT_sr ⟨some ⟨b2, o2, none⟩, cr, lr⟩ k hkl
          rw [hcl] at hwe
          have HRC := Lib.hid (fun W => rcount_any (lr.getD k ⟨#[]⟩) (by omega) W)
          obtain ⟨s, hs⟩ : ∃ s, s = lr.getD k ⟨#[]⟩ := ⟨_, rfl⟩
          rw [← hs] at d0 HRC hwe hsz
          clear hs
          have hrc : rcT (tx s) ≤ 120 := Nat.le_trans (rcT_le (tx s)) (by show s.data.toList.length ≤ 120; rw [Array.length_toList]; exact hsz)
          have hkc : k < (wdS lh.length (all.map SR.tx) q k).length := by rw [wdS_len, ← HRl.out]; exact hkl
          have hm0 : ∀ W, Below w5.heap.size w5 W → W.cell? ⟨gF, k, none⟩ = some (.int .i64 (((wdS lh.length (all.map SR.tx) q k).getD k 0 : Nat) : Int)) := fun W hb => by
            rw [(hbx.out.below hb).cell k]
            simp only [List.getElem?_toArray]
            rw [ints_get _ k (by rw [natI_len]; exact hkc), natI_get _ k hkc]
          have hfz : ∀ W, Below w5.heap.size w5 W → W.frozen? ⟨gF, k, none⟩ = false := fun W hb => (hbx.out.below hb).free k
          have HWL := Lib.hid (wdS_len lh.length (all.map SR.tx) q k)
          obtain ⟨m, hm⟩ : ∃ m, m = (wdS lh.length (all.map SR.tx) q k).getD k 0 := ⟨_, rfl⟩
          rw [← hm] at hm0 hwe
          have HWE := Lib.hid hwe
          generalize rcT (tx s) = rc at *
          clear hwe hwg hcl hm hkc
          have t7 : (k : Int) < (lh.length : Int) := by rw [← HRl.out]; omega
          go_upto_region 8 with fail
          refine flow_begin_tail 10 (tellOf [(7, det (.int .i64 (rc : Int)))]) (by kernel_rfl) (by kernel_rfl) ?_
          simp only [List.take_succ_cons, List.take_zero, List.drop_succ_cons, List.drop_zero]
          repeat (first | (refine flow_val (v := ?_) (by rfl) (by rfl) (fun w hb => ?_) ?_; rotate_left; (· ((go_simp) <;> ((repeat' apply And.intro) <;> with_reducible rfl))); try simp only [Act.put, List.setIfInBounds_toArray, List.set_cons_zero, List.set_cons_succ, Nat.reduceAdd]) | (refine flow_skip (by rfl) (by rfl) ?_; try simp only [Act.put, List.setIfInBounds_toArray, List.set_cons_zero, List.set_cons_succ, Nat.reduceAdd]))
          refine flow_call (f := ?_) (args := ?_) [] (by kernel_rfl) (by rfl) (by rfl) (fun w hb => ?_) (fun w hb hu => ?_) ?_; rotate_left 2; (· ((go_simp) <;> ((repeat' apply And.intro) <;> with_reducible rfl)))
          · exact HRC.out w
          try simp only [Act.put, List.setIfInBounds_toArray, List.set_cons_zero, List.set_cons_succ, Nat.reduceAdd]
          repeat (first | (refine flow_val (v := ?_) (by rfl) (by rfl) (fun w hb => ?_) ?_; rotate_left; (· ((go_simp) <;> ((repeat' apply And.intro) <;> with_reducible rfl))); try simp only [Act.put, List.setIfInBounds_toArray, List.set_cons_zero, List.set_cons_succ, Nat.reduceAdd]) | (refine flow_skip (by rfl) (by rfl) ?_; try simp only [Act.put, List.setIfInBounds_toArray, List.set_cons_zero, List.set_cons_succ, Nat.reduceAdd]))
          refine flow_nil fun w6 hb6 _ => ?_
          have hf6 := hfz w6 hb6
          have hm6 := hm0 w6 hb6
          have HX6 := Lib.hid ((hbx.out.below hb6).set_ k (.int .i64 ((max m rc : Nat) : Int)))
          rw [natI_set, HWE.out] at HX6
          have HL6 := Lib.hid (((hbr.out.trans (hb6.mono (Nat.le_of_lt hbx.out.lt)))).setCell (p := ⟨gF, k, none⟩) (Nat.le_refl gF) (.int .i64 ((max m rc : Nat) : Int)))
          have HT6 := Lib.hid ((hbt.out.then_ hbr.out.size hb6).set k (.int .i64 ((max m rc : Nat) : Int)))
          have hmx : max (m : Int) (rc : Int) = ((max m rc : Nat) : Int) := by omega
          rw [hmx]
          clear hmx hm0 hfz hb6
          generalize max m rc = mr at *
          refine wpList_step fun K hK => ?_
          rw [if_pos (by rfl)]
          go_simp
          refine hK _ _ (wpList_nil ?_)
          clear hK K hf6 hm6 d0
          generalize w6.setCell ⟨gF, k, none⟩ (.int .i64 (mr : Int)) = w7 at *
          go_wp2_with fail
          go_roundw
          case rel => exact ⟨k + 1, by omega, by go_num, HX6, HL6, HT6⟩
          case measure => simp [intOf]; omega
        · have t6 : decide ((k : Int) < (lr.length : Int)) = false := decide_eq_false (by omega)
          have HX5 : Hid (Box w5 gF 3 (ints (natI (wdS lh.length (all.map SR.tx) (q + 1) 0))).toArray) := by
            have e : k = lh.length := by rw [← HRl.out]; omega
            have h := hbx.out
            rw [e] at h
            rw [← wdS_next]
            exact h
          clear hbx
          go_wp2_with fail
          go_roundw
          case rel => exact ⟨q + 1, by omega, by go_num, HX5, hbr, hbt⟩
          case measure => simp [intOf]; omega
    · have t5 : decide ((q : Int) < (N : Int)) = false := decide_eq_false (by omega)
      have HX4 : Hid (Box w4 gF 3 (ints (natI (widR lh.length (all.map SR.tx)))).toArray) := by
        rw [← wdS_end, List.length_map, ← HNl.out, ← (show q = N by omega)]
        exact hbx.out
      have HBx : Hid (Below w.heap.size w w4) := by
        have h1 : Below gF W0 w4 := HBF.out.trans ((HB3.out.mono (by have := HBX3.out.lt; have := HB3.out.size; exact hgFW.out)).trans hbr.out)
        exact HB.out.trans (h1.mono (by rw [HGF.out]; exact HB.out.size))
      clear hbx hbr hbt
      go_wp2_with fail
      go_ret
      exact ⟨gF, rfl, HX4.out, HBx.out⟩
end Go.Proofs.YtonepibojojcaaaDoor

/- page.groups. -/
namespace Go.Proofs.YtonepibojojcaaaDoor
open Go Go.Shelf Go.RowKit Go.Lib
set_option linter.unusedVariables false

theorem infoInts : (Tryd.prog.info? 38).map (fun i => (i.zero, i.size, i.bytes)) = some (some (.slice none 0 0), 1, 24) := by kernel_rfl
/-- an element of a row of one's own is written -/
theorem own_setAt {w : World} {base : Nat} {e : TypeId} {g n cap : Nat} {xs : List Value} (h : w.ownsRow base e 1 (.slice (some ⟨g, 0, none⟩) n cap) n xs) (i : Nat) (v : Value) :
    (w.setCell ⟨g, i, none⟩ v).ownsRow base e 1 (.slice (some ⟨g, 0, none⟩) n cap) n (xs.set i v) := by
  rcases h.2 with ⟨h', _⟩ | ⟨g', cap', cur, h', hb, hg, h1, h2, h3, h4⟩
  · simp at h'
  · simp only [Value.slice.injEq, Option.some.injEq, Addr.mk.injEq, and_true, true_and] at h'
    obtain ⟨rfl, rfl⟩ := h'
    refine ⟨by rw [List.length_set]; exact h.1, .inr ⟨g, cap, cur.setIfInBounds i v, rfl, hb, Box.set_ hg i v, h1, h2, by rw [Array.size_setIfInBounds]; exact h3, ?_⟩⟩
    rw [Array.toList_setIfInBounds, List.take_set, h4]
/-- two rows of one's own, of different elements, lie apart -/
theorem own_ne {w : World} {b1 b2 : Nat} {e1 e2 : TypeId} {s1 s2 n1 n2 : Nat} {v1 v2 : Value} {x1 x2 : List Value} (h1 : w.ownsRow b1 e1 s1 v1 n1 x1) (h2 : w.ownsRow b2 e2 s2 v2 n2 x2) (hne : e1 ≠ e2) (b : Nat) (hb : v1.ownBlock = some b) : v2.ownBlock ≠ some b := by
  intro hb2
  rcases h1.2 with ⟨rfl, _⟩ | ⟨g, cap, cur, rfl, _, hg, _⟩
  · simp [Value.ownBlock] at hb
  · rcases h2.2 with ⟨rfl, _⟩ | ⟨g2, cap2, cur2, rfl, _, hg2, _⟩
    · simp [Value.ownBlock] at hb2
    · simp only [Value.ownBlock, Option.some.injEq] at hb hb2
      subst hb
      subst hb2
      rw [hg] at hg2
      simp at hg2
      exact hne hg2.2
/-- a row of numbers that is done -/
def DoneR (w : World) (B : Nat) (v : Value) (l : List Nat) : Prop := w.ownsRow 0 3 1 v l.length (ints (natI l)) ∧ ∀ b, v.ownBlock = some b → b < B
theorem DoneR.next {w w' : World} {B : Nat} {v : Value} {l : List Nat} (h : DoneR w B v l) (hh : ∀ b, b < B → w'.heap[b]? = w.heap[b]? ) : DoneR w' B v l := ⟨own_heap h.1 fun b hb => hh b (h.2 b hb), h.2⟩
theorem DoneR.grow {w w' : World} {B : Nat} {v : Value} {l : List Nat} {row : Option Nat} (h : DoneR w B v l) (hg : w.grownBy w' row) (hr : ∀ b, row = some b → B ≤ b) : DoneR w' B v l :=
  ⟨own_heap h.1 fun b hb => hg.block b (h.1.lt b hb).2 (fun e => by have := hr b e.symm; have := h.2 b hb; omega), h.2⟩
theorem DoneR.other {w w' : World} {B B2 : Nat} {v v2 : Value} {l : List Nat} {e : TypeId} {n : Nat} {xs : List Value} {g : Nat} (h : DoneR w B v l) (ho : w.ownsRow B2 e 1 v2 n xs) (hg : v2.ownBlock = some g) (hne : e ≠ 3) (hw : ∀ b, b < w.heap.size → b ≠ g → w'.heap[b]? = w.heap[b]?) : DoneR w' B v l :=
  ⟨own_heap h.1 fun b hb => hw b (h.1.lt b hb).2 (fun e' => by subst e'; exact own_ne ho h.1 hne b hg hb), h.2⟩
/-- rows that are done, and the last one -/
structure GrpS (w : World) (base : Nat) (vO : Value) (done : List (List Nat)) (cur : List Nat) : Prop where
  rows : ∃ (vs : List Value) (v : Value) (B : Nat), vs.length = done.length ∧ w.ownsRow base 38 1 vO (done.length + 1) (vs ++ [v]) ∧ w.ownsRow B 3 1 v cur.length (ints (natI cur)) ∧ base ≤ B ∧ B ≤ w.heap.size ∧ ∀ j, j < done.length → DoneR w B (vs.getD j undef) (done.getD j [])
theorem natI_snoc (l : List Nat) (i : Nat) : ints (natI (l ++ [i])) = ints (natI l) ++ [.int .i64 (i : Int)] := by simp [ints, natI]
/-- a group more -/
theorem GrpS.push {w : World} {base : Nat} {vO : Value} {done : List (List Nat)} {cur : List Nat} (h : GrpS w base vO done cur) (hb : base ≤ w.heap.size) (hd : done.length ≤ 1000) :
    ∃ vO' w', (Builtin.append_ #[40, 40] 40 #[vO, .slice (some ⟨w.heap.size + 1, 0, none⟩) 1 1]).run Tryd.prog ((w.alloc (.cells #[.int .i64 0] 3)).alloc (.cells #[.slice (some ⟨w.heap.size, 0, none⟩) 1 1] 38)) = .ok vO' w' ∧ GrpS w' base vO' (done ++ [cur]) [0] ∧ Below base w w' ∧ (∃ A c, vO' = .slice A (done.length + 2) c) := by
  obtain ⟨vs, v, B, hl, hO, hv, hB1, hB2, hD⟩ := h.rows
  have b1 := below_alloc1 w (Obj.cells #[.int .i64 0] 3)
  have b2 := below_alloc2 w (Obj.cells #[.int .i64 0] 3) (Obj.cells #[.slice (some ⟨w.heap.size, 0, none⟩) 1 1] 38)
  have hO2 := own_next hO b2
  have hv2 := own_next hv b2
  have hn1 : (w.alloc (.cells #[.int .i64 0] 3)).ownsRow w.heap.size 3 1 (.slice (some ⟨w.heap.size, 0, none⟩) 1 1) 1 [.int .i64 0] := World.ownsRow_lit w #[.int .i64 0] 1 (Nat.le_refl _) (by unfold maxLen; omega) rfl
  have hn2 := own_next hn1 (below_alloc1 _ (Obj.cells #[.slice (some ⟨w.heap.size, 0, none⟩) 1 1] 38))
  have hr : Row ((w.alloc (.cells #[.int .i64 0] 3)).alloc (.cells #[.slice (some ⟨w.heap.size, 0, none⟩) 1 1] 38)) ((w.alloc (.cells #[.int .i64 0] 3)).alloc (.cells #[.slice (some ⟨w.heap.size, 0, none⟩) 1 1] 38)).heap.size (some ⟨w.heap.size + 1, 0, none⟩) [.slice (some ⟨w.heap.size, 0, none⟩) 1 1] := by
    have := Row.of_box (Box.new (w.alloc (.cells #[.int .i64 0] 3)) 38 #[.slice (some ⟨w.heap.size, 0, none⟩) 1 1])
    have e : (w.alloc (.cells #[.int .i64 0] 3)).heap.size = w.heap.size + 1 := World.size_alloc ..
    rw [e] at this
    exact this
  have hsz : ((w.alloc (.cells #[.int .i64 0] 3)).alloc (.cells #[.slice (some ⟨w.heap.size, 0, none⟩) 1 1] 38)).heap.size = w.heap.size + 2 := by rw [World.size_alloc, World.size_alloc]
  obtain ⟨vO', w', a1, a2, a3, a4⟩ := append_cells (ty := 40) (c2 := 1) (l1 := vs ++ [v]) (l2 := [.slice (some ⟨w.heap.size, 0, none⟩) 1 1]) Tryd.underlying40 infoInts (by rfl) (by omega) (by rw [List.length_append, hl]; exact hO2) hr (fun u hu => by simp at hu; subst hu; rfl) (by rw [List.length_append, hl, List.length_cons, List.length_nil]; omega) (by simp) (by rw [hsz]; omega)
  have hlen : (vs ++ [v] ++ [Value.slice (some ⟨w.heap.size, 0, none⟩) 1 1]).length = done.length + 2 := by simp [hl]
  rw [hlen] at a2
  obtain ⟨A, c, hf, _, _⟩ := own_form a2
  have hgO : ∀ b, vO.ownBlock = some b → base ≤ b ∧ b < w.heap.size := fun b hb => hO.lt b hb
  have hbel : Below base w w' := (b2.mono hb).grown a3 (by rw [hsz]; omega) (fun k hk => (hgO k hk).1)
  have hkeep : ∀ b, b < w.heap.size + 2 → vO.ownBlock ≠ some b → w'.heap[b]? = ((w.alloc (.cells #[.int .i64 0] 3)).alloc (.cells #[.slice (some ⟨w.heap.size, 0, none⟩) 1 1] 38)).heap[b]? := fun b hb hne => a3.block b (by rw [hsz]; exact hb) (fun e => hne e.symm)
  have hneT : (38 : TypeId) ≠ 3 := by decide
  refine ⟨vO', w', a1, ⟨vs ++ [v], .slice (some ⟨w.heap.size, 0, none⟩) 1 1, w.heap.size, by simp [hl], by simpa [hl] using a2, ?_, hb, by have := a3.size; rw [hsz] at this; omega, ?_⟩, hbel, A, c, hf⟩
  · refine own_heap hn2 fun b hb => ?_
    simp [Value.ownBlock] at hb
    subst hb
    exact hkeep _ (by omega) (fun e => by have := (hgO _ e).2; omega)
  · intro j hj
    rw [List.length_append, List.length_cons, List.length_nil] at hj
    have hx : ∀ (x : Value) (l : List Nat), w.ownsRow 0 3 1 x l.length (ints (natI l)) → DoneR w' w.heap.size x l := fun x l hx => by
      refine ⟨own_heap (own_next hx b2) fun b hb => hkeep b (by have := (hx.lt b hb).2; omega) (fun e => own_ne hO hx hneT b e hb), fun b hb => (hx.lt b hb).2⟩
    by_cases hjd : j < done.length
    · have e1 : (vs ++ [v]).getD j undef = vs.getD j undef := by simp [List.getD, List.getElem?_append_left (show j < vs.length by omega)]
      have e2 : (done ++ [cur]).getD j [] = done.getD j [] := by simp [List.getD, List.getElem?_append_left hjd]
      rw [e1, e2]
      exact hx _ _ (hD j hjd).1
    · obtain rfl : j = done.length := by omega
      have e1 : (vs ++ [v]).getD done.length undef = v := by rw [← hl]; simp [List.getD]
      have e2 : (done ++ [cur]).getD done.length [] = cur := by simp [List.getD]
      rw [e1, e2]
      exact hx _ _ (own_lower hv (Nat.zero_le _))
/-- a column more in the last group -/
theorem GrpS.add {w : World} {base : Nat} {vO : Value} {done : List (List Nat)} {cur : List Nat} (h : GrpS w base vO done cur) (hb : base ≤ w.heap.size) (hc : cur.length ≤ 1000) (i : Nat) :
    ∃ gO cO A c, vO = .slice (some ⟨gO, 0, none⟩) (done.length + 1) cO ∧ gO < w.heap.size ∧ w.cell? ⟨gO, done.length, none⟩ = some (.slice A cur.length c) ∧
      ∃ A' c' w', (Builtin.append_ #[38, 38] 38 #[.slice A cur.length c, .slice (some ⟨w.heap.size, 0, none⟩) 1 1]).run Tryd.prog (w.alloc (.cells #[.int .i64 (i : Int)] 3)) = .ok (.slice A' (cur.length + 1) c') w' ∧ (∃ u, w'.cell? ⟨gO, done.length, none⟩ = some u) ∧ w'.frozen? ⟨gO, done.length, none⟩ = false ∧
        GrpS (w'.setCell ⟨gO, done.length, none⟩ (.slice A' (cur.length + 1) c')) base vO done (cur ++ [i]) ∧ Below base w (w'.setCell ⟨gO, done.length, none⟩ (.slice A' (cur.length + 1) c')) := by
  obtain ⟨vs, v, B, hl, hO, hv, hB1, hB2, hD⟩ := h.rows
  obtain ⟨gO, cO, rfl⟩ := Go.Joins.ownsRow_form hO (by omega)
  obtain ⟨A, c, rfl, _, _⟩ := own_form hv
  have b1 := below_alloc1 w (Obj.cells #[.int .i64 (i : Int)] 3)
  have hO1 := own_next hO b1
  have hv1 := own_next hv b1
  have hgO : base ≤ gO ∧ gO < w.heap.size := hO.lt gO rfl
  have hsz : (w.alloc (.cells #[.int .i64 (i : Int)] 3)).heap.size = w.heap.size + 1 := World.size_alloc ..
  have hr := Row.of_box (Box.new w 3 #[.int .i64 (i : Int)])
  obtain ⟨v', w', a1, a2, a3, a4⟩ := append_cells (ty := 38) (c2 := 1) (l1 := ints (natI cur)) (l2 := [.int .i64 (i : Int)]) Tryd.underlying38 infoInt2 (by rfl) (by omega) (by rw [ints_length, natI_len]; exact hv1) hr (fun u hu => by simp at hu; subst hu; rfl) (by rw [ints_length, natI_len]; omega) (by simp) (by rw [hsz]; omega)
  have hlen : (ints (natI cur) ++ [Value.int .i64 (i : Int)]).length = cur.length + 1 := by rw [List.length_append, ints_length, natI_len]; rfl
  rw [hlen] at a2
  obtain ⟨A', c', rfl, _, _⟩ := own_form a2
  have hneT : (38 : TypeId) ≠ 3 := by decide
  have hneO : (Value.slice A cur.length c).ownBlock ≠ some gO := own_ne hO hv hneT gO rfl
  have hO2 : w'.ownsRow base 38 1 (.slice (some ⟨gO, 0, none⟩) (done.length + 1) cO) (done.length + 1) (vs ++ [.slice A cur.length c]) := own_heap hO1 fun b hb => by
    simp [Value.ownBlock] at hb
    subst hb
    exact a3.block gO (by rw [hsz]; omega) (fun e => hneO e.symm)
  have hc0 : w.cell? ⟨gO, done.length, none⟩ = some (.slice A cur.length c) := by
    have h := hO.cellAt done.length (by omega)
    rw [h, ← hl]
    simp
  have hc2 : w'.cell? ⟨gO, done.length, none⟩ = some (.slice A cur.length c) := by
    have h := hO2.cellAt done.length (by omega)
    rw [h, ← hl]
    simp
  have hfz : w'.frozen? ⟨gO, done.length, none⟩ = false := by
    rcases hO2.2 with ⟨h', _⟩ | ⟨g', cap', cur', h', hb', hg', _⟩
    · simp at h'
    · simp only [Value.slice.injEq, Option.some.injEq, Addr.mk.injEq, and_true, true_and] at h'
      obtain ⟨rfl, rfl⟩ := h'
      exact Box.free hg' _
  have hbw : Below base w w' := (b1.mono hb).grown a3 (by rw [hsz]; omega) (fun k hk => Nat.le_trans hB1 (own_base hv k hk))
  refine ⟨gO, cO, A, c, rfl, hgO.2, hc0, A', c', w', by exact a1, ⟨_, hc2⟩, hfz, ⟨vs, .slice A' (cur.length + 1) c', B, hl, ?_, ?_, hB1, ?_, ?_⟩, hbw.setCell (p := ⟨gO, done.length, none⟩) hgO.1 _⟩
  · have h := own_setAt hO2 done.length (.slice A' (cur.length + 1) c')
    have e : (vs ++ [Value.slice A cur.length c]).set done.length (.slice A' (cur.length + 1) c') = vs ++ [.slice A' (cur.length + 1) c'] := by rw [← hl]; simp
    rw [e] at h
    exact h
  · rw [List.length_append, natI_snoc]
    refine own_heap a2 fun b hb => Below.heap_setCell w' ⟨gO, done.length, none⟩ _ b (fun e => own_ne hO2 a2 hneT gO rfl (hb.trans (congrArg some (show b = gO from e))))
  · rw [World.size_setCell]
    have := a3.size
    rw [hsz] at this
    omega
  · intro j hj
    have h := hD j hj
    have h1 := h.grow (row := none) ⟨b1.os, b1.tape, b1.output, b1.size, fun k hk _ => b1.block k hk⟩ (fun b e => by cases e)
    have h2 := h1.grow a3 (fun b hb => own_base hv b hb)
    exact h2.other hO2 rfl hneT fun b hb hne => Below.heap_setCell w' ⟨gO, done.length, none⟩ _ b hne
end Go.Proofs.YtonepibojojcaaaDoor

/- page.groups, walked. -/
namespace Go.Proofs.YtonepibojojcaaaDoor
open Go Go.Shelf Go.RowKit Go.Lib
set_option linter.unusedVariables false

/-- what groups gives -/
def GrpQ (ws : List Nat) (W : Nat) (w : World) (e : Ending) (w' : World) : Prop :=
  Below w.heap.size w w' ∧ ((groupsR ws W = none ∧ e = .returned (.tuple #[.slice none 0 0, .bool false])) ∨
    ∃ done cur vO, groupsR ws W = some (done ++ [cur]) ∧ e = .returned (.tuple #[vO, .bool true]) ∧ GrpS w' w.heap.size vO done cur)
theorem gGo_step (ws : List Nat) (W i n : Nat) (hi : i < n) (done : List (List Nat)) (cur : List Nat) (used : Nat) :
    gGo ws W (List.range' i (n - i)) done cur used = if W < ws.getD 0 0 + 2 + ws.getD i 0 then none
    else if W < used + 2 + ws.getD i 0 then gGo ws W (List.range' (i + 1) (n - (i + 1))) (done ++ [cur]) [0, i] (ws.getD 0 0 + 2 + ws.getD i 0)
    else gGo ws W (List.range' (i + 1) (n - (i + 1))) done (cur ++ [i]) (used + 2 + ws.getD i 0) := by
  obtain ⟨m, hm⟩ : ∃ m, n - i = m + 1 := ⟨n - i - 1, by omega⟩
  rw [hm, List.range'_succ, show n - (i + 1) = m by omega]
  rfl

set_option maxHeartbeats 4000000 in
set_option maxRecDepth 100000 in
theorem pgroups_any (Aw : Option Addr) (cw : Nat) (ws : List Nat) (W : Nat) (w : World) (hw : Row w w.heap.size Aw (ints (natI ws))) (h0 : 1 ≤ ws.length) (hl : ws.length ≤ 12) (hm : ∀ i, i < ws.length → ws.getD i 0 ≤ 1000) (hW : W ≤ 1000) :
    Calls Tryd.prog 14 #[.slice Aw ws.length cw, .int .i64 (W : Int)] w (GrpQ ws W w) := by
  obtain ⟨b, o, rfl, hbl, hcs⟩ := hw.open_ (ints_ne _ (by rw [natI_len]; omega))
  have HC : Hid (∀ W', Below w.heap.size w W' → ∀ i, i < ws.length → W'.cell? ⟨b, o + i, none⟩ = some (.int .i64 ((ws.getD i 0 : Nat) : Int))) := fun W' hb i hi => by
    have h := hcs i _ (ints_get (natI ws) i (by rw [natI_len]; exact hi))
    rw [natI_get ws i hi] at h
    exact (hb.cell (p := ⟨b, o + i, none⟩) hbl).trans h
  have c0 : w.cell? ⟨b, o, none⟩ = some (.int .i64 ((ws.getD 0 0 : Nat) : Int)) := HC.out w (Below.refl _ _) 0 (by omega)
  obtain ⟨w0, hw0⟩ : ∃ w0, w0 = ws.getD 0 0 := ⟨_, rfl⟩
  have hw0' : w0 ≤ 1000 := by rw [hw0]; exact hm 0 (by omega)
  rw [← hw0] at c0
  have HW0 := Lib.hid hw0
  have HM := Lib.hid hm
  clear hcs hw hm hw0
  by_cases h1 : W < w0
  · have t1 : decide (W < w0) = true := decide_eq_true (by omega)
    have HN : Hid (groupsR ws W = none) := by unfold Hid groupsR; rw [← HW0.out, if_pos h1]
    go_enter Tryd.func14, Tryd.ntmps14
    go_wp2_with fail
    go_ret2
    exact ⟨Below.refl _ _, .inl ⟨HN.out, rfl⟩⟩
  have t1 : decide (W < w0) = false := decide_eq_false (by omega)
  have HG : Hid (groupsR ws W = gGo ws W (List.range' 1 (ws.length - 1)) [] [0] w0) := by unfold Hid groupsR; rw [← HW0.out, if_neg h1]
  have HS0 : Hid (GrpS ((w.alloc (.cells #[.int .i64 0] 3)).alloc (.cells #[.slice (some ⟨w.heap.size, 0, none⟩) 1 1] 38)) w.heap.size (.slice (some ⟨w.heap.size + 1, 0, none⟩) 1 1) [] [0]) := by
    have hn1 : (w.alloc (.cells #[.int .i64 0] 3)).ownsRow w.heap.size 3 1 (.slice (some ⟨w.heap.size, 0, none⟩) 1 1) 1 [.int .i64 0] := World.ownsRow_lit w #[.int .i64 0] 1 (Nat.le_refl _) (by unfold maxLen; omega) rfl
    have e : (w.alloc (.cells #[.int .i64 0] 3)).heap.size = w.heap.size + 1 := World.size_alloc ..
    have hn2 := World.ownsRow_lit (base := w.heap.size) (e := 38) (size := 1) (w.alloc (.cells #[.int .i64 0] 3)) #[.slice (some ⟨w.heap.size, 0, none⟩) 1 1] 1 (by rw [e]; omega) (by unfold maxLen; omega) rfl
    rw [e] at hn2
    exact ⟨[], .slice (some ⟨w.heap.size, 0, none⟩) 1 1, w.heap.size, rfl, hn2, own_next hn1 (below_alloc1 _ _), Nat.le_refl _, by rw [World.size_alloc, e]; omega, fun j hj => absurd hj (Nat.not_lt_zero j)⟩
  have HB0 := Lib.hid (below_alloc2 w (Obj.cells #[.int .i64 0] 3) (Obj.cells #[.slice (some ⟨w.heap.size, 0, none⟩) 1 1] 38))
  clear h1
  go_enter Tryd.func14, Tryd.ntmps14
  go_upto_region 4 with fail
  generalize (w.alloc (.cells #[.int .i64 0] 3)).alloc (.cells #[.slice (some ⟨w.heap.size, 0, none⟩) 1 1] 38) = w1 at *
  have c1 : w1.cell? ⟨b, o, none⟩ = some (.int .i64 (w0 : Int)) := (HB0.out.cell (p := ⟨b, o, none⟩) hbl).trans c0
  clear c0
  go_wp2_with fail
  clear c1
  go_loopw [6, 7, 8, 9] (fun s6 s7 s8 _ wr => ∃ (i : Nat) (done : List (List Nat)) (cur : List Nat) (used : Nat), 1 ≤ i ∧ i ≤ ws.length ∧ s8 = .int .i64 (i : Int) ∧ s7 = .int .i64 (used : Int) ∧ used ≤ 1000 ∧ done.length ≤ i ∧ cur.length ≤ i ∧ Hid (groupsR ws W = gGo ws W (List.range' i (ws.length - i)) done cur used) ∧ Hid (GrpS wr w.heap.size s6 done cur) ∧ Hid (Below w.heap.size w wr)) (fun _ _ i _ _ => ws.length - (intOf i).toNat)
  case atStart => exact ⟨1, [], [0], w0, by omega, by omega, rfl, rfl, by omega, by simp, by simp, HG, HS0, HB0⟩
  case round =>
    obtain ⟨i, done, cur, used, hi1, hin, rfl, rfl, hu, hd1, hd2, hg, hs, hbr⟩ := hrel
    clear HS0 HB0
    rename World => w2
    by_cases hlt : i < ws.length
    case neg =>
      have t2 : decide ((i : Int) < (ws.length : Int)) = false := decide_eq_false (by omega)
      have HR : Hid (groupsR ws W = some (done ++ [cur])) := by
        unfold Hid
        rw [hg.out, show ws.length - i = 0 by omega]
        rfl
      clear hg
      go_wp2_with fail
      go_ret2
      exact ⟨hbr.out, .inr ⟨done, cur, _, HR.out, rfl, hs.out⟩⟩
    have t2 : decide ((i : Int) < (ws.length : Int)) = true := decide_eq_true (by omega)
    have hst := gGo_step ws W i ws.length hlt done cur used
    rw [← HW0.out] at hst
    have hc := HC.out w2 hbr.out
    have cz : ∀ W', Below w2.heap.size w2 W' → W'.cell? ⟨b, o, none⟩ = some (.int .i64 (w0 : Int)) := fun W' h => by have := HC.out W' (below_then hbr.out h) 0 (by omega); rw [← HW0.out] at this; exact this
    have ci : ∀ W', Below w2.heap.size w2 W' → W'.cell? ⟨b, o + i, none⟩ = some (.int .i64 ((ws.getD i 0 : Nat) : Int)) := fun W' h => HC.out W' (below_then hbr.out h) i hlt
    have hwi := HM.out i hlt
    obtain ⟨wi, hwe⟩ : ∃ wi, wi = ws.getD i 0 := ⟨_, rfl⟩
    rw [← hwe] at hst ci hwi
    have HST := Lib.hid hst
    have HWi := Lib.hid hwe
    clear hst hwe hc
    have e1 : IntKind.i64.wrap ((w0 : Int) + 2) = (w0 : Int) + 2 := intFits _ (by omega) (by omega)
    have e2 : IntKind.i64.wrap ((w0 : Int) + 2 + (wi : Int)) = (w0 : Int) + 2 + (wi : Int) := intFits _ (by omega) (by omega)
    have z1 : (0 : Int) ≤ (i : Int) := by omega
    have z0 : (0 : Int) < (ws.length : Int) := by omega
    have z0' : 0 < ws.length := h0
    have z2 : (i : Int) < (ws.length : Int) := by omega
    by_cases h3 : W < w0 + 2 + wi
    · have t3 : decide ((W : Int) < (w0 : Int) + 2 + (wi : Int)) = true := decide_eq_true (by omega)
      have HN : Hid (groupsR ws W = none) := by unfold Hid; rw [hg.out, HST.out, if_pos h3]
      clear hg h3
      go_upto_region 8 with fail
      refine flow_begin (tellOf []) (by kernel_rfl) (by kernel_rfl) ?_
      repeat (first | (refine flow_val (v := ?_) (by rfl) (by rfl) (fun w hb => ?_) ?_; rotate_left; (· ((go_simp) <;> ((repeat' apply And.intro) <;> with_reducible rfl))); try simp only [Act.put, List.setIfInBounds_toArray, List.set_cons_zero, List.set_cons_succ, Nat.reduceAdd]) | (refine flow_skip (by rfl) (by rfl) ?_; try simp only [Act.put, List.setIfInBounds_toArray, List.set_cons_zero, List.set_cons_succ, Nat.reduceAdd]))
      refine flow_nil fun w3 hb3 _ => ?_
      have HB3 := Lib.hid (below_then hbr.out hb3)
      clear hb3 ci cz
      go_wp2_with fail
      go_ret2
      exact ⟨HB3.out, .inl ⟨HN.out, rfl⟩⟩
    have t3 : decide ((W : Int) < (w0 : Int) + 2 + (wi : Int)) = false := decide_eq_false (by omega)
    go_upto_region 8 with fail
    refine flow_begin (tellOf []) (by kernel_rfl) (by kernel_rfl) ?_
    repeat (first | (refine flow_val (v := ?_) (by rfl) (by rfl) (fun w hb => ?_) ?_; rotate_left; (· ((go_simp) <;> ((repeat' apply And.intro) <;> with_reducible rfl))); try simp only [Act.put, List.setIfInBounds_toArray, List.set_cons_zero, List.set_cons_succ, Nat.reduceAdd]) | (refine flow_skip (by rfl) (by rfl) ?_; try simp only [Act.put, List.setIfInBounds_toArray, List.set_cons_zero, List.set_cons_succ, Nat.reduceAdd]))
    refine flow_nil fun w3 hb3 _ => ?_
    have HB3 := Lib.hid (below_then hbr.out hb3)
    have HS3 : Hid (GrpS w3 w.heap.size u6 done cur) := by
      obtain ⟨vs, v, B, q1, q2, q3, q4, q5, q6⟩ := hs.out.rows
      exact ⟨vs, v, B, q1, own_next q2 hb3, own_next q3 hb3, q4, Nat.le_trans q5 hb3.size, fun j hj => (q6 j hj).grow (row := none) ⟨hb3.os, hb3.tape, hb3.output, hb3.size, fun k hk _ => hb3.block k hk⟩ (fun b e => by cases e)⟩
    clear hs hbr hb3 ci cz z1 z2 z0 z0' e1 e2 t2 t3
    have HCi : Hid (∀ W', Below w.heap.size w W' → W'.cell? ⟨b, o + i, none⟩ = some (.int .i64 (wi : Int))) := fun W' h => by have := HC.out W' h i hlt; rw [← HWi.out] at this; exact this
    have HCz : Hid (∀ W', Below w.heap.size w W' → W'.cell? ⟨b, o, none⟩ = some (.int .i64 (w0 : Int))) := fun W' h => by have := HC.out W' h 0 (by omega); rw [← HW0.out] at this; exact this
    have ci3 := HCi.out w3 HB3.out
    by_cases h4 : W < used + 2 + wi
    · have t4 : decide ((W : Int) < (used : Int) + 2 + (wi : Int)) = true := decide_eq_true (by omega)
      have HG4 : Hid (groupsR ws W = gGo ws W (List.range' (i + 1) (ws.length - (i + 1))) (done ++ [cur]) [0, i] (w0 + 2 + wi)) := by unfold Hid; rw [hg.out, HST.out, if_neg h3, if_pos h4]
      obtain ⟨vO, w4, hap, hs4, hb4, A4, c4, hv4⟩ := HS3.out.push HB3.out.size (by omega)
      have HB4 := Lib.hid (HB3.out.trans hb4)
      have cz4 := HCz.out w4 HB4.out
      have ci4 := HCi.out w4 HB4.out
      obtain ⟨D, hD⟩ : ∃ D, D = done.length + 1 := ⟨_, rfl⟩
      rw [show done.length + 2 = D + 1 by omega] at hv4
      have hDl : (done ++ [cur]).length = D := by simp [hD]
      obtain ⟨gO, cO, A, c, hv5, hgl, hcO, A', c', w6, hap2, ⟨u6', hcu⟩, hfz, hs7, hb7⟩ := hs4.add HB4.out.size (by simp) i
      rw [hDl] at hv5 hcO hcu hfz hs7 hb7
      have HS7 : Hid (GrpS (w6.setCell ⟨gO, D, none⟩ (.slice A' 2 c')) w.heap.size vO (done ++ [cur]) [0, i]) := hs7
      have HB7 := Lib.hid (HB4.out.trans hb7)
      replace hap2 : (Builtin.append_ #[38, 38] 38 #[.slice A 1 c, .slice (some ⟨w4.heap.size, 0, none⟩) 1 1]).run Tryd.prog (w4.alloc (.cells #[.int .i64 (i : Int)] 3)) = .ok (.slice A' 2 c') w6 := hap2
      replace hcO : w4.cell? ⟨gO, D, none⟩ = some (.slice A 1 c) := hcO
      have HCL : Hid ((done ++ [cur]).length = D ∧ D ≤ i + 1) := ⟨hDl, by omega⟩
      have hD9 : D ≤ 13 := by omega
      have hus : w0 + 2 + wi ≤ 1000 := by omega
      have ci7 := HCi.out _ HB7.out
      subst hv5
      clear hs7 hb7 hs4 hb4 hv4 hD hDl hg h3 h4
      go_upto_region 12 with (at_builtin; refine wpList_append_any rfl (.tmp 46) (.tmp 48) 40 40 rfl _ _ _ rfl rfl hap ?_)
      clear hap ci3
      go_upto_region 15 with (at_builtin; refine wpList_append_any rfl (.tmp 61) (.tmp 63) 38 38 rfl _ _ _ rfl rfl hap2 ?_)
      clear hap2 hcO hcu hfz cz4 ci4
      generalize w6.setCell ⟨gO, D, none⟩ (.slice A' 2 c') = w7 at *
      go_wp2_with fail
      go_roundw
      case rel => exact ⟨i + 1, done ++ [cur], [0, i], w0 + 2 + wi, by omega, by omega, by go_num, by go_num, hus, by rw [HCL.out.1]; exact HCL.out.2, by simp; omega, HG4, HS7, HB7⟩
      case measure => simp [intOf]; omega
    · have t4 : decide ((W : Int) < (used : Int) + 2 + (wi : Int)) = false := decide_eq_false (by omega)
      have HG4 : Hid (groupsR ws W = gGo ws W (List.range' (i + 1) (ws.length - (i + 1))) done (cur ++ [i]) (used + 2 + wi)) := by unfold Hid; rw [hg.out, HST.out, if_neg h3, if_neg h4]
      obtain ⟨gO, cO, A, c, hv5, hgl, hcO, A', c', w6, hap2, ⟨u6', hcu⟩, hfz, hs7, hb7⟩ := HS3.out.add HB3.out.size (by omega) i
      have HS7 := Lib.hid hs7
      have HB7 := Lib.hid (HB3.out.trans hb7)
      have hus : used + 2 + wi ≤ 1000 := by omega
      obtain ⟨D, hD⟩ : ∃ D, D = done.length := ⟨_, rfl⟩
      obtain ⟨K2, hK2⟩ : ∃ K2, K2 = cur.length := ⟨_, rfl⟩
      rw [← hD] at hv5 hcO hcu hfz HS7 HB7
      rw [← hK2] at hap2 hcO HS7 HB7
      have hD9 : D ≤ 13 := by omega
      have ci7 := HCi.out _ HB7.out
      have HCL : Hid (done.length ≤ i + 1 ∧ cur.length ≤ i) := ⟨by omega, by omega⟩
      subst hv5
      clear hs7 hb7 hg h3 h4 hD hK2 hd1 hd2 HS3
      go_upto_region 15 with (at_builtin; refine wpList_append_any rfl (.tmp 61) (.tmp 63) 38 38 rfl _ _ _ rfl rfl hap2 ?_)
      clear hap2 hcO hcu hfz ci3
      generalize w6.setCell ⟨gO, D, none⟩ (.slice A' (K2 + 1) c') = w7 at *
      go_wp2_with fail
      go_roundw
      case rel => exact ⟨i + 1, done, cur ++ [i], used + 2 + wi, by omega, by omega, by go_num, by go_num, hus, HCL.out.1, by simp; exact HCL.out.2, HG4, HS7, HB7⟩
      case measure => simp [intOf]; omega
end Go.Proofs.YtonepibojojcaaaDoor

/- The lines of a page: page.write at the three closures of page.Lay; inRange; rows of groups. -/
namespace Go.Proofs.YtonepibojojcaaaDoor
open Go Go.Shelf Go.RowKit Go.Lib
set_option linter.unusedVariables false

theorem lnT_len (ws : List Nat) (t : Nat → List UInt8) (B : Nat) : ∀ (g : List Nat), (∀ i ∈ g, (t i).length ≤ B ∧ ws.getD i 0 ≤ B) → (lnT ws t g).length ≤ g.length * (2 * B + 2)
  | [], _ => by simp [lnT]
  | [i], h => by
    have := (h i (List.mem_cons_self ..)).1
    simp only [lnT, List.length_cons, List.length_nil]
    omega
  | i :: j :: g, h => by
    have h1 := h i (List.mem_cons_self ..)
    have ih := lnT_len ws t B (j :: g) fun x hx => h x (List.mem_cons_of_mem _ hx)
    simp only [lnT, List.length_append, List.length_replicate, List.length_cons] at ih ⊢
    simp only [Nat.add_mul] at ih ⊢
    omega
set_option maxRecDepth 100000 in
theorem inRange_yes (a b : Nat) (w : World) (h1 : 20 ≤ a) (h2 : a ≤ 200) (h3 : 4 ≤ b) (h4 : b ≤ 100) : Calls Tryd.prog 12 #[.int .i64 (a : Int), .int .i64 (b : Int)] w fun e w' => e = .returned (.bool true) ∧ w' = w := by
  have t1 : decide ((20 : Int) ≤ (a : Int)) = true := decide_eq_true (by omega)
  have t2 : decide ((a : Int) ≤ 200) = true := decide_eq_true (by omega)
  have t3 : decide ((4 : Int) ≤ (b : Int)) = true := decide_eq_true (by omega)
  have t4 : decide ((b : Int) ≤ 100) = true := decide_eq_true (by omega)
  have t5 : (20 : Int) ≤ (a : Int) := by omega
  have t6 : (4 : Int) ≤ (b : Int) := by omega
  go_enter Tryd.func12, Tryd.ntmps12
  go_wp2_with fail
  go_ret
  exact ⟨rfl, rfl⟩
set_option maxRecDepth 100000 in
theorem layHead_any (i g c : Nat) (A : Option Addr) (l : List ByteArray) (W : World) (hr : Row W W.heap.size A (sVs l)) (hi : i < l.length) (hl : l.length ≤ 12) (hc : W.cell? ⟨g, 0, none⟩ = some (.slice A l.length c)) :
    Calls Tryd.prog 16 #[.int .i64 (i : Int), .pointer (some ⟨g, 0, none⟩)] W fun e w' => e = .returned (.string (l.getD i ⟨#[]⟩)) ∧ w' = W := by
  obtain ⟨b, o, rfl, hbl, hcs⟩ := hr.open_ (sVs_ne _ (by omega))
  have c0 := hcs i _ (sVs_get l i hi)
  generalize l.getD i ⟨#[]⟩ = s at *
  clear hcs hr
  go_enter Tryd.func16, Tryd.ntmps16
  go_wp2_with fail
  go_ret
  exact ⟨rfl, rfl⟩
set_option maxRecDepth 100000 in
theorem layRow_any (i g c : Nat) (A : Option Addr) (l : List ByteArray) (W : World) (hr : Row W W.heap.size A (sVs l)) (hi : i < l.length) (hl : l.length ≤ 12) (hc : W.cell? ⟨g, 0, none⟩ = some (.slice A l.length c)) :
    Calls Tryd.prog 19 #[.int .i64 (i : Int), .pointer (some ⟨g, 0, none⟩)] W fun e w' => e = .returned (.string (l.getD i ⟨#[]⟩)) ∧ w' = W := by
  obtain ⟨b, o, rfl, hbl, hcs⟩ := hr.open_ (sVs_ne _ (by omega))
  have c0 := hcs i _ (sVs_get l i hi)
  generalize l.getD i ⟨#[]⟩ = s at *
  clear hcs hr
  go_enter Tryd.func19, Tryd.ntmps19
  go_wp2_with fail
  go_ret
  exact ⟨rfl, rfl⟩
theorem repeat_dash (n : Nat) (h : n ≤ 1000000) (w : World) : Calls Tryd.prog 18 #[.string ⟨#[45]⟩, .int .i64 (n : Int)] w fun e w' => e = .returned (.string (str (List.replicate n 45))) ∧ Below w.heap.size w w' := repeat_any 45 n h w
set_option maxRecDepth 100000 in
theorem layDash_any (i g c : Nat) (A : Option Addr) (ws : List Nat) (W : World) (hr : Row W W.heap.size A (ints (natI ws))) (hi : i < ws.length) (hl : ws.length ≤ 12) (hm : ws.getD i 0 ≤ 1000) (hc : W.cell? ⟨g, 0, none⟩ = some (.slice A ws.length c)) :
    Calls Tryd.prog 17 #[.int .i64 (i : Int), .pointer (some ⟨g, 0, none⟩)] W fun e w' => e = .returned (.string (str (dashT ws i))) ∧ Below W.heap.size W w' := by
  obtain ⟨b, o, rfl, hbl, hcs⟩ := hr.open_ (ints_ne _ (by rw [natI_len]; omega))
  have c0 := hcs i _ (ints_get (natI ws) i (by rw [natI_len]; exact hi))
  rw [natI_get ws i hi] at c0
  have HR := Lib.hid (repeat_dash (ws.getD i 0) (by omega) W)
  unfold dashT
  generalize ws.getD i 0 = n at *
  clear hcs hr
  go_enter Tryd.func17, Tryd.ntmps17
  go_wp2_with (go_at_call 18; refine HR.out.mono ?_; rintro e w1 ⟨rfl, hb1⟩)
  go_ret
  exact ⟨rfl, hb1⟩
/-- a row of numbers in memory -/
structure IR where
  A : Option Addr
  c : Nat
  l : List Nat
def irV (r : IR) : Value := .slice r.A r.l.length r.c
def ir0 : IR := ⟨none, 0, []⟩
theorem irV_get (l : List IR) (i : Nat) (h : i < l.length) : (l.map irV)[i]? = some (irV (l.getD i ir0)) := by simp [List.getD, List.getElem?_eq_getElem h]
/-- groups in memory -/
structure GsIn (w : World) (B : Nat) (A : Option Addr) (gs : List IR) : Prop where
  row : Row w B A (gs.map irV)
  each : ∀ i, i < gs.length → Row w B (gs.getD i ir0).A (ints (natI (gs.getD i ir0).l))
theorem GsIn.next {w w' : World} {B B' : Nat} {A : Option Addr} {gs : List IR} (h : GsIn w B A gs) (hb : Below B w w') (hB : B ≤ B') : GsIn w' B' A gs := ⟨(h.row.below hb).more hB, fun i hi => ((h.each i hi).below hb).more hB⟩
theorem GrpS.rows_in {w : World} {base : Nat} {vO : Value} {done : List (List Nat)} {cur : List Nat} (h : GrpS w base vO done cur) :
    ∃ (gs : List IR) (A : Option Addr) (c : Nat), gs.map (·.l) = done ++ [cur] ∧ vO = .slice A gs.length c ∧ GsIn w w.heap.size A gs := by
  obtain ⟨vs, v, B, hl, hO, hv, hB1, hB2, hD⟩ := h.rows
  obtain ⟨A, c, rfl, _, _⟩ := own_form hO
  have key : ∀ (n : Nat), n ≤ done.length → ∃ gs : List IR, gs.length = n ∧ gs.map (·.l) = done.take n ∧ gs.map irV = vs.take n ∧ ∀ i, i < n → Row w w.heap.size (gs.getD i ir0).A (ints (natI (gs.getD i ir0).l)) := by
    intro n
    induction n with
    | zero => intro _; exact ⟨[], rfl, by simp, by simp, fun i hi => absurd hi (Nat.not_lt_zero i)⟩
    | succ n ih =>
      intro hn
      obtain ⟨gs, g1, g2, g3, g4⟩ := ih (by omega)
      have hd := (hD n (by omega)).1
      obtain ⟨A1, c1, e1, _, _⟩ := own_form hd
      have e2 : done.take (n + 1) = done.take n ++ [done.getD n []] := by rw [List.take_add_one, List.getElem?_eq_getElem (show n < done.length by omega)]; simp [List.getD, List.getElem?_eq_getElem (show n < done.length by omega)]
      have e3 : vs.take (n + 1) = vs.take n ++ [vs.getD n undef] := by rw [List.take_add_one, List.getElem?_eq_getElem (show n < vs.length by omega)]; simp [List.getD, List.getElem?_eq_getElem (show n < vs.length by omega)]
      refine ⟨gs ++ [⟨A1, c1, done.getD n []⟩], by simp [g1], by rw [List.map_append, g2, e2]; rfl, by rw [List.map_append, g3, e3, e1]; rfl, fun i hi => ?_⟩
      by_cases hin : i < n
      · have e : (gs ++ [(⟨A1, c1, done.getD n []⟩ : IR)]).getD i ir0 = gs.getD i ir0 := by simp [List.getD, List.getElem?_append_left (show i < gs.length by omega)]
        rw [e]
        exact g4 i hin
      · obtain rfl : i = n := by omega
        have e : (gs ++ [(⟨A1, c1, done.getD i []⟩ : IR)]).getD i ir0 = ⟨A1, c1, done.getD i []⟩ := by rw [← g1]; simp [List.getD]
        rw [e]
        rw [e1] at hd
        exact Row.of_own hd
  obtain ⟨gs, g1, g2, g3, g4⟩ := key done.length (Nat.le_refl _)
  obtain ⟨A1, c1, e1, _, _⟩ := own_form hv
  rw [List.take_length] at g2
  rw [← hl, List.take_length] at g3
  refine ⟨gs ++ [⟨A1, c1, cur⟩], A, c, by rw [List.map_append, g2]; rfl, by simp [g1], ?_, fun i hi => ?_⟩
  · rw [List.map_append, g3]
    have := Row.of_own hO
    rw [e1] at this
    exact this
  · rw [List.length_append, List.length_cons, List.length_nil] at hi
    by_cases hin : i < done.length
    · have e : (gs ++ [(⟨A1, c1, cur⟩ : IR)]).getD i ir0 = gs.getD i ir0 := by simp [List.getD, List.getElem?_append_left (show i < gs.length by omega)]
      rw [e]
      exact g4 i hin
    · obtain rfl : i = gs.length := by omega
      have e : (gs ++ [(⟨A1, c1, cur⟩ : IR)]).getD gs.length ir0 = ⟨A1, c1, cur⟩ := by simp [List.getD]
      rw [e]
      rw [e1] at hv
      exact Row.of_own hv
theorem gGo_glen (w : List Nat) (W n : Nat) : ∀ (l : List Nat) (done : List (List Nat)) (cur : List Nat) (used : Nat) (gs : List (List Nat)), (∀ g ∈ done, g.length ≤ n) → 1 ≤ cur.length → cur.length + l.length ≤ n → gGo w W l done cur used = some gs → ∀ g ∈ gs, g.length ≤ n
  | [], done, cur, used, gs, hd, h1, h2, h => by
    simp only [gGo, Option.some.injEq] at h
    subst h
    intro g hg
    rcases List.mem_append.1 hg with hg | hg
    · exact hd g hg
    · obtain rfl := List.mem_singleton.1 hg
      simp only [List.length_nil] at h2
      omega
  | i :: l, done, cur, used, gs, hd, h1, h2, h => by
    simp only [List.length_cons] at h2
    simp only [gGo] at h
    split at h
    · cases h
    · split at h
      · refine gGo_glen w W n l _ [0, i] _ gs (fun g hg => ?_) (by simp) (by simp only [List.length_cons, List.length_nil]; omega) h
        rcases List.mem_append.1 hg with hg | hg
        · exact hd g hg
        · obtain rfl := List.mem_singleton.1 hg
          omega
      · exact gGo_glen w W n l done _ _ gs hd (by simp) (by rw [List.length_append, List.length_cons, List.length_nil]; omega) h
theorem groups_glen (w : List Nat) (W : Nat) (gs : List (List Nat)) (hw : 1 ≤ w.length) (h : groupsR w W = some gs) : ∀ g ∈ gs, g.length ≤ w.length := by
  unfold groupsR at h
  split at h
  · cases h
  · exact gGo_glen w W w.length _ [] [0] _ gs (by simp) (by simp) (by rw [List.length_range']; simp; omega) h
/-- a group of columns of some widths -/
structure GrOk (ws g : List Nat) : Prop where
  n : ws.length ≤ 12
  w : ∀ i, i < ws.length → ws.getD i 0 ≤ 120
  ne : 0 < g.length
  len : g.length ≤ 12
  mem : ∀ i ∈ g, i < ws.length
/-- texts that fit into the columns -/
def ColsOk (ws : List Nat) (r : List (List UInt8)) : Prop := ∀ i, i < ws.length → (colT r i).length ≤ 120 ∧ rcT (colT r i) ≤ ws.getD i 0
theorem str_tx (s : ByteArray) : str (s.data.toList) = s := by unfold str; simp
section
variable (Ag Aw A : Option Addr) (cg cw c : Nat) (g ws : List Nat) (gb : Nat) (w : World) (hg : Row w w.heap.size Ag (ints (natI g))) (hw : Row w w.heap.size Aw (ints (natI ws))) (hG : GrOk ws g)
theorem line_len (t : Nat → List UInt8) (ht : ∀ i, i < ws.length → (t i).length ≤ 120) (hG : GrOk ws g) : (lnT ws t g).length ≤ 12 * 242 :=
  Nat.le_trans (lnT_len ws t 120 g fun i hi => ⟨ht i (hG.mem i hi), hG.w i (hG.mem i hi)⟩) (Nat.mul_le_mul hG.len (by omega))
include hg hw hG
theorem line_dash (hc : w.cell? ⟨gb, 0, none⟩ = some (.slice Aw ws.length cw)) :
    Calls Tryd.prog 15 #[.slice Ag g.length cg, .slice Aw ws.length cw, .func (.func 17) #[] #[.pointer (some ⟨gb, 0, none⟩)]] w fun e w' => e = .returned (.string (str (trR (lnT ws (dashT ws) g) ++ [10]))) ∧ Below w.heap.size w w' := by
  have hd : ∀ i, i < ws.length → (dashT ws i).length ≤ 120 := fun i hi => by unfold dashT; rw [List.length_replicate]; exact hG.w i hi
  refine pwrite_any _ _ Ag Aw cg cw g ws (dashT ws) w hg hw hG.ne (by have := hG.len; omega) (by have := hG.n; omega) (fun i hi => ?_) (Nat.le_trans (line_len g ws _ hd hG) (by omega)) (enters_of Tryd.func17 (by kernel_rfl) rfl) fun W i hb hi => ?_
  · have h1 := hG.mem i hi
    have h2 := hG.w i h1
    have h3 := hd i h1
    exact ⟨h1, by omega, dash_rc ws i, by omega⟩
  · have h1 := hG.mem i hi
    exact layDash_any i gb cw Aw ws W (hw.next hb) h1 hG.n (by have := hG.w i h1; omega) ((hb.cell (p := ⟨gb, 0, none⟩) (block_lt_of_cell hc)).trans hc)
theorem line_head (l : List ByteArray) (hr : Row w w.heap.size A (sVs l)) (hl : l.length = ws.length) (hC : ColsOk ws (l.map fun s => s.data.toList)) (hc : w.cell? ⟨gb, 0, none⟩ = some (.slice A l.length c)) :
    Calls Tryd.prog 15 #[.slice Ag g.length cg, .slice Aw ws.length cw, .func (.func 16) #[] #[.pointer (some ⟨gb, 0, none⟩)]] w fun e w' => e = .returned (.string (str (trR (lnT ws (colT (l.map fun s => s.data.toList)) g) ++ [10]))) ∧ Below w.heap.size w w' := by
  refine pwrite_any _ _ Ag Aw cg cw g ws (colT (l.map fun s => s.data.toList)) w hg hw hG.ne (by have := hG.len; omega) (by have := hG.n; omega) (fun i hi => ?_) (Nat.le_trans (line_len g ws _ (fun i hi => (hC i hi).1) hG) (by omega)) (enters_of Tryd.func16 (by kernel_rfl) rfl) fun W i hb hi => ?_
  · have h1 := hG.mem i hi
    have h2 := hG.w i h1
    have h3 := hC i h1
    exact ⟨h1, by omega, h3.2, by omega⟩
  · have h1 := hG.mem i hi
    have h := layHead_any i gb c A l W (hr.next hb) (by omega) (by have := hG.n; omega) ((hb.cell (p := ⟨gb, 0, none⟩) (block_lt_of_cell hc)).trans hc)
    refine h.mono fun e w' ⟨he, hw'⟩ => ⟨?_, hw' ▸ Below.refl _ _⟩
    rw [he, show colT (l.map fun s => s.data.toList) i = (l.getD i ⟨#[]⟩).data.toList from colT_sr ⟨none, 0, l⟩ i (by show i < l.length; omega), str_tx]
theorem line_row (l : List ByteArray) (hr : Row w w.heap.size A (sVs l)) (hl : l.length = ws.length) (hC : ColsOk ws (l.map fun s => s.data.toList)) (hc : w.cell? ⟨gb, 0, none⟩ = some (.slice A l.length c)) :
    Calls Tryd.prog 15 #[.slice Ag g.length cg, .slice Aw ws.length cw, .func (.func 19) #[] #[.pointer (some ⟨gb, 0, none⟩)]] w fun e w' => e = .returned (.string (str (trR (lnT ws (colT (l.map fun s => s.data.toList)) g) ++ [10]))) ∧ Below w.heap.size w w' := by
  refine pwrite_any _ _ Ag Aw cg cw g ws (colT (l.map fun s => s.data.toList)) w hg hw hG.ne (by have := hG.len; omega) (by have := hG.n; omega) (fun i hi => ?_) (Nat.le_trans (line_len g ws _ (fun i hi => (hC i hi).1) hG) (by omega)) (enters_of Tryd.func19 (by kernel_rfl) rfl) fun W i hb hi => ?_
  · have h1 := hG.mem i hi
    have h2 := hG.w i h1
    have h3 := hC i h1
    exact ⟨h1, by omega, h3.2, by omega⟩
  · have h1 := hG.mem i hi
    have h := layRow_any i gb c A l W (hr.next hb) (by omega) (by have := hG.n; omega) ((hb.cell (p := ⟨gb, 0, none⟩) (block_lt_of_cell hc)).trans hc)
    refine h.mono fun e w' ⟨he, hw'⟩ => ⟨?_, hw' ▸ Below.refl _ _⟩
    rw [he, show colT (l.map fun s => s.data.toList) i = (l.getD i ⟨#[]⟩).data.toList from colT_sr ⟨none, 0, l⟩ i (by show i < l.length; omega), str_tx]
end
end Go.Proofs.YtonepibojojcaaaDoor

/- What page.Lay says, plain: widths of a valid table, rows by pages, the text of a page. -/
namespace Go.Proofs.YtonepibojojcaaaDoor
open Go Go.Shelf Go.RowKit Go.Lib
set_option linter.unusedVariables false

def chkc {α : Type} (n : Nat) (r : List α) : List (List α) := chk n r.length r
theorem chk_fuel {α : Type} (n : Nat) (hn : 1 ≤ n) : ∀ (f g : Nat) (r : List α), r.length ≤ f → r.length ≤ g → chk n f r = chk n g r
  | 0, 0, r, _, _ => rfl
  | 0, g + 1, r, h, _ => by
    have : r = [] := List.eq_nil_of_length_eq_zero (by omega)
    subst this
    simp [chk]
  | f + 1, 0, r, _, h => by
    have : r = [] := List.eq_nil_of_length_eq_zero (by omega)
    subst this
    simp [chk]
  | f + 1, g + 1, r, h1, h2 => by
    simp only [chk]
    split
    · rfl
    · rw [chk_fuel n hn f g (r.drop n) (by rw [List.length_drop]; omega) (by rw [List.length_drop]; omega)]
theorem chkc_last {α : Type} (n : Nat) (r : List α) (h : r.length ≤ n) : chkc n r = [r] := by
  unfold chkc
  cases r with
  | nil => simp [chk]
  | cons a r => simp only [List.length_cons, chk]; rw [if_pos (by simpa using h)]
theorem chkc_step {α : Type} (n : Nat) (hn : 1 ≤ n) (r : List α) (h : n < r.length) : chkc n r = r.take n :: chkc n (r.drop n) := by
  unfold chkc
  obtain ⟨f, hf⟩ : ∃ f, r.length = f + 1 := ⟨r.length - 1, by omega⟩
  rw [hf]
  simp only [chk]
  rw [if_neg (by omega), chk_fuel n hn f _ (r.drop n) (by rw [List.length_drop]; omega) (Nat.le_refl _)]
theorem chk_map {α β : Type} (q : α → β) (n : Nat) : ∀ (f : Nat) (r : List α), chk n f (r.map q) = (chk n f r).map (List.map q)
  | 0, r => by simp [chk, List.map_take]
  | f + 1, r => by
    simp only [chk, List.length_map]
    split
    · rfl
    · rw [List.map_cons, ← chk_map q n f (r.drop n), List.map_take, List.map_drop]
theorem chkc_map {α β : Type} (q : α → β) (n : Nat) (r : List α) : chkc n (r.map q) = (chkc n r).map (List.map q) := by
  unfold chkc
  rw [List.length_map, chk_map]
/-- lines, each with its end -/
def nlL (l : List (List UInt8)) : List UInt8 := l.flatMap fun x => x ++ [10]
theorem nlL_snoc (l : List (List UInt8)) (x : List UInt8) : nlL (l ++ [x]) = nlL l ++ (x ++ [10]) := by simp [nlL]
/-- the widths of a table -/
def wsT (t : Tb) : List Nat := widR t.h.l.length ((t.h :: t.rs).map SR.tx)
theorem wsT_len (t : Tb) : (wsT t).length = t.h.l.length := wid_len _ _
theorem TbOk.text {t : Tb} (h : TbOk t) (r : SR) (hr : r ∈ t.h :: t.rs) (i : Nat) (hi : i < t.h.l.length) : r.l.length = t.h.l.length ∧ TxOk (r.l.getD i ⟨#[]⟩) := by
  obtain ⟨q, hq, e⟩ := List.getElem_of_mem hr
  have e' : (t.h :: t.rs).getD q sr0 = r := by rw [List.getD_eq_getElem?_getD, List.getElem?_eq_getElem hq]; exact e
  have hl : r.l.length = t.h.l.length := by
    rcases List.mem_cons.1 hr with rfl | hm
    · rfl
    · obtain ⟨k, hk, e2⟩ := List.getElem_of_mem hm
      have := h.eq k hk
      rw [List.getD_eq_getElem?_getD, List.getElem?_eq_getElem hk] at this
      rw [← e2]; exact this
  refine ⟨hl, ?_⟩
  have := h.tx q (by simpa using hq) i (by rw [e']; omega)
  rwa [e'] at this
theorem TbOk.col {t : Tb} (h : TbOk t) (r : SR) (hr : r ∈ t.h :: t.rs) (i : Nat) (hi : i < t.h.l.length) : colT r.tx i = (r.l.getD i ⟨#[]⟩).data.toList ∧ (colT r.tx i).length ≤ 120 := by
  obtain ⟨h1, h2⟩ := h.text r hr i hi
  have e := colT_sr r i (by omega)
  exact ⟨e, by rw [e]; show (r.l.getD i ⟨#[]⟩).data.toList.length ≤ 120; rw [Array.length_toList]; exact h2.sz⟩
theorem TbOk.cols {t : Tb} (h : TbOk t) (r : SR) (hr : r ∈ t.h :: t.rs) : ColsOk (wsT t) r.tx := fun i hi => by
  rw [wsT_len] at hi
  exact ⟨(h.col r hr i hi).2, wid_fit _ _ r.tx (List.mem_map_of_mem hr) i hi⟩
theorem TbOk.wid {t : Tb} (h : TbOk t) (i : Nat) (hi : i < (wsT t).length) : (wsT t).getD i 0 ≤ 120 := by
  rw [wsT_len] at hi
  unfold wsT
  rw [← wdS_end, wdS_get _ _ _ _ _ hi, if_neg (by omega), List.take_length]
  refine mxC_le _ _ _ fun r hr => ?_
  obtain ⟨x, hx, rfl⟩ := List.mem_map.1 hr
  exact Nat.le_trans (rcT_le _) (h.col x hx i hi).2
theorem TbOk.gr {t : Tb} (h : TbOk t) {wd : Nat} {gs : List (List Nat)} (hg : groupsR (wsT t) wd = some gs) (g : List Nat) (hm : g ∈ gs) : GrOk (wsT t) g := by
  have n1 := h.n1
  have hl := wsT_len t
  refine ⟨by omega, h.wid, ?_, ?_, groups_mem _ _ gs (by omega) hg g hm⟩
  · have := (groups_fit _ _ gs hg g hm).1
    exact List.length_pos_iff.2 this
  · have := groups_glen _ _ gs (by omega) hg g hm
    omega
/-- a page's text, ahead of its foot -/
def pgX (t : Tb) (g : List Nat) (c : List SR) : List UInt8 := nlL (pgL (wsT t) t.h.tx g (c.map SR.tx))
/-- the pages of a table -/
def layP (t : Tb) (gs : List (List Nat)) (n : Nat) : List (List (List UInt8)) := pagesR (wsT t) t.h.tx (t.rs.map SR.tx) gs n
theorem layP_nl (t : Tb) (gs : List (List Nat)) (n : Nat) : (layP t gs n).map nlL = gs.flatMap fun g => (chkc n t.rs).map (pgX t g) := by
  unfold layP pagesR
  rw [List.map_flatMap]
  congr 1
  funext g
  have h := chkc_map SR.tx n t.rs
  unfold chkc at h
  rw [h, List.map_map, List.map_map]
  rfl
/-- the texts of the pages -/
def layB (t : Tb) (gs : List (List Nat)) (n : Nat) : List ByteArray := (List.range (layP t gs n).length).map fun i => str (pgT ((layP t gs n).getD i []) ((i : Int) + 1) ((layP t gs n).length : Int))
theorem layB_len (t : Tb) (gs : List (List Nat)) (n : Nat) : (layB t gs n).length = (layP t gs n).length := by simp [layB]
theorem pgT_nl (p : List (List UInt8)) (i n : Int) : pgT p i n = nlL p ++ (footT i n ++ [10]) := by unfold pgT nlL; simp
/-- a line's length -/
theorem pgL_line {t : Tb} (h : TbOk t) (g : List Nat) (hG : GrOk (wsT t) g) (c : List SR) (hc : ∀ r ∈ c, r ∈ t.rs) : ∀ l ∈ pgL (wsT t) t.h.tx g (c.map SR.tx), l.length ≤ 3000 := by
  have key : ∀ (q : Nat → List UInt8), (∀ i, i < (wsT t).length → (q i).length ≤ 120) → (trR (lnT (wsT t) q g)).length ≤ 3000 := fun q hq => by
    have h1 := line_len g (wsT t) q hq hG
    obtain ⟨k, hk⟩ := trR_eq (lnT (wsT t) q g)
    have h2 := congrArg List.length hk
    rw [List.length_append] at h2
    omega
  intro l hl
  unfold pgL at hl
  rcases List.mem_cons.1 hl with rfl | hl
  · exact key _ fun i hi => (h.cols t.h (List.mem_cons_self ..) i hi).1
  rcases List.mem_cons.1 hl with rfl | hl
  · exact key _ fun i hi => by unfold dashT; rw [List.length_replicate]; exact h.wid i hi
  · rw [List.map_map] at hl
    obtain ⟨r, hr, rfl⟩ := List.mem_map.1 hl
    exact key _ fun i hi => (h.cols r (List.mem_cons_of_mem _ (hc r hr)) i hi).1
theorem nlL_len : ∀ (ls : List (List UInt8)), (∀ l ∈ ls, l.length ≤ 3000) → (nlL ls).length ≤ ls.length * 3001
  | [], _ => by simp [nlL]
  | a :: ls, h => by
    have h1 := h a (List.mem_cons_self ..)
    have h2 := nlL_len ls fun l hl => h l (List.mem_cons_of_mem _ hl)
    unfold nlL at h2 ⊢
    rw [List.flatMap_cons, List.length_append, List.length_append, List.length_cons, List.length_nil, List.length_cons]
    omega
/-- a table that can be laid -/
def LayOk (t : Tb) (wd : Nat) : Prop := TbOk t ∧ ∃ gs, groupsR (wsT t) wd = some gs
def LayQ (t : Tb) (wd ht : Nat) (w : World) (e : Ending) (w' : World) : Prop :=
  Below w.heap.size w w' ∧ ((¬ LayOk t wd ∧ ∃ E : Int, E ≠ 0 ∧ e = .returned (.tuple #[.slice none 0 0, .int .i64 E])) ∨
    (TbOk t ∧ ∃ gs A c, groupsR (wsT t) wd = some gs ∧ e = .returned (.tuple #[.slice A (layB t gs (ht - 3)).length c, .int .i64 0]) ∧ Row w' w'.heap.size A (sVs (layB t gs (ht - 3)))))
end Go.Proofs.YtonepibojojcaaaDoor

/- page.Lay, walked. -/
namespace Go.Proofs.YtonepibojojcaaaDoor
open Go Go.Shelf Go.RowKit Go.Lib
set_option linter.unusedVariables false

def strV (l : List (List UInt8)) : List Value := l.map fun x => Value.string (str x)
theorem strV_one (l : List (List UInt8)) : ∀ u ∈ strV l, u.oneCell' = true := fun u hu => by
  obtain ⟨x, _, rfl⟩ := List.mem_map.1 hu; rfl
/-- the pages of the first groups -/
def pgK (t : Tb) (gs : List IR) (n k : Nat) : List (List UInt8) := (gs.take k).flatMap fun g => (chkc n t.rs).map (pgX t g.l)
theorem pgK_next (t : Tb) (gs : List IR) (n k : Nat) (h : k < gs.length) : pgK t gs n (k + 1) = pgK t gs n k ++ (chkc n t.rs).map (pgX t (gs.getD k ir0).l) := by
  unfold pgK
  rw [List.take_add_one, List.getElem?_eq_getElem h, List.flatMap_append]
  simp [List.getD, List.getElem?_eq_getElem h]
theorem pgK_len (t : Tb) (gs : List IR) (n k : Nat) (h : t.rs.length ≤ 400) : (pgK t gs n k).length ≤ k * 401 := by
  have h2 : (chkc n t.rs).length ≤ 401 := by have := chk_len n t.rs.length t.rs; unfold chkc; omega
  have key : ∀ l : List IR, (l.flatMap fun g => (chkc n t.rs).map (pgX t g.l)).length ≤ l.length * 401 := by
    intro l
    induction l with
    | nil => simp
    | cons a l ih => rw [List.flatMap_cons, List.length_append, List.length_map, List.length_cons]; omega
  have h3 := key (gs.take k)
  have h4 : (gs.take k).length ≤ k := by rw [List.length_take]; omega
  unfold pgK
  exact Nat.le_trans h3 (Nat.mul_le_mul h4 (Nat.le_refl _))
theorem pgK_all (t : Tb) (gs : List IR) (n : Nat) : pgK t gs n gs.length = (layP t (gs.map (·.l)) n).map nlL := by
  rw [layP_nl]
  unfold pgK
  rw [List.take_length, List.flatMap_map]
/-- what is left of a group's pages -/
def pgRest (t : Tb) (g : List Nat) (n : Nat) (fst : Bool) (Q : List SR) : List (List UInt8) := if fst = true ∨ 0 < Q.length then (chkc n Q).map (pgX t g) else []
theorem pgRest_step (t : Tb) (g : List Nat) (n : Nat) (hn : 1 ≤ n) (fst : Bool) (Q : List SR) (h : fst = true ∨ 0 < Q.length) :
    pgRest t g n fst Q = pgX t g (Q.take (min n Q.length)) :: pgRest t g n false (Q.drop (min n Q.length)) := by
  unfold pgRest
  rw [if_pos h]
  by_cases h1 : n < Q.length
  · rw [chkc_step n hn Q h1, Nat.min_eq_left (by omega), if_pos (.inr (by rw [List.length_drop]; omega))]
    rfl
  · rw [chkc_last n Q (by omega), Nat.min_eq_right (by omega), List.take_length, List.drop_length, if_neg (by simp)]
    rfl
theorem pgRest_end (t : Tb) (g : List Nat) (n : Nat) (Q : List SR) (h : Q.length = 0) : pgRest t g n false Q = [] := by
  unfold pgRest
  rw [if_neg (by simp; exact List.eq_nil_of_length_eq_zero h)]
/-- the pages, the first ones with their feet -/
def ftL (P : List (List (List UInt8))) (i : Nat) : List ByteArray := (List.range P.length).map fun j => if j < i then str (pgT (P.getD j []) ((j : Int) + 1) (P.length : Int)) else str (nlL (P.getD j []))
theorem ftL_len (P : List (List (List UInt8))) (i : Nat) : (ftL P i).length = P.length := by simp [ftL]
theorem ftL_get (P : List (List (List UInt8))) (i j : Nat) (h : j < P.length) : (ftL P i).getD j ⟨#[]⟩ = if j < i then str (pgT (P.getD j []) ((j : Int) + 1) (P.length : Int)) else str (nlL (P.getD j [])) := by
  simp [ftL, List.getD, h]
theorem ftL_zero (P : List (List (List UInt8))) : sVs (ftL P 0) = strV (P.map nlL) := by
  unfold sVs ftL strV
  refine List.ext_getElem? fun j => ?_
  by_cases hj : j < P.length
  · simp [List.getD, hj]
  · rw [List.getElem?_eq_none (by simp; omega), List.getElem?_eq_none (by simp; omega)]
theorem ftL_end (P : List (List (List UInt8))) : ftL P P.length = (List.range P.length).map fun i => str (pgT (P.getD i []) ((i : Int) + 1) (P.length : Int)) := by
  unfold ftL
  refine List.map_congr_left fun i hi => ?_
  rw [if_pos (List.mem_range.1 hi)]
theorem ftL_set (P : List (List (List UInt8))) (j : Nat) (h : j < P.length) : (ftL P j).set j (str (pgT (P.getD j []) ((j : Int) + 1) (P.length : Int))) = ftL P (j + 1) := by
  refine List.ext_getElem? fun i => ?_
  by_cases hi : i < P.length
  · rw [List.getElem?_set, ftL_len]
    by_cases e : j = i
    · subst e
      rw [if_pos rfl, if_pos h]
      simp [ftL, h]
    · rw [if_neg e]
      simp only [ftL, List.getElem?_map, List.getElem?_range hi, Option.map_some, Option.some.injEq]
      by_cases h2 : i < j
      · rw [if_pos h2, if_pos (by omega)]
      · rw [if_neg h2, if_neg (by omega)]
  · rw [List.getElem?_eq_none (by rw [List.length_set, ftL_len]; omega), List.getElem?_eq_none (by rw [ftL_len]; omega)]
def lenV : Value → Nat | .slice _ n _ => n | _ => 0
def oneV : Value → Nat | .bool true => 1 | _ => 0
set_option maxHeartbeats 8000000 in
set_option maxRecDepth 100000 in
theorem play_any (t : Tb) (wd ht : Nat) (w : World) (hT : TbIn w w.heap.size t) (hu : U8 w) (hp : Pow w) (h1 : 20 ≤ wd) (h2 : wd ≤ 200) (h3 : 4 ≤ ht) (h4 : ht ≤ 100) :
    Calls Tryd.prog 5 #[t.val, .int .i64 (wd : Int), .int .i64 (ht : Int)] w (LayQ t wd ht w) := by
  have HX := Lib.hid (Box.new w 25 t.cells)
  have HB := Lib.hid (below_alloc1 w (Obj.cells t.cells 25))
  have HT := Lib.hid (hT.next HB.out HB.out.size)
  have HU := Lib.hid (hu.next HB.out)
  have HP := Lib.hid (hp.next HB.out)
  have HC := Lib.hid (fun W (h : TbIn W W.heap.size t) (hu : U8 W) => pcheck_any t W h hu)
  have HIR := Lib.hid (fun W => inRange_yes wd ht W h1 h2 h3 h4)
  have HWd := Lib.hid (fun W (h : TbIn W W.heap.size t) (hok : TbOk t) => pwidths_any t W h hok)
  have hlc : t.h.l.length ≤ t.h.c := hT.h.ln
  have hlm : t.h.c ≤ maxLen := hT.h.cm
  have hrc : t.rs.length ≤ t.c := hT.ln
  have hrm : t.c ≤ maxLen := hT.cm
  unfold maxLen at hlm hrm
  clear hT hu hp
  unfold Tb.val at *
  go_enter Tryd.func5, Tryd.ntmps5
  go_upto_region 1 with fail
  generalize w.alloc (Obj.cells t.cells 25) = W0 at *
  obtain ⟨g, hg⟩ : ∃ g, g = w.heap.size := ⟨_, rfl⟩
  rw [← hg] at HX ⊢
  have hgl : g < W0.heap.size := HX.out.lt
  have x0 : W0.cell? ⟨g, 0, none⟩ = some (.slice t.h.A t.h.l.length t.h.c) := HX.out.cell 0
  have x1 : W0.cell? ⟨g, 1, none⟩ = some (.slice t.A t.rs.length t.c) := HX.out.cell 1
  clear hg
  go_upto_region 2 with (go_at_call 11; refine (HC.out _ HT.out HU.out).mono ?_; rintro e w1 ⟨E, rfl, hE, hb1⟩)
  have HB1 := Lib.hid (below_then HB.out hb1)
  clear HC
  by_cases hE0 : E = 0
  case neg =>
    have t1 : (E != 0) = true := by rw [bne_iff_ne]; exact hE0
    have HNo : Hid (¬ LayOk t wd) := fun h => hE0 (hE.2 h.1)
    have HE0 := Lib.hid hE0
    clear hE hE0 hb1
    go_wp2_with fail
    go_ret2
    exact ⟨HB1.out, .inl ⟨HNo.out, E, HE0.out, rfl⟩⟩
  have hok := hE.1 hE0
  subst hE0
  clear hE
  have HT1 := Lib.hid (HT.out.next hb1 hb1.size)
  have HX1 := Lib.hid (HX.out.below hb1)
  have HP1 := Lib.hid (HP.out.next hb1)
  have HOk := Lib.hid hok
  have y0 : w1.cell? ⟨g, 0, none⟩ = some (.slice t.h.A t.h.l.length t.h.c) := HX1.out.cell 0
  have y1 : w1.cell? ⟨g, 1, none⟩ = some (.slice t.A t.rs.length t.c) := HX1.out.cell 1
  clear hok hb1 x0 x1 HT HX HP HU HB
  go_upto_region 7 with (first
    | (go_at_call 12; refine (HIR.out _).mono ?_; rintro e w2 ⟨rfl, hw2⟩; rw [hw2]; clear hw2)
    | (go_at_call 13; refine (HWd.out _ HT1.out HOk.out).mono ?_; rintro e w2 ⟨gW, rfl, hbx2, hb2⟩; have HB2 := Lib.hid (below_then HB1.out hb2); have HX2 := Lib.hid (HX1.out.below hb2); have HT2 := Lib.hid (HT1.out.next hb2 hb2.size); have HP2 := Lib.hid (HP1.out.next hb2); have HW2 := Lib.hid hbx2; clear hb2 hbx2))
  obtain ⟨g9, hg9⟩ : ∃ g9, g9 = w2.heap.size := ⟨_, rfl⟩
  have hb3 := below_alloc1 w2 (Obj.cells #[.slice (some ⟨gW, 0, none⟩) t.h.l.length t.h.l.length] 38)
  have HX9 := Lib.hid (Box.new w2 38 #[.slice (some ⟨gW, 0, none⟩) t.h.l.length t.h.l.length])
  have HB3 := Lib.hid (below_then HB2.out hb3)
  have HX3 := Lib.hid (HX2.out.below hb3)
  have HT3 := Lib.hid (HT2.out.next hb3 hb3.size)
  have HP3 := Lib.hid (HP2.out.next hb3)
  have HW3 := Lib.hid (HW2.out.below hb3)
  rw [← hg9] at HX9 ⊢
  generalize w2.alloc (Obj.cells #[.slice (some ⟨gW, 0, none⟩) t.h.l.length t.h.l.length] 38) = w3 at *
  have hg93 : g9 < w3.heap.size := HX9.out.lt
  clear hb3 hg9 y0 y1 HB1 HB2 HX1 HX2 HT1 HT2 HP1 HP2 HW2 HWd HIR
  have n1 := HOk.out.n1
  have n2 := HOk.out.n2
  have HGc := Lib.hid (pgroups_any (some ⟨gW, 0, none⟩) t.h.l.length (wsT t) wd w3 (by have := Row.of_box HW3.out; exact this) (by rw [wsT_len]; omega) (by rw [wsT_len]; omega) (fun i hi => by have := HOk.out.wid i hi; omega) (by omega))
  rw [wsT_len] at HGc
  have z9 : w3.cell? ⟨g9, 0, none⟩ = some (.slice (some ⟨gW, 0, none⟩) t.h.l.length t.h.l.length) := HX9.out.cell 0
  go_upto_region 8 with (go_at_call 14; refine HGc.out.mono ?_; rintro e w4 ⟨hb4, hq⟩; rcases hq with ⟨hno, rfl⟩ | ⟨done, cur, vO, hgs, rfl, hS4⟩)
  · have HNo : Hid (¬ LayOk t wd) := fun h => by obtain ⟨gs, hgs⟩ := h.2; rw [hno] at hgs; cases hgs
    have HB4 := Lib.hid (below_then HB3.out hb4)
    clear hno hb4 z9
    go_wp2_with fail
    go_ret2
    exact ⟨HB4.out, .inl ⟨HNo.out, 2, by decide, rfl⟩⟩
  obtain ⟨gs, Ag, cg, hgm, rfl, hgin⟩ := hS4.rows_in
  have HGs : Hid (groupsR (wsT t) wd = some (gs.map (·.l))) := by unfold Hid; rw [hgm]; exact hgs
  have HB4 := Lib.hid (below_then HB3.out hb4)
  have HGi := Lib.hid hgin
  have HX4 := Lib.hid (HX3.out.below hb4)
  have HT4 := Lib.hid (HT3.out.next hb4 hb4.size)
  have HP4 := Lib.hid (HP3.out.next hb4)
  have HW4 := Lib.hid (HW3.out.below hb4)
  have HX94 := Lib.hid (HX9.out.below hb4)
  have hgsl : 1 ≤ gs.length ∧ gs.length ≤ 12 := by
    have e : gs.length = (done ++ [cur]).length := by rw [← hgm, List.length_map]
    have := groups_len (wsT t) wd (done ++ [cur]) (by rw [wsT_len]; omega) hgs
    rw [wsT_len] at this
    rw [List.length_append, List.length_cons, List.length_nil] at e this
    omega
  clear hgs hS4 hgm hgin hb4 z9 HB3 HX3 HT3 HP3 HW3 HX9 HGc hg93
  go_upto_region 12 with fail
  obtain ⟨n, hn⟩ : ∃ n, n = ht - 3 := ⟨_, rfl⟩
  have hn1 : 1 ≤ n := by omega
  have hn97 : n ≤ 97 := by omega
  have HN := Lib.hid hn
  have hnz : ((ht : Int) - 3) = (n : Int) := by omega
  have HLen := Lib.hid (fun k (hk : k ≤ 12) => Nat.le_trans (pgK_len t gs n k n2) (Nat.mul_le_mul hk (Nat.le_refl 401)))
  clear hn n2
  go_loopw [12, 14, 15, 16, 17, 18, 20, 43, 71, 72, 73] (fun s12 _ _ _ _ _ _ i _ _ _ wr => ∃ k : Nat, k ≤ gs.length ∧ i = .int .i64 (k : Int) ∧ Hid (wr.ownsRow w4.heap.size 9 1 s12 (pgK t gs n k).length (strV (pgK t gs n k))) ∧ Hid (Below w4.heap.size w4 wr)) (fun _ _ _ _ _ _ _ i _ _ _ _ => gs.length - (intOf i).toNat)
  case atStart => exact ⟨0, by omega, rfl, World.ownsRow_nil _ _ _ _, Below.refl _ _⟩
  case round =>
    obtain ⟨k, hk, rfl, ho, hbr⟩ := hrel
    rename World => w5
    by_cases hlt : k < gs.length
    · obtain ⟨bG, oG, hA, hbl, hcs⟩ := HGi.out.row.open_ (fun e => by rw [List.map_eq_nil_iff.1 e] at hlt; simp at hlt)
      have c1 := (hbr.out.cell (p := ⟨bG, oG + k, none⟩) hbl).trans (hcs k _ (irV_get gs k hlt))
      have hgr := HGi.out.each k hlt
      clear hcs
      subst hA
      obtain ⟨⟨Ak, ck, gk⟩, hr⟩ : ∃ r, r = gs.getD k ir0 := ⟨_, rfl⟩
      rw [← hr] at c1 hgr
      replace c1 : w5.cell? ⟨bG, oG + k, none⟩ = some (.slice Ak gk.length ck) := c1
      have HGr : Hid (Row w4 w4.heap.size Ak (ints (natI gk))) := hgr
      have HNx : Hid (pgK t gs n (k + 1) = pgK t gs n k ++ (chkc n t.rs).map (pgX t gk)) := by
        have := pgK_next t gs n k hlt
        rw [← hr] at this
        exact this
      have HGo : Hid (GrOk (wsT t) gk) := HOk.out.gr HGs.out gk (List.mem_map.2 ⟨gs.getD k ir0, by rw [List.getD_eq_getElem?_getD, List.getElem?_eq_getElem hlt]; exact List.getElem_mem hlt, by rw [← hr]⟩)
      clear hr hgr
      have t5 : decide ((k : Int) < (gs.length : Int)) = true := decide_eq_true (by omega)
      have x1 : w5.cell? ⟨g, 1, none⟩ = some (.slice t.A t.rs.length t.c) := (HX4.out.belowB hbr.out HX4.out.lt).cell 1
      go_upto_region 16 with fail
      clear c1 x1 t5
      have HRw4 : Hid (Row w4 w4.heap.size t.A (t.rs.map srV)) := HT4.out.row
      go_loopw [12, 15, 16, 17, 18, 20, 71, 72, 73] (fun s12 s15 s16 _ _ _ _ _ _ wr => ∃ (Q : List SR) (fst : Bool) (acc : List (List UInt8)) (A2 : Option Addr) (c2 : Nat), s15 = .slice A2 Q.length c2 ∧ s16 = .bool fst ∧ Q.length ≤ 400 ∧ Q.length ≤ c2 ∧ c2 ≤ 9223372036854775807 ∧ Hid (Row w4 w4.heap.size A2 (Q.map srV)) ∧ Hid (∀ r ∈ Q, r ∈ t.rs) ∧ Hid ((chkc n t.rs).map (pgX t gk) = acc ++ pgRest t gk n fst Q) ∧ Hid (wr.ownsRow w4.heap.size 9 1 s12 (pgK t gs n k ++ acc).length (strV (pgK t gs n k ++ acc))) ∧ Hid (Below w4.heap.size w4 wr)) (fun _ s15 s16 _ _ _ _ _ _ _ => lenV s15 + oneV s16)
      case atStart => exact ⟨t.rs, true, [], t.A, t.c, rfl, rfl, HOk.out.n2, hrc, hrm, HRw4, fun r hr => hr, by unfold Hid pgRest; rw [if_pos (.inl rfl), List.nil_append], by rw [List.append_nil]; exact ho, hbr⟩
      case round =>
        clear ho hbr
        obtain ⟨Q, fst, acc, A2, c2, rfl, rfl, hQ4, hQc, hc2, hrow, hmem, htot, ho, hbr⟩ := hrel
        rename World => w6
        by_cases hgo : fst = true ∨ 0 < Q.length
        case neg =>
          have hf : fst = false := by cases fst with | true => exact absurd (.inl rfl) hgo | false => rfl
          have hq0 : Q.length = 0 := by
            have : ¬ 0 < Q.length := fun h => hgo (.inr h)
            omega
          subst hf
          have HK : Hid (w6.ownsRow w4.heap.size 9 1 u12 (pgK t gs n (k + 1)).length (strV (pgK t gs n (k + 1)))) := by
            have h := ho.out
            have e := htot.out
            rw [pgRest_end t gk n Q hq0, List.append_nil] at e
            rw [← e, ← HNx.out] at h
            exact h
          have t6 : decide (0 < Q.length) = false := decide_eq_false (by omega)
          have t6' : decide ((Q.length : Int) > 0) = false := decide_eq_false (by omega)
          clear hgo htot ho hq0
          go_wp2_with fail
          go_roundw
          case rel => exact ⟨k + 1, by omega, by go_num, HK, hbr⟩
          case measure => simp [intOf]; omega
        have hst := pgRest_step t gk n hn1 fst Q hgo
        obtain ⟨m, hm⟩ : ∃ m, m = min n Q.length := ⟨_, rfl⟩
        rw [← hm] at hst
        have hmz : min (n : Int) (Q.length : Int) = (m : Int) := by omega
        have hmQ : m ≤ Q.length := by omega
        have hm97 : m ≤ 97 := by omega
        have hmpos : Hid (m = 0 → Q.length = 0) := fun h => by omega
        obtain ⟨acc2, hacc⟩ : ∃ acc2, acc2 = acc ++ [pgX t gk (Q.take m)] := ⟨_, rfl⟩
        have HTot : Hid ((chkc n t.rs).map (pgX t gk) = acc2 ++ pgRest t gk n false (Q.drop m)) := by
          unfold Hid
          rw [htot.out, hst, hacc, List.append_assoc]
          rfl
        have HAcc := Lib.hid hacc
        clear hst hm htot hacc
        have hxl : ∀ W, Below w6.heap.size w6 W → W.cell? ⟨g9, 0, none⟩ = some (.slice (some ⟨gW, 0, none⟩) t.h.l.length t.h.l.length) := fun W hb => (HX94.out.belowB (hbr.out.trans (hb.mono hbr.out.size)) HX94.out.lt).cell 0
        have t6 : fst = false → decide (0 < Q.length) = true := fun h => decide_eq_true (by rcases hgo with h' | h'; rw [h] at h'; cases h'; exact h')
        have HL1 := Lib.hid (fun W (h : Below w4.heap.size w4 W) => line_head Ak (some ⟨gW, 0, none⟩) t.h.A ck t.h.l.length t.h.c gk (wsT t) g W ((HGr.out.below h).more h.size) (by have := Row.of_box HW4.out; exact (this.below h).more h.size) HGo.out t.h.l ((HT4.out.h.row.below h).more h.size) (wsT_len t).symm (HOk.out.cols t.h (List.mem_cons_self ..)) ((HX4.out.below h).cell 0))
        have HL2 := Lib.hid (fun W (h : Below w4.heap.size w4 W) => line_dash Ak (some ⟨gW, 0, none⟩) ck t.h.l.length gk (wsT t) g9 W ((HGr.out.below h).more h.size) (by have := Row.of_box HW4.out; exact (this.below h).more h.size) HGo.out (by rw [wsT_len]; exact (HX94.out.below h).cell 0))
        rw [wsT_len] at HL1 HL2
        have HS1 : Hid ((trR (lnT (wsT t) (colT (t.h.l.map fun s : ByteArray => s.data.toList)) gk) ++ [10]).length ≤ 400000) := by
          have := pgL_line HOk.out gk HGo.out [] (fun r hr => by cases hr) (trR (lnT (wsT t) (colT (t.h.l.map fun s : ByteArray => s.data.toList)) gk)) (List.mem_cons_self ..)
          unfold Hid
          rw [List.length_append, List.length_cons, List.length_nil]
          omega
        have HS2 : Hid ((trR (lnT (wsT t) (dashT (wsT t)) gk) ++ [10]).length ≤ 400000) := by
          have := pgL_line HOk.out gk HGo.out [] (fun r hr => by cases hr) (trR (lnT (wsT t) (dashT (wsT t)) gk)) (List.mem_cons_of_mem _ (List.mem_cons_self ..))
          unfold Hid
          rw [List.length_append, List.length_cons, List.length_nil]
          omega
        have HS3 : Hid (str (trR (lnT (wsT t) (colT (t.h.l.map fun s : ByteArray => s.data.toList)) gk) ++ [10] ++ (trR (lnT (wsT t) (dashT (wsT t)) gk) ++ [10])) = str (nlL (pgL (wsT t) t.h.tx gk ((Q.take 0).map SR.tx)))) := by
          unfold Hid pgL nlL SR.tx
          simp
        have HSz : Hid (∀ q, q ≤ m → (str (nlL (pgL (wsT t) t.h.tx gk ((Q.take q).map SR.tx)))).size ≤ 400000) := fun q hq => by
          rw [str_size]
          refine Nat.le_trans (nlL_len _ (pgL_line HOk.out gk HGo.out (Q.take q) fun r hr => hmem.out r (List.mem_of_mem_take hr))) ?_
          unfold pgL
          simp only [List.length_cons, List.length_map, List.length_take]
          omega
        cases fst
        case false =>
          have t7 := t6 rfl
          have t7' : decide ((Q.length : Int) > 0) = true := decide_eq_true (by have := of_decide_eq_true t7; omega)
          go_upto_region 19 with fail
          clear t6
          refine flow_begin (tellOf [(3, det (.string (str (trR (lnT (wsT t) (colT (t.h.l.map fun s : ByteArray => s.data.toList)) gk) ++ [10])))), (7, det (.string (str (trR (lnT (wsT t) (dashT (wsT t)) gk) ++ [10]))))]) (by kernel_rfl) (by kernel_rfl) ?_
          have HA := Lib.hid hbr.out
          have k0 : (str (trR (lnT (wsT t) (colT (t.h.l.map fun s : ByteArray => s.data.toList)) gk) ++ [10])).size ≤ 400000 := by rw [str_size]; exact HS1.out
          have k1 : (str (trR (lnT (wsT t) (dashT (wsT t)) gk) ++ [10])).size ≤ 400000 := by rw [str_size]; exact HS2.out
          repeat (first | (refine flow_val (v := ?_) (by rfl) (by rfl) (fun w hb => ?_) ?_; rotate_left; (· ((go_simp) <;> ((repeat' apply And.intro) <;> with_reducible rfl))); try simp only [Act.put, List.setIfInBounds_toArray, List.set_cons_zero, List.set_cons_succ, Nat.reduceAdd]) | (refine flow_skip (by rfl) (by rfl) ?_; try simp only [Act.put, List.setIfInBounds_toArray, List.set_cons_zero, List.set_cons_succ, Nat.reduceAdd]))
          refine flow_call (f := ?_) (args := ?_) [] (by kernel_rfl) (by rfl) (by rfl) (fun w hb => ?_) (fun w hb hu => ?_) ?_; rotate_left 2; (· ((go_simp) <;> ((repeat' apply And.intro) <;> with_reducible rfl)))
          · exact HL1.out w (HA.out.trans (hb.mono HA.out.size))
          try simp only [Act.put, List.setIfInBounds_toArray, List.set_cons_zero, List.set_cons_succ, Nat.reduceAdd]
          repeat (first | (refine flow_val (v := ?_) (by rfl) (by rfl) (fun w hb => ?_) ?_; rotate_left; (· ((go_simp) <;> ((repeat' apply And.intro) <;> with_reducible rfl))); try simp only [Act.put, List.setIfInBounds_toArray, List.set_cons_zero, List.set_cons_succ, Nat.reduceAdd]) | (refine flow_skip (by rfl) (by rfl) ?_; try simp only [Act.put, List.setIfInBounds_toArray, List.set_cons_zero, List.set_cons_succ, Nat.reduceAdd]))
          refine flow_call (f := ?_) (args := ?_) [] (by kernel_rfl) (by rfl) (by rfl) (fun w hb => ?_) (fun w hb hu => ?_) ?_; rotate_left 2; (· ((go_simp) <;> ((repeat' apply And.intro) <;> with_reducible rfl)))
          · exact HL2.out w (HA.out.trans (hb.mono HA.out.size))
          try simp only [Act.put, List.setIfInBounds_toArray, List.set_cons_zero, List.set_cons_succ, Nat.reduceAdd]
          repeat (first | (refine flow_val (v := ?_) (by rfl) (by rfl) (fun w hb => ?_) ?_; rotate_left; (· ((go_simp) <;> ((repeat' apply And.intro) <;> with_reducible rfl))); try simp only [Act.put, List.setIfInBounds_toArray, List.set_cons_zero, List.set_cons_succ, Nat.reduceAdd]) | (refine flow_val (v := ?_) (by rfl) (by rfl) (fun w hb => ?_) ?_; rotate_left; (· (go_simp; (refine (if_neg ?_).trans ?_); (· omega); (· with_reducible rfl))); try simp only [Act.put, List.setIfInBounds_toArray, List.set_cons_zero, List.set_cons_succ, Nat.reduceAdd]) | (refine flow_skip (by rfl) (by rfl) ?_; try simp only [Act.put, List.setIfInBounds_toArray, List.set_cons_zero, List.set_cons_succ, Nat.reduceAdd]))
          refine flow_nil fun w7 hb7 _ => ?_
          rw [str_append, HS3.out]
          obtain ⟨S0, hS0⟩ : ∃ S0, S0 = str (nlL (pgL (wsT t) t.h.tx gk ((Q.take 0).map SR.tx))) := ⟨_, rfl⟩
          rw [← hS0]
          have HS0 := Lib.hid hS0
          clear hS0
          have HB7 := Lib.hid (hbr.out.trans (hb7.mono hbr.out.size))
          have ho7 := own_next ho.out hb7
          have HO7 := Lib.hid ho7
          clear hxl k0 k1 hb7 ho7 ho hbr HA
          go_wp2_with fail
          go_loopw [18, 20, 73] (fun s18 _ i wr => ∃ q : Nat, q ≤ m ∧ i = .int .i64 (q : Int) ∧ s18 = .string (str (nlL (pgL (wsT t) t.h.tx gk ((Q.take q).map SR.tx)))) ∧ Hid (Below w7.heap.size w7 wr)) (fun _ _ i _ => m - (intOf i).toNat)
          case atStart => exact ⟨0, by omega, rfl, by rw [HS0.out], Below.refl _ _⟩
          case round =>
            obtain ⟨q, hq, rfl, rfl, hbi⟩ := hrel
            rename World => w8
            have HB8 := Lib.hid (HB7.out.trans (hbi.out.mono HB7.out.size))
            have hz8 : (str (nlL (pgL (wsT t) t.h.tx gk ((Q.take q).map SR.tx)))).size ≤ 400000 := HSz.out q (by omega)
            by_cases hqm : q < m
            · obtain ⟨b2, o2, hA2, hb2, hc2⟩ := hrow.out.open_ (srV_ne _ (by omega))
              have d0 := (HB8.out.cell (p := ⟨b2, o2 + q, none⟩) hb2).trans (hc2 q _ (srV_get Q q (by omega)))
              clear hc2
              subst hA2
              have hqQ : q < Q.length := by omega
              have hrm := hmem.out _ (getD_sr hqQ)
              have htk : Q.take (q + 1) = Q.take q ++ [Q.getD q sr0] := by rw [List.take_add_one, List.getElem?_eq_getElem hqQ]; simp [List.getD, List.getElem?_eq_getElem hqQ]
              obtain ⟨⟨Ar, cr, lr⟩, hr⟩ : ∃ r, r = Q.getD q sr0 := ⟨_, rfl⟩
              rw [← hr] at d0 hrm htk
              replace d0 : w8.cell? ⟨b2, o2 + q, none⟩ = some (.slice Ar lr.length cr) := d0
              have HRr := Lib.hid (HT4.out.rs _ hrm)
              have HRl : Hid (lr.length = t.h.l.length) := by
                obtain ⟨z, hz, e⟩ := List.getElem_of_mem hrm
                have h := HOk.out.eq z hz
                rw [List.getD_eq_getElem?_getD, List.getElem?_eq_getElem hz, Option.getD_some, e] at h
                exact h
              have HCo : Hid (ColsOk (wsT t) (lr.map fun s : ByteArray => s.data.toList)) := HOk.out.cols ⟨Ar, cr, lr⟩ (List.mem_cons_of_mem _ hrm)
              have r1 : lr.length ≤ cr := HRr.out.ln
              have r2 : cr ≤ maxLen := HRr.out.cm
              unfold maxLen at r2
              have HLn : Hid (str (nlL (pgL (wsT t) t.h.tx gk ((Q.take q).map SR.tx))) ++ str (trR (lnT (wsT t) (colT (lr.map fun s : ByteArray => s.data.toList)) gk) ++ [10]) = str (nlL (pgL (wsT t) t.h.tx gk ((Q.take (q + 1)).map SR.tx)))) := by
                unfold Hid
                rw [str_append, htk]
                congr 1
                unfold pgL
                rw [List.map_append, List.map_append]
                have e : ∀ (a b : List UInt8) (l : List (List UInt8)) (x : List UInt8), nlL (a :: b :: (l ++ [x])) = nlL (a :: b :: l) ++ (x ++ [10]) := fun a b l x => nlL_snoc (a :: b :: l) x
                exact (e _ _ _ _).symm
              have hzl : (str (trR (lnT (wsT t) (colT (lr.map fun s : ByteArray => s.data.toList)) gk) ++ [10])).size ≤ 400000 := by
                have := pgL_line HOk.out gk HGo.out [⟨Ar, cr, lr⟩] (fun r hr => by rw [List.mem_singleton.1 hr]; exact hrm) (trR (lnT (wsT t) (colT (lr.map fun s : ByteArray => s.data.toList)) gk)) (List.mem_cons_of_mem _ (List.mem_cons_of_mem _ (List.mem_cons_self ..)))
                rw [str_size, List.length_append, List.length_cons, List.length_nil]
                omega
              have t8 : decide ((q : Int) < (m : Int)) = true := decide_eq_true (by omega)
              clear hrm htk hr
              generalize str (nlL (pgL (wsT t) t.h.tx gk ((Q.take q).map SR.tx))) = S8 at *
              go_upto_region 23 with fail
              obtain ⟨gr, hgr⟩ : ∃ gr, gr = w8.heap.size := ⟨_, rfl⟩
              have hb9 := below_alloc1 w8 (Obj.cells #[.slice Ar lr.length cr] 22)
              have HX9 := Lib.hid (Box.new w8 22 #[.slice Ar lr.length cr])
              have HB9 := Lib.hid (below_then hbi.out hb9)
              have HB49 := Lib.hid (HB7.out.trans (HB9.out.mono HB7.out.size))
              rw [← hgr] at HX9 ⊢
              generalize w8.alloc (Obj.cells #[.slice Ar lr.length cr] 22) = w9 at *
              clear hgr hb9 d0 hbi
              have c9 : w9.cell? ⟨g9, 0, none⟩ = some (.slice (some ⟨gW, 0, none⟩) t.h.l.length t.h.l.length) := (HX94.out.belowB HB49.out HX94.out.lt).cell 0
              have HL3 := Lib.hid (line_row Ak (some ⟨gW, 0, none⟩) Ar ck t.h.l.length cr gk (wsT t) gr w9 ((HGr.out.below HB49.out).more HB49.out.size) (by have := Row.of_box HW4.out; exact (this.below HB49.out).more HB49.out.size) HGo.out lr ((HRr.out.row.below HB49.out).more HB49.out.size) (by rw [wsT_len]; exact HRl.out) HCo.out (HX9.out.cell 0))
              rw [wsT_len] at HL3
              generalize str (trR (lnT (wsT t) (colT (lr.map fun s : ByteArray => s.data.toList)) gk) ++ [10]) = sl at *
              go_wp2_with (go_at_call 15; refine HL3.out.mono ?_; rintro e w10 ⟨rfl, hb10⟩; have HB10 := Lib.hid (below_then HB9.out hb10); clear hb10)
              rw [HLn.out]
              clear c9
              go_roundw
              case rel => exact ⟨q + 1, by omega, by go_num, rfl, HB10⟩
              case measure => simp [intOf]; omega
            have t8 : decide ((q : Int) < (m : Int)) = false := decide_eq_false (by omega)
            have hqe : q = m := by omega
            have HPg : Hid (str (nlL (pgL (wsT t) t.h.tx gk ((Q.take q).map SR.tx))) = str (pgX t gk (Q.take m))) := by unfold Hid; rw [hqe]; rfl
            rw [HPg.out] at hz8 ⊢
            have HO8 := Lib.hid (own_next HO7.out hbi.out)
            have t9 : (m : Int) ≤ (Q.length : Int) := by omega
            obtain ⟨A3, hA3⟩ : ∃ A3, A3 = (if c2 = m then A2 else Option.map (fun x => x.add m) A2) := ⟨_, rfl⟩
            have HRow3 : Hid (Row w4 w4.heap.size A3 ((Q.drop m).map srV)) := by
              by_cases hml : m < Q.length
              · obtain ⟨b2, o2, hA2, hb2, hc2'⟩ := hrow.out.open_ (srV_ne _ (by omega))
                refine .inr ⟨b2, o2 + m, ?_, hb2, fun j v hv => ?_⟩
                · rw [hA3, if_neg (by omega), hA2, Option.map_some, addPlain]
                · rw [List.map_drop, List.getElem?_drop] at hv
                  rw [Nat.add_assoc]
                  exact hc2' _ _ hv
              · left
                rw [List.drop_eq_nil_of_le (by omega)]
                rfl
            have HM3 : Hid (∀ r ∈ Q.drop m, r ∈ t.rs) := fun r hr => hmem.out r (List.mem_of_mem_drop hr)
            have HDl : Hid ((Q.drop m).length = Q.length - m) := List.length_drop
            have HAl : Hid (acc2.length ≤ 401) := by
              have h1 := congrArg List.length HTot.out
              rw [List.length_append, List.length_map] at h1
              have h2 := chk_len n t.rs.length t.rs
              have h3 := HOk.out.n2
              unfold chkc at h1
              unfold Hid
              omega
            have HPl : Hid ((pgK t gs n k).length ≤ 5000) := Nat.le_trans (HLen.out k (by omega)) (by omega)
            have hacl : Hid (acc.length ≤ 401) := by
              have h1 := HAl.out
              rw [HAcc.out, List.length_append] at h1
              unfold Hid
              omega
            generalize hS : str (pgX t gk (Q.take m)) = S8 at *
            have HS8 := Lib.hid hS
            clear hqe hS
            go_upto_region 26 with fail
            rw [← hA3]
            have hr1 := Row.of_box (Box.new w8 9 #[.string S8])
            have hsz1 : (w8.alloc (Obj.cells #[.string S8] 9)).heap.size = w8.heap.size + 1 := World.size_alloc ..
            have hsz4 : w4.heap.size ≤ w8.heap.size := HB8.out.size
            obtain ⟨v', w9, a1, a2, a3, _⟩ := append_cells (ty := 22) (c2 := 1) (l1 := strV (pgK t gs n k ++ acc)) (l2 := [.string S8]) Tryd.underlying22 infoStr1 (by rfl) (by omega) (by have := own_next HO8.out (below_alloc1 w8 (Obj.cells #[.string S8] 9)); rw [show (strV (pgK t gs n k ++ acc)).length = (pgK t gs n k ++ acc).length from List.length_map ..]; exact this) hr1 (fun u hu => by simp at hu; subst hu; rfl) (by rw [show (strV (pgK t gs n k ++ acc)).length = (pgK t gs n k ++ acc).length from List.length_map .., List.length_append]; have := HPl.out; have := hacl.out; omega) (by simp) (by rw [hsz1]; omega)
            have ha1 : (Builtin.append_ #[22, 22] 22 #[u12, .slice (some ⟨w8.heap.size, 0, none⟩) 1 1]).run Tryd.prog (w8.alloc (Obj.cells #[.string S8] 9)) = .ok v' w9 := a1
            have HO9 : Hid (w9.ownsRow w4.heap.size 9 1 v' (pgK t gs n k ++ acc2).length (strV (pgK t gs n k ++ acc2))) := by
              have e : strV (pgK t gs n k ++ acc2) = strV (pgK t gs n k ++ acc) ++ [.string S8] := by rw [HAcc.out, ← HS8.out]; simp [strV]
              have e2 : (pgK t gs n k ++ acc2).length = (strV (pgK t gs n k ++ acc) ++ [Value.string S8]).length := by rw [← e]; simp [strV]
              unfold Hid
              rw [e, e2]
              exact a2
            have HB9 : Hid (Below w4.heap.size w4 w9) := (HB8.out.alloc (by omega) _).grown a3 (by rw [hsz1]; omega) (fun k hk => own_base HO8.out k hk)
            clear a1 a2 a3 hr1 hsz1 hA3
            go_wp2_with (at_builtin; refine wpList_append_any rfl (.tmp 87) (.tmp 89) 22 22 rfl _ _ _ rfl rfl ha1 ?_)
            go_roundw
            case rel => exact ⟨Q.drop m, false, acc2, A3, c2 - m, by rw [HDl.out], rfl, by rw [HDl.out]; omega, by rw [HDl.out]; omega, by omega, HRow3, HM3, HTot, HO9, HB9⟩
            case measure =>
              have hz1 := hmpos.out
              simp only [lenV, oneV]
              first | omega | (have hz2 := of_decide_eq_true t7; have hz3 : m ≠ 0 := (fun e => by have := hz1 e; omega); omega)
        case true =>
          go_upto_region 19 with fail
          clear t6
          refine flow_begin (tellOf [(3, det (.string (str (trR (lnT (wsT t) (colT (t.h.l.map fun s : ByteArray => s.data.toList)) gk) ++ [10])))), (7, det (.string (str (trR (lnT (wsT t) (dashT (wsT t)) gk) ++ [10]))))]) (by kernel_rfl) (by kernel_rfl) ?_
          have HA := Lib.hid hbr.out
          have k0 : (str (trR (lnT (wsT t) (colT (t.h.l.map fun s : ByteArray => s.data.toList)) gk) ++ [10])).size ≤ 400000 := by rw [str_size]; exact HS1.out
          have k1 : (str (trR (lnT (wsT t) (dashT (wsT t)) gk) ++ [10])).size ≤ 400000 := by rw [str_size]; exact HS2.out
          repeat (first | (refine flow_val (v := ?_) (by rfl) (by rfl) (fun w hb => ?_) ?_; rotate_left; (· ((go_simp) <;> ((repeat' apply And.intro) <;> with_reducible rfl))); try simp only [Act.put, List.setIfInBounds_toArray, List.set_cons_zero, List.set_cons_succ, Nat.reduceAdd]) | (refine flow_skip (by rfl) (by rfl) ?_; try simp only [Act.put, List.setIfInBounds_toArray, List.set_cons_zero, List.set_cons_succ, Nat.reduceAdd]))
          refine flow_call (f := ?_) (args := ?_) [] (by kernel_rfl) (by rfl) (by rfl) (fun w hb => ?_) (fun w hb hu => ?_) ?_; rotate_left 2; (· ((go_simp) <;> ((repeat' apply And.intro) <;> with_reducible rfl)))
          · exact HL1.out w (HA.out.trans (hb.mono HA.out.size))
          try simp only [Act.put, List.setIfInBounds_toArray, List.set_cons_zero, List.set_cons_succ, Nat.reduceAdd]
          repeat (first | (refine flow_val (v := ?_) (by rfl) (by rfl) (fun w hb => ?_) ?_; rotate_left; (· ((go_simp) <;> ((repeat' apply And.intro) <;> with_reducible rfl))); try simp only [Act.put, List.setIfInBounds_toArray, List.set_cons_zero, List.set_cons_succ, Nat.reduceAdd]) | (refine flow_skip (by rfl) (by rfl) ?_; try simp only [Act.put, List.setIfInBounds_toArray, List.set_cons_zero, List.set_cons_succ, Nat.reduceAdd]))
          refine flow_call (f := ?_) (args := ?_) [] (by kernel_rfl) (by rfl) (by rfl) (fun w hb => ?_) (fun w hb hu => ?_) ?_; rotate_left 2; (· ((go_simp) <;> ((repeat' apply And.intro) <;> with_reducible rfl)))
          · exact HL2.out w (HA.out.trans (hb.mono HA.out.size))
          try simp only [Act.put, List.setIfInBounds_toArray, List.set_cons_zero, List.set_cons_succ, Nat.reduceAdd]
          repeat (first | (refine flow_val (v := ?_) (by rfl) (by rfl) (fun w hb => ?_) ?_; rotate_left; (· ((go_simp) <;> ((repeat' apply And.intro) <;> with_reducible rfl))); try simp only [Act.put, List.setIfInBounds_toArray, List.set_cons_zero, List.set_cons_succ, Nat.reduceAdd]) | (refine flow_val (v := ?_) (by rfl) (by rfl) (fun w hb => ?_) ?_; rotate_left; (· (go_simp; (refine (if_neg ?_).trans ?_); (· omega); (· with_reducible rfl))); try simp only [Act.put, List.setIfInBounds_toArray, List.set_cons_zero, List.set_cons_succ, Nat.reduceAdd]) | (refine flow_skip (by rfl) (by rfl) ?_; try simp only [Act.put, List.setIfInBounds_toArray, List.set_cons_zero, List.set_cons_succ, Nat.reduceAdd]))
          refine flow_nil fun w7 hb7 _ => ?_
          rw [str_append, HS3.out]
          obtain ⟨S0, hS0⟩ : ∃ S0, S0 = str (nlL (pgL (wsT t) t.h.tx gk ((Q.take 0).map SR.tx))) := ⟨_, rfl⟩
          rw [← hS0]
          have HS0 := Lib.hid hS0
          clear hS0
          have HB7 := Lib.hid (hbr.out.trans (hb7.mono hbr.out.size))
          have ho7 := own_next ho.out hb7
          have HO7 := Lib.hid ho7
          clear hxl k0 k1 hb7 ho7 ho hbr HA
          go_wp2_with fail
          go_loopw [18, 20, 73] (fun s18 _ i wr => ∃ q : Nat, q ≤ m ∧ i = .int .i64 (q : Int) ∧ s18 = .string (str (nlL (pgL (wsT t) t.h.tx gk ((Q.take q).map SR.tx)))) ∧ Hid (Below w7.heap.size w7 wr)) (fun _ _ i _ => m - (intOf i).toNat)
          case atStart => exact ⟨0, by omega, rfl, by rw [HS0.out], Below.refl _ _⟩
          case round =>
            obtain ⟨q, hq, rfl, rfl, hbi⟩ := hrel
            rename World => w8
            have HB8 := Lib.hid (HB7.out.trans (hbi.out.mono HB7.out.size))
            have hz8 : (str (nlL (pgL (wsT t) t.h.tx gk ((Q.take q).map SR.tx)))).size ≤ 400000 := HSz.out q (by omega)
            by_cases hqm : q < m
            · obtain ⟨b2, o2, hA2, hb2, hc2⟩ := hrow.out.open_ (srV_ne _ (by omega))
              have d0 := (HB8.out.cell (p := ⟨b2, o2 + q, none⟩) hb2).trans (hc2 q _ (srV_get Q q (by omega)))
              clear hc2
              subst hA2
              have hqQ : q < Q.length := by omega
              have hrm := hmem.out _ (getD_sr hqQ)
              have htk : Q.take (q + 1) = Q.take q ++ [Q.getD q sr0] := by rw [List.take_add_one, List.getElem?_eq_getElem hqQ]; simp [List.getD, List.getElem?_eq_getElem hqQ]
              obtain ⟨⟨Ar, cr, lr⟩, hr⟩ : ∃ r, r = Q.getD q sr0 := ⟨_, rfl⟩
              rw [← hr] at d0 hrm htk
              replace d0 : w8.cell? ⟨b2, o2 + q, none⟩ = some (.slice Ar lr.length cr) := d0
              have HRr := Lib.hid (HT4.out.rs _ hrm)
              have HRl : Hid (lr.length = t.h.l.length) := by
                obtain ⟨z, hz, e⟩ := List.getElem_of_mem hrm
                have h := HOk.out.eq z hz
                rw [List.getD_eq_getElem?_getD, List.getElem?_eq_getElem hz, Option.getD_some, e] at h
                exact h
              have HCo : Hid (ColsOk (wsT t) (lr.map fun s : ByteArray => s.data.toList)) := HOk.out.cols ⟨Ar, cr, lr⟩ (List.mem_cons_of_mem _ hrm)
              have r1 : lr.length ≤ cr := HRr.out.ln
              have r2 : cr ≤ maxLen := HRr.out.cm
              unfold maxLen at r2
              have HLn : Hid (str (nlL (pgL (wsT t) t.h.tx gk ((Q.take q).map SR.tx))) ++ str (trR (lnT (wsT t) (colT (lr.map fun s : ByteArray => s.data.toList)) gk) ++ [10]) = str (nlL (pgL (wsT t) t.h.tx gk ((Q.take (q + 1)).map SR.tx)))) := by
                unfold Hid
                rw [str_append, htk]
                congr 1
                unfold pgL
                rw [List.map_append, List.map_append]
                have e : ∀ (a b : List UInt8) (l : List (List UInt8)) (x : List UInt8), nlL (a :: b :: (l ++ [x])) = nlL (a :: b :: l) ++ (x ++ [10]) := fun a b l x => nlL_snoc (a :: b :: l) x
                exact (e _ _ _ _).symm
              have hzl : (str (trR (lnT (wsT t) (colT (lr.map fun s : ByteArray => s.data.toList)) gk) ++ [10])).size ≤ 400000 := by
                have := pgL_line HOk.out gk HGo.out [⟨Ar, cr, lr⟩] (fun r hr => by rw [List.mem_singleton.1 hr]; exact hrm) (trR (lnT (wsT t) (colT (lr.map fun s : ByteArray => s.data.toList)) gk)) (List.mem_cons_of_mem _ (List.mem_cons_of_mem _ (List.mem_cons_self ..)))
                rw [str_size, List.length_append, List.length_cons, List.length_nil]
                omega
              have t8 : decide ((q : Int) < (m : Int)) = true := decide_eq_true (by omega)
              clear hrm htk hr
              generalize str (nlL (pgL (wsT t) t.h.tx gk ((Q.take q).map SR.tx))) = S8 at *
              go_upto_region 23 with fail
              obtain ⟨gr, hgr⟩ : ∃ gr, gr = w8.heap.size := ⟨_, rfl⟩
              have hb9 := below_alloc1 w8 (Obj.cells #[.slice Ar lr.length cr] 22)
              have HX9 := Lib.hid (Box.new w8 22 #[.slice Ar lr.length cr])
              have HB9 := Lib.hid (below_then hbi.out hb9)
              have HB49 := Lib.hid (HB7.out.trans (HB9.out.mono HB7.out.size))
              rw [← hgr] at HX9 ⊢
              generalize w8.alloc (Obj.cells #[.slice Ar lr.length cr] 22) = w9 at *
              clear hgr hb9 d0 hbi
              have c9 : w9.cell? ⟨g9, 0, none⟩ = some (.slice (some ⟨gW, 0, none⟩) t.h.l.length t.h.l.length) := (HX94.out.belowB HB49.out HX94.out.lt).cell 0
              have HL3 := Lib.hid (line_row Ak (some ⟨gW, 0, none⟩) Ar ck t.h.l.length cr gk (wsT t) gr w9 ((HGr.out.below HB49.out).more HB49.out.size) (by have := Row.of_box HW4.out; exact (this.below HB49.out).more HB49.out.size) HGo.out lr ((HRr.out.row.below HB49.out).more HB49.out.size) (by rw [wsT_len]; exact HRl.out) HCo.out (HX9.out.cell 0))
              rw [wsT_len] at HL3
              generalize str (trR (lnT (wsT t) (colT (lr.map fun s : ByteArray => s.data.toList)) gk) ++ [10]) = sl at *
              go_wp2_with (go_at_call 15; refine HL3.out.mono ?_; rintro e w10 ⟨rfl, hb10⟩; have HB10 := Lib.hid (below_then HB9.out hb10); clear hb10)
              rw [HLn.out]
              clear c9
              go_roundw
              case rel => exact ⟨q + 1, by omega, by go_num, rfl, HB10⟩
              case measure => simp [intOf]; omega
            have t8 : decide ((q : Int) < (m : Int)) = false := decide_eq_false (by omega)
            have hqe : q = m := by omega
            have HPg : Hid (str (nlL (pgL (wsT t) t.h.tx gk ((Q.take q).map SR.tx))) = str (pgX t gk (Q.take m))) := by unfold Hid; rw [hqe]; rfl
            rw [HPg.out] at hz8 ⊢
            have HO8 := Lib.hid (own_next HO7.out hbi.out)
            have t9 : (m : Int) ≤ (Q.length : Int) := by omega
            obtain ⟨A3, hA3⟩ : ∃ A3, A3 = (if c2 = m then A2 else Option.map (fun x => x.add m) A2) := ⟨_, rfl⟩
            have HRow3 : Hid (Row w4 w4.heap.size A3 ((Q.drop m).map srV)) := by
              by_cases hml : m < Q.length
              · obtain ⟨b2, o2, hA2, hb2, hc2'⟩ := hrow.out.open_ (srV_ne _ (by omega))
                refine .inr ⟨b2, o2 + m, ?_, hb2, fun j v hv => ?_⟩
                · rw [hA3, if_neg (by omega), hA2, Option.map_some, addPlain]
                · rw [List.map_drop, List.getElem?_drop] at hv
                  rw [Nat.add_assoc]
                  exact hc2' _ _ hv
              · left
                rw [List.drop_eq_nil_of_le (by omega)]
                rfl
            have HM3 : Hid (∀ r ∈ Q.drop m, r ∈ t.rs) := fun r hr => hmem.out r (List.mem_of_mem_drop hr)
            have HDl : Hid ((Q.drop m).length = Q.length - m) := List.length_drop
            have HAl : Hid (acc2.length ≤ 401) := by
              have h1 := congrArg List.length HTot.out
              rw [List.length_append, List.length_map] at h1
              have h2 := chk_len n t.rs.length t.rs
              have h3 := HOk.out.n2
              unfold chkc at h1
              unfold Hid
              omega
            have HPl : Hid ((pgK t gs n k).length ≤ 5000) := Nat.le_trans (HLen.out k (by omega)) (by omega)
            have hacl : Hid (acc.length ≤ 401) := by
              have h1 := HAl.out
              rw [HAcc.out, List.length_append] at h1
              unfold Hid
              omega
            generalize hS : str (pgX t gk (Q.take m)) = S8 at *
            have HS8 := Lib.hid hS
            clear hqe hS
            go_upto_region 26 with fail
            rw [← hA3]
            have hr1 := Row.of_box (Box.new w8 9 #[.string S8])
            have hsz1 : (w8.alloc (Obj.cells #[.string S8] 9)).heap.size = w8.heap.size + 1 := World.size_alloc ..
            have hsz4 : w4.heap.size ≤ w8.heap.size := HB8.out.size
            obtain ⟨v', w9, a1, a2, a3, _⟩ := append_cells (ty := 22) (c2 := 1) (l1 := strV (pgK t gs n k ++ acc)) (l2 := [.string S8]) Tryd.underlying22 infoStr1 (by rfl) (by omega) (by have := own_next HO8.out (below_alloc1 w8 (Obj.cells #[.string S8] 9)); rw [show (strV (pgK t gs n k ++ acc)).length = (pgK t gs n k ++ acc).length from List.length_map ..]; exact this) hr1 (fun u hu => by simp at hu; subst hu; rfl) (by rw [show (strV (pgK t gs n k ++ acc)).length = (pgK t gs n k ++ acc).length from List.length_map .., List.length_append]; have := HPl.out; have := hacl.out; omega) (by simp) (by rw [hsz1]; omega)
            have ha1 : (Builtin.append_ #[22, 22] 22 #[u12, .slice (some ⟨w8.heap.size, 0, none⟩) 1 1]).run Tryd.prog (w8.alloc (Obj.cells #[.string S8] 9)) = .ok v' w9 := a1
            have HO9 : Hid (w9.ownsRow w4.heap.size 9 1 v' (pgK t gs n k ++ acc2).length (strV (pgK t gs n k ++ acc2))) := by
              have e : strV (pgK t gs n k ++ acc2) = strV (pgK t gs n k ++ acc) ++ [.string S8] := by rw [HAcc.out, ← HS8.out]; simp [strV]
              have e2 : (pgK t gs n k ++ acc2).length = (strV (pgK t gs n k ++ acc) ++ [Value.string S8]).length := by rw [← e]; simp [strV]
              unfold Hid
              rw [e, e2]
              exact a2
            have HB9 : Hid (Below w4.heap.size w4 w9) := (HB8.out.alloc (by omega) _).grown a3 (by rw [hsz1]; omega) (fun k hk => own_base HO8.out k hk)
            clear a1 a2 a3 hr1 hsz1 hA3
            go_wp2_with (at_builtin; refine wpList_append_any rfl (.tmp 87) (.tmp 89) 22 22 rfl _ _ _ rfl rfl ha1 ?_)
            go_roundw
            case rel => exact ⟨Q.drop m, false, acc2, A3, c2 - m, by rw [HDl.out], rfl, by rw [HDl.out]; omega, by rw [HDl.out]; omega, by omega, HRow3, HM3, HTot, HO9, HB9⟩
            case measure =>
              have hz1 := hmpos.out
              simp only [lenV, oneV]
              first | omega | (have hz2 := of_decide_eq_true t7; have hz3 : m ≠ 0 := (fun e => by have := hz1 e; omega); omega)
    · have t5 : decide ((k : Int) < (gs.length : Int)) = false := decide_eq_false (by omega)
      have hke : k = gs.length := by omega
      obtain ⟨P, hP⟩ : ∃ P, P = layP t (gs.map (·.l)) n := ⟨_, rfl⟩
      have hpk : pgK t gs n k = P.map nlL := by rw [hke, pgK_all, hP]
      have hPl : P.length ≤ 4812 := by
        have h := HLen.out k (by omega)
        rw [hpk, List.length_map] at h
        omega
      have hP1 : 1 ≤ P.length := by
        have h : (pgK t gs n 1).length ≤ (pgK t gs n k).length := by
          rw [hke]
          unfold pgK
          rw [List.take_length, List.take_one]
          cases hgs : gs with
          | nil => rw [hgs] at hgsl; simp at hgsl
          | cons a l => simp
        have h2 : 1 ≤ (pgK t gs n 1).length := by
          have h3 := pgK_next t gs n 0 (by omega)
          rw [Nat.zero_add] at h3
          rw [h3, List.length_append, List.length_map]
          have : 1 ≤ (chkc n t.rs).length := by
            by_cases hx : t.rs.length ≤ n
            · rw [chkc_last n _ hx]; simp
            · rw [chkc_step n hn1 _ (by omega)]; simp
          omega
        rw [hpk, List.length_map] at h
        omega
      have hsz : ∀ i, i < P.length → (nlL (P.getD i [])).length ≤ 400000 := fun i hi => by
        have hm : P.getD i [] ∈ P := by rw [List.getD_eq_getElem?_getD, List.getElem?_eq_getElem hi]; exact List.getElem_mem hi
        generalize P.getD i [] = pI at hm ⊢
        rw [hP] at hm
        unfold layP pagesR at hm
        obtain ⟨gI, hg, hm⟩ := List.mem_flatMap.1 hm
        obtain ⟨c, hc, e⟩ := List.mem_map.1 hm
        have hc1 := chk_map SR.tx n t.rs.length t.rs
        rw [List.length_map, hc1] at hc
        obtain ⟨c', hc', rfl⟩ := List.mem_map.1 hc
        obtain ⟨q1, q2⟩ := chk_mem n _ t.rs c' hc'
        rw [← e]
        refine Nat.le_trans (nlL_len _ (pgL_line HOk.out gI (HOk.out.gr HGs.out gI hg) c' q2)) ?_
        unfold pgL
        simp only [List.length_cons, List.length_map]
        omega
      have hown := ho.out
      rw [hpk, List.length_map] at hown
      have hform := Go.Joins.ownsRow_form hown (by omega)
      obtain ⟨gO, cO, rfl⟩ := hform
      have HO5 : Hid (w5.ownsRow w4.heap.size 9 1 (.slice (some ⟨gO, 0, none⟩) P.length cO) P.length (sVs (ftL P 0))) := by
        unfold Hid
        rw [ftL_zero]
        exact hown
      have HP := Lib.hid hP
      have HSz := Lib.hid hsz
      have HP5 := Lib.hid (HP4.out.next hbr.out)
      obtain ⟨A9, c9, e9, q9, q9'⟩ := own_form hown
      have e9' : cO = c9 := by injection e9
      rw [← e9'] at q9 q9'
      unfold maxLen at q9'
      clear e9 e9'
      clear hown hP hpk hsz ho hke
      go_wp2_with fail
      go_loopw [21, 94] (fun _ i wr => ∃ j : Nat, j ≤ P.length ∧ i = .int .i64 (j : Int) ∧ Hid (wr.ownsRow w4.heap.size 9 1 (.slice (some ⟨gO, 0, none⟩) P.length cO) P.length (sVs (ftL P j))) ∧ Hid (Below w4.heap.size w4 wr)) (fun _ i _ => P.length - (intOf i).toNat)
      case atStart => exact ⟨0, by omega, rfl, HO5, hbr⟩
      case round =>
        clear HO5 HP5 hbr t5 hlt
        obtain ⟨j, hj, rfl, ho, hbr⟩ := hrel
        rename World => w6
        by_cases hlt : j < P.length
        · have t6 : decide ((j : Int) < (P.length : Int)) = true := decide_eq_true (by omega)
          have hcl : ∀ W, Below w6.heap.size w6 W → W.cell? ⟨gO, j, none⟩ = some (.string (str (nlL (P.getD j [])))) := fun W hb => by
            have h := (own_next ho.out hb).cellAt j (by omega)
            rw [h, sVs_get _ j (by rw [ftL_len]; exact hlt), ftL_get P j j hlt, if_neg (by omega)]
          have hfz : ∀ W, Below w6.heap.size w6 W → W.frozen? ⟨gO, j, none⟩ = false := fun W hb => by
            rcases (own_next ho.out hb).2 with ⟨h', _⟩ | ⟨g', cap', cur', h', hb', hg', _⟩
            · simp at h'
            · simp only [Value.slice.injEq, Option.some.injEq, Addr.mk.injEq, and_true, true_and] at h'
              obtain ⟨rfl, rfl⟩ := h'
              exact Box.free hg' _
          have hgO : w4.heap.size ≤ gO := own_base ho.out gO rfl
          have hs1 := HSz.out j hlt
          have HI1 := Lib.hid (fun W (h : Below w4.heap.size w4 W) => itoa_any ((j : Int) + 1) W (by omega) (by omega) (HP4.out.next h))
          have HI2 := Lib.hid (fun W (h : Below w4.heap.size w4 W) => itoa_any (P.length : Int) W (by omega) (by omega) (HP4.out.next h))
          have hl1 := itoa_size ((j : Int) + 1) (by omega) (by omega)
          have hl2 := itoa_size (P.length : Int) (by omega) (by omega)
          have hres : str (nlL (P.getD j [])) ++ (⟨#[112, 97, 103, 101, 32]⟩ ++ str (itoa ((j : Int) + 1)) ++ ⟨#[32, 111, 102, 32]⟩ ++ str (itoa (P.length : Int)) ++ ⟨#[10]⟩) = str (pgT (P.getD j []) ((j : Int) + 1) (P.length : Int)) := by
            show str (nlL (P.getD j [])) ++ (str [112, 97, 103, 101, 32] ++ str (itoa ((j : Int) + 1)) ++ str [32, 111, 102, 32] ++ str (itoa (P.length : Int)) ++ str [10]) = _
            simp only [str_append]
            rw [pgT_nl]
            unfold footT
            simp only [List.append_assoc]
          have HRes := Lib.hid hres
          have HSet := Lib.hid (ftL_set P j hlt)
          have z1 : (str (nlL (P.getD j []))).size ≤ 400000 := by rw [str_size]; exact hs1
          have e1 : IntKind.i64.wrap ((j : Int) + 1) = (j : Int) + 1 := intFits _ (by omega) (by omega)
          generalize str (itoa ((j : Int) + 1)) = I1 at *
          generalize str (itoa (P.length : Int)) = I2 at *
          generalize str (nlL (P.getD j [])) = S1 at *
          generalize str (pgT (P.getD j []) ((j : Int) + 1) (P.length : Int)) = S2 at *
          clear hres hs1
          have c0 : (⟨#[112, 97, 103, 101, 32]⟩ : ByteArray).size = 5 := rfl
          have c1 : (⟨#[32, 111, 102, 32]⟩ : ByteArray).size = 4 := rfl
          have c2 : (⟨#[10]⟩ : ByteArray).size = 1 := rfl
          have y1 : (⟨#[112, 97, 103, 101, 32]⟩ ++ I1 : ByteArray).size ≤ 30 := by rw [ByteArray.size_append]; omega
          have y2 : (⟨#[112, 97, 103, 101, 32]⟩ ++ I1 ++ ⟨#[32, 111, 102, 32]⟩ : ByteArray).size ≤ 40 := by rw [ByteArray.size_append]; omega
          have y3 : (⟨#[112, 97, 103, 101, 32]⟩ ++ I1 ++ ⟨#[32, 111, 102, 32]⟩ ++ I2 : ByteArray).size ≤ 70 := by rw [ByteArray.size_append]; omega
          have y4 : (⟨#[112, 97, 103, 101, 32]⟩ ++ I1 ++ ⟨#[32, 111, 102, 32]⟩ ++ I2 ++ ⟨#[10]⟩ : ByteArray).size ≤ 80 := by rw [ByteArray.size_append]; omega
          have jz : (j : Int) < (P.length : Int) := by omega
          have jz0 : (0 : Int) ≤ (j : Int) := by omega
          have HA := Lib.hid hbr.out
          go_upto_region 31 with fail
          refine flow_begin_tail 16 (tellOf [(6, det (.string I1)), (11, det (.string I2))]) (by kernel_rfl) (by kernel_rfl) ?_
          simp only [List.take_succ_cons, List.take_zero, List.drop_succ_cons, List.drop_zero]
          repeat (first | (refine flow_val (v := ?_) (by rfl) (by rfl) (fun w hb => ?_) ?_; rotate_left; (· ((go_simp) <;> ((repeat' apply And.intro) <;> with_reducible rfl))); try simp only [Act.put, List.setIfInBounds_toArray, List.set_cons_zero, List.set_cons_succ, Nat.reduceAdd]) | (refine flow_val (v := ?_) (by rfl) (by rfl) (fun w hb => ?_) ?_; rotate_left; (· (go_simp; (refine (if_neg ?_).trans ?_); (· omega); (· with_reducible rfl))); try simp only [Act.put, List.setIfInBounds_toArray, List.set_cons_zero, List.set_cons_succ, Nat.reduceAdd]) | (refine flow_skip (by rfl) (by rfl) ?_; try simp only [Act.put, List.setIfInBounds_toArray, List.set_cons_zero, List.set_cons_succ, Nat.reduceAdd]))
          refine flow_call (f := ?_) (args := ?_) [] (by kernel_rfl) (by rfl) (by rfl) (fun w hb => ?_) (fun w hb hu => ?_) ?_; rotate_left 2; (· ((go_simp) <;> ((repeat' apply And.intro) <;> with_reducible rfl)))
          · exact HI1.out w (HA.out.trans (hb.mono HA.out.size))
          try simp only [Act.put, List.setIfInBounds_toArray, List.set_cons_zero, List.set_cons_succ, Nat.reduceAdd]
          repeat (first | (refine flow_val (v := ?_) (by rfl) (by rfl) (fun w hb => ?_) ?_; rotate_left; (· ((go_simp) <;> ((repeat' apply And.intro) <;> with_reducible rfl))); try simp only [Act.put, List.setIfInBounds_toArray, List.set_cons_zero, List.set_cons_succ, Nat.reduceAdd]) | (refine flow_val (v := ?_) (by rfl) (by rfl) (fun w hb => ?_) ?_; rotate_left; (· (go_simp; (refine (if_neg ?_).trans ?_); (· omega); (· with_reducible rfl))); try simp only [Act.put, List.setIfInBounds_toArray, List.set_cons_zero, List.set_cons_succ, Nat.reduceAdd]) | (refine flow_skip (by rfl) (by rfl) ?_; try simp only [Act.put, List.setIfInBounds_toArray, List.set_cons_zero, List.set_cons_succ, Nat.reduceAdd]))
          refine flow_call (f := ?_) (args := ?_) [] (by kernel_rfl) (by rfl) (by rfl) (fun w hb => ?_) (fun w hb hu => ?_) ?_; rotate_left 2; (· ((go_simp) <;> ((repeat' apply And.intro) <;> with_reducible rfl)))
          · exact HI2.out w (HA.out.trans (hb.mono HA.out.size))
          try simp only [Act.put, List.setIfInBounds_toArray, List.set_cons_zero, List.set_cons_succ, Nat.reduceAdd]
          repeat (first | (refine flow_val (v := ?_) (by rfl) (by rfl) (fun w hb => ?_) ?_; rotate_left; (· ((go_simp) <;> ((repeat' apply And.intro) <;> with_reducible rfl))); try simp only [Act.put, List.setIfInBounds_toArray, List.set_cons_zero, List.set_cons_succ, Nat.reduceAdd]) | (refine flow_val (v := ?_) (by rfl) (by rfl) (fun w hb => ?_) ?_; rotate_left; (· (go_simp; (refine (if_neg ?_).trans ?_); (· omega); (· with_reducible rfl))); try simp only [Act.put, List.setIfInBounds_toArray, List.set_cons_zero, List.set_cons_succ, Nat.reduceAdd]) | (refine flow_skip (by rfl) (by rfl) ?_; try simp only [Act.put, List.setIfInBounds_toArray, List.set_cons_zero, List.set_cons_succ, Nat.reduceAdd]))
          refine flow_nil fun w7 hb7 _ => ?_
          have hc7 := hcl w7 hb7
          have hf7 := hfz w7 hb7
          rw [HRes.out]
          have ho7 := own_setAt (own_next ho.out hb7) j (.string S2)
          have HO7 : Hid ((w7.setCell ⟨gO, j, none⟩ (.string S2)).ownsRow w4.heap.size 9 1 (.slice (some ⟨gO, 0, none⟩) P.length cO) P.length (sVs (ftL P (j + 1)))) := by
            have e : (sVs (ftL P j)).set j (.string S2) = sVs (ftL P (j + 1)) := by rw [← HSet.out]; simp [sVs]
            rw [e] at ho7
            exact ho7
          have HB7 := Lib.hid ((HA.out.trans (hb7.mono HA.out.size)).setCell (p := ⟨gO, j, none⟩) hgO (.string S2))
          clear hcl hfz hb7 ho7 ho hbr HA y1 y2 y3 y4 c0 c1 c2 z1 hl1 hl2 e1
          refine wpList_step fun K hK => ?_
          rw [if_pos (by rfl)]
          go_simp
          refine hK _ _ (wpList_nil ?_)
          clear hK K hc7 hf7
          generalize w7.setCell ⟨gO, j, none⟩ (.string S2) = w8 at *
          go_wp2_with fail
          go_roundw
          case rel => exact ⟨j + 1, by omega, by go_num, HO7, HB7⟩
          case measure => simp [intOf]; omega
        · have t6 : decide ((j : Int) < (P.length : Int)) = false := decide_eq_false (by omega)
          have HFin : Hid (LayQ t wd ht w (.returned (.tuple #[.slice (some ⟨gO, 0, none⟩) P.length cO, .int .i64 0])) w6) := by
            refine ⟨below_then HB4.out hbr.out, .inr ⟨HOk.out, gs.map (·.l), some ⟨gO, 0, none⟩, cO, HGs.out, ?_, ?_⟩⟩
            · rw [layB_len, ← HN.out, ← HP.out]
            · have h := ho.out
              rw [show j = P.length by omega, ftL_end P] at h
              have h2 := Row.of_own h
              unfold layB
              rw [← HN.out, ← HP.out]
              exact h2
          clear ho hbr
          go_wp2_with fail
          go_ret2
          exact HFin.out
end Go.Proofs.YtonepibojojcaaaDoor
