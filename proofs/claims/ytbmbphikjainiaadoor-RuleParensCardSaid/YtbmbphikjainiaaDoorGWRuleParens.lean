/- WRuleParens -/
import Derived.Test.YtbmbphikjainiaaDoorGParen1
import Derived.Test.YtbmbphikjainiaaDoorGTreeArg
import Derived.Test.YtbmbphikjainiaaDoorGLine1
/- The walk of RuleParens: it returns true at every input; it writes nothing that was there. -/
namespace Go.Proofs.YtbmbphikjainiaaDoor.ruleParens
open Go.RowKit
set_option linter.unusedVariables false

/-- the first rule -/
def t0 : Tr := ⟨⟨#[97]⟩, 1, 1, 1, 0, none, 0, [], [⟨⟨#[98]⟩, 5, 5⟩], none, 0⟩
theorem nm_ok (b : UInt8) (hb : b = 97 ∨ b = 98) : NameOk ⟨#[b]⟩ := by
  refine ⟨by show 1 ≤ 1; omega, by show 1 ≤ 12; omega, ?_, ?_, ?_, ?_, fun k hk => ?_⟩
  · rw [Lib.toList_data]; rcases hb with rfl | rfl <;> decide
  · rw [Lib.toList_data]; rcases hb with rfl | rfl <;> decide
  · rw [Lib.toList_data]; rcases hb with rfl | rfl <;> decide
  · rw [Lib.toList_data]; rcases hb with rfl | rfl <;> decide
  · have : k = 0 := by
      have : (⟨#[b]⟩ : ByteArray).size = 1 := rfl
      omega
    subst this
    show 97 ≤ b.toNat ∧ b.toNat ≤ 122
    rcases hb with rfl | rfl <;> decide
theorem t0_ok : TrOk t0 where
  hd := ⟨nm_ok 97 (.inl rfl), by decide, by decide, by decide⟩
  ex := ⟨.mk ⟨by decide, by decide, by decide, by decide, by decide⟩ (fun x hx => by cases hx), by decide, by decide⟩
  mo := ⟨by decide, by decide, fun i hi => by
    obtain rfl : i = 0 := by simp [t0] at hi; exact hi
    exact ⟨nm_ok 98 (.inr rfl), by rfl, by decide, by decide⟩, by decide, by decide⟩
theorem t0_text : str ((RTq t0).rest 0) = ⟨#[99, 97, 108, 101, 110, 100, 97, 114, 32, 97, 10, 101, 112, 111, 99, 104, 32, 49, 10, 99, 121, 99, 108, 101, 32, 49, 10, 108, 101, 97, 112, 32, 32, 40, 32, 48, 32, 41, 10, 109, 111, 110, 116, 104, 32, 98, 32, 53, 10]⟩ := by decide +kernel
theorem t0_len : ((RTq t0).rest 0).length ≤ 4000 := by decide +kernel


set_option maxHeartbeats 1000000 in
set_option maxRecDepth 100000 in
theorem core (t : Tr) (y : Int) (hy0 : -9223372036854775808 ≤ y) (hy1 : y ≤ 9223372036854775807) (w : World) (hz : TrIn w t) (hf : TrFit t) (hs : Sgs w) (hv : Lvs w) (hp : Pow w) (hsh : Shp w) :
    Calls Tryd.prog 4 #[t.val, .int .i64 y] w fun e w' => e = .returned (.bool true) ∧ Below w.heap.size w w' := by
  have HB0 := Lib.hid (below_alloc1 w (Obj.cells t.cells 27))
  have HX0 := Lib.hid (Box.new w 27 t.cells)
  have H0 := Lib.hid (parse_parenq t0 t0_ok t0_len (w.alloc (Obj.cells t.cells 27)) (hs.next HB0.out) (hv.next HB0.out) (hsh.next HB0.out))
  rw [t0_text] at H0
  have HZ := Lib.hid (fun W (hW : Below w.heap.size w W) => hz.next hW)
  have HP := Lib.hid (fun W (hW : Below w.heap.size w W) => hp.next hW)
  have HS := Lib.hid (fun W (hW : Below w.heap.size w W) => hsh.next hW)
  have HG1 := Lib.hid (fun W (hW : Below w.heap.size w W) => hs.next hW)
  have HG2 := Lib.hid (fun W (hW : Below w.heap.size w W) => hv.next hW)
  have HF := Lib.hid hf
  clear hz hp hsh hs hv hf
  unfold Tr.val Tr.cells at *
  go_enter Tryd.func4, Tryd.ntmps4
  go_wp2_with fail
  generalize hg : w.heap.size = g at *
  have HG := Lib.hid hg
  clear hg
  refine H0.out.mono ?_
  rintro e w1 ⟨u, rfl, hu, _, _, hb⟩
  have hun : u.k = 1 := hu.ex.kd
  have HX1 := Lib.hid (HX0.out.below hb)
  have HB1 := Lib.hid (show Below g w w1 from HB0.out.trans (hb.mono (by have := HX0.out.lt; omega)))
  clear hb H0 HX0 HB0 hu
  obtain ⟨un, u1, u2, u3, u4, u5, u6, u7, u8, u9, u10⟩ := u
  simp only at hun
  subst hun
  unfold Tr.val Tr.cells
  simp only
  have HX2 := Lib.hid (HX1.out.alloc (Obj.cells #[.string un, .int .i64 u1, .int .i64 u2, .int .i64 1, .int .i64 u4, .slice u5 u7.length u6, .slice u9 u8.length u10] 27))
  have HY2 := Lib.hid (Box.new w1 27 #[.string un, .int .i64 u1, .int .i64 u2, .int .i64 1, .int .i64 u4, .slice u5 u7.length u6, .slice u9 u8.length u10])
  have HB2 := Lib.hid (HB1.out.alloc (by have := HX1.out.lt; omega) (Obj.cells #[.string un, .int .i64 u1, .int .i64 u2, .int .i64 1, .int .i64 u4, .slice u5 u7.length u6, .slice u9 u8.length u10] 27))
  go_upto_region 2 with fail
  generalize w1.alloc (Obj.cells #[.string un, .int .i64 u1, .int .i64 u2, .int .i64 1, .int .i64 u4, .slice u5 u7.length u6, .slice u9 u8.length u10] 27) = W2 at *
  generalize w1.heap.size = g1 at *
  have y3 : W2.cell? ⟨g1, 3, none⟩ = some (.int .i64 1) := HY2.out.cell 3
  have x0 : W2.cell? ⟨g, 0, none⟩ = some (.string t.nm) := HX2.out.cell 0
  have x1 : W2.cell? ⟨g, 1, none⟩ = some (.int .i64 t.ep) := HX2.out.cell 1
  have x2 : W2.cell? ⟨g, 2, none⟩ = some (.int .i64 t.cy) := HX2.out.cell 2
  have x3 : W2.cell? ⟨g, 3, none⟩ = some (.int .i64 t.k) := HX2.out.cell 3
  have x4 : W2.cell? ⟨g, 4, none⟩ = some (.int .i64 t.n) := HX2.out.cell 4
  have x5 : W2.cell? ⟨g, 5, none⟩ = some (.slice t.A t.ks.length t.c) := HX2.out.cell 5
  have x6 : W2.cell? ⟨g, 6, none⟩ = some (.slice t.A1 t.mo.length t.c1) := HX2.out.cell 6
  have yl := HY2.out.lt
  have hgl : g ≤ W2.heap.size := by have := HX2.out.lt; omega
  have HX2' := Lib.hid HX2.out
  clear HX1 HB1 HY2 HX2
  by_cases hok : TrOk t
  case neg =>
    have HN : Hid (Calls Tryd.prog 6 #[.agg #[.string t.nm, .int .i64 t.ep, .int .i64 t.cy, .int .i64 t.k, .int .i64 t.n, .slice t.A t.ks.length t.c, .slice t.A1 t.mo.length t.c1]] W2 (PriNo W2)) := rprint_no t W2 (HZ.out _ HB2.out) HF.out hok
    clear hok
    go_wp2_with fail
    refine HN.out.mono ?_
    rintro e w3 ⟨E, hE, rfl, hb⟩
    have t1 : (E != 0) = true := by rw [bne_iff_ne]; exact hE
    have HB3 := Lib.hid (HB2.out.trans (hb.mono hgl))
    clear hb HN
    go_wp2_with fail
    go_ret
    exact ⟨rfl, by rw [HG.out]; exact HB3.out⟩
  case pos =>
    have HPR : Hid (Calls Tryd.prog 6 #[.agg #[.string t.nm, .int .i64 t.ep, .int .i64 t.cy, .int .i64 t.k, .int .i64 t.n, .slice t.A t.ks.length t.c, .slice t.A1 t.mo.length t.c1]] W2 (fun e w' => e = .returned (.tuple #[.string (str (printR t)), .int .i64 0]) ∧ Below W2.heap.size W2 w')) := rprint_yes t W2 (HZ.out _ HB2.out) HF.out hok (HG1.out _ HB2.out) (HG2.out _ HB2.out) (HP.out _ HB2.out)
    have HSN : Hid ((printR t).length ≤ 3000 → ∀ W, Below g w W → Calls Tryd.prog 7 #[.string (str (printR t)), .string ⟨#[10]⟩, .int .i64 5] W fun e w' => e = .returned (.slice (some ⟨W.heap.size, 0, none⟩) 5 5) ∧ w' = W.alloc (.cells (fiveC (RTof t)) 9)) := fun hl W hW => by
      rw [printR_rest] at hl ⊢
      exact splitn_rule (RTof t) (rtok hok) hl W (HS.out _ hW)
    have HRP : Hid (∀ W, Below g w W → Calls Tryd.prog 8 #[.string (str ([108, 101, 97, 112, 32] ++ shB t.ex)), .string ⟨#[108, 101, 97, 112, 32]⟩, .string ⟨#[108, 101, 97, 112, 32, 32, 32, 40, 32]⟩, .int .i64 1] W fun e w' => e = .returned (.string (str ([108, 101, 97, 112, 32, 32, 32, 40, 32] ++ shB t.ex))) ∧ Below W.heap.size W w') := fun W hW => replace_rule (shB t.ex) (by have := shB_len hok.ex.1; have := hok.ex.2; omega) W (HS.out _ hW)
    have hlen4 : (printR t).length ≤ 3000 → ((RTp t).rest 0).length ≤ 4000 := fun hl => by
      rw [printR_rest] at hl
      have := rtp_len t
      omega
    have HJN : Hid ((printR t).length ≤ 3000 → ∀ (gx : Nat) (W : World), Box W gx 9 #[.string (str ((RTof t).line 0)), .string (str ((RTof t).line 1)), .string (str ((RTof t).line 2)), .string (str ((RTp t).line 3)), .string (str ((RTof t).rest 4))] → Calls Tryd.prog 9 #[.slice (some ⟨gx, 0, none⟩) 5 5, .string ⟨#[10]⟩] W fun e w' => e = .returned (.string (str ((RTp t).rest 0))) ∧ Below W.heap.size W w') := fun hl gx W hx => join_five (RTp t) (hlen4 hl) gx W (by rw [five_p]; exact hx)
    have HPA : Hid ((printR t).length ≤ 3000 → ∀ W, Below g w W → Calls Tryd.prog 5 #[.string (str ((RTp t).rest 0))] W (PrsQ (RTp t) t.ex W)) := fun hl W hW => parse_paren t hok (hlen4 hl) W (HG1.out _ hW) (HG2.out _ hW) (HS.out _ hW)
    have HCut := Lib.hid (fun w => cut_any y (-10000) 20001 w (by omega) (by omega) (by omega) (by omega))
    have hy1 : -10000 ≤ -10000 + y % 20001 := by omega
    have hy2 : -10000 + y % 20001 ≤ 10000 := by omega
    generalize -10000 + y % 20001 = yy at *
    have HEv : Hid (∀ W, Below g w W → Calls Tryd.prog 11 #[.agg #[.int .i64 t.k, .int .i64 t.n, .slice t.A t.ks.length t.c], .int .i64 yy] W fun e w' => e = .returned (.tuple #[.int .i64 (evalR yy t.ex).1, .int .i64 (evalR yy t.ex).2]) ∧ Below W.heap.size W w') := fun W hW => by
      refine (rEval_any yy t.ex W (HZ.out _ hW).ex hy1 hy2).mono ?_
      rintro e w' ⟨p, q, he, hb, hor⟩
      rcases hor with ⟨_, h⟩ | ⟨h, _⟩
      · rw [← h]; exact ⟨he, hb⟩
      · exact absurd hok.ex h
    have HEu : Hid (∀ u : Tr, ReadAs (RTp t) t.ex u → ∀ W, TrIn W u → Calls Tryd.prog 11 #[.agg #[.int .i64 u.k, .int .i64 u.n, .slice u.A u.ks.length u.c], .int .i64 yy] W fun e w' => e = .returned (.tuple #[.int .i64 (evalR yy t.ex).1, .int .i64 (evalR yy t.ex).2]) ∧ Below W.heap.size W w') := fun u hu W hin => by
      refine (rEval_any yy u.ex W hin.ex hy1 hy2).mono ?_
      rintro e w' ⟨p, q, he, hb, hor⟩
      rcases hor with ⟨_, h⟩ | ⟨h, _⟩
      · rw [← hu.ex.eval yy, ← h]; exact ⟨he, hb⟩
      · exact absurd (same_fine hu.ex hok.ex) h
    have hsz := str_size (printR t)
    have hsl : (str ([108, 101, 97, 112, 32, 32, 32, 40, 32] ++ shB t.ex)).size ≤ 4000 := by
      rw [str_size]
      have h1 := shB_len hok.ex.1
      have h2 := hok.ex.2
      simp only [List.length_append, List.length_cons, List.length_nil]
      omega
    have hap : str ([108, 101, 97, 112, 32, 32, 32, 40, 32] ++ shB t.ex) ++ ⟨#[32, 41]⟩ = str ((RTp t).line 3) := paren_line t
    have hl3 : (RTof t).line 3 = [108, 101, 97, 112, 32] ++ shB t.ex := rfl
    clear hok hlen4
    generalize evalR yy t.ex = ev at *
    obtain ⟨ev1, ev2⟩ := ev
    generalize hT : (printR t).length = n at *
    generalize str (printR t) = T at *
    generalize str ([108, 101, 97, 112, 32, 32, 32, 40, 32] ++ shB t.ex) = R9 at *
    generalize str ((RTp t).line 3) = L3 at *
    unfold fiveC at *
    rw [hl3] at HSN
    generalize str ([108, 101, 97, 112, 32] ++ shB t.ex) = L5 at *
    generalize str ((RTof t).line 0) = q0 at *
    generalize str ((RTof t).line 1) = q1 at *
    generalize str ((RTof t).line 2) = q2 at *
    generalize str ((RTof t).rest 4) = q4 at *
    simp only at HSN HRP HJN HPA HEv HEu
    clear hT hl3
    go_wp2_with fail
    refine HPR.out.mono ?_
    rintro e w3 ⟨rfl, hb⟩
    have HB3 := Lib.hid (HB2.out.trans (hb.mono hgl))
    have HX3 := Lib.hid (HX2'.out.below hb)
    clear hb HPR x0 x1 x2 x3 x4 x5 x6 y3 hgl
    by_cases hlen : n ≤ 3000
    case neg =>
      have t1 : decide (3000 < (n : Int)) = true := decide_eq_true (by omega)
      have t2 : decide (3000 < n) = true := decide_eq_true (by omega)
      go_wp2_with fail
      go_ret
      exact ⟨rfl, by rw [HG.out]; exact HB3.out⟩
    have t1 : decide (3000 < (n : Int)) = false := decide_eq_false (by omega)
    have t2 : decide (3000 < n) = false := decide_eq_false (by omega)
    have HP3 := Lib.hid (HSN.out hlen w3 HB3.out)
    have HJ3 := Lib.hid (HJN.out hlen)
    have HPA3 := Lib.hid (HPA.out hlen)
    clear hlen HPA HJN HSN
    go_wp2_with fail
    refine HP3.out.mono ?_
    rintro e w4 ⟨rfl, rfl⟩
    have hg3 : g ≤ w3.heap.size := by have := HX3.out.lt; omega
    have HX4 := Lib.hid (HX3.out.alloc (Obj.cells #[.string q0, .string q1, .string q2, .string L5, .string q4] 9))
    have HY4 := Lib.hid (Box.new w3 9 #[.string q0, .string q1, .string q2, .string L5, .string q4])
    have HB4 := Lib.hid (HB3.out.alloc hg3 (Obj.cells #[.string q0, .string q1, .string q2, .string L5, .string q4] 9))
    have hgx : g < w3.heap.size := HX3.out.lt
    clear HP3 HX3 HB3 hg3
    go_upto_region 8 with fail
    generalize w3.alloc (Obj.cells #[.string q0, .string q1, .string q2, .string L5, .string q4] 9) = W4 at *
    generalize w3.heap.size = gx at *
    have l30 : W4.cell? ⟨gx, 3, none⟩ = some (.string L5) := HY4.out.cell 3
    have hl4 := HY4.out.lt
    have HR4 := Lib.hid (HRP.out W4 HB4.out)
    clear HRP
    go_wp2_with fail
    refine HR4.out.mono ?_
    rintro e w5 ⟨rfl, hb⟩
    have HX5 := Lib.hid (HX4.out.below hb)
    have HY5 := Lib.hid (HY4.out.below hb)
    have HB5 := Lib.hid (HB4.out.trans (hb.mono (by have := HX4.out.lt; omega)))
    have l3 : w5.cell? ⟨gx, 3, none⟩ = some (.string L5) := HY5.out.cell 3
    have hl5 := HY5.out.lt
    have hlf : w5.frozen? ⟨gx, 3, none⟩ = false := HY5.out.free 3
    clear hb HR4 HX4 HY4 HB4 hl4 l30
    go_upto_region 9 with fail
    have HX6 := Lib.hid (HX5.out.far (p := ⟨gx, 3, none⟩) (show g ≠ gx by omega) (.string L3))
    have HY6 : Hid (Box (w5.setCell ⟨gx, 3, none⟩ (.string L3)) gx 9 #[.string q0, .string q1, .string q2, .string L3, .string q4]) := HY5.out.set_ 3 (.string L3)
    have HB6 := Lib.hid (HB5.out.setCell (p := ⟨gx, 3, none⟩) (show g ≤ gx by omega) (.string L3))
    generalize w5.setCell ⟨gx, 3, none⟩ (.string L3) = w6 at *
    have HJ6 := Lib.hid (HJ3.out gx w6 HY6.out)
    clear HX5 HY5 HB5 l3 hl5 hlf HJ3 HY6
    go_wp2_with fail
    refine HJ6.out.mono ?_
    rintro e w7 ⟨rfl, hb⟩
    have HX7 := Lib.hid (HX6.out.below hb)
    have HB7 := Lib.hid (HB6.out.trans (hb.mono (by have := HX6.out.lt; omega)))
    clear hb HJ6 HX6 HB6
    have HP7 := Lib.hid (HPA3.out w7 HB7.out)
    clear HPA3
    go_wp2_with fail
    refine HP7.out.mono ?_
    rintro e w8 ⟨v, rfl, hv, hin, hft, hb⟩
    have HX8 := Lib.hid (HX7.out.below hb)
    have HB8 := Lib.hid (HB7.out.trans (hb.mono (by have := HX7.out.lt; omega)))
    have HU := Lib.hid (HEu.out v hv)
    clear hb HP7 HX7 HB7 HEu hv hft
    have HI9 := Lib.hid (hin.next (below_alloc1 w8 (Obj.cells v.cells 27)))
    have HX9 := Lib.hid (HX8.out.alloc (Obj.cells v.cells 27))
    have HY9 := Lib.hid (Box.new w8 27 v.cells)
    have HB9 := Lib.hid (HB8.out.alloc (by have := HX8.out.lt; omega) (Obj.cells v.cells 27))
    clear hin HX8 HB8
    obtain ⟨vn, v1, v2, v3, v4, v5, v6, v7, v8, v9, v10⟩ := v
    simp only at HU HI9 HX9 HY9 HB9
    unfold Tr.val Tr.cells at *
    simp only at *
    go_upto_region 10 with fail
    generalize w8.alloc (Obj.cells #[.string vn, .int .i64 v1, .int .i64 v2, .int .i64 v3, .int .i64 v4, .slice v5 v7.length v6, .slice v9 v8.length v10] 27) = W9 at *
    generalize w8.heap.size = g9 at *
    have x3 : W9.cell? ⟨g, 3, none⟩ = some (.int .i64 t.k) := HX9.out.cell 3
    have x4 : W9.cell? ⟨g, 4, none⟩ = some (.int .i64 t.n) := HX9.out.cell 4
    have x5 : W9.cell? ⟨g, 5, none⟩ = some (.slice t.A t.ks.length t.c) := HX9.out.cell 5
    have xl := HX9.out.lt
    have HE9 := Lib.hid (HEv.out W9 HB9.out)
    clear HX9 HEv
    go_wp2_with (go_at_call 10; refine (HCut.out _).mono ?_; rintro e w' ⟨rfl, rfl⟩)
    refine HE9.out.mono ?_
    rintro e w10 ⟨rfl, hb⟩
    have HB10 := Lib.hid (HB9.out.trans (hb.mono (by omega)))
    have HY10 := Lib.hid (HY9.out.below hb)
    have HI10 := Lib.hid (HI9.out.next hb)
    have y3 : w10.cell? ⟨g9, 3, none⟩ = some (.int .i64 v3) := HY10.out.cell 3
    have y4 : w10.cell? ⟨g9, 4, none⟩ = some (.int .i64 v4) := HY10.out.cell 4
    have y5 : w10.cell? ⟨g9, 5, none⟩ = some (.slice v5 v7.length v6) := HY10.out.cell 5
    have hg10 : g ≤ w10.heap.size := by have := hb.size; omega
    have HE10 := Lib.hid (HU.out w10 HI10.out)
    clear hb HE9 x3 x4 x5 xl HB9 HY9 HI9 HU HI10 HY10
    go_wp2_with fail
    refine HE10.out.mono ?_
    rintro e w11 ⟨rfl, hb⟩
    have HB11 := Lib.hid (HB10.out.trans (hb.mono hg10))
    clear hb HE10 HB10 y3 y4 y5
    go_wp2_with fail
    go_ret
    exact ⟨rfl, by rw [HG.out]; exact HB11.out⟩

set_option maxRecDepth 100000 in
theorem walk {H : Type} {enc : TypeId × Value → H} {base : Nat} {W : World} (v0 : Value) (d0 : DataW H) (p0 : List MemPlace) (hv0 : Value.okWide Tryd.prog W .any base 27 v0) (h0 : DataW.Trod enc Tryd.prog W 0 (fun _ => true) true 27 v0 d0 p0) (a1 : Int) (w1 : (Lit.int .i64 a1).wf = true)
    (hL : laidMet Tryd.prog Rows.ruleParensRow.laid W) (hsh : W.ShapedOpen Tryd.prog) :
    Calls Tryd.prog 4 #[v0, .int .i64 a1] W fun e w' => e = .returned (.bool true) ∧ Below W.heap.size W w' := by
  obtain ⟨t, rfl, hz, hf⟩ := tree_open hv0 h0
  exact core t a1 (bounds_i64 w1).1 (bounds_i64 w1).2 W hz hf (sgs_of hL.tail.tail.tail.tail.tail.tail.tail) (lvs_of hL.tail.tail.tail.tail.tail.tail) (pow_of hL.tail.tail) (Shp.of hsh)
end Go.Proofs.YtbmbphikjainiaaDoor.ruleParens
