/- The walk of RuleBack: it returns true at every input; it writes nothing that was there. -/
import Derived.Test.YtbmbphikjainiaaDoorBack1
import Derived.Test.YtbmbphikjainiaaDoorTreeArg
namespace Go.Proofs.YtbmbphikjainiaaDoor.ruleBack
open Go.RowKit
set_option linter.unusedVariables false

/-- the first rule -/
def t0 : Tr := ⟨⟨#[97]⟩, 1, 1, 1, 0, none, 0, [], [⟨⟨#[98]⟩, 5, 5⟩], none, 0⟩
theorem nm_ok (b : UInt8) (hb : b = 97 ∨ b = 98) : NameOk ⟨#[b]⟩ := by
  refine ⟨by show 1 ≤ 1; omega, by show 1 ≤ 12; omega, ?_, ?_, ?_, ?_, fun k hk => ?_⟩
  · rw [Lib.toList_data]; rcases hb with rfl | rfl <;> decide
  · rw [Lib.toList_data]; rcases hb with rfl | rfl <;> decide
  · rw [Lib.toList_data]; rcases hb with rfl | rfl <;> decide
  · rw [Lib.toList_data]; rcases hb with rfl | rfl <;> decide
  · have : k = 0 := by
      have : (⟨#[b]⟩ : ByteArray).size = 1 := rfl
      omega
    subst this
    show 97 ≤ b.toNat ∧ b.toNat ≤ 122
    rcases hb with rfl | rfl <;> decide
theorem t0_ok : TrOk t0 where
  hd := ⟨nm_ok 97 (.inl rfl), by decide, by decide, by decide⟩
  ex := ⟨.mk ⟨by decide, by decide, by decide, by decide, by decide⟩ (fun x hx => by cases hx), by decide, by decide⟩
  mo := ⟨by decide, by decide, fun i hi => by
    obtain rfl : i = 0 := by simp [t0] at hi; exact hi
    exact ⟨nm_ok 98 (.inr rfl), by rfl, by decide, by decide⟩, by decide, by decide⟩
theorem t0_text : str (printR t0) = ⟨#[99, 97, 108, 101, 110, 100, 97, 114, 32, 97, 10, 101, 112, 111, 99, 104, 32, 49, 10, 99, 121, 99, 108, 101, 32, 49, 10, 108, 101, 97, 112, 32, 48, 10, 109, 111, 110, 116, 104, 32, 98, 32, 53, 10]⟩ := by decide +kernel
theorem t0_len : (printR t0).length ≤ 4000 := by decide +kernel

set_option maxHeartbeats 1000000 in
set_option maxRecDepth 100000 in
theorem core (t : Tr) (w : World) (hz : TrIn w t) (hf : TrFit t) (hs : Sgs w) (hv : Lvs w) (hp : Pow w) (hsh : Shp w) :
    Calls Tryd.prog 3 #[t.val] w fun e w' => e = .returned (.bool true) ∧ Below w.heap.size w w' := by
  have HB0 := Lib.hid (below_alloc1 w (Obj.cells t.cells 27))
  have HX0 := Lib.hid (Box.new w 27 t.cells)
  have H0 := Lib.hid (parse_print t0 t0_ok t0_len (w.alloc (Obj.cells t.cells 27)) (hs.next HB0.out) (hv.next HB0.out) (hsh.next HB0.out))
  rw [t0_text] at H0
  have HZ := Lib.hid (fun W (hW : Below w.heap.size w W) => hz.next hW)
  have HP := Lib.hid (fun W (hW : Below w.heap.size w W) => hp.next hW)
  have HS := Lib.hid (fun W (hW : Below w.heap.size w W) => hsh.next hW)
  have HG1 := Lib.hid (fun W (hW : Below w.heap.size w W) => hs.next hW)
  have HG2 := Lib.hid (fun W (hW : Below w.heap.size w W) => hv.next hW)
  have HF := Lib.hid hf
  clear hz hp hsh hs hv hf
  unfold Tr.val Tr.cells at *
  go_enter Tryd.func3, Tryd.ntmps3
  go_wp2_with fail
  generalize hg : w.heap.size = g at *
  have HG := Lib.hid hg
  clear hg
  refine H0.out.mono ?_
  rintro e w1 ⟨u, rfl, hu, _, _, hb⟩
  have hun : u.nm = ⟨#[97]⟩ := by rw [hu.nm]; exact str_own' ⟨#[97]⟩
  have HX1 := Lib.hid (HX0.out.below hb)
  have HB1 := Lib.hid (show Below g w w1 from HB0.out.trans (hb.mono (by have := HX0.out.lt; omega)))
  clear hb H0 HX0 HB0 hu
  obtain ⟨un, u1, u2, u3, u4, u5, u6, u7, u8, u9, u10⟩ := u
  simp only at hun
  subst hun
  unfold Tr.val Tr.cells
  simp only
  have HX2 := Lib.hid (HX1.out.alloc (Obj.cells #[.string ⟨#[97]⟩, .int .i64 u1, .int .i64 u2, .int .i64 u3, .int .i64 u4, .slice u5 u7.length u6, .slice u9 u8.length u10] 27))
  have HY2 := Lib.hid (Box.new w1 27 #[.string ⟨#[97]⟩, .int .i64 u1, .int .i64 u2, .int .i64 u3, .int .i64 u4, .slice u5 u7.length u6, .slice u9 u8.length u10])
  have HB2 := Lib.hid (HB1.out.alloc (by have := HX1.out.lt; omega) (Obj.cells #[.string ⟨#[97]⟩, .int .i64 u1, .int .i64 u2, .int .i64 u3, .int .i64 u4, .slice u5 u7.length u6, .slice u9 u8.length u10] 27))
  go_upto_region 2 with fail
  generalize w1.alloc (Obj.cells #[.string ⟨#[97]⟩, .int .i64 u1, .int .i64 u2, .int .i64 u3, .int .i64 u4, .slice u5 u7.length u6, .slice u9 u8.length u10] 27) = W2 at *
  generalize w1.heap.size = g1 at *
  have y0 : W2.cell? ⟨g1, 0, none⟩ = some (.string ⟨#[97]⟩) := HY2.out.cell 0
  have x0 : W2.cell? ⟨g, 0, none⟩ = some (.string t.nm) := HX2.out.cell 0
  have x1 : W2.cell? ⟨g, 1, none⟩ = some (.int .i64 t.ep) := HX2.out.cell 1
  have x2 : W2.cell? ⟨g, 2, none⟩ = some (.int .i64 t.cy) := HX2.out.cell 2
  have x3 : W2.cell? ⟨g, 3, none⟩ = some (.int .i64 t.k) := HX2.out.cell 3
  have x4 : W2.cell? ⟨g, 4, none⟩ = some (.int .i64 t.n) := HX2.out.cell 4
  have x5 : W2.cell? ⟨g, 5, none⟩ = some (.slice t.A t.ks.length t.c) := HX2.out.cell 5
  have x6 : W2.cell? ⟨g, 6, none⟩ = some (.slice t.A1 t.mo.length t.c1) := HX2.out.cell 6
  have hgl : g ≤ W2.heap.size := by have := HX2.out.lt; omega
  clear HX1 HB1 HY2 HX2
  by_cases hok : TrOk t
  case neg =>
    have HN : Hid (Calls Tryd.prog 6 #[.agg #[.string t.nm, .int .i64 t.ep, .int .i64 t.cy, .int .i64 t.k, .int .i64 t.n, .slice t.A t.ks.length t.c, .slice t.A1 t.mo.length t.c1]] W2 (PriNo W2)) := rprint_no t W2 (HZ.out _ HB2.out) HF.out hok
    clear hok
    go_wp2_with fail
    refine HN.out.mono ?_
    rintro e w3 ⟨E, hE, rfl, hb⟩
    have t1 : (E != 0) = true := by rw [bne_iff_ne]; exact hE
    have HB3 := Lib.hid (HB2.out.trans (hb.mono hgl))
    clear hb HN
    go_wp2_with fail
    go_ret
    exact ⟨rfl, by rw [HG.out]; exact HB3.out⟩
  case pos =>
    have HPR : Hid (Calls Tryd.prog 6 #[.agg #[.string t.nm, .int .i64 t.ep, .int .i64 t.cy, .int .i64 t.k, .int .i64 t.n, .slice t.A t.ks.length t.c, .slice t.A1 t.mo.length t.c1]] W2 (fun e w' => e = .returned (.tuple #[.string (str (printR t)), .int .i64 0]) ∧ Below W2.heap.size W2 w')) := rprint_yes t W2 (HZ.out _ HB2.out) HF.out hok (HG1.out _ HB2.out) (HG2.out _ HB2.out) (HP.out _ HB2.out)
    have HPA : Hid ((printR t).length ≤ 4000 → ∀ W, Below g w W → Calls Tryd.prog 5 #[.string (str (printR t))] W (PrsQ (RTof t) t.ex W)) := fun hl W hW => parse_print t hok hl W (HG1.out _ hW) (HG2.out _ hW) (HS.out _ hW)
    have HPU : Hid (∀ u : Tr, ReadAs (RTof t) t.ex u → ∀ W, TrIn W u → TrFit u → Below g w W → Calls Tryd.prog 6 #[u.val] W (fun e w' => e = .returned (.tuple #[.string (str (printR t)), .int .i64 0]) ∧ Below W.heap.size W w')) := fun u hu W hin hft hW => by
      obtain ⟨ok, e⟩ := read_ok hok hu
      have h := rprint_yes u W hin hft ok (HG1.out _ hW) (HG2.out _ hW) (HP.out _ hW)
      unfold PriQ at h
      rw [e] at h
      exact h
    have hsz := str_size (printR t)
    clear hok
    generalize hT : (printR t).length = n at *
    generalize str (printR t) = T at *
    clear hT
    go_wp2_with fail
    refine HPR.out.mono ?_
    rintro e w3 ⟨rfl, hb⟩
    have HB3 := Lib.hid (HB2.out.trans (hb.mono hgl))
    clear hb HPR x0 x1 x2 x3 x4 x5 x6 y0 hgl
    by_cases hlen : n ≤ 4000
    case neg =>
      have t1 : decide (4000 < (n : Int)) = true := decide_eq_true (by omega)
      have t2 : decide (4000 < n) = true := decide_eq_true (by omega)
      go_wp2_with fail
      go_ret
      exact ⟨rfl, by rw [HG.out]; exact HB3.out⟩
    have t1 : decide (4000 < (n : Int)) = false := decide_eq_false (by omega)
    have t2 : decide (4000 < n) = false := decide_eq_false (by omega)
    have HP3 := Lib.hid (HPA.out hlen w3 HB3.out)
    clear hlen HPA
    go_wp2_with fail
    refine HP3.out.mono ?_
    rintro e w4 ⟨u, rfl, hu, hin, hft, hb⟩
    have hgl : g ≤ w3.heap.size := by have h1 := HB3.out.size; have h2 := HG.out; omega
    have HB4 := Lib.hid (HB3.out.trans (hb.mono hgl))
    clear hb HP3
    have hgl4 : g ≤ w4.heap.size := by have h1 := HB4.out.size; have h2 := HG.out; omega
    have HU := Lib.hid (HPU.out u hu)
    clear HPU hu
    have hin5 := hin.next (below_alloc1 w4 (Obj.cells u.cells 27))
    have HY5 := Lib.hid (Box.new w4 27 u.cells)
    have HB5 := Lib.hid (HB4.out.alloc hgl4 (Obj.cells u.cells 27))
    have HQ := Lib.hid (HU.out _ hin5 hft HB5.out)
    clear hin hin5 hft HU
    obtain ⟨z0, z1, z2, z3, z4, z5, z6⟩ := trcells HY5.out
    unfold Tr.val Tr.cells at *
    go_upto_region 8 with fail
    have zl := HY5.out.lt
    clear HY5
    generalize w4.alloc (Obj.cells #[.string u.nm, .int .i64 u.ep, .int .i64 u.cy, .int .i64 u.k, .int .i64 u.n, .slice u.A u.ks.length u.c, .slice u.A1 u.mo.length u.c1] 27) = W5 at *
    have hgl5 : g ≤ W5.heap.size := by have h1 := HB5.out.size; have h2 := HG.out; omega
    go_wp2_with fail
    refine HQ.out.mono ?_
    rintro e w6 ⟨rfl, hb⟩
    have HB6 := Lib.hid (HB5.out.trans (hb.mono hgl5))
    clear hb
    go_wp2_with fail
    go_ret
    exact ⟨rfl, by rw [HG.out]; exact HB6.out⟩

set_option maxRecDepth 100000 in
theorem walk {H : Type} {enc : TypeId × Value → H} {base : Nat} {W : World} (v0 : Value) (d0 : DataW H) (p0 : List MemPlace) (hv0 : Value.okWide Tryd.prog W .any base 27 v0) (h0 : DataW.Trod enc Tryd.prog W 0 (fun _ => true) true 27 v0 d0 p0)
    (hL : laidMet Tryd.prog Rows.ruleBackRow.laid W) (hsh : W.ShapedOpen Tryd.prog) :
    Calls Tryd.prog 3 #[v0] W fun e w' => e = .returned (.bool true) ∧ Below W.heap.size W w' := by
  obtain ⟨t, rfl, hz, hf⟩ := tree_open hv0 h0
  exact core t W hz hf (sgs_of hL.tail.tail.tail.tail.tail.tail) (lvs_of hL.tail.tail.tail.tail.tail) (pow_of hL.tail.tail) (Shp.of hsh)
end Go.Proofs.YtbmbphikjainiaaDoor.ruleBack
