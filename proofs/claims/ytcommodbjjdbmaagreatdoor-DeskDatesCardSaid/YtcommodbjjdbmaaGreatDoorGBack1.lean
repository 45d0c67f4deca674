/- Back1 -/
import Derived.Test.YtcommodbjjdbmaaGreatDoorGLex1
import Derived.Test.YtcommodbjjdbmaaGreatDoorGLaid
import Derived.Test.YtcommodbjjdbmaaGreatDoorGParseA
import Derived.Test.YtcommodbjjdbmaaGreatDoorGShow2
/- A rule that was printed is read as it was. -/
namespace Go.Proofs.YtcommodbjjdbmaaGreatDoor
open Go.RowKit Go.Lib
set_option linter.unusedVariables false

def strsData {H : Type} (zs : List (List UInt8)) : DataW H := .agg (zs.map fun z => .lit (.string z))
/-- an array of strings that reads as the table holds the table's texts -/
theorem cells_of_strs {H : Type} {enc : TypeId × Value → H} {P : Program} {w : World} {base : Nat} {sp : Nat → Bool} {held : Bool} {fuel : Nat} {t e : TypeId} {n : Nat} {cs : List Value} {zs : List (List UInt8)} {p : List MemPlace}
    (ht : P.underlying t = some (.array n e)) (he : P.underlying e = some .string) (hce : P.cellsOf e = 1) (hct : P.cellsOf t = n)
    (h : DataW.trod enc P w base sp held fuel t cs = some (strsData zs, p)) : cs = zs.map fun z => Value.string (str z) := by
  cases fuel with
  | zero => simp [DataW.trod] at h
  | succ fuel =>
    simp only [DataW.trod, ht, hce, hct, Nat.mul_one] at h
    split at h
    · rename_i hl
      obtain ⟨xs, hm, hx⟩ := Option.map_eq_some_iff.1 h
      have hxs : xs.map (·.1) = zs.map fun z => (DataW.lit (.string z) : DataW H) := by
        have := congrArg Prod.fst hx
        simpa [strsData] using this
      have hxl : xs.length = n := by simpa using mapM_length hm
      have hzl : zs.length = n := by
        have := congrArg List.length hxs
        simp at this
        omega
      apply List.ext_getElem?
      intro i
      by_cases hi : i < n
      · obtain ⟨b, hb, hf⟩ := mapM_at hm i i (by simp [hi])
        obtain ⟨z, hc, rfl, _⟩ := DataW.trod_string he hf
        have h1 : cs[i]? = some (.string z) := by
          have := congrArg (·[0]?) hc
          simpa [List.getElem?_take, List.getElem?_drop] using this
        have h2 : (xs.map (·.1))[i]? = some (DataW.lit (.string z.data.toList) : DataW H) := by simp [hb]
        rw [hxs] at h2
        simp only [List.getElem?_map, Option.map_eq_some_iff, DataW.lit.injEq, Lit.string.injEq] at h2
        obtain ⟨z', hz', rfl⟩ := h2
        simp [h1, hz', str]
      · rw [List.getElem?_eq_none (by omega), List.getElem?_eq_none (by simp; omega)]
    · cases h
def levZ : List Int := [0, 7, 7, 6, 4, 4, 5, 5, 5, 3, 3, 2, 1, 0]
def sgnZ : List (List UInt8) := [[], [], [], [], [43], [45], [42], [47], [37], [60], [61], [], [97, 110, 100], [111, 114]]
theorem lev_datum : (Rows.laid_ephemeris_rule_levels : DataW Unit) = Lib.tabData .i64 levZ := by kernel_rfl
theorem sgn_datum : (Rows.laid_ephemeris_rule_signs : DataW Unit) = strsData sgnZ := by kernel_rfl
theorem gLev : Tryz.prog.globalNamed "ephemeris/rule.levels" = some 11 := by kernel_rfl
theorem gLevType : (Tryz.prog.globals[11]?).map (·.type) = some 308 := by kernel_rfl
theorem gSgn : Tryz.prog.globalNamed "ephemeris/rule.signs" = some 10 := by kernel_rfl
theorem gSgnType : (Tryz.prog.globals[10]?).map (·.type) = some 307 := by kernel_rfl
theorem lvs_of {W : World} {rest : List (String × DataW Unit)} (h : laidMet Tryz.prog (("ephemeris/rule.levels", Rows.laid_ephemeris_rule_levels) :: rest) W) : Lvs W := by
  rw [lev_datum] at h
  have ht := Lib.tabIs_of_head gLev gLevType Tryz.underlying308 Tryz.underlying3 (by kernel_rfl) (by kernel_rfl) h
  intro k hk
  have := ht.cell gLev k hk
  rw [this]
  have h2 : ∀ k, k < 14 → levZ.getD k 0 = (lvN k : Int) := by decide
  rw [h2 k hk]
theorem sgs_of {W : World} {rest : List (String × DataW Unit)} (h : laidMet Tryz.prog (("ephemeris/rule.signs", Rows.laid_ephemeris_rule_signs) :: rest) W) : Sgs W := by
  rw [sgn_datum] at h
  obtain ⟨ps, ⟨g', t', cs, fuel, p, q, hg', ht', hvar, hd, _, _⟩, _⟩ := h
  obtain rfl := Option.some.inj (gSgn.symm.trans hg')
  obtain rfl := Option.some.inj (gSgnType.symm.trans ht')
  have hcs := cells_of_strs Tryz.underlying307 Tryz.underlying9 (by kernel_rfl) (by kernel_rfl) hd
  intro k hk
  have := World.var?_cell gSgn hvar k
  rw [this]
  have h2 : ∀ k : Nat, k < 14 → sgnZ[k]? = some (sgn (k : Int)) := by decide
  have h3 : cs.toList[k]? = some (.string (str (sgn (k : Int)))) := by rw [hcs, List.getElem?_map, h2 k hk]; rfl
  simpa using h3
end Go.Proofs.YtcommodbjjdbmaaGreatDoor
namespace Go.Proofs.YtcommodbjjdbmaaGreatDoor
open Go.RowKit
set_option linter.unusedVariables false

theorem sgn_no10 (k : Int) : ∀ b ∈ sgn k, b ≠ 10 := by
  unfold sgn
  repeat' split
  all_goals decide
theorem parB_no10 (L : Nat) (k : Int) (s : List UInt8) (h : ∀ b ∈ s, b ≠ 10) : ∀ b ∈ parB L (k, s), b ≠ 10 := by
  intro b hb
  unfold parB at hb
  split at hb
  · simp only [List.mem_cons, List.mem_append, List.not_mem_nil, or_false] at hb
    rcases hb with rfl | hb | rfl
    · decide
    · exact h b hb
    · decide
  · exact h b hb
theorem shB_no10 {t : RE} (h : ReOk t) : ∀ b ∈ shB t, b ≠ 10 := by
  induction h with
  | @mk k n A c ks node kids ih =>
    have hT : ∀ x ∈ ks, ∀ L, ∀ b ∈ shT L x, b ≠ 10 := fun x hx L => parB_no10 L _ _ (ih x hx)
    intro b hb
    rcases node_cases node with ⟨rfl, rfl⟩ | ⟨rfl, rfl⟩ | ⟨rfl, a, rfl⟩ | ⟨rfl, a, rfl⟩ | ⟨hk, a, c2, rfl⟩
    · rw [shB_one] at hb
      exact itoa_no10 _ b hb
    · rw [shB_two] at hb
      revert b
      decide
    · rw [shB_neg] at hb
      rcases List.mem_cons.1 hb with rfl | hb
      · decide
      · exact hT a (by simp) _ b hb
    · rw [shB_not] at hb
      rcases List.mem_append.1 hb with hb | hb
      · exact (show ∀ b ∈ ([110, 111, 116, 32] : List UInt8), b ≠ 10 by decide) b hb
      · exact hT a (by simp) _ b hb
    · rw [shB_bin k n A c a c2 hk] at hb
      rcases List.mem_append.1 hb with hb | hb
      · exact hT a (by simp) _ b hb
      rcases List.mem_cons.1 hb with rfl | hb
      · decide
      rcases List.mem_append.1 hb with hb | hb
      · exact sgn_no10 k b hb
      rcases List.mem_cons.1 hb with rfl | hb
      · decide
      · exact hT c2 (by simp) _ b hb
theorem name_low {s : ByteArray} (h : NameOk s) : (∀ b ∈ s.data.toList, isLow b = true) ∧ s.data.toList ≠ [] := by
  have h1 := h.1
  have h2 := h.2.2.2.2.2.2
  refine ⟨fun b hb => ?_, fun e => ?_⟩
  · obtain ⟨i, hi, rfl⟩ := List.getElem_of_mem hb
    have hi' : i < s.size := by rw [Array.length_toList] at hi; exact hi
    have h3 := h2 i hi'
    rw [Array.getElem_toList]
    have e : s.data[i]'(hi') = s[i] := rfl
    rw [e]
    unfold isLow
    rw [decide_eq_true h3.1, decide_eq_true h3.2]
    rfl
  · have : s.data.toList.length = s.size := Array.length_toList
    rw [e] at this
    simp at this
    omega
theorem rtok {t : Tr} (h : TrOk t) : RTOk (RTof t) where
  nm := (name_low h.hd.1).1
  nn := (name_low h.hd.1).2
  e1 := by have := h.hd.2.1; show -9999999999 ≤ t.ep; omega
  e2 := by have := h.hd.2.1; show t.ep ≤ 9999999999; omega
  c1 := by have := h.hd.2.2; show -9999999999 ≤ t.cy; omega
  c2 := by have := h.hd.2.2; show t.cy ≤ 9999999999; omega
  lt := fun b hb => by
    rcases List.mem_append.1 (show b ∈ [108, 101, 97, 112, 32] ++ shB t.ex from hb) with hb | hb
    · exact (show ∀ b ∈ ([108, 101, 97, 112, 32] : List UInt8), b ≠ 10 by decide) b hb
    · exact shB_no10 h.ex.1 b hb
  ml := h.mo.n2
  mo := fun i hi => by
    have hm := h.mo.each i hi
    have := hm.sh
    have := hm.lo
    refine ⟨(name_low hm.nm).1, (name_low hm.nm).2, ?_, ?_, ?_, ?_⟩ <;> (show _ ≤ _) <;> simp only [RTof] <;> omega
theorem leap_toks {e : RE} (h : ReOk e) : toks ([108, 101, 97, 112, 32] ++ shB e) = [108, 101, 97, 112] :: (prB e ++ []) := by
  have e1 : [108, 101, 97, 112, 32] ++ shB e = [108, 101, 97, 112] ++ (32 :: shB e) := rfl
  rw [e1, lx_word _ _ (by decide) (by decide) (bd_cons 32 _ (by decide) (by decide)), lx_sp]
  have := lx_expr e h [] bd_nil
  rw [List.append_nil] at this
  rw [this]
  rfl
theorem parse_printn (t : Tr) (h : TrOk t) (hl : (printR t).length ≤ 4000) (w : World) (hs : Sgs w) (hv : Lvs w) (hsh : Shp w) :
    Calls Tryz.prog 61 #[.string (str (printR t))] w (PrsN (RTof t) t.ex w) := by
  rw [printR_rest] at hl ⊢
  refine parse_new (RTof t) (rtok h) t.ex (prB t.ex ++ []) (leap_toks h.ex.1) hl ⟨by show NameOk (str t.nm.data.toList); rw [str_own']; exact h.hd.1, h.hd.2⟩ h.ex h.mo w hs hv hsh fun g W S hS hr => ?_
  exact expr_read g S hS t.ex h.ex.1 h.ex.3 [] (good_nil 0) W hr
theorem parse_print (t : Tr) (h : TrOk t) (hl : (printR t).length ≤ 4000) (w : World) (hs : Sgs w) (hv : Lvs w) (hsh : Shp w) :
    Calls Tryz.prog 61 #[.string (str (printR t))] w (PrsQ (RTof t) t.ex w) :=
  (parse_printn t h hl w hs hv hsh).mono fun e w' ⟨u, he, hu, hn, hf, hb⟩ => ⟨u, he, hu, hn.in_, hf, hb⟩
theorem read_ok {t u : Tr} (h : TrOk t) (hr : ReadAs (RTof t) t.ex u) : TrOk u ∧ printR u = printR t := by
  have e1 : u.nm = t.nm := by rw [hr.nm]; exact str_own' t.nm
  have e2 : u.ep = t.ep := hr.ep
  have e3 : u.cy = t.cy := hr.cy
  have e4 : u.mo = t.mo := hr.mo
  have ok : ReOk u.ex := hr.ex.ok h.ex.1
  refine ⟨⟨by rw [e1, e2, e3]; exact h.hd, ⟨ok, by rw [hr.ex.sz]; exact h.ex.2, by rw [hr.ex.ht]; exact h.ex.3⟩, by rw [e4]; exact h.mo⟩, ?_⟩
  have e5 : shB u.ex = shB t.ex := by rw [← shB_strip u.ex ok, ← shB_strip t.ex h.ex.1, hr.ex]
  unfold printR headP
  rw [e1, e2, e3, e4, e5]
end Go.Proofs.YtcommodbjjdbmaaGreatDoor
