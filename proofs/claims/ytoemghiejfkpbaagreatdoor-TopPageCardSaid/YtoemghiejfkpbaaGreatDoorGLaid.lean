/- Laid, LaidU, Laid2 -/
import Derived.Test.YtoemghiejfkpbaaGreatDoorRows
import Derived.HandedShaped
import Derived.Handed
import Derived.LaidMore
import Derived.LaidHandle
import Derived.MakeChecks
import Derived.Stop.LaidErr
import Derived.Lib.LaidTab
import Derived.Lib.AppendIntMem
import Derived.Lib.ItoaNum
import Derived.Lib.LaidU8
import GoSem.PinnedTables
import Derived.Test.YtoemghiejfkpbaaGreatDoorGShelf1
import Derived.Test.YtoemghiejfkpbaaGreatDoorGBase
/- What a row that lists variables hands to a walk: the list and the world's shape. -/
namespace Go.Proofs.YtoemghiejfkpbaaGreatDoor
open Go.ChangeShapes Go.WideShapes Go.RowKit
set_option linter.unusedVariables false
theorem handed_and_shaped {H : Type} {enc : TypeId × Value → H} {a : Assume} {C : Checked} {os : Os} {f : FuncId} {fn : Func} {s : ChangeSpec} {conds : List PathCond} {apart fresh handsOn again : Bool} {X : World → Array Value → Prop}
  (hX : ∀ (w w' : World) (args : Array Value), w.heap = w'.heap → X w args → X w' args)
  (own : ownKnob C.prog.godebug = none) (started : os.Started) (noInit : C.prog.inits.idxOf? f = none) (hfn : C.prog.funcs[f]? = some fn)
  (witness : ∃ (w : World) (tape : Tape) (i : Input), w.os = os ∧ (w.forCall tape i).Shaped C.prog ∧ i.vars = [] ∧ Input.okWide C.prog (w.forCall tape i) .any w.heap.size f i ∧
   ((s.pre enc C.prog fn conds apart (w.forCall tape i).memory i.args ∧ X (w.forCall tape i).memory i.args) ∧ sizedMet enc C.prog fn (OpenSpec.ofChange s) apart (w.forCall tape i).memory i.args) ∧ a.holds C.prog (lone (Frame.enter C.prog f i.args .normal) [] (w.forCall tape i)))
  (contract : ∀ (W : World) (base : Nat) (args : Array Value) (ds gs : List (DataW H)) (before : List MemPlace),
   (∀ (j : Nat) t v, fn.params[j]? = some t → args[j]? = some v → Value.okWide C.prog W .any base t v) →
   DataW.Whole enc C.prog fn.params.toList s.vars apart W args.toList ds gs before →
   conds.all (PathCond.test C.prog ⟨fn.params.toList, ds, s.plain.varTypes C.prog, gs⟩) = true →
   W.ShapedOpen C.prog → X W args →
   Calls C.prog f args W fun e W' => ∃ v, e = .returned v ∧ s.post enc C.prog fn apart fresh handsOn again W args v W') :
  ReturnsInHanded a C os f .any (fun w args => (s.pre enc C.prog fn conds apart w args ∧ X w args) ∧ sizedMet enc C.prog fn (OpenSpec.ofChange s) apart w args) (s.post enc C.prog fn apart fresh handsOn again) := by
 refine returnsInHanded_of_calls own started noInit witness ?_
 intro w tape i _ hsh _ hok hpre hholds
 obtain ⟨_, _, _, fn', hfn', _, _, _, _, hval⟩ := hok
 have e : fn' = fn := Option.some.inj (hfn'.symm.trans hfn)
 subst e
 obtain ⟨⟨⟨ds, gs, before, hw, hc⟩, hx⟩, hz⟩ := hpre
 have hw' := DataW.Whole.of_heap (w' := w.forCall tape i) (by rfl) hw
 refine (contract (w.forCall tape i) w.heap.size i.args ds gs before hval hw' hc hsh (hX _ _ _ (by rfl) hx)).mono fun e W' ⟨v, he, hp⟩ => ?_
 subst he
 exact ChangeSpec.post_blind hp
theorem gPow : Tryz.prog.globalNamed "internal/strconv.uint64pow10" = some 1 := by kernel_rfl
theorem pow_datum : (Rows.laid_internal_strconv_uint64pow10 : DataW Unit) = Lib.tabData .u64 Lib.pow10Tab := by kernel_rfl
def Pow (w : World) : Prop := Lib.TabBelow Tryz.prog w.heap.size w "internal/strconv.uint64pow10" .u64 Lib.pow10Tab
theorem Pow.next {w w' : World} (h : Pow w) (hb : Below w.heap.size w w') : Pow w' := fun w2 h2 => h w2 (hb.trans (h2.mono hb.size))
theorem Pow.here {w : World} (h : Pow w) : Lib.TabIs Tryz.prog w "internal/strconv.uint64pow10" .u64 Lib.pow10Tab := Lib.TabBelow.here h
theorem gPowType : (Tryz.prog.globals[1]?).map (·.type) = some 193 := by kernel_rfl
set_option maxRecDepth 100000 in
theorem pow_of {W : World} {rest : List (String × DataW Unit)} (h : laidMet Tryz.prog (("internal/strconv.uint64pow10", Rows.laid_internal_strconv_uint64pow10) :: rest) W) : Pow W := by
 rw [pow_datum] at h
 exact Lib.tabBelow_of_tabIs (Lib.tabIs_of_head gPow gPowType Tryz.underlying193 Tryz.underlying147 (by kernel_rfl) (by kernel_rfl) h)
end Go.Proofs.YtoemghiejfkpbaaGreatDoor
/- The tables of unicode/utf8, from a row's list. -/
namespace Go.Proofs.YtoemghiejfkpbaaGreatDoor
open Go.RowKit Go.Lib
set_option linter.unusedVariables false
set_option maxRecDepth 100000 in
theorem first_datum : Go.Pinned.utf8First = firstData := by kernel_rfl
set_option maxRecDepth 100000 in
theorem accept_datum : (Rows.laid_unicode_utf8_acceptRanges : DataW Unit) = acceptData := by kernel_rfl
theorem u8x : Go.Proofs.U8Extra Tryz.prog lays197_ren := ⟨by kernel_rfl, by kernel_rfl, by kernel_rfl, by kernel_rfl, by kernel_rfl, by kernel_rfl, by kernel_rfl⟩
def U8 (w : World) : Prop := Lib.Utf8Tabs 2 3 w
theorem U8.next {w w' : World} (h : U8 w) (hb : Below w.heap.size w w') : U8 w' :=
 ⟨fun c hc => (hb.cell (p := ⟨2, c, none⟩) (block_lt_of_cell (h.1 c hc))).trans (h.1 c hc),
  fun i hi => ⟨(hb.cell (p := ⟨3, 2 * i, none⟩) (block_lt_of_cell (h.2 i hi).1)).trans (h.2 i hi).1, (hb.cell (p := ⟨3, 2 * i + 1, none⟩) (block_lt_of_cell (h.2 i hi).2)).trans (h.2 i hi).2⟩⟩
theorem u8_of {W : World} {l : List (String × DataW Unit)} (h : laidMet Tryz.prog l W) (h1 : ("unicode/utf8.first", (Rows.laid_unicode_utf8_first : DataW Unit)) ∈ l) (h2 : ("unicode/utf8.acceptRanges", (Rows.laid_unicode_utf8_acceptRanges : DataW Unit)) ∈ l) : U8 W := by
 have r1 := Lib.laidMet.reads h h1
 have r2 := Lib.laidMet.reads h h2
 rw [show (Rows.laid_unicode_utf8_first : DataW Unit) = Go.Pinned.utf8First from rfl, first_datum] at r1
 rw [accept_datum] at r2
 exact Go.Proofs.utf8Tabs_of_reads (P := Tryz.prog) (ρ := lays197_ren) { lays197 with } u8x r1 r2
end Go.Proofs.YtoemghiejfkpbaaGreatDoor
/- The tables of unicode/utf8 and of package numeral, from a row's list. -/
namespace Go.Proofs.YtoemghiejfkpbaaGreatDoor
open Go.RowKit Go.Lib
set_option linter.unusedVariables false
def zerosL : List Int := [48, 1632, 1776, 2406, 2534, 3664, 3872, 6112, 65296]
theorem zeros_datum : (Rows.laid_ephemeris_numeral_zeros : DataW Unit) = Lib.tabData .i32 zerosL := by kernel_rfl
theorem gZeros : Tryz.prog.globalNamed "ephemeris/numeral.zeros" = some 0 := by kernel_rfl
theorem gZerosType : (Tryz.prog.globals[0]?).map (·.type) = some 181 := by kernel_rfl
def Zer (w : World) : Prop := ∀ k, k < 9 → w.cell? ⟨0, k, none⟩ = some (.int .i32 (zerosL.getD k 0))
theorem Zer.next {w w' : World} (h : Zer w) (hb : Below w.heap.size w w') : Zer w' := fun k hk => (hb.cell (p := ⟨0, k, none⟩) (block_lt_of_cell (h k hk))).trans (h k hk)
theorem zer_of {W : World} {rest : List (String × DataW Unit)} (h : laidMet Tryz.prog (("ephemeris/numeral.zeros", Rows.laid_ephemeris_numeral_zeros) :: rest) W) : Zer W := by
 rw [zeros_datum] at h
 have ht := Lib.tabIs_of_head gZeros gZerosType Tryz.underlying181 Tryz.underlying21 (by kernel_rfl) (by kernel_rfl) h
 intro k hk
 have := World.var?_cell gZeros ht k
 rw [this]
 match k, hk with
 | 0, _ | 1, _ | 2, _ | 3, _ | 4, _ | 5, _ | 6, _ | 7, _ | 8, _ => rfl
end Go.Proofs.YtoemghiejfkpbaaGreatDoor
