/-
  NARROWER THAN 'FOR EVERY INPUT', by the rows' own cells (each row's printed sentence says how): CompileLeastSame: loops.
  DERIVED. THE GIVEN ROWS OF THIS SEAT. 8 by the template 'for every input the law returns true; each argument reads behind the call as it read before'; 0 by the template 'total and deterministic' (their statements: YtfindembancjdaaTotals.lean).
  GIVEN WITH THE SEED: the statements are not yours to turn. If you find one false, say at which input.
  Laid BY PROGRAM, IN A SANDBOX (cutbox-rows.mjs): the forced cells as the released guide's own fill.sh prints them over the translation f0fc7980fdafd2f8… (all of the seat's roots in one cut). By AI agents, Wed Nov 11 2026. No macro, syntax, notation, axiom, sorry.
-/
import Derived.Test.YtfindembancjdaaChecked
import GoSem.Claim
import GoSem.ClaimJoined
import GoSem.ClaimMapViews
import Derived.JoinedTies
import Derived.KernelRfl
namespace Go.Proofs.Ytfindembancjdaa
/- THE CELL 'sum', in the pinned program and in every row, IS THE sha256 OF THE DUMP (.gsa) THAT YtfindembancjdaaProg.lean LOADS. Nothing in Lean hashes anything: it is a label: what it is worth is what the hold of that sum in a sandbox is worth. -/
noncomputable def Try.pinned : Pinned := { name := "ytfindembancjdaa", sum := "f0fc7980fdafd2f806ca405776663341462c0599f6a6575fbfca210ec61d6e46", checked := Try.checked }
namespace Rows
def none {H : Type} : Left H := { results := [], args := [] }

/-- 'ephemeriskeep1.RecurParts': WHATEVER THE INPUT: true; the input reads as it did. -/
def recurPartsSpec : ChangeSpec := { name := "recurParts", fn := fun _ => fun
  | [d1, d2, d3] => { results := [.lit (.bool true)], args := [d1, d2, d3] }
  | _ => none }
def recurPartsRow : OpenClaim := { program := "ytfindembancjdaa", sum := "f0fc7980fdafd2f806ca405776663341462c0599f6a6575fbfca210ec61d6e46", func := "ephemeris/ephemeriskeep1.RecurParts", spec := "recurParts", unfollowed := true, recurses := true, apart := false }
def RecurPartsSaid : Prop := recurPartsRow.holds Try.pinned (OpenSpec.ofChange recurPartsSpec)

/-- ITS FALSE NEIGHBOUR: 'it returns false'. Refute it at one input. -/
def recurPartsWrong : ChangeSpec := { name := "recurParts", fn := fun _ => fun
  | [d1, d2, d3] => { results := [.lit (.bool false)], args := [d1, d2, d3] }
  | _ => none }
def RecurPartsWrongFalsely : Prop := recurPartsRow.holds Try.pinned (OpenSpec.ofChange recurPartsWrong)

/-- 'ephemeriskeep1.LunisolarAvoids': WHATEVER THE INPUT: true; the input reads as it did. -/
def lunisolarAvoidsSpec : ChangeSpec := { name := "lunisolarAvoids", fn := fun _ => fun
  | [d1, d2, d3] => { results := [.lit (.bool true)], args := [d1, d2, d3] }
  | _ => none }
def lunisolarAvoidsRow : OpenClaim := { program := "ytfindembancjdaa", sum := "f0fc7980fdafd2f806ca405776663341462c0599f6a6575fbfca210ec61d6e46", func := "ephemeris/ephemeriskeep1.LunisolarAvoids", spec := "lunisolarAvoids", unfollowed := true, recurses := true, apart := false }
def LunisolarAvoidsSaid : Prop := lunisolarAvoidsRow.holds Try.pinned (OpenSpec.ofChange lunisolarAvoidsSpec)

/-- ITS FALSE NEIGHBOUR: 'it returns false'. Refute it at one input. -/
def lunisolarAvoidsWrong : ChangeSpec := { name := "lunisolarAvoids", fn := fun _ => fun
  | [d1, d2, d3] => { results := [.lit (.bool false)], args := [d1, d2, d3] }
  | _ => none }
def LunisolarAvoidsWrongFalsely : Prop := lunisolarAvoidsRow.holds Try.pinned (OpenSpec.ofChange lunisolarAvoidsWrong)

/-- 'ephemeriskeep1.LunisolarBack': WHATEVER THE INPUT: true; the input reads as it did. -/
def lunisolarBackSpec : ChangeSpec := { name := "lunisolarBack", fn := fun _ => fun
  | [d1, d2] => { results := [.lit (.bool true)], args := [d1, d2] }
  | _ => none }
def lunisolarBackRow : OpenClaim := { program := "ytfindembancjdaa", sum := "f0fc7980fdafd2f806ca405776663341462c0599f6a6575fbfca210ec61d6e46", func := "ephemeris/ephemeriskeep1.LunisolarBack", spec := "lunisolarBack", unfollowed := true, recurses := true, apart := false }
def LunisolarBackSaid : Prop := lunisolarBackRow.holds Try.pinned (OpenSpec.ofChange lunisolarBackSpec)

/-- ITS FALSE NEIGHBOUR: 'it returns false'. Refute it at one input. -/
def lunisolarBackWrong : ChangeSpec := { name := "lunisolarBack", fn := fun _ => fun
  | [d1, d2] => { results := [.lit (.bool false)], args := [d1, d2] }
  | _ => none }
def LunisolarBackWrongFalsely : Prop := lunisolarBackRow.holds Try.pinned (OpenSpec.ofChange lunisolarBackWrong)

/-- 'ephemeriskeep1.RoomsFirst': WHATEVER THE INPUT: true; the input reads as it did. -/
def roomsFirstSpec : ChangeSpec := { name := "roomsFirst", fn := fun _ => fun
  | [d1, d2, d3] => { results := [.lit (.bool true)], args := [d1, d2, d3] }
  | _ => none }
def roomsFirstRow : OpenClaim := { program := "ytfindembancjdaa", sum := "f0fc7980fdafd2f806ca405776663341462c0599f6a6575fbfca210ec61d6e46", func := "ephemeris/ephemeriskeep1.RoomsFirst", spec := "roomsFirst", inPlace := ["slices.overlaps[ephemeris/api.Booking]"], unfollowed := true, recurses := true, apart := false }
def RoomsFirstSaid : Prop := roomsFirstRow.holds Try.pinned (OpenSpec.ofChange roomsFirstSpec)

/-- ITS FALSE NEIGHBOUR: 'it returns false'. Refute it at one input. -/
def roomsFirstWrong : ChangeSpec := { name := "roomsFirst", fn := fun _ => fun
  | [d1, d2, d3] => { results := [.lit (.bool false)], args := [d1, d2, d3] }
  | _ => none }
def RoomsFirstWrongFalsely : Prop := roomsFirstRow.holds Try.pinned (OpenSpec.ofChange roomsFirstWrong)

/-- 'ephemeriskeep1.RoomsApart': WHATEVER THE INPUT: true; the input reads as it did. -/
def roomsApartSpec : ChangeSpec := { name := "roomsApart", fn := fun _ => fun
  | [d1, d2, d3] => { results := [.lit (.bool true)], args := [d1, d2, d3] }
  | _ => none }
def roomsApartRow : OpenClaim := { program := "ytfindembancjdaa", sum := "f0fc7980fdafd2f806ca405776663341462c0599f6a6575fbfca210ec61d6e46", func := "ephemeris/ephemeriskeep1.RoomsApart", spec := "roomsApart", inPlace := ["slices.overlaps[ephemeris/api.Booking]"], unfollowed := true, recurses := true, apart := false }
def RoomsApartSaid : Prop := roomsApartRow.holds Try.pinned (OpenSpec.ofChange roomsApartSpec)

/-- ITS FALSE NEIGHBOUR: 'it returns false'. Refute it at one input. -/
def roomsApartWrong : ChangeSpec := { name := "roomsApart", fn := fun _ => fun
  | [d1, d2, d3] => { results := [.lit (.bool false)], args := [d1, d2, d3] }
  | _ => none }
def RoomsApartWrongFalsely : Prop := roomsApartRow.holds Try.pinned (OpenSpec.ofChange roomsApartWrong)

/-- 'ephemeriskeep1.ObservedSame': WHATEVER THE INPUT: true; the input reads as it did. -/
def observedSameSpec : ChangeSpec := { name := "observedSame", fn := fun _ => fun
  | [d1, d2, d3] => { results := [.lit (.bool true)], args := [d1, d2, d3] }
  | _ => none }
def observedSameRow : OpenClaim := { program := "ytfindembancjdaa", sum := "f0fc7980fdafd2f806ca405776663341462c0599f6a6575fbfca210ec61d6e46", func := "ephemeris/ephemeriskeep1.ObservedSame", spec := "observedSame", unfollowed := true, recurses := true, apart := false }
def ObservedSameSaid : Prop := observedSameRow.holds Try.pinned (OpenSpec.ofChange observedSameSpec)

/-- ITS FALSE NEIGHBOUR: 'it returns false'. Refute it at one input. -/
def observedSameWrong : ChangeSpec := { name := "observedSame", fn := fun _ => fun
  | [d1, d2, d3] => { results := [.lit (.bool false)], args := [d1, d2, d3] }
  | _ => none }
def ObservedSameWrongFalsely : Prop := observedSameRow.holds Try.pinned (OpenSpec.ofChange observedSameWrong)

/-- 'ephemeriskeep1.ObservedLonger': WHATEVER THE INPUT: true; the input reads as it did. -/
def observedLongerSpec : ChangeSpec := { name := "observedLonger", fn := fun _ => fun
  | [d1, d2, d3] => { results := [.lit (.bool true)], args := [d1, d2, d3] }
  | _ => none }
def observedLongerRow : OpenClaim := { program := "ytfindembancjdaa", sum := "f0fc7980fdafd2f806ca405776663341462c0599f6a6575fbfca210ec61d6e46", func := "ephemeris/ephemeriskeep1.ObservedLonger", spec := "observedLonger", unfollowed := true, recurses := true, apart := false }
def ObservedLongerSaid : Prop := observedLongerRow.holds Try.pinned (OpenSpec.ofChange observedLongerSpec)

/-- ITS FALSE NEIGHBOUR: 'it returns false'. Refute it at one input. -/
def observedLongerWrong : ChangeSpec := { name := "observedLonger", fn := fun _ => fun
  | [d1, d2, d3] => { results := [.lit (.bool false)], args := [d1, d2, d3] }
  | _ => none }
def ObservedLongerWrongFalsely : Prop := observedLongerRow.holds Try.pinned (OpenSpec.ofChange observedLongerWrong)

/-- 'ephemeriskeep1.CompileLeastSame': WHATEVER THE INPUT: true; the input reads as it did. -/
def compileLeastSameSpec : ChangeSpec := { name := "compileLeastSame", fn := fun _ => fun
  | [d1, d2] => { results := [.lit (.bool true)], args := [d1, d2] }
  | _ => none }
def compileLeastSameRow : OpenClaim := { program := "ytfindembancjdaa", sum := "f0fc7980fdafd2f806ca405776663341462c0599f6a6575fbfca210ec61d6e46", func := "ephemeris/ephemeriskeep1.CompileLeastSame", spec := "compileLeastSame", unfollowed := true, recurses := true, loops := true, apart := false }
def CompileLeastSameSaid : Prop := compileLeastSameRow.holds Try.pinned (OpenSpec.ofChange compileLeastSameSpec)

/-- ITS FALSE NEIGHBOUR: 'it returns false'. Refute it at one input. -/
def compileLeastSameWrong : ChangeSpec := { name := "compileLeastSame", fn := fun _ => fun
  | [d1, d2] => { results := [.lit (.bool false)], args := [d1, d2] }
  | _ => none }
def CompileLeastSameWrongFalsely : Prop := compileLeastSameRow.holds Try.pinned (OpenSpec.ofChange compileLeastSameWrong)

/- THE SECOND FORM. 'bulk': how many values and letters a reading holds, each counted each time it is reached (what is shared counts as often as it is met; a slice's spare places count too). A statement '..UptoSaid' is the law's where the arguments, and the package variables that the reading takes, are together of bulk at most 1048576: NARROWER than '..Said'. Prove '..Said' where nothing that the law and all that it calls make is longer than what came in: it says more and counts as full. Else prove '..UptoSaid'. A law counts once. -/
mutual
def uptoBulk {H : Type} : DataW H → Nat
  | .lit (.string bytes) => bytes.length + 1
  | .lit _ => 1
  | .nil => 1
  | .ptr d => uptoBulk d + 1
  | .slice elems spare => uptoBulkAll elems + uptoBulkAll spare + 1
  | .agg parts => uptoBulkAll parts + 1
  | .iface _ d => uptoBulk d + 1
  | .map entries => uptoBulkEntries entries + 1
  | .held _ => 1
def uptoBulkAll {H : Type} : List (DataW H) → Nat
  | [] => 0
  | d :: r => uptoBulk d + uptoBulkAll r
def uptoBulkEntries {H : Type} : List (Lit × DataW H) → Nat
  | [] => 0
  | x :: r => uptoBulkEntry x + uptoBulkEntries r
def uptoBulkEntry {H : Type} : Lit × DataW H → Nat
  | (.string bytes, d) => bytes.length + uptoBulk d + 1
  | (_, d) => uptoBulk d + 1
 end
def uptoSmall : (H : Type) → List (DataW H) → Bool := fun _ ds => decide (uptoBulkAll ds ≤ 1048576)
def OpenSpec.upto (s : _root_.Go.ChangeSpec) : _root_.Go.OpenSpec := { _root_.Go.OpenSpec.ofChange s with cond := some uptoSmall }

/-- 'ephemeriskeep1.RecurParts', WHERE WHAT IT READS IS OF BULK AT MOST 1048576: true; the input reads as it did. -/
def recurPartsUptoRow : OpenClaim := { program := "ytfindembancjdaa", sum := "f0fc7980fdafd2f806ca405776663341462c0599f6a6575fbfca210ec61d6e46", func := "ephemeris/ephemeriskeep1.RecurParts", spec := "recurParts", unfollowed := true, recurses := true, apart := false, narrowed := true }
def RecurPartsUptoSaid : Prop := recurPartsUptoRow.holds Try.pinned (OpenSpec.upto recurPartsSpec)

/-- 'ephemeriskeep1.LunisolarAvoids', WHERE WHAT IT READS IS OF BULK AT MOST 1048576: true; the input reads as it did. -/
def lunisolarAvoidsUptoRow : OpenClaim := { program := "ytfindembancjdaa", sum := "f0fc7980fdafd2f806ca405776663341462c0599f6a6575fbfca210ec61d6e46", func := "ephemeris/ephemeriskeep1.LunisolarAvoids", spec := "lunisolarAvoids", unfollowed := true, recurses := true, apart := false, narrowed := true }
def LunisolarAvoidsUptoSaid : Prop := lunisolarAvoidsUptoRow.holds Try.pinned (OpenSpec.upto lunisolarAvoidsSpec)

/-- 'ephemeriskeep1.LunisolarBack', WHERE WHAT IT READS IS OF BULK AT MOST 1048576: true; the input reads as it did. -/
def lunisolarBackUptoRow : OpenClaim := { program := "ytfindembancjdaa", sum := "f0fc7980fdafd2f806ca405776663341462c0599f6a6575fbfca210ec61d6e46", func := "ephemeris/ephemeriskeep1.LunisolarBack", spec := "lunisolarBack", unfollowed := true, recurses := true, apart := false, narrowed := true }
def LunisolarBackUptoSaid : Prop := lunisolarBackUptoRow.holds Try.pinned (OpenSpec.upto lunisolarBackSpec)

/-- 'ephemeriskeep1.RoomsFirst', WHERE WHAT IT READS IS OF BULK AT MOST 1048576: true; the input reads as it did. -/
def roomsFirstUptoRow : OpenClaim := { program := "ytfindembancjdaa", sum := "f0fc7980fdafd2f806ca405776663341462c0599f6a6575fbfca210ec61d6e46", func := "ephemeris/ephemeriskeep1.RoomsFirst", spec := "roomsFirst", inPlace := ["slices.overlaps[ephemeris/api.Booking]"], unfollowed := true, recurses := true, apart := false, narrowed := true }
def RoomsFirstUptoSaid : Prop := roomsFirstUptoRow.holds Try.pinned (OpenSpec.upto roomsFirstSpec)

/-- 'ephemeriskeep1.RoomsApart', WHERE WHAT IT READS IS OF BULK AT MOST 1048576: true; the input reads as it did. -/
def roomsApartUptoRow : OpenClaim := { program := "ytfindembancjdaa", sum := "f0fc7980fdafd2f806ca405776663341462c0599f6a6575fbfca210ec61d6e46", func := "ephemeris/ephemeriskeep1.RoomsApart", spec := "roomsApart", inPlace := ["slices.overlaps[ephemeris/api.Booking]"], unfollowed := true, recurses := true, apart := false, narrowed := true }
def RoomsApartUptoSaid : Prop := roomsApartUptoRow.holds Try.pinned (OpenSpec.upto roomsApartSpec)

/-- 'ephemeriskeep1.ObservedSame', WHERE WHAT IT READS IS OF BULK AT MOST 1048576: true; the input reads as it did. -/
def observedSameUptoRow : OpenClaim := { program := "ytfindembancjdaa", sum := "f0fc7980fdafd2f806ca405776663341462c0599f6a6575fbfca210ec61d6e46", func := "ephemeris/ephemeriskeep1.ObservedSame", spec := "observedSame", unfollowed := true, recurses := true, apart := false, narrowed := true }
def ObservedSameUptoSaid : Prop := observedSameUptoRow.holds Try.pinned (OpenSpec.upto observedSameSpec)

/-- 'ephemeriskeep1.ObservedLonger', WHERE WHAT IT READS IS OF BULK AT MOST 1048576: true; the input reads as it did. -/
def observedLongerUptoRow : OpenClaim := { program := "ytfindembancjdaa", sum := "f0fc7980fdafd2f806ca405776663341462c0599f6a6575fbfca210ec61d6e46", func := "ephemeris/ephemeriskeep1.ObservedLonger", spec := "observedLonger", unfollowed := true, recurses := true, apart := false, narrowed := true }
def ObservedLongerUptoSaid : Prop := observedLongerUptoRow.holds Try.pinned (OpenSpec.upto observedLongerSpec)

/-- 'ephemeriskeep1.CompileLeastSame', WHERE WHAT IT READS IS OF BULK AT MOST 1048576: true; the input reads as it did. -/
def compileLeastSameUptoRow : OpenClaim := { program := "ytfindembancjdaa", sum := "f0fc7980fdafd2f806ca405776663341462c0599f6a6575fbfca210ec61d6e46", func := "ephemeris/ephemeriskeep1.CompileLeastSame", spec := "compileLeastSame", unfollowed := true, recurses := true, loops := true, apart := false, narrowed := true }
def CompileLeastSameUptoSaid : Prop := compileLeastSameUptoRow.holds Try.pinned (OpenSpec.upto compileLeastSameSpec)

end Rows
end Go.Proofs.Ytfindembancjdaa
