/- The walk of ZonetextBack: it returns true at every input; it writes nothing that was there. -/
import Derived.Test.YtlihhlijombepaaDoorZt7
import Derived.Test.YtlihhlijombepaaDoorLaid
import Derived.Test.YtlihhlijombepaaDoorZoneArg
namespace Go.Proofs.YtlihhlijombepaaDoor.zonetextBack
open Go.RowKit
set_option linter.unusedVariables false

theorem nm_ok : NameOk ⟨#[97]⟩ := by
  refine ⟨by decide, by decide, by rw [Lib.toList_data]; decide, by rw [Lib.toList_data]; decide, by rw [Lib.toList_data]; decide, by rw [Lib.toList_data]; decide, fun k hk => ?_⟩
  have : k = 0 := by
    have : (⟨#[97]⟩ : ByteArray).size = 1 := by decide
    omega
  subst this
  decide +revert
theorem one_ok : ZoneOk ⟨#[97]⟩ (-1000) [] := ⟨nm_ok, ⟨by decide, by decide, by decide⟩, by decide, fun i hi => by simp at hi⟩
theorem one_text : str (printL ⟨#[97]⟩ (-1000) []) = ⟨#[122, 111, 110, 101, 32, 97, 32, 45, 48, 48, 58, 48, 48, 58, 48, 49, 10]⟩ := by decide +kernel

set_option maxHeartbeats 1000000 in
set_option maxRecDepth 100000 in
theorem core (nm : ByteArray) (first : Int) (A : Option Addr) (chs : List Chg) (c : Nat) (w : World) (hz : ZIn w nm A chs) (hp : Pow w) (hsh : Shp w) :
    Calls Tryd.prog 9 #[.agg #[.string nm, .int .i64 first, .slice A chs.length c]] w fun e w' => e = .returned (.bool true) ∧ Below w.heap.size w w' := by
  have HB0 := Lib.hid (below_alloc1 w (Obj.cells #[.string nm, .int .i64 first, .slice A chs.length c] 24))
  have HX0 := Lib.hid (Box.new w 24 #[.string nm, .int .i64 first, .slice A chs.length c])
  have H0 := Lib.hid (zprint_yes ⟨#[97]⟩ (-1000) none 0 [] (w.alloc (Obj.cells #[.string nm, .int .i64 first, .slice A chs.length c] 24)) ⟨.inl rfl, by show 1 ≤ maxLen; unfold maxLen; omega, by show 0 ≤ maxLen; unfold maxLen; omega, fun x hx => by cases hx⟩ one_ok (hp.next HB0.out))
  unfold PrQ at H0
  rw [one_text] at H0
  have HZ := Lib.hid (fun W (hW : Below w.heap.size w W) => hz.next hW)
  have HP := Lib.hid (fun W (hW : Below w.heap.size w W) => hp.next hW)
  have HS := Lib.hid (fun W (hW : Below w.heap.size w W) => hsh.next hW)
  clear hz hp hsh
  simp only [List.length_nil] at H0
  go_enter Tryd.func9, Tryd.ntmps9
  go_wp2_with fail
  refine H0.out.mono ?_
  rintro e w1 ⟨rfl, hb⟩
  have HX1 := Lib.hid (HX0.out.below hb)
  have HB1 := Lib.hid (below_then HB0.out hb)
  clear hb H0 HX0 HB0
  generalize hg : w.heap.size = g at *
  have HG := Lib.hid hg
  clear hg
  have x0 : w1.cell? ⟨g, 0, none⟩ = some (.string nm) := HX1.out.cell 0
  have x1 : w1.cell? ⟨g, 1, none⟩ = some (.int .i64 first) := HX1.out.cell 1
  have x2 : w1.cell? ⟨g, 2, none⟩ = some (.slice A chs.length c) := HX1.out.cell 2
  go_wp2_with fail
  by_cases hok : ZoneOk nm first chs
  case neg =>
    refine (zprint_no nm first A c chs w1 (HZ.out _ HB1.out) hok).mono ?_
    rintro e w2 ⟨E, hE, rfl, hb⟩
    have t1 : (E != 0) = true := by rw [bne_iff_ne]; exact hE
    have HB2 := Lib.hid (HB1.out.trans (hb.mono (by have := HB1.out.size; have := HG.out; omega)))
    clear hb
    go_wp2_with fail
    go_ret
    exact ⟨rfl, by rw [HG.out]; exact HB2.out⟩
  case pos =>
    have HPR := Lib.hid (zprint_yes nm first A c chs w1 (HZ.out _ HB1.out) hok (HP.out _ HB1.out))
    have HPA := Lib.hid (fun W (hW : Below g w W) => parse_yes nm first chs W hok (HP.out _ hW) (HS.out _ hW))
    have HPR2 := Lib.hid (fun A' c' W (hz : ZIn W nm A' chs) (hW : Below g w W) => zprint_yes nm first A' c' chs W hz hok (HP.out _ hW))
    unfold PrQ at HPR HPR2
    unfold ParseQ at HPA
    generalize str (printL nm first chs) = S at *
    clear hok
    refine HPR.out.mono ?_
    rintro e w2 ⟨rfl, hb⟩
    have HX2 := Lib.hid (HX1.out.below hb)
    have HB2 := Lib.hid (HB1.out.trans (hb.mono (by have := HB1.out.size; have := HG.out; omega)))
    clear hb HX1 HB1 x0 x1 x2 HPR
    have HPA2 := Lib.hid (HPA.out w2 HB2.out)
    go_wp2_with fail
    refine HPA2.out.mono ?_
    rintro e w3 ⟨A', c', rfl, hz3, hb⟩
    have HX3 := Lib.hid (HX2.out.below hb)
    have HB3 := Lib.hid (HB2.out.trans (hb.mono (by have := HB2.out.size; have := HG.out; omega)))
    clear hb HX2 HB2 HPA2 HPA
    have HX4 := Lib.hid (HX3.out.alloc (Obj.cells #[.string nm, .int .i64 first, .slice A' chs.length c'] 24))
    have HY4 := Lib.hid (Box.new w3 24 #[.string nm, .int .i64 first, .slice A' chs.length c'])
    have HB4 := Lib.hid (HB3.out.alloc (by have := HX3.out.lt; omega) (Obj.cells #[.string nm, .int .i64 first, .slice A' chs.length c'] 24))
    have HZ4 := Lib.hid (hz3.alloc (Obj.cells #[.string nm, .int .i64 first, .slice A' chs.length c'] 24))
    clear HX3 HB3 hz3
    go_wp2_with fail
    generalize w3.alloc (Obj.cells #[.string nm, .int .i64 first, .slice A' chs.length c'] 24) = W4 at *
    generalize w3.heap.size = g3 at *
    refine (HPR2.out A' c' W4 HZ4.out HB4.out).mono ?_
    rintro e w5 ⟨rfl, hb⟩
    have hx5 := HX4.out.below hb
    have hy5 := HY4.out.below hb
    have HB5 := Lib.hid (HB4.out.trans (hb.mono (by have := HX4.out.lt; omega)))
    clear hb
    have x2 : w5.cell? ⟨g, 2, none⟩ = some (.slice A chs.length c) := hx5.cell 2
    have y2 : w5.cell? ⟨g3, 2, none⟩ = some (.slice A' chs.length c') := hy5.cell 2
    clear hx5 hy5
    go_wp2_with fail
    go_ret
    exact ⟨rfl, by rw [HG.out]; exact HB5.out⟩

set_option maxRecDepth 100000 in
theorem walk {H : Type} {enc : TypeId × Value → H} {base : Nat} {W : World} (v0 : Value) (d0 : DataW H) (p0 : List MemPlace) (hv0 : Value.okWide Tryd.prog W .any base 24 v0) (h0 : DataW.Trod enc Tryd.prog W 0 (fun _ => true) true 24 v0 d0 p0)
    (hL : laidMet Tryd.prog Rows.zonetextBackRow.laid W) (hsh : W.ShapedOpen Tryd.prog) :
    Calls Tryd.prog 9 #[v0] W fun e w' => e = .returned (.bool true) ∧ Below W.heap.size W w' := by
  obtain ⟨nm, first, A, chs, c, rfl, hz⟩ := zone_open hv0 h0
  exact core nm first A chs c W hz (pow_of hL.tail.tail) (Shp.of hsh)
end Go.Proofs.YtlihhlijombepaaDoor.zonetextBack
