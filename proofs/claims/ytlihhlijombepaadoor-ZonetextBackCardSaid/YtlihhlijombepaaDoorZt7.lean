/- Contract of zonetext.Parse at a text that was written. -/
import Derived.Test.YtlihhlijombepaaDoorZt6
namespace Go.Proofs.YtlihhlijombepaaDoor
open Go.RowKit
set_option linter.unusedVariables false

def ParseQ (nm : ByteArray) (first : Int) (chs : List Chg) (w : World) (e : Ending) (w' : World) : Prop :=
  ∃ (A : Option Addr) (c : Nat), e = .returned (.tuple #[.agg #[.string nm, .int .i64 first, .slice A chs.length c], .int .i64 0, .int .i64 0]) ∧ ZIn w' nm A chs ∧ Below w.heap.size w w'
/-- what the loop keeps: k lines are read -/
def PState (g : Nat) (nm : ByteArray) (first : Int) (chs : List Chg) (k : Nat) (wr : World) : Prop :=
  ∃ (nm0 : ByteArray) (f0 : Int) (A : Option Addr) (c : Nat), Box wr (g + 1) 24 #[.string nm0, .int .i64 f0, .slice A (k - 1) c] ∧ (0 < k → nm0 = nm ∧ f0 = first) ∧ (k = 0 → A = none ∧ c = 0) ∧ wr.ownsRow (g + 1 + 1) 26 3 (.slice A (k - 1) c) (k - 1) (chCells (chs.take (k - 1))) ∧ Box wr g 24 #[.string ⟨#[]⟩, .int .i64 0, .slice none 0 0]

set_option maxHeartbeats 4000000 in
set_option maxRecDepth 100000 in
theorem parse_yes (nm : ByteArray) (first : Int) (chs : List Chg) (w : World) (hok : ZoneOk nm first chs) (hp : Pow w) (hsh : Shp w) :
    Calls Tryd.prog 36 #[.string (str (printL nm first chs))] w (ParseQ nm first chs w) := by
  have HOK := Lib.hid hok
  have HP := Lib.hid (fun W (hW : Below w.heap.size w W) => hp.next hW)
  have HSH := Lib.hid (fun W (hW : Below w.heap.size w W) => hsh.next hW)
  have hlen : (str (printL nm first chs)).size ≤ 15000 := by rw [str_size]; exact print_len nm first chs hok
  have HR0 : Hid (str (printL nm first chs) = str (restL nm first chs 0)) := rfl
  have hcl : chs.length ≤ 200 := hok.2.2.1
  have HE : Hid (∀ k, k ≤ chs.length → (str (restL nm first chs k)).toList.isEmpty = false) := fun k hk => by
    rw [str_toList, rest_step nm first chs k hk]
    simp
  have HE2 : Hid ((str (restL nm first chs (chs.length + 1))).toList.isEmpty = true) := by unfold Hid; rw [str_toList, rest_end]; rfl
  have HC : Hid (∀ k, k ≤ chs.length → ∀ W, Below w.heap.size w W → Calls Tryd.prog 84 #[.string (str (restL nm first chs k)), .string ⟨#[10]⟩] W fun e w' => e = .returned (.tuple #[.string (str (textL nm first chs k)), .string (str (restL nm first chs (k + 1))), .bool true]) ∧ Below W.heap.size W w') := fun k hk W hW => by
    have h := cutc_any (str (restL nm first chs k)) 10 W (by rw [str_size]; have := rest_len nm first chs hok k; omega) (hsh.next hW)
    rw [str_data, rest_step nm first chs k hk, cut_at 10 _ _ (text_no nm first chs hok k hk)] at h
    rw [rest_step nm first chs k hk]
    exact h
  have HRW1 : Hid (∀ gz nm0 f0 v W, Box W gz 24 #[.string nm0, .int .i64 f0, v] → Below w.heap.size w W → Calls Tryd.prog 88 #[.pointer (some ⟨gz, 0, none⟩), .string (str (textL nm first chs 0)), .bool true] W (RowQ gz #[.string nm, .int .i64 first, v] W)) := fun gz nm0 f0 v W hx hW => row_first gz nm0 f0 v nm first W hx hok.1 hok.2.1 (hsh.next hW)
  have HRW2 : Hid (∀ gz k A c W, k < chs.length → Box W gz 24 #[.string nm, .int .i64 first, .slice A k c] → W.ownsRow (gz + 1) 26 3 (.slice A k c) k (chCells (chs.take k)) → Below w.heap.size w W → Calls Tryd.prog 88 #[.pointer (some ⟨gz, 0, none⟩), .string (str (textL nm first chs (k + 1))), .bool false] W (RowAtQ gz nm first k (chCells (chs.take (k + 1))) W)) := fun gz k A c W hk hx ho hW => by
    obtain ⟨⟨a1, a2⟩, o, l, _⟩ := hok.2.2.2 k hk
    have h := row_at gz nm first A k c (chCells (chs.take k)) ((chs.getD k chg0).a / 86400000) ((chs.getD k chg0).a % 86400000) (chs.getD k chg0).o (chs.getD k chg0).l W hx ho (by omega) (by omega) (by omega) (by omega) (by omega) o l (hsh.next hW) (hp.next hW)
    rw [show (chs.getD k chg0).a / 86400000 * 86400000 + (chs.getD k chg0).a % 86400000 = (chs.getD k chg0).a from by omega] at h
    have e : chCells (chs.take (k + 1)) = chCells (chs.take k) ++ [.int .i64 (chs.getD k chg0).a, .int .i64 (chs.getD k chg0).o, .string (chs.getD k chg0).l] := by
      rw [List.take_succ_eq_append_getElem hk, chCells_append]
      simp [chCells, List.getD, List.getElem?_eq_getElem hk]
    rw [e]
    unfold textL
    rw [if_neg (by omega), show k + 1 - 1 = k from by omega]
    exact h
  have HFit : Hid (∀ W A, Row W W.heap.size A (chCells chs) → ZIn W nm A chs) := fun W A hr => ⟨hr, by unfold maxLen; have := hok.1.2.1; omega, by unfold maxLen; omega, fun x hx => by
    obtain ⟨i, hi, rfl⟩ := List.getElem_of_mem hx
    obtain ⟨⟨a1, a2⟩, ⟨_, o1, o2⟩, l, _⟩ := hok.2.2.2 i hi
    have e : chs.getD i chg0 = chs[i] := by simp [List.getD, List.getElem?_eq_getElem hi]
    rw [e] at a1 a2 o1 o2 l
    exact ⟨by omega, by omega, by omega, by omega, by have := l.2.2; unfold maxLen; omega⟩⟩
  clear hok hp hsh
  unfold ParseQ
  generalize hS : str (printL nm first chs) = S at *
  clear hS
  have t1 : decide (20000 < (S.size : Int)) = false := decide_eq_false (by omega)
  have t2 : decide (20000 < S.size) = false := decide_eq_false (by omega)
  have hX0 := (Box.new w 24 #[.string ⟨#[]⟩, .int .i64 0, .slice none 0 0]).alloc (Obj.cells #[.string ⟨#[]⟩, .int .i64 0, .slice none 0 0] 24)
  have hY0 := Box.new (w.alloc (Obj.cells #[.string ⟨#[]⟩, .int .i64 0, .slice none 0 0] 24)) 24 #[.string ⟨#[]⟩, .int .i64 0, .slice none 0 0]
  rw [show (w.alloc (Obj.cells #[.string ⟨#[]⟩, .int .i64 0, .slice none 0 0] 24)).heap.size = w.heap.size + 1 from by simp] at hY0
  have HB0 := Lib.hid (below_alloc2 w (Obj.cells #[.string ⟨#[]⟩, .int .i64 0, .slice none 0 0] 24) (Obj.cells #[.string ⟨#[]⟩, .int .i64 0, .slice none 0 0] 24))
  have HPS : Hid (PState w.heap.size nm first chs 0 ((w.alloc (Obj.cells #[.string ⟨#[]⟩, .int .i64 0, .slice none 0 0] 24)).alloc (Obj.cells #[.string ⟨#[]⟩, .int .i64 0, .slice none 0 0] 24))) :=
    ⟨⟨#[]⟩, 0, none, 0, hY0, (fun h => by omega), (fun _ => ⟨rfl, rfl⟩), World.ownsRow_nil _ _ _ _, hX0⟩
  clear hX0 hY0
  go_enter Tryd.func36, Tryd.ntmps36
  go_wp2_with fail
  generalize (w.alloc (Obj.cells #[.string ⟨#[]⟩, .int .i64 0, .slice none 0 0] 24)).alloc (Obj.cells #[.string ⟨#[]⟩, .int .i64 0, .slice none 0 0] 24) = W0 at *
  generalize hg : w.heap.size = g at *
  have HG := Lib.hid hg
  clear hg
  rw [HR0.out]
  go_loopw [6, 7, 8, 9] (fun lv ev rv tv wr => ∃ (k : Nat) (tx : ByteArray) (eb : Bool), k ≤ chs.length + 1 ∧ lv = .int .i64 (k : Int) ∧ ev = .bool eb ∧ Hid (0 < k → eb = true) ∧ rv = .string (str (restL nm first chs k)) ∧ (tv = .string tx ∨ tv = undef) ∧ Hid (PState g nm first chs k wr) ∧ Hid (Below g w wr)) (fun lv _ _ _ _ => chs.length + 1 - (intOf lv).toNat)
  case atStart => exact ⟨0, ⟨#[]⟩, false, by omega, rfl, rfl, (fun h => absurd h (by omega)), rfl, .inr rfl, HPS, HB0⟩
  case round =>
    clear HPS HB0
    obtain ⟨k, tx, eb, hk, rfl, rfl, heb, rfl, htv, hps, hbr⟩ := hrel
    by_cases hlt : k ≤ chs.length
    · have he := HE.out k hlt
      have hCk := Lib.hid (HC.out k hlt wr hbr.out)
      clear htv heb
      have HGr : Hid (g ≤ wr.heap.size) := by unfold Hid; have := hbr.out.size; have := HG.out; omega
      generalize str (restL nm first chs k) = R at *
      cases k with
      | zero =>
        go_wp2_with fail
        refine hCk.out.mono ?_
        rintro e w1 ⟨rfl, hb⟩
        obtain ⟨nm0, f0, A, c, hx, _, hA, ho, hz⟩ := hps.out
        obtain ⟨rfl, rfl⟩ := hA rfl
        have hx1 := hx.below hb
        have HZ1 := Lib.hid (hz.below hb)
        have HB1 := Lib.hid (hbr.out.trans (hb.mono HGr.out))
        have HR := Lib.hid (HRW1.out (g + 1) nm0 f0 _ w1 hx1 HB1.out)
        clear hb hx hx1 ho hz hCk
        go_wp2_with fail
        refine HR.out.mono ?_
        rintro e w2 ⟨rfl, hx2, hb2⟩
        have HPS2 : Hid (PState g nm first chs 1 w2) := ⟨nm, first, none, 0, hx2, fun _ => ⟨rfl, rfl⟩, fun h => by omega, World.ownsRow_nil _ _ _ _, HZ1.out.belowB hb2 (by omega)⟩
        have HB2 := Lib.hid (HB1.out.trans (hb2.mono (by omega)))
        clear hx2 hb2 HR hA
        go_wp2_with fail
        go_roundw
        case rel => exact ⟨1, _, true, by omega, rfl, rfl, fun _ => rfl, rfl, .inl rfl, HPS2, HB2⟩
        case measure => simp [intOf]
      | succ k =>
        have tk : ((k : Int) + 1 == 0) = false := by rw [beq_eq_false_iff_ne]; omega
        go_wp2_with fail
        refine hCk.out.mono ?_
        rintro e w1 ⟨rfl, hb⟩
        obtain ⟨nm0, f0, A, c, hx, hnf, _, ho, hz⟩ := hps.out
        obtain ⟨rfl, rfl⟩ := hnf (by omega)
        rw [Nat.add_sub_cancel] at hx ho
        have hx1 := hx.below hb
        have ho1 := own_next ho hb
        have HZ1 := Lib.hid (hz.below hb)
        have HB1 := Lib.hid (hbr.out.trans (hb.mono HGr.out))
        have HR := Lib.hid (HRW2.out (g + 1) k A c w1 (by omega) hx1 ho1 HB1.out)
        clear hb hx hx1 ho ho1 hz hCk hnf
        go_wp2_with fail
        refine HR.out.mono ?_
        rintro e w2 ⟨A2, c2, rfl, hx2, ho2, hb2⟩
        have HPS2 : Hid (PState g nm0 f0 chs (k + 1 + 1) w2) := ⟨nm0, f0, A2, c2, by rw [Nat.add_sub_cancel]; exact hx2, fun _ => ⟨rfl, rfl⟩, fun h => by omega, by rw [Nat.add_sub_cancel]; exact ho2, HZ1.out.belowB hb2 (by omega)⟩
        have HB2 := Lib.hid (HB1.out.trans (hb2.mono (by omega)))
        clear hx2 hb2 HR ho2
        go_wp2_with fail
        go_roundw
        case rel => exact ⟨k + 1 + 1, _, true, by omega, by go_num, rfl, fun _ => rfl, rfl, .inl rfl, HPS2, HB2⟩
        case measure => simp [intOf]; omega
    · obtain rfl : k = chs.length + 1 := by omega
      obtain rfl : eb = true := heb.out (by omega)
      have he := HE2.out
      obtain ⟨nm0, f0, A, c, hx, hnf, _, ho, hz⟩ := hps.out
      obtain ⟨rfl, rfl⟩ := hnf (by omega)
      rw [Nat.add_sub_cancel] at hx ho
      rw [List.take_length] at ho
      have hZ := HFit.out wr A (Row.of_ownS ho)
      have x0 : wr.cell? ⟨g + 1, 0, none⟩ = some (.string nm0) := hx.cell 0
      have x1 : wr.cell? ⟨g + 1, 1, none⟩ = some (.int .i64 f0) := hx.cell 1
      have x2 : wr.cell? ⟨g + 1, 2, none⟩ = some (.slice A chs.length c) := hx.cell 2
      have hgl : g + 1 < wr.heap.size := hx.lt
      have HXr := Lib.hid hx
      have HOr := Lib.hid ho
      have HYr := Lib.hid hz
      have HZr := Lib.hid hZ
      clear hx ho hz hZ hnf htv
      generalize str (restL nm0 f0 chs (chs.length + 1)) = R at *
      go_wp2_with fail
      refine (HZr.out.check f0 c).mono ?_
      rintro e w9 ⟨E, rfl, hE, hb9⟩
      obtain rfl : E = 0 := hE.2 HOK.out
      have hx9 := HXr.out.below hb9
      have hy9 := HYr.out.below hb9
      have HO9 := Lib.hid (own_next HOr.out hb9)
      have HB9 := Lib.hid (hbr.out.trans (hb9.mono (by have := hbr.out.size; have := HG.out; omega)))
      clear hE hb9 x0 x1 x2 hgl HOr HYr HXr HZr
      have x0 : w9.cell? ⟨g + 1, 0, none⟩ = some (.string nm0) := hx9.cell 0
      have x1 : w9.cell? ⟨g + 1, 1, none⟩ = some (.int .i64 f0) := hx9.cell 1
      have x2 : w9.cell? ⟨g + 1, 2, none⟩ = some (.slice A chs.length c) := hx9.cell 2
      have r0 : w9.cell? ⟨g, 0, none⟩ = some (.string ⟨#[]⟩) := hy9.cell 0
      have r1 : w9.cell? ⟨g, 1, none⟩ = some (.int .i64 0) := hy9.cell 1
      have r2 : w9.cell? ⟨g, 2, none⟩ = some (.slice none 0 0) := hy9.cell 2
      have rf : ∀ i, w9.frozen? ⟨g, i, none⟩ = false := fun i => hy9.free i
      have hgl : g + 1 < w9.heap.size := hx9.lt
      have HY9 := Lib.hid hy9
      clear hx9 hy9
      go_wp2_with fail
      refine bodyPost_ret (v := .tuple #[.agg #[.string nm0, .int .i64 f0, .slice A chs.length c], .int .i64 0, .int .i64 0]) (by simp [results, Tryd.results36, go_sem, r0, r1, r2]) rfl ?_
      have hO10 : (((w9.setCell ⟨g, 0, none⟩ (.string nm0)).setCell ⟨g, 1, none⟩ (.int .i64 f0)).setCell ⟨g, 2, none⟩ (.slice A chs.length c)).ownsRow (g + 1 + 1) 26 3 (.slice A chs.length c) chs.length (chCells chs) := own_heap HO9.out fun b hb => by
        have h := ownApart HO9.out HY9.out (by decide) b hb
        rw [Below.heap_setCell _ _ _ b h, Below.heap_setCell _ _ _ b h, Below.heap_setCell _ _ _ b h]
      exact ⟨A, c, rfl, HFit.out _ A (Row.of_ownS hO10), by rw [HG.out]; exact ((HB9.out.setCell (p := ⟨g, 0, none⟩) (Nat.le_refl _) _).setCell (p := ⟨g, 1, none⟩) (Nat.le_refl _) _).setCell (p := ⟨g, 2, none⟩) (Nat.le_refl _) _⟩
end Go.Proofs.YtlihhlijombepaaDoor
