/- WEraBack -/
import Derived.Test.YtgocinlhkjaokaaGreatDoorGEra2
import Derived.Test.YtgocinlhkjaokaaGreatDoorGEraArg
import Derived.Test.YtgocinlhkjaokaaGreatDoorGBack1
/- The walk of EraBack: it returns true at every input; it writes nothing that was there. -/
namespace Go.Proofs.YtgocinlhkjaokaaGreatDoor.eraBack
open Go Go.RowKit
set_option linter.unusedVariables false

theorem gr_nm : str cr0.nm = ⟨#[103, 114, 101, 103, 111, 114, 105, 97, 110]⟩ := rfl
def oneL : List Rn := [⟨⟨#[97]⟩, 1⟩]
theorem one_ok : ErOk oneL := ⟨by decide, by decide, fun i hi => by
  obtain rfl : i = 0 := by have : oneL.length = 1 := rfl; omega
  exact ⟨nameB_ok _ (by decide +kernel), ⟨by show (-4000000 : Int) ≤ 1; omega, by show (1 : Int) ≤ 4000000; omega⟩, fun h => absurd h (Nat.lt_irrefl 0)⟩⟩
theorem one_reg : RegAt oneL cr0 1 0 2 0 0 366 := by
  refine ⟨⟨by decide, by show (1 : Int) ≤ 366; omega, fun q h1 h2 => ?_⟩, ⟨by omega, by omega⟩, 2, 1, 0, 0, by omega, by omega, by omega, by omega, greg_one.2, greg_one.1, by unfold moreI; rw [if_pos rfl]; omega⟩
  have : oneL.length = 1 := rfl
  omega
theorem one_say {w : World} {g : Nat} (hx : Box w g 24 #[.string ⟨#[97]⟩, .int .i64 1]) (hE : Env w) :
    Calls Tryz.prog 4 #[.slice (some ⟨g, 0, none⟩) 1 1, .string ⟨#[103, 114, 101, 103, 111, 114, 105, 97, 110]⟩, .int .i64 1, .int .i64 366] w fun e w' => e = .returned (.tuple #[.string ⟨#[97]⟩, .int .i64 2, .int .i64 0]) ∧ Below w.heap.size w w' := by
  have h := say_any (some ⟨g, 0, none⟩) 1 oneL cr0 cr0_inE 1 366 (.inl rfl) w (Row.of_box hx) (by show 1 ≤ maxLen; unfold maxLen; omega) (by intro x h; simp [oneL] at h; subst h; show 1 ≤ maxLen; unfold maxLen; omega) hE
  rw [gr_nm] at h
  refine Calls.mono h ?_
  rintro e w' ⟨hb, nm, n, E, rfl, hs⟩
  obtain ⟨e1, e2, e3⟩ := hs.2 one_ok 0 2 0 0 one_reg
  subst e1 e2 e3
  exact ⟨rfl, hb⟩
/-- what is told of Find -/
def FindT (l : List Rn) (r : CatRow) (mode : Int) (nmq : ByteArray) (a1 a2 a3 : Int) (u : Value) (w : World) : Prop :=
  ∀ A n c E, u = .tuple #[.slice A n c, .int .i64 E] → ((E ≠ 0 ∧ (ErOk l → E = 3 ∧ ¬ (-10000 ≤ a1 ∧ a1 ≤ 10000))) ∨
    (E = 0 ∧ ∃ xs : List Int, xs.length = n ∧ n ≤ 30 ∧ FindI l r mode nmq a1 a2 a3 l.length xs ∧ Row w w.heap.size A (ints xs)))
def findT (l : List Rn) (r : CatRow) (mode : Int) (nmq : ByteArray) (a1 a2 a3 : Int) : Told := ⟨fun u => ∃ (A : Option Addr) (n c : Nat) (E : Int), u = .tuple #[.slice A n c, .int .i64 E], FindT l r mode nmq a1 a2 a3⟩
theorem findT_next {l : List Rn} {r : CatRow} {mode : Int} {nmq : ByteArray} {a1 a2 a3 : Int} (u : Value) (w w' : World) (hb : Below w.heap.size w w') (h : FindT l r mode nmq a1 a2 a3 u w) : FindT l r mode nmq a1 a2 a3 u w' := fun A n c E e => by
  rcases h A n c E e with h | ⟨h1, xs, h2, h3, h4, h5⟩
  · exact .inl h
  · exact .inr ⟨h1, xs, h2, h3, h4, h5.next hb⟩
theorem find_told {l : List Rn} {r : CatRow} {mode : Int} {nmq : ByteArray} {a1 a2 a3 : Int} {B : Nat} {w : World} {e : Ending} (h : EFind l r mode nmq a1 a2 a3 B w e) : ∃ v, e = .returned v ∧ (findT l r mode nmq a1 a2 a3).V v ∧ (findT l r mode nmq a1 a2 a3).F v w := by
  rcases h with ⟨E, hE, rfl, h⟩ | ⟨A, c, xs, hn, h1, h2, h3, rfl⟩
  · exact ⟨_, rfl, ⟨none, 0, 0, E, rfl⟩, fun A n c E' e => by
      simp only [Value.tuple.injEq] at e
      have : E = E' := by simpa using congrArg (fun x => x.toList.getLast?) e
      subst this; exact .inl ⟨hE, h⟩⟩
  · exact ⟨_, rfl, ⟨A, xs.length, c, 0, rfl⟩, fun A' n' c' E' e => by
      have : (A = A' ∧ xs.length = n' ∧ c = c') ∧ (0 : Int) = E' := by simpa using e
      obtain ⟨⟨rfl, rfl, rfl⟩, rfl⟩ := this
      exact .inr ⟨rfl, xs, rfl, hn, h2, row_own h3⟩⟩
set_option maxHeartbeats 4000000 in
set_option maxRecDepth 100000 in
theorem core (A : Option Addr) (cp : Nat) (l : List Rn) (k mode0 day0 : Int) (w : World) (hk1 : -9223372036854775808 ≤ k) (hk2 : k ≤ 9223372036854775807) (hr : Row w w.heap.size A (l.flatMap rnF)) (hlc : l.length ≤ cp) (hc : cp ≤ maxLen) (hnm : ∀ x ∈ l, x.nm.size ≤ maxLen) (hv : Env w) :
    Calls Tryz.prog 3 #[.slice A l.length cp, .int .i64 k, .int .i64 mode0, .int .i64 day0] w fun e w' => e = .returned (.bool true) ∧ Below w.heap.size w w' := by
  have HN := Lib.hid (fun W (h : Env W) => name_any k W hk1 hk2 h.h)
  have HCutM := Lib.hid (fun W => cut_any mode0 1 2 W (by omega) (by omega) (by omega) (by omega))
  have HCutD := Lib.hid (fun W => cut_any day0 (-1000000) 2000000 W (by omega) (by omega) (by omega) (by omega))
  have b1 := Int.emod_nonneg day0 (show (2000000 : Int) ≠ 0 by omega)
  have b2 := Int.emod_lt_of_pos day0 (show (0 : Int) < 2000000 by omega)
  have b3 := Int.emod_nonneg mode0 (show (2 : Int) ≠ 0 by omega)
  have b4 := Int.emod_lt_of_pos mode0 (show (0 : Int) < 2 by omega)
  obtain ⟨day, hday⟩ : ∃ day, day = -1000000 + day0 % 2000000 := ⟨_, rfl⟩
  obtain ⟨mode, hmode⟩ : ∃ mode, mode = 1 + mode0 % 2 := ⟨_, rfl⟩
  rw [← hday] at HCutD
  rw [← hmode] at HCutM
  have hd1 : -1000000 ≤ day := by omega
  have hd2 : day < 1000000 := by omega
  have hm : mode = 1 ∨ mode = 2 := by omega
  clear b1 b2 b3 b4 hday hmode
  have hl : l.length ≤ maxLen := by omega
  have HSay := Lib.hid (fun W (h : Row W W.heap.size A (l.flatMap rnF)) (hE : Env W) => say_any A cp l (rowK k) (rowK_in k) mode day hm W h hl hnm hE)
  have HFind := Lib.hid (fun nmq a1 a2 a3 W (h : Row W W.heap.size A (l.flatMap rnF)) (hE : Env W) => find_any A cp l (rowK k) (rowK_in k) mode hm nmq a1 a2 a3 W h hl hnm hE)
  have HDt := Lib.hid (fun W (h : Env W) => Date_any (rowK k) (rowK_in k) day W h)
  have HIn := Lib.hid (rowK_in k)
  have HV := Lib.hid hv
  have HR := Lib.hid hr
  unfold DateQ at HDt
  clear hv hr hm hnm hlc hc hk1 hk2
  generalize rowK k = r at *
  obtain ⟨nm, hnm⟩ : ∃ nm, nm = str r.nm := ⟨_, rfl⟩
  rw [← hnm] at HN HSay HFind HDt
  clear hnm
  unfold maxLen at hl
  go_enter Tryz.func3, Tryz.ntmps3
  go_upto_region 2 with fail
  have HB1 := Lib.hid (below_alloc1 w (Obj.cells #[.string ⟨#[97]⟩, .int .i64 1] 24))
  have HX1 := Lib.hid (Box.new w 24 #[.string ⟨#[97]⟩, .int .i64 1])
  have HOne := Lib.hid (one_say HX1.out (HV.out.next HB1.out))
  generalize w.alloc (Obj.cells #[.string ⟨#[97]⟩, .int .i64 1] 24) = w1 at *
  clear HX1
  go_wp2_with fail
  refine HOne.out.mono ?_
  rintro e w2 ⟨rfl, hb2⟩
  have HB2 := Lib.hid (below_then HB1.out hb2)
  clear hb2 HB1 HOne
  go_wp2_with (go_at_call 5; first
    | (refine (HCutM.out _).mono ?_; rintro e w' ⟨rfl, rfl⟩; clear HCutM)
    | (refine (HCutD.out _).mono ?_; rintro e w' ⟨rfl, rfl⟩; clear HCutD))
  refine (HN.out _ (HV.out.next HB2.out)).mono ?_
  rintro e w3 ⟨rfl, hb3⟩
  have HB3 := Lib.hid (below_then HB2.out hb3)
  clear hb3 HB2
  go_wp2_with fail
  refine (HSay.out _ (HR.out.next HB3.out) (HV.out.next HB3.out)).mono ?_
  rintro e w4 ⟨hb4, s, n, E, rfl, hs⟩
  have HB4 := Lib.hid (below_then HB3.out hb4)
  clear hb4 HB3 HSay
  by_cases hE : E = 0
  case neg =>
    have t1 : (E != 0) = true := by rw [bne_iff_ne]; exact hE
    clear hs
    go_wp2_with fail
    go_ret
    exact ⟨rfl, HB4.out⟩
  subst hE
  obtain ⟨hok, q, m, d, hreg, hs'⟩ := hs.1 rfl
  have HOK := Lib.hid hok
  have HReg := Lib.hid hreg
  have HS := Lib.hid hs'
  clear hs hok hreg hs'
  go_wp2_with fail
  refine (HN.out _ (HV.out.next HB4.out)).mono ?_
  rintro e w5 ⟨rfl, hb5⟩
  have HB5 := Lib.hid (below_then HB4.out hb5)
  clear hb5 HB4
  go_wp2_with fail
  refine (HDt.out _ (HV.out.next HB5.out)).mono ?_
  rintro e w6 ⟨c, hof, ok, hb6, hc⟩
  have HB6 := Lib.hid (below_then HB5.out hb6)
  clear hb6 HB5 HDt
  obtain ⟨y, fy, fm, fd, q1, q2, q3, q4, ho, ho2, hn⟩ := HReg.out.ex
  have ho' := (hof.on (calE_of r) y m d day).2 ho
  have hD : ∃ y : Int, e = .returned (.tuple #[.agg (dateC y ((m : Int) + 1) (d + 1)), .int .i64 0]) := by
    rcases hc with ⟨y1, m1, d1, h1, h2, h3, rfl⟩ | ⟨h1, rfl⟩
    · obtain ⟨rfl, rfl, rfl⟩ := h3.unique ok ho'
      exact ⟨_, rfl⟩
    · exact absurd ⟨by omega, by omega, fd_in ok q1 q2 ho'⟩ h1
  obtain ⟨y1, rfl⟩ := hD
  clear hc hof ok q1 q2 q3 q4 ho ho2 hn ho'
  go_upto_region 10 with fail
  have HB7 := Lib.hid (HB6.out.alloc HB6.out.size (Obj.cells (dateC y1 ((m : Int) + 1) (d + 1)) 31))
  have HD7 := Lib.hid (Box.new w6 31 (dateC y1 ((m : Int) + 1) (d + 1)))
  clear HB6
  generalize w6.alloc (Obj.cells (dateC y1 ((m : Int) + 1) (d + 1)) 31) = w7 at *
  generalize w6.heap.size = gd at *
  have x1 : ∀ W, Below w7.heap.size w7 W → W.cell? ⟨gd, 1, none⟩ = some (.int .i64 ((m : Int) + 1)) := fun W hb => (HD7.out.below hb).cell 1
  have x2 : ∀ W, Below w7.heap.size w7 W → W.cell? ⟨gd, 2, none⟩ = some (.int .i64 (d + 1)) := fun W hb => (HD7.out.below hb).cell 2
  refine flow_begin (tellOf [(2, det (.string nm)), (11, findT l r mode s n ((m : Int) + 1) (d + 1))]) (by kernel_rfl) (by kernel_rfl) ?_
  repeat (first | (refine flow_val (v := ?_) (by rfl) (by rfl) (fun w hb => ?_) ?_; rotate_left; (· ((go_simp) <;> ((repeat' apply And.intro) <;> with_reducible rfl))); try simp only [Act.put, List.setIfInBounds_toArray, List.set_cons_zero, List.set_cons_succ, Nat.reduceAdd]) | (refine flow_skip (by rfl) (by rfl) ?_; try simp only [Act.put, List.setIfInBounds_toArray, List.set_cons_zero, List.set_cons_succ, Nat.reduceAdd]))
  refine flow_call (f := ?_) (args := ?_) [] (by kernel_rfl) (by rfl) (by rfl) (fun w hb => ?_) (fun w hb hu => ?_) ?_; rotate_left 2; (· ((go_simp) <;> ((repeat' apply And.intro) <;> with_reducible rfl)))
  · exact HN.out w (HV.out.next (below_then HB7.out hb))
  try simp only [Act.put, List.setIfInBounds_toArray, List.set_cons_zero, List.set_cons_succ, Nat.reduceAdd]
  repeat (first | (refine flow_val (v := ?_) (by rfl) (by rfl) (fun w hb => ?_) ?_; rotate_left; (· ((go_simp) <;> ((repeat' apply And.intro) <;> with_reducible rfl))); try simp only [Act.put, List.setIfInBounds_toArray, List.set_cons_zero, List.set_cons_succ, Nat.reduceAdd]) | (refine flow_skip (by rfl) (by rfl) ?_; try simp only [Act.put, List.setIfInBounds_toArray, List.set_cons_zero, List.set_cons_succ, Nat.reduceAdd]))
  refine flow_told (t := findT l r mode s n ((m : Int) + 1) (d + 1)) (f := ?_) (args := ?_) [] (by kernel_rfl) (by rfl) (by rfl) ⟨_, none, 0, 0, 0, rfl⟩ findT_next (fun w hb => ?_) (fun w hb hu => ?_) (fun v hp => ?_); rotate_left 2; (· ((go_simp) <;> ((repeat' apply And.intro) <;> with_reducible rfl)))
  · have hbw := below_then HB7.out hb
    refine (HFind.out s n _ _ w (HR.out.next hbw) (HV.out.next hbw)).mono ?_
    rintro e w' ⟨hb', hf⟩
    obtain ⟨v, h1, h2, h3⟩ := find_told hf
    exact ⟨v, h1, h2, h3, hb'⟩
  obtain ⟨A2, n2, c2, E2, rfl⟩ := hp
  try simp only [Act.put, List.setIfInBounds_toArray, List.set_cons_zero, List.set_cons_succ, Nat.reduceAdd]
  repeat (first | (refine flow_val (v := ?_) (by rfl) (by rfl) (fun w hb => ?_) ?_; rotate_left; (· ((go_simp) <;> ((repeat' apply And.intro) <;> with_reducible rfl))); try simp only [Act.put, List.setIfInBounds_toArray, List.set_cons_zero, List.set_cons_succ, Nat.reduceAdd]) | (refine flow_skip (by rfl) (by rfl) ?_; try simp only [Act.put, List.setIfInBounds_toArray, List.set_cons_zero, List.set_cons_succ, Nat.reduceAdd]))
  refine flow_nil fun w8 hb8 hf => ?_
  have hft := hf.1 A2 n2 c2 E2 rfl
  have HB8 := Lib.hid (below_then HB7.out hb8)
  clear hf hb8 HB7 HD7 x1 x2 HN HFind
  rcases hft with ⟨hne, h3⟩ | ⟨rfl, xs, hxn, hx30, hfi, hrow⟩
  · obtain ⟨rfl, hout⟩ := h3 HOK.out
    by_cases hbig : n > 10000
    · have t1 : decide (n > 10000) = true := decide_eq_true hbig
      have t1' : decide (10000 < n) = true := decide_eq_true hbig
      clear hbig hout
      go_wp2_with fail
      go_ret
      exact ⟨rfl, HB8.out⟩
    · have t1 : decide (n > 10000) = false := decide_eq_false hbig
      have t1' : decide (10000 < n) = false := decide_eq_false hbig
      have t2 : decide (n < -10000) = true := decide_eq_true (by omega)
      clear hbig hout
      go_wp2_with fail
      go_ret
      exact ⟨rfl, HB8.out⟩
  subst hxn
  have HMem : Hid (day ∈ xs) := hfi q m d day HReg.out.at_.lt HReg.out rfl rfl HS.out.symm
  have hne : 0 < xs.length := List.length_pos_of_mem HMem.out
  obtain ⟨b, o, hA, hbl, hcs⟩ := hrow.open_ (ints_ne xs hne)
  have HCS := Lib.hid (fun j hj => ints_cell hcs j hj)
  subst hA
  clear hfi hrow hcs HReg HS HOK
  go_wp2_with fail
  go_loopw [20, 87] (fun _ i wr => ∃ (j : Nat), j ≤ xs.length ∧ i = .int .i64 (j : Int) ∧ Hid (∀ q, q < j → xs.getD q 0 ≠ day) ∧ Hid (Below w8.heap.size w8 wr)) (fun _ i _ => xs.length - (intOf i).toNat)
  case atStart => exact ⟨0, by omega, rfl, fun q h => absurd h (Nat.not_lt_zero q), Below.refl _ _⟩
  case round =>
    obtain ⟨j, hj, rfl, hfd, hbr⟩ := hrel
    by_cases hlt : j < xs.length
    case neg =>
      obtain rfl : j = xs.length := by omega
      obtain ⟨q, hq, hqe⟩ := List.getElem_of_mem HMem.out
      exact absurd (by simp [List.getD, List.getElem?_eq_getElem hq, hqe]) (hfd.out q hq)
    have t1 : decide ((j : Int) < (xs.length : Int)) = true := decide_eq_true (by omega)
    have cx : wr.cell? ⟨b, o + j, none⟩ = some (.int .i64 (xs.getD j 0)) := (hbr.out.cell (p := ⟨b, o + j, none⟩) hbl).trans (HCS.out j hlt)
    have HBr := Lib.hid (below_then HB8.out hbr.out)
    have HF2 : Hid (xs.getD j 0 ≠ day → ∀ q, q < j + 1 → xs.getD q 0 ≠ day) := fun hx q hq => by
      by_cases h : q < j
      · exact hfd.out q h
      · obtain rfl : q = j := by omega
        exact hx
    obtain ⟨x, hx⟩ : ∃ x, x = xs.getD j 0 := ⟨_, rfl⟩
    rw [← hx] at cx HF2
    clear hx
    by_cases hxd : x = day
    · have t2 : (x == day) = true := by rw [beq_iff_eq]; exact hxd
      clear hxd hfd
      go_wp2_with fail
      go_ret
      exact ⟨rfl, HBr.out⟩
    · have t2 : (x == day) = false := by rw [beq_eq_false_iff_ne]; exact hxd
      have HF3 := Lib.hid (HF2.out hxd)
      clear hxd hfd HF2
      go_wp2_with fail
      go_roundw
      case rel => exact ⟨j + 1, by omega, by go_num, HF3, hbr⟩
      case measure => simp [intOf]; omega

set_option maxRecDepth 100000 in
theorem walk {H : Type} {enc : TypeId × Value → H} {base : Nat} {W : World} (v0 : Value) (d0 : DataW H) (p0 : List MemPlace) (hv0 : Value.okWide Tryz.prog W .any base 22 v0) (h0 : DataW.Trod enc Tryz.prog W 0 (fun _ => true) true 22 v0 d0 p0) (a1 : Int) (w1 : (Lit.int .i64 a1).wf = true) (a2 : Int) (w2 : (Lit.int .i64 a2).wf = true) (a3 : Int) (w3 : (Lit.int .i64 a3).wf = true)
    (hL : laidMet Tryz.prog Rows.eraBackRow.laid W) (hsh : W.ShapedOpen Tryz.prog) :
    Calls Tryz.prog 3 #[v0, .int .i64 a1, .int .i64 a2, .int .i64 a3] W fun e w' => e = .returned (.bool true) ∧ Below W.heap.size W w' := by
  obtain ⟨A, l, c, rfl, hlc, hc, hr, hnm⟩ := reigns_open hv0 h0
  exact core A c l a1 a2 a3 W (bounds_i64 w1).1 (bounds_i64 w1).2 hr hlc hc hnm ⟨sgs_of hL.tail.tail.tail.tail.tail.tail.tail, lvs_of hL.tail.tail.tail.tail.tail.tail, Shp.of hsh⟩
end Go.Proofs.YtgocinlhkjaokaaGreatDoor.eraBack
