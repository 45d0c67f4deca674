/- Pat0, Pat1, Pat2 -/
import Derived.Deep.DeepCutAuto
import Derived.Test.YtjnajedjpfjgkaaGreatDoorGNum1
import Derived.Test.YtjnajedjpfjgkaaGreatDoorGShelf1
import Derived.Test.YtjnajedjpfjgkaaGreatDoorGWords
import Derived.Test.YtjnajedjpfjgkaaGreatDoorGMem
import Derived.Test.YtjnajedjpfjgkaaGreatDoorGBuild1
import Derived.Test.YtjnajedjpfjgkaaGreatDoorGAr1
import Derived.Test.YtjnajedjpfjgkaaGreatDoorGWhole1
import Derived.Test.YtjnajedjpfjgkaaGreatDoorGCat1
/- Contracts of pattern.kind and pattern.split, at patterns that are sound. -/
namespace Go.Proofs.YtjnajedjpfjgkaaGreatDoor
open Go Go.RowKit
set_option linter.unusedVariables false

/-- the items that these laws use -/
def itemK : List (List UInt8 × Nat) := [([121], 1), ([109], 2), ([100], 3), ([110, 97, 109, 101], 4)]
set_option maxRecDepth 100000 in
theorem pkind_any (s : List UInt8) (k : Nat) (h : (s, k) ∈ itemK) (w : World) : Calls Tryz.prog 19 #[.string (str s)] w fun e w' => e = .returned (.tuple #[.int .i64 (k : Int), .int .i64 0]) ∧ w' = w := by
  unfold itemK at h
  simp only [List.mem_cons, Prod.mk.injEq, List.not_mem_nil, or_false] at h
  rcases h with ⟨rfl, rfl⟩ | ⟨rfl, rfl⟩ | ⟨rfl, rfl⟩ | ⟨rfl, rfl⟩
  · rw [show str [121] = ⟨#[121]⟩ from rfl]
    go_enter Tryz.func19, Tryz.ntmps19
    go_wp2_with fail
    go_ret2
    exact ⟨rfl, rfl⟩
  · rw [show str [109] = ⟨#[109]⟩ from rfl]
    go_enter Tryz.func19, Tryz.ntmps19
    go_wp2_with fail
    go_ret2
    exact ⟨rfl, rfl⟩
  · rw [show str [100] = ⟨#[100]⟩ from rfl]
    go_enter Tryz.func19, Tryz.ntmps19
    go_wp2_with fail
    go_ret2
    exact ⟨rfl, rfl⟩
  · rw [show str [110, 97, 109, 101] = ⟨#[110, 97, 109, 101]⟩ from rfl]
    go_enter Tryz.func19, Tryz.ntmps19
    go_wp2_with fail
    go_ret2
    exact ⟨rfl, rfl⟩
set_option maxRecDepth 100000 in
theorem pcontains_no (s : List UInt8) (c : UInt8) (h : ∀ b ∈ s, b ≠ c) (hs : s.length ≤ 1000) (w : World) (hsh : Shp w) : Calls Tryz.prog 36 #[.string (str s), .string ⟨#[c]⟩] w fun e w' => e = .returned (.bool false) ∧ w' = w := by
  obtain ⟨m, hm⟩ := hsh
  have hcs : (str s).size = s.length := str_size s
  have HI := Lib.hid (strings_Index (str s) ⟨#[c]⟩ m w (by omega) hm)
  rw [str_data, show (⟨#[c]⟩ : ByteArray).data.toList = [c] from rfl, index_no c s h] at HI
  clear hm h
  go_enter Tryz.func36, Tryz.ntmps36
  go_wp2_with (go_at_call 58; refine Calls.mono HI.out ?_; rintro e w' ⟨rfl, rfl⟩)
  go_ret
  exact ⟨rfl, rfl⟩
/-- a round of a pattern: text, and an item -/
structure PrOk (x : List UInt8 × List UInt8) : Prop where
  t1 : ∀ b ∈ x.1, b ≠ 123
  t2 : ∀ b ∈ x.1, b ≠ 125
  i1 : ∀ b ∈ x.2, b ≠ 125
  k : ∃ k : Nat, (x.2, k) ∈ itemK
def patT (R : List (List UInt8 × List UInt8)) : List UInt8 := R.flatMap fun x => x.1 ++ 123 :: (x.2 ++ [125])
theorem patT_cons (x : List UInt8 × List UInt8) (R : List (List UInt8 × List UInt8)) : patT (x :: R) = x.1 ++ 123 :: (x.2 ++ 125 :: patT R) := by simp [patT]
/-- a part: an item, or text -/
def partV (p : Bool × List UInt8) : List Value := [.bool p.1, .string (str p.2)]
def partL (R : List (List UInt8 × List UInt8)) : List (Bool × List UInt8) := R.flatMap fun x => (if x.1 = [] then [] else [(false, x.1)]) ++ [(true, x.2)]
theorem partL_snoc (R : List (List UInt8 × List UInt8)) (x : List UInt8 × List UInt8) : partL (R ++ [x]) = partL R ++ ((if x.1 = [] then [] else [(false, x.1)]) ++ [(true, x.2)]) := by simp [partL]
theorem partL_len (R : List (List UInt8 × List UInt8)) : (partL R).length ≤ 2 * R.length := by
  induction R with
  | nil => simp [partL]
  | cons x R ih =>
    have : partL (x :: R) = ((if x.1 = [] then [] else [(false, x.1)]) ++ [(true, x.2)]) ++ partL R := by simp [partL]
    rw [this, List.length_append, List.length_append, List.length_cons]
    split <;> simp <;> omega
theorem infoPart : (Tryz.prog.info? 56).map (fun i => (i.zero, i.size, i.bytes)) = some (some (.agg #[.bool false, .string ⟨#[]⟩]), 2, 24) := by kernel_rfl

set_option maxHeartbeats 8000000 in
set_option maxRecDepth 100000 in
theorem psplit_any (R : List (List UInt8 × List UInt8)) (hR : ∀ x ∈ R, PrOk x) (hlen : (patT R).length ≤ 60) (hn : R.length ≤ 20) (w : World) (hsh : Shp w) :
    Calls Tryz.prog 16 #[.string (str (patT R))] w fun e w' => ∃ v, e = .returned (.tuple #[v, .int .i64 0]) ∧ w'.ownsRow w.heap.size 56 2 v (partL R).length ((partL R).flatMap partV) ∧ Below w.heap.size w w' := by
  obtain ⟨i0, hi0, hz0, hz1, hz2⟩ := info_parts infoPart
  have HR := Lib.hid hR
  have HSh := Lib.hid hsh
  have hcs : (str (patT R)).size = (patT R).length := str_size _
  have t60 : decide (60 < ((patT R).length : Int)) = false := decide_eq_false (by omega)
  clear hR hsh
  go_enter Tryz.func16, Tryz.ntmps16
  go_wp2_with fail
  clear hcs t60
  go_loopw [0, 4, 5, 6, 7, 8, 9, 10, 11] (fun s0 s4 _ _ _ _ _ _ _ wr => ∃ R1 R2, R = R1 ++ R2 ∧ s0 = .string (str (patT R2)) ∧ (patT R2).length ≤ 60 ∧ Hid (wr.ownsRow w.heap.size 56 2 s4 (partL R1).length ((partL R1).flatMap partV)) ∧ Hid (Below w.heap.size w wr)) (fun s0 _ _ _ _ _ _ _ _ _ => match s0 with | .string s => s.size | _ => 0)
  case atStart => exact ⟨[], R, rfl, rfl, hlen, World.ownsRow_nil _ _ _ _, Below.refl _ _⟩
  case round =>
    obtain ⟨R1, R2, hRR, rfl, hl2, hown, hbr⟩ := hrel
    have hsz := hbr.out.size
    have hn1 : R1.length + R2.length ≤ 20 := by rw [hRR, List.length_append] at hn; exact hn
    have hp1 := partL_len R1
    cases R2 with
    | nil =>
      rw [show str (patT []) = ⟨#[]⟩ from rfl]
      have hR1 : R1 = R := by rw [hRR, List.append_nil]
      have HO : Hid (wr.ownsRow w.heap.size 56 2 u4 (partL R).length ((partL R).flatMap partV)) := by unfold Hid; rw [← hR1]; exact hown.out
      clear hown hRR hR1
      go_wp2_with fail
      go_ret2
      exact ⟨u4, rfl, HO.out, hbr.out⟩
    | cons x R3 =>
      have hok : PrOk x := HR.out x (by rw [hRR]; simp)
      obtain ⟨k, hk⟩ := hok.k
      have HS2 := Lib.hid (HSh.out.next hbr.out)
      rw [List.length_cons] at hn1
      have hlp : (patT (x :: R3)).length = x.1.length + (x.2.length + ((patT R3).length + 1) + 1) := by rw [patT_cons]; simp
      have HC1 : Hid (Calls Tryz.prog 35 #[.string (str (x.1 ++ 123 :: (x.2 ++ 125 :: patT R3))), .string ⟨#[123]⟩] wr fun e w' => e = .returned (.tuple #[.string (str x.1), .string (str (x.2 ++ 125 :: patT R3)), .bool true]) ∧ Below wr.heap.size wr w') := by
        have h2 := cutc_any (str (x.1 ++ 123 :: (x.2 ++ 125 :: patT R3))) 123 wr (by rw [str_size]; simp; omega) HS2.out
        rw [str_data, cut_at 123 x.1 _ hok.t1] at h2
        exact h2
      rw [patT_cons]
      have HCt := Lib.hid (fun W (h : Shp W) => pcontains_no x.1 125 hok.t2 (by omega) W h)
      have HC2 : Hid (∀ W, Shp W → Calls Tryz.prog 35 #[.string (str (x.2 ++ 125 :: patT R3)), .string ⟨#[125]⟩] W fun e w' => e = .returned (.tuple #[.string (str x.2), .string (str (patT R3)), .bool true]) ∧ Below W.heap.size W w') := fun W h => by
        have h2 := cutc_any (str (x.2 ++ 125 :: patT R3)) 125 W (by rw [str_size]; simp; omega) h
        rw [str_data, cut_at 125 x.2 _ hok.i1] at h2
        exact h2
      have HK := Lib.hid (fun W => pkind_any x.2 k hk W)
      have hk0 : ((k : Int) == 0) = false := by
        rw [beq_eq_false_iff_ne]
        unfold itemK at hk
        simp only [List.mem_cons, Prod.mk.injEq, List.not_mem_nil, or_false] at hk
        omega
      have HRR : Hid (R = (R1 ++ [x]) ++ R3) := by unfold Hid; rw [hRR]; simp
      have hm : (str (patT R3)).size < (str (x.1 ++ 123 :: (x.2 ++ 125 :: patT R3))).size := by rw [str_size, str_size]; simp; omega
      have HM := Lib.hid hm
      have hs3 : (patT R3).length ≤ 60 := by omega
      have hE : (str (x.1 ++ 123 :: (x.2 ++ 125 :: patT R3))).toList.isEmpty = false := by
        rw [str_toList]
        cases x.1 <;> rfl
      have hX : (str x.1).toList.isEmpty = decide (x.1 = []) := by
        rw [str_toList]
        cases x.1 <;> simp
      have hP : str x.1 = str x.1 := rfl
      clear hm hlp hl2 hRR hk hP
      generalize str (x.1 ++ 123 :: (x.2 ++ 125 :: patT R3)) = S0 at *
      generalize str (x.2 ++ 125 :: patT R3) = S1 at *
      generalize hS3 : str (patT R3) = S3 at *
      have HS3 := Lib.hid hS3
      clear hS3
      go_upto_region 8 with (first
        | (go_at_call 35; refine Calls.mono HC1.out ?_; rintro e w1 ⟨rfl, hb1⟩; have HB1 := Lib.hid hb1; clear hb1)
        | (go_at_call 36; refine Calls.mono (HCt.out w1 (HS2.out.next HB1.out)) ?_; rintro e w2 ⟨rfl, hw⟩; subst hw))
      have HBw := Lib.hid (below_then hbr.out HB1.out)
      have HSw := Lib.hid (HS2.out.next HB1.out)
      have HOw := Lib.hid (own_next hown.out HB1.out)
      clear hown hbr HS2 HB1 HC1 HCt hE hsz
      obtain ⟨B, hBe⟩ : ∃ B : Bool, B = decide (x.1 = []) := ⟨_, rfl⟩
      rw [← hBe] at hX
      have HBe := Lib.hid hBe
      clear hBe
      go_upto_if 26 with fail
      go_cut [4] (fun s4 wx => Hid (wx.ownsRow w.heap.size 56 2 s4 (partL R1 ++ (if x.1 = [] then [] else [(false, x.1)])).length ((partL R1 ++ (if x.1 = [] then [] else [(false, x.1)])).flatMap partV)) ∧ Hid (Below w.heap.size w wx))
      case first =>
        cases B
        · have hx1 : ¬ x.1 = [] := of_decide_eq_false HBe.out.symm
          have hsz := HBw.out.size
          have hown := HOw.out
          clear HBe HC2 HK HSw hX
          go_wp2_with (at_builtin; refine wpList_append_own _ rfl (.tmp 27) (.tmp 30) 32 rfl w.heap.size 56 i0 (.agg #[.bool false, .string ⟨#[]⟩]) 2 24 Tryz.underlying32 hi0 hz0 hz1 hz2 rfl (by decide) u4 (partL R1).length _ rfl (hown.alloc _) ⟨w2.heap.size, 0, none⟩ 1 1 [.bool false, .string (str x.1)] rfl rfl ?c1 ?c2 ?c3 ?c4 ?c5 ?_)
          case c1 => exact fun j u hj => World.news_of_block (cs := #[.bool false, .string (str x.1)]) (t := 56) (fr := (0, 0)) (heap_alloc_new w2 _) j u hj
          case c2 => simp [Value.oneCell']
          case c3 => unfold maxLen; omega
          case c4 => omega
          case c5 => simp only [World.size_alloc]; omega
          intro v' w3 hown' hgrow _
          have HO3 : Hid (w3.ownsRow w.heap.size 56 2 v' (partL R1 ++ (if x.1 = [] then [] else [(false, x.1)])).length ((partL R1 ++ (if x.1 = [] then [] else [(false, x.1)])).flatMap partV)) := by
            unfold Hid
            rw [if_neg hx1, List.length_append, List.flatMap_append]
            exact hown'
          have hgl : ∀ b, u4.ownBlock = some b → w.heap.size ≤ b := fun b hb => (own_lt hown b hb).1
          have HB3 := Lib.hid ((HBw.out.alloc hsz (Obj.cells #[.bool false, .string (str x.1)] 56)).grown hgrow (by simp only [World.size_alloc]; omega) hgl)
          clear hgrow hown hown' hgl HBw HOw
          go_wp2_with fail
          go_meet
          exact ⟨HO3, HB3⟩
        · have hx1 : x.1 = [] := of_decide_eq_true HBe.out.symm
          clear HBe
          have HO3 : Hid (w2.ownsRow w.heap.size 56 2 u4 (partL R1 ++ (if x.1 = [] then [] else [(false, x.1)])).length ((partL R1 ++ (if x.1 = [] then [] else [(false, x.1)])).flatMap partV)) := by
            unfold Hid
            rw [if_pos hx1, List.append_nil]
            exact HOw.out
          clear HOw
          go_wp2_with fail
          go_meet
          exact ⟨HO3, HBw⟩
      case rest =>
      obtain ⟨hown, hbw⟩ := hcut
      have HSc := Lib.hid (HSh.out.next hbw.out)
      clear HBw HSw HOw HBe hX
      go_upto_region 15 with (first
        | (go_at_call 35; refine Calls.mono (HC2.out wc HSc.out) ?_; rintro e w3 ⟨rfl, hb3⟩; have HB3 := Lib.hid (below_then hbw.out hb3); have HO3 := Lib.hid (own_next hown.out hb3); clear hb3)
        | (go_at_call 19; refine Calls.mono (HK.out w3) ?_; rintro e w4 ⟨rfl, hw⟩; subst hw))
      clear HC2 HK HSc hown hbw hk0
      have hsz := HB3.out.size
      have hown := HO3.out
      have hp3 : (partL R1 ++ (if x.1 = [] then [] else [(false, x.1)])).length ≤ 2 * R1.length + 1 := by rw [List.length_append]; split <;> simp <;> omega
      have hps := partL_snoc R1 x
      generalize hq : partL R1 ++ (if x.1 = [] then [] else [(false, x.1)]) = Q at *
      go_wp2_with (at_builtin; refine wpList_append_own _ rfl (.tmp 51) (.tmp 54) 32 rfl w.heap.size 56 i0 (.agg #[.bool false, .string ⟨#[]⟩]) 2 24 Tryz.underlying32 hi0 hz0 hz1 hz2 rfl (by decide) u4 Q.length _ rfl (hown.alloc _) ⟨w4.heap.size, 0, none⟩ 1 1 [.bool true, .string (str x.2)] rfl rfl ?c1 ?c2 ?c3 ?c4 ?c5 ?_)
      case c1 => exact fun j u hj => World.news_of_block (cs := #[.bool true, .string (str x.2)]) (t := 56) (fr := (0, 0)) (heap_alloc_new w4 _) j u hj
      case c2 => simp [Value.oneCell']
      case c3 => unfold maxLen; omega
      case c4 => omega
      case c5 => simp only [World.size_alloc]; omega
      intro v' w5 hown' hgrow _
      have HO5 : Hid (w5.ownsRow w.heap.size 56 2 v' (partL (R1 ++ [x])).length ((partL (R1 ++ [x])).flatMap partV)) := by
        unfold Hid
        rw [hps, ← List.append_assoc, hq, List.length_append, List.flatMap_append]
        exact hown'
      have hgl : ∀ b, u4.ownBlock = some b → w.heap.size ≤ b := fun b hb => (own_lt hown b hb).1
      have HB5 := Lib.hid ((HB3.out.alloc hsz (Obj.cells #[.bool true, .string (str x.2)] 56)).grown hgrow (by simp only [World.size_alloc]; omega) hgl)
      clear hgrow hown hown' hgl HB3 HO3 hps hq
      go_wp2_with fail
      go_roundw
      case rel => exact ⟨R1 ++ [x], R3, HRR.out, by rw [HS3.out], hs3, HO5, HB5⟩
      case measure => exact HM.out
end Go.Proofs.YtjnajedjpfjgkaaGreatDoor

/- Contract of pattern.write. -/
namespace Go.Proofs.YtjnajedjpfjgkaaGreatDoor
open Go Go.RowKit
set_option linter.unusedVariables false

def pnameI : List UInt8 := [110, 97, 109, 101]
/-- what a part shows -/
def partX (mn : ByteArray) (nt : Int → List UInt8) (y : Int) (m : Nat) (d : Int) (p : Bool × List UInt8) : List UInt8 :=
  if p.1 = false then p.2 else if p.2 = pnameI then mn.data.toList else if p.2 = [121] then nt y else if p.2 = [109] then nt ((m : Int) + 1) else nt (d + 1)
theorem six_at (y m d wd : Int) (k : Nat) (hk : 1 ≤ k) (hk3 : k ≤ 3) (W : World) : (Instr.index 54 (.agg #[.int .i64 0, .int .i64 y, .int .i64 m, .int .i64 d, .int .i64 0, .int .i64 wd]) (.int .i64 (k : Int))).run Tryz.prog W = .ok (.int .i64 (if k = 1 then y else if k = 2 then m else d)) W := by
  rcases (show k = 1 ∨ k = 2 ∨ k = 3 by omega) with rfl | rfl | rfl <;>
  simp [Instr.index, run_underlying Tryz.underlying54, asIntOf, go_sem]
theorem pflat_len {α : Type} (f : α → List UInt8) (n : Nat) : ∀ (l : List α), (∀ x ∈ l, (f x).length ≤ n) → (l.flatMap f).length ≤ n * l.length
  | [], _ => by simp
  | a :: l, h => by
    have h1 := h a (by simp)
    have ih := pflat_len f n l fun x hx => h x (List.mem_cons_of_mem _ hx)
    rw [List.flatMap_cons, List.length_append, List.length_cons, Nat.mul_add]
    omega
theorem pstr_own (s : ByteArray) : str s.data.toList = s := by
  apply ByteArray.ext
  simp [str]
theorem flat2_at {ps : List (Bool × List UInt8)} {w : World} {gp : Nat} (h : ∀ i x, (ps.flatMap partV)[i]? = some x → w.cell? ⟨gp, i, none⟩ = some x) (j : Nat) (p : Bool × List UInt8) (hp : ps[j]? = some p) :
    w.cell? ⟨gp, j * 2, none⟩ = some (.bool p.1) ∧ w.cell? ⟨gp, j * 2 + 1, none⟩ = some (.string (str p.2)) := by
  have key : ∀ (l : List (Bool × List UInt8)) (j : Nat), l[j]? = some p → (l.flatMap partV)[j * 2]? = some (.bool p.1) ∧ (l.flatMap partV)[j * 2 + 1]? = some (.string (str p.2)) := by
    intro l
    induction l with
    | nil => intro j h; simp at h
    | cons a l ih =>
      intro j h
      cases j with
      | zero => simp at h; subst h; exact ⟨rfl, rfl⟩
      | succ j =>
        have h2 := ih j (by simpa using h)
        rw [List.flatMap_cons, show (j + 1) * 2 = 2 + j * 2 from by omega, show 2 + j * 2 + 1 = 2 + (j * 2 + 1) from by omega]
        have hl : (partV a).length = 2 := rfl
        rw [List.getElem?_append_right (by omega), List.getElem?_append_right (by omega), hl, Nat.add_sub_cancel_left, Nat.add_sub_cancel_left]
        exact h2
  have h2 := key ps j hp
  exact ⟨h _ _ h2.1, h _ _ h2.2⟩
/-- what write says -/
def WrQ (ps : List (Bool × List UInt8)) (nt : Int → List UInt8) (c : Cal) (day : Int) (w : World) (e : Ending) (w' : World) : Prop :=
  Below w.heap.size w w' ∧ ((∃ (y : Int) (m : Nat) (d : Int), -10000 ≤ y ∧ y ≤ 10000 ∧ IsOn c y m d day ∧ e = .returned (.tuple #[.string (str (ps.flatMap (partX (c.mo.getD m mth0).nm nt y m d))), .int .i64 0])) ∨
    (¬ (c.ny (-10000) ≤ day ∧ day < c.ny 10001) ∧ e = .returned (.tuple #[.string ⟨#[]⟩, .int .i64 3])))

set_option maxHeartbeats 8000000 in
set_option maxRecDepth 100000 in
theorem pwrite_any (ps : List (Bool × List UInt8)) (nt : Int → List UInt8) (c : Cal) (sc day : Int) (gp cp : Nat) (w : World) (hv : CalV w c) (hgp : gp < w.heap.size) (hc : ∀ i x, (ps.flatMap partV)[i]? = some x → w.cell? ⟨gp, i, none⟩ = some x)
    (hps : ps.length ≤ 40) (hpt : ∀ p ∈ ps, p.2.length ≤ 100 ∧ (p.1 = true → ∃ k, (p.2, k) ∈ itemK)) (hnt : ∀ n, (nt n).length ≤ 100) (hnm : ∀ i, i < c.mo.length → ((c.mo.getD i mth0).nm).size ≤ 100)
    (hN : (∃ p ∈ ps, p.1 = true ∧ p.2 ≠ pnameI) → ∀ n W, -20000 ≤ n → n ≤ 20000 → Below w.heap.size w W → Calls Tryz.prog 31 #[.int .i64 sc, .int .i64 n] W fun e w' => e = .returned (.tuple #[.string (str (nt n)), .int .i64 0]) ∧ Below W.heap.size W w')
    (hd1 : -4000000 ≤ day) (hd2 : day ≤ 4000000) :
    Calls Tryz.prog 13 #[.slice (some ⟨gp, 0, none⟩) ps.length cp, c.val, .int .i64 sc, .int .i64 day] w (WrQ ps nt c day w) := by
  have HB := Lib.hid (below_alloc1 w (Obj.cells c.cells 36))
  have HX := Lib.hid (Box.new w 36 c.cells)
  have HC := Lib.hid (hv.next HB.out)
  have HP := Lib.hid hpt
  have HNt := Lib.hid hnt
  have HNm := Lib.hid hnm
  have HNu := Lib.hid hN
  have HCs := Lib.hid hc
  have HDay := Lib.hid (show -4000000 ≤ day ∧ day ≤ 4000000 from ⟨hd1, hd2⟩)
  have HWd := Lib.hid (fun W => Weekday_yes day W hd1 hd2)
  unfold WrQ
  clear hv hc hpt hnt hnm hN hd1 hd2
  go_enter Tryz.func13, Tryz.ntmps13
  go_upto_region 1 with fail
  generalize w.alloc (Obj.cells c.cells 36) = W0 at *
  generalize hg : w.heap.size = g at *
  have HG := Lib.hid hg
  clear hg
  obtain ⟨y0, y1, y2, y3, y4⟩ := ccells HX.out
  go_wp2_with fail
  refine Calls.mono (FromDay_any c day W0 HC.out) ?_
  rintro e w1 ⟨hb1, hc⟩
  have HX1 := Lib.hid (HX.out.below hb1)
  have HB1 : Hid (Below g w w1) := HB.out.trans (hb1.mono (by have := HX.out.lt; omega))
  have HC1 := Lib.hid (HC.out.next hb1)
  clear hb1 HX HB HC y0 y1 y2 y3 y4
  rcases hc with ⟨y, m, d, h1, h2, h3, rfl⟩ | ⟨h1, rfl⟩
  case inr =>
    have HNo : Hid (¬ (c.ny (-10000) ≤ day ∧ day < c.ny 10001)) := fun h => h1 ⟨HDay.out.1, HDay.out.2, h.1, h.2⟩
    clear h1
    go_wp2_with fail
    have HB2 : Hid (Below g w (w1.alloc (Obj.cells #[.int .i64 0, .int .i64 0, .int .i64 0] 41))) := HB1.out.alloc (by have := HX1.out.lt; omega) _
    go_ret2
    exact ⟨by rw [HG.out]; exact HB2.out, .inr ⟨HNo.out, rfl⟩⟩
  have hm := h3.m1
  have hdd := h3.d0
  have hdL := h3.d1
  have hdM := Cal.mlen_in HC1.out.ok y m hm
  have hmo := HC1.out.ok.mo.n2
  have HOn := Lib.hid (show -10000 ≤ y ∧ y ≤ 10000 ∧ IsOn c y m d day from ⟨h1, h2, h3⟩)
  have hd4 : d ≤ 400 := by omega
  have HNuy : Hid (∀ n, n = y ∨ n = (m : Int) + 1 ∨ n = d + 1 → -20000 ≤ n ∧ n ≤ 20000) := fun n h => by omega
  have HNmL := Lib.hid (HNm.out m hm)
  obtain ⟨bm, om, hA, hbl, hcs⟩ := HC1.out.r.r1.open_ (flat_ne mthF_len (by omega) c.mo (by omega))
  have hc0 := flat_cell mthF_len mth0 hcs m 0 hm (by omega) _ rfl
  rw [Nat.add_zero] at hc0
  have hx3 : Box w1 g 36 c.cells := HX1.out
  clear hcs h1 h2 h3 hdd hdL hdM HC1 HNm
  obtain ⟨mn, hmn⟩ : ∃ mn, mn = (c.mo.getD m mth0).nm := ⟨_, rfl⟩
  rw [← hmn] at hc0 HNmL
  have HMn := Lib.hid hmn
  clear hmn
  go_upto_region 4 with fail
  have hba := below_alloc1 w1 (Obj.cells #[.int .i64 y, .int .i64 ((m : Int) + 1), .int .i64 (d + 1)] 41)
  have HX2 := Lib.hid (HX1.out.below hba)
  have HB2 : Hid (Below g w (w1.alloc (Obj.cells #[.int .i64 y, .int .i64 ((m : Int) + 1), .int .i64 (d + 1)] 41))) := HB1.out.trans (hba.mono (by have := HX1.out.lt; omega))
  have HD2 := Lib.hid (Box.new w1 41 #[.int .i64 y, .int .i64 ((m : Int) + 1), .int .i64 (d + 1)])
  have hc2 := (hba.cell (p := ⟨bm, om + m * 3, none⟩) hbl).trans hc0
  have hbl2 : bm < (w1.alloc (Obj.cells #[.int .i64 y, .int .i64 ((m : Int) + 1), .int .i64 (d + 1)] 41)).heap.size := Nat.lt_of_lt_of_le hbl hba.size
  clear hba HX1 HB1 hc0 hbl hx3
  generalize w1.alloc (Obj.cells #[.int .i64 y, .int .i64 ((m : Int) + 1), .int .i64 (d + 1)] 41) = w2 at *
  generalize w1.heap.size = gd at *
  go_upto_region 5 with (go_at_call 29; refine Calls.mono (HWd.out _) ?_; rintro e w' ⟨rfl, nw, rfl⟩)
  have HX3 := Lib.hid (HX2.out.drewN nw)
  have HD3 := Lib.hid (HD2.out.drewN nw)
  have HB3 : Hid (Below g w (w2.drewN nw)) := below_drew HB2.out nw
  have hc3 : (w2.drewN nw).cell? ⟨bm, om + m * 3, none⟩ = some (.string mn) := hc2
  have hbl3 : bm < (w2.drewN nw).heap.size := hbl2
  clear HX2 HD2 HB2 hc2 hbl2 HWd
  generalize w2.drewN nw = w3 at *
  go_upto_region 6 with fail
  have HBd := Lib.hid (bld_new w3)
  have HBw := Lib.hid (below_alloc1 w3 (.cells #[.pointer none, .slice none 0 0] 77))
  generalize w3.alloc (.cells #[.pointer none, .slice none 0 0] 77) = w4 at *
  obtain ⟨gb, hgb⟩ : ∃ gb, gb = w3.heap.size := ⟨_, rfl⟩
  have hgg : g < gb := by rw [hgb]; exact HX3.out.lt
  have hgd : gd < gb := by rw [hgb]; exact HD3.out.lt
  have hgs := HB3.out.size
  have hgq : gp < gb := by have := HG.out; omega
  rw [← hgb] at HBd HBw hbl3
  rw [← hgb]
  have x3 : ∀ W, Below gb w3 W → W.cell? ⟨g, 3, none⟩ = some (.slice (some ⟨bm, om, none⟩) c.mo.length c.c1) := fun W hb => by rw [← hA]; exact (ccells (HX3.out.belowB hb hgg)).2.2.2.1
  have d0 : ∀ W, Below gb w3 W → W.cell? ⟨gd, 0, none⟩ = some (.int .i64 y) := fun W hb => (HD3.out.belowB hb hgd).cell 0
  have d1 : ∀ W, Below gb w3 W → W.cell? ⟨gd, 1, none⟩ = some (.int .i64 ((m : Int) + 1)) := fun W hb => (HD3.out.belowB hb hgd).cell 1
  have d2 : ∀ W, Below gb w3 W → W.cell? ⟨gd, 2, none⟩ = some (.int .i64 (d + 1)) := fun W hb => (HD3.out.belowB hb hgd).cell 2
  have mc : ∀ W, Below gb w3 W → W.cell? ⟨bm, om + m * 3, none⟩ = some (.string mn) := fun W hb => (hb.cell (p := ⟨bm, om + m * 3, none⟩) hbl3).trans hc3
  have HFx := Lib.hid (show (∀ W, Below gb w3 W → W.cell? ⟨g, 3, none⟩ = some (.slice (some ⟨bm, om, none⟩) c.mo.length c.c1)) ∧ (∀ W, Below gb w3 W → W.cell? ⟨gd, 0, none⟩ = some (.int .i64 y)) ∧ (∀ W, Below gb w3 W → W.cell? ⟨gd, 1, none⟩ = some (.int .i64 ((m : Int) + 1))) ∧ (∀ W, Below gb w3 W → W.cell? ⟨gd, 2, none⟩ = some (.int .i64 (d + 1))) ∧ (∀ W, Below gb w3 W → W.cell? ⟨bm, om + m * 3, none⟩ = some (.string mn)) from ⟨x3, d0, d1, d2, mc⟩)
  have HCp : Hid (∀ W, Below gb w3 W → ∀ i x, (ps.flatMap partV)[i]? = some x → W.cell? ⟨gp, i, none⟩ = some x) := fun W hb i x hx => (hb.cell (p := ⟨gp, i, none⟩) hgq).trans ((HB3.out.cell (p := ⟨gp, i, none⟩) (by have := HG.out; show gp < g; omega)).trans (HCs.out i x hx))
  have HBg : Hid (∀ W, Below gb w3 W → Below g w W) := fun W hb => HB3.out.trans (hb.mono (by omega))
  clear x3 d0 d1 d2 mc hA hc3 hbl3 HX3 HD3 HCs hgb
  obtain ⟨F, hF⟩ : ∃ F, F = partX mn nt y m d := ⟨_, rfl⟩
  have hFl : ∀ p ∈ ps, (F p).length ≤ 100 := fun p hp => by
    rw [hF]
    unfold partX
    have h1 := (HP.out p hp).1
    have h2 := HNmL.out
    split
    · exact h1
    · split
      · have : mn.data.toList.length = mn.size := Array.length_toList
        omega
      · split
        · exact HNt.out _
        · split
          · exact HNt.out _
          · exact HNt.out _
  have HFl := Lib.hid hFl
  have HF := Lib.hid hF
  clear hF hFl HNt HNmL
  go_wp2_with fail
  go_loopw [16, 17, 18, 19, 20, 21, 38] (fun _ _ _ _ _ _ i wr => ∃ j : Nat, j ≤ ps.length ∧ i = .int .i64 (j : Int) ∧ Hid (Bld gb ((ps.take j).flatMap F) wr) ∧ Hid (Below gb w3 wr)) (fun _ _ _ _ _ _ i _ => ps.length - (intOf i).toNat)
  case atStart => exact ⟨0, by omega, rfl, HBd, HBw⟩
  case round =>
    obtain ⟨j, hj, rfl, hbd, hbr⟩ := hrel
    by_cases hlt : j < ps.length
    · have t1 : decide ((j : Int) < (ps.length : Int)) = true := decide_eq_true (by omega)
      obtain ⟨p, hpe⟩ : ∃ p, ps[j]? = some p := ⟨_, List.getElem?_eq_getElem hlt⟩
      have hmem : p ∈ ps := List.mem_of_getElem? hpe
      obtain ⟨z0, z1⟩ := flat2_at (HCp.out wr hbr.out) j p hpe
      have HTk : Hid ((ps.take (j + 1)).flatMap F = (ps.take j).flatMap F ++ F p) := by
        unfold Hid
        rw [List.take_add_one, hpe, List.flatMap_append]
        simp
      have hln := pflat_len F 100 (ps.take j) (fun x hx => HFl.out x (List.mem_of_mem_take hx))
      rw [List.length_take] at hln
      have hlp := HFl.out p hmem
      have hpk := (HP.out p hmem).2
      have HNp : Hid (p.1 = true → p.2 ≠ pnameI → ∀ n W, (n = y ∨ n = (m : Int) + 1 ∨ n = d + 1) → Below gb w3 W → Calls Tryz.prog 31 #[.int .i64 sc, .int .i64 n] W fun e w' => e = .returned (.tuple #[.string (str (nt n)), .int .i64 0]) ∧ Below W.heap.size W w') := fun h1 h2 n W hn hb =>
        HNu.out ⟨p, hmem, h1, h2⟩ n W (HNuy.out n hn).1 (HNuy.out n hn).2 (HBg.out W hb)
      have HFp : Hid (F p = partX mn nt y m d p) := by unfold Hid; rw [HF.out]
      obtain ⟨tt, sx⟩ := p
      dsimp only at z0 z1 hpk HNp
      have hb5 := below_alloc1 wr (Obj.cells #[.bool tt, .string (str sx)] 56)
      have hgbl := bld_lt hbd.out
      have HBd5 := Lib.hid (bld_next hbd.out hb5)
      have HB5 : Hid (Below gb w3 (wr.alloc (Obj.cells #[.bool tt, .string (str sx)] 56))) := hbr.out.trans (hb5.mono (by omega))
      have HQ5 := Lib.hid (Box.new wr 56 #[.bool tt, .string (str sx)])
      go_upto_region 9 with fail
      clear hb5 z0 z1 hpe hmem hbd
      generalize wr.alloc (Obj.cells #[.bool tt, .string (str sx)] 56) = w5 at *
      generalize wr.heap.size = gq at *
      have c0 : w5.cell? ⟨gq, 0, none⟩ = some (.bool tt) := HQ5.out.cell 0
      have c1 : w5.cell? ⟨gq, 1, none⟩ = some (.string (str sx)) := HQ5.out.cell 1
      cases tt
      · have hFe : F (false, sx) = sx := by rw [HFp.out]; simp [partX]
        rw [hFe] at hlp HTk
        have HW := Lib.hid (bld_write HBd5.out sx (by omega))
        clear hFe HFp hpk HNp
        go_wp2_with fail
        refine Calls.mono HW.out ?_
        rintro e w6 ⟨rfl, hbd6, hb6⟩
        have HB6 := Lib.hid (HB5.out.trans hb6)
        have HBd6 : Hid (Bld gb ((ps.take (j + 1)).flatMap F) w6) := by unfold Hid; rw [HTk.out]; exact hbd6
        clear hbd6 hb6 HW c0 c1
        go_wp2_with fail
        go_roundw
        case rel => exact ⟨j + 1, by omega, by go_num, HBd6, HB6⟩
        case measure => simp [intOf]; omega
      · obtain ⟨k, hk⟩ := hpk rfl
        have HK := Lib.hid (fun W => pkind_any sx k hk W)
        unfold itemK at hk
        simp only [List.mem_cons, Prod.mk.injEq, List.not_mem_nil, or_false] at hk
        rcases hk with ⟨hsx, rfl⟩ | ⟨hsx, rfl⟩ | ⟨hsx, rfl⟩ | ⟨hsx, rfl⟩
        · -- k = 1
          have hFe : F (true, sx) = nt (y) := by rw [HFp.out, hsx]; rfl
          rw [hFe] at hlp HTk
          have HNw := Lib.hid (HNp.out rfl (by rw [hsx]; decide) (y) w5 (.inl rfl) HB5.out)
          have hsa := six_at y ((m : Int) + 1) (d + 1) ((day - 1) % 7) 1 (by omega) (by omega)
          rw [show (if (1 : Nat) = 1 then y else if (1 : Nat) = 2 then (m : Int) + 1 else d + 1) = y from rfl, show ((1 : Nat) : Int) = 1 from rfl] at hsa
          clear hFe HFp hpk HNp hsx
          obtain ⟨x3, d0, d1, d2, mc⟩ := HFx.out
          have e0 := d0 _ HB5.out
          have e1 := d1 _ HB5.out
          have e2 := d2 _ HB5.out
          clear x3 d0 d1 d2 mc
          go_wp2_with (go_at_call 19; refine Calls.mono (HK.out _) ?_; rintro e w6 ⟨rfl, hw⟩; subst hw)
          refine Calls.mono HNw.out ?_
          rintro e w7 ⟨rfl, hb7⟩
          have HB7 := Lib.hid (HB5.out.trans (hb7.mono (by have := bld_lt HBd5.out; omega)))
          have HBd7 := Lib.hid (bld_next HBd5.out hb7)
          have HW := Lib.hid (bld_write HBd7.out (nt (y)) (by omega))
          clear hb7 HNw hsa e0 e1 e2 c0 c1
          go_wp2_with fail
          refine Calls.mono HW.out ?_
          rintro e w8 ⟨rfl, hbd8, hb8⟩
          have HB8 := Lib.hid (HB7.out.trans hb8)
          have HBd8 : Hid (Bld gb ((ps.take (j + 1)).flatMap F) w8) := by unfold Hid; rw [HTk.out]; exact hbd8
          clear hbd8 hb8 HW
          go_wp2_with fail
          go_roundw
          case rel => exact ⟨j + 1, by omega, by go_num, HBd8, HB8⟩
          case measure => simp [intOf]; omega
        · -- k = 2
          have hFe : F (true, sx) = nt ((m : Int) + 1) := by rw [HFp.out, hsx]; rfl
          rw [hFe] at hlp HTk
          have HNw := Lib.hid (HNp.out rfl (by rw [hsx]; decide) ((m : Int) + 1) w5 (.inr (.inl rfl)) HB5.out)
          have hsa := six_at y ((m : Int) + 1) (d + 1) ((day - 1) % 7) 2 (by omega) (by omega)
          rw [show (if (2 : Nat) = 1 then y else if (2 : Nat) = 2 then (m : Int) + 1 else d + 1) = (m : Int) + 1 from rfl, show ((2 : Nat) : Int) = 2 from rfl] at hsa
          clear hFe HFp hpk HNp hsx
          obtain ⟨x3, d0, d1, d2, mc⟩ := HFx.out
          have e0 := d0 _ HB5.out
          have e1 := d1 _ HB5.out
          have e2 := d2 _ HB5.out
          clear x3 d0 d1 d2 mc
          go_wp2_with (go_at_call 19; refine Calls.mono (HK.out _) ?_; rintro e w6 ⟨rfl, hw⟩; subst hw)
          refine Calls.mono HNw.out ?_
          rintro e w7 ⟨rfl, hb7⟩
          have HB7 := Lib.hid (HB5.out.trans (hb7.mono (by have := bld_lt HBd5.out; omega)))
          have HBd7 := Lib.hid (bld_next HBd5.out hb7)
          have HW := Lib.hid (bld_write HBd7.out (nt ((m : Int) + 1)) (by omega))
          clear hb7 HNw hsa e0 e1 e2 c0 c1
          go_wp2_with fail
          refine Calls.mono HW.out ?_
          rintro e w8 ⟨rfl, hbd8, hb8⟩
          have HB8 := Lib.hid (HB7.out.trans hb8)
          have HBd8 : Hid (Bld gb ((ps.take (j + 1)).flatMap F) w8) := by unfold Hid; rw [HTk.out]; exact hbd8
          clear hbd8 hb8 HW
          go_wp2_with fail
          go_roundw
          case rel => exact ⟨j + 1, by omega, by go_num, HBd8, HB8⟩
          case measure => simp [intOf]; omega
        · -- k = 3
          have hFe : F (true, sx) = nt (d + 1) := by rw [HFp.out, hsx]; rfl
          rw [hFe] at hlp HTk
          have HNw := Lib.hid (HNp.out rfl (by rw [hsx]; decide) (d + 1) w5 (.inr (.inr rfl)) HB5.out)
          have hsa := six_at y ((m : Int) + 1) (d + 1) ((day - 1) % 7) 3 (by omega) (by omega)
          rw [show (if (3 : Nat) = 1 then y else if (3 : Nat) = 2 then (m : Int) + 1 else d + 1) = d + 1 from rfl, show ((3 : Nat) : Int) = 3 from rfl] at hsa
          clear hFe HFp hpk HNp hsx
          obtain ⟨x3, d0, d1, d2, mc⟩ := HFx.out
          have e0 := d0 _ HB5.out
          have e1 := d1 _ HB5.out
          have e2 := d2 _ HB5.out
          clear x3 d0 d1 d2 mc
          go_wp2_with (go_at_call 19; refine Calls.mono (HK.out _) ?_; rintro e w6 ⟨rfl, hw⟩; subst hw)
          refine Calls.mono HNw.out ?_
          rintro e w7 ⟨rfl, hb7⟩
          have HB7 := Lib.hid (HB5.out.trans (hb7.mono (by have := bld_lt HBd5.out; omega)))
          have HBd7 := Lib.hid (bld_next HBd5.out hb7)
          have HW := Lib.hid (bld_write HBd7.out (nt (d + 1)) (by omega))
          clear hb7 HNw hsa e0 e1 e2 c0 c1
          go_wp2_with fail
          refine Calls.mono HW.out ?_
          rintro e w8 ⟨rfl, hbd8, hb8⟩
          have HB8 := Lib.hid (HB7.out.trans hb8)
          have HBd8 : Hid (Bld gb ((ps.take (j + 1)).flatMap F) w8) := by unfold Hid; rw [HTk.out]; exact hbd8
          clear hbd8 hb8 HW
          go_wp2_with fail
          go_roundw
          case rel => exact ⟨j + 1, by omega, by go_num, HBd8, HB8⟩
          case measure => simp [intOf]; omega
        · have hFe : F (true, sx) = mn.data.toList := by rw [HFp.out, hsx]; rfl
          rw [hFe] at hlp HTk
          clear hFe HFp hpk HNp hsx
          obtain ⟨x3, d0, d1, d2, mc⟩ := HFx.out
          have e1 := d1 _ HB5.out
          have e3 := x3 _ HB5.out
          have em := mc _ HB5.out
          have q1 : (m : Int) + 1 - 1 = m := by omega
          have q2 : (0 : Int) ≤ (m : Int) := by omega
          have q3 : (m : Int) < (c.mo.length : Int) := by omega
          have HW := Lib.hid (bld_write HBd5.out mn.data.toList (by omega))
          rw [pstr_own] at HW
          clear x3 d0 d1 d2 mc
          go_wp2_with (go_at_call 19; refine Calls.mono (HK.out _) ?_; rintro e w6 ⟨rfl, hw⟩; subst hw)
          refine Calls.mono HW.out ?_
          rintro e w8 ⟨rfl, hbd8, hb8⟩
          have HB8 := Lib.hid (HB5.out.trans hb8)
          have HBd8 : Hid (Bld gb ((ps.take (j + 1)).flatMap F) w8) := by unfold Hid; rw [HTk.out]; exact hbd8
          clear hbd8 hb8 HW e1 e3 em c0 c1
          go_wp2_with fail
          go_roundw
          case rel => exact ⟨j + 1, by omega, by go_num, HBd8, HB8⟩
          case measure => simp [intOf]; omega
    · have t1 : decide ((j : Int) < (ps.length : Int)) = false := decide_eq_false (by omega)
      have HS := Lib.hid (bld_string hbd.out)
      rw [List.take_of_length_le (show ps.length ≤ j by omega)] at HS
      go_wp2_with fail
      refine Calls.mono HS.out ?_
      rintro e w6 ⟨rfl, hb6⟩
      have HB6 := Lib.hid (HBg.out _ (hbr.out.trans hb6))
      have HFF := HF.out
      clear hb6 HS
      go_wp2_with fail
      go_ret2
      exact ⟨by rw [HG.out]; exact HB6.out, .inl ⟨y, m, d, HOn.out.1, HOn.out.2.1, HOn.out.2.2, by rw [← HMn.out]; rfl⟩⟩
end Go.Proofs.YtjnajedjpfjgkaaGreatDoor

/- Contracts of pattern.open and pattern.Write, at sound patterns. -/
namespace Go.Proofs.YtjnajedjpfjgkaaGreatDoor
open Go Go.RowKit
set_option linter.unusedVariables false

theorem scripts_any (w : World) : Calls Tryz.prog 18 #[] w fun e w' => e = .returned (.int .i64 13) ∧ w = w' := by
  go_enter Tryz.func18, Tryz.ntmps18
  go_wp2_with fail
  go_ret
  exact ⟨rfl, rfl⟩
/-- what open says -/
def POpenQ (R : List (List UInt8 × List UInt8)) (r : CatRow) (w : World) (e : Ending) (w' : World) : Prop :=
  ∃ (v : Value) (c : Cal), e = .returned (.tuple #[v, c.val, .int .i64 0]) ∧ CalOf r c ∧ CalV w' c ∧ w'.ownsRow w.heap.size 56 2 v (partL R).length ((partL R).flatMap partV) ∧ Below w.heap.size w w'
set_option maxHeartbeats 4000000 in
set_option maxRecDepth 100000 in
theorem popen_any (R : List (List UInt8 × List UInt8)) (hR : ∀ x ∈ R, PrOk x) (hlen : (patT R).length ≤ 60) (hn : R.length ≤ 20) (r : CatRow) (hr : r ∈ catR) (sc : Nat) (hsc : sc < 13) (w : World) (hv : Env w) :
    Calls Tryz.prog 9 #[.string (str (patT R)), .string (str r.nm), .int .i64 (sc : Int)] w (POpenQ R r w) := by
  have HB := Lib.hid (below_alloc1 w (Obj.cells zeroCal 36))
  have HX := Lib.hid (Box.new w 36 zeroCal)
  have HE := Lib.hid (hv.next HB.out)
  have HS := Lib.hid (fun W (h : Shp W) => psplit_any R hR hlen hn W h)
  have HT := Lib.hid (fun w (h : Env w) => Calendar_any r hr w h)
  have s1 : decide ((sc : Int) < 0) = false := decide_eq_false (by omega)
  have s2 : decide (13 ≤ (sc : Int)) = false := decide_eq_false (by omega)
  unfold CalQ at HT
  unfold POpenQ
  clear hv hR hlen hn
  go_enter Tryz.func9, Tryz.ntmps9
  go_wp2_with fail
  generalize w.alloc (Obj.cells zeroCal 36) = W0 at *
  generalize hg : w.heap.size = g at *
  have HG := Lib.hid hg
  clear hg
  refine Calls.mono (HS.out W0 HE.out.h) ?_
  rintro e w1 ⟨v, rfl, hown, hb1⟩
  have HX1 := Lib.hid (HX.out.below hb1)
  have HB1 : Hid (Below g w w1) := HB.out.trans (hb1.mono (by have := HX.out.lt; omega))
  have HE1 := Lib.hid (HE.out.next hb1)
  have HO1 := Lib.hid hown
  have hgW : g < W0.heap.size := HX.out.lt
  clear hown hb1 HX HB HE HS
  go_wp2_with fail
  refine Calls.mono (HT.out w1 HE1.out) ?_
  rintro e w2 ⟨c, rfl, hof, hcv, ha1, ha2, hb2⟩
  have HX2 := Lib.hid (HX1.out.below hb2)
  have HB2 : Hid (Below g w w2) := HB1.out.trans (hb2.mono (by have := HX1.out.lt; omega))
  have HO2 := Lib.hid (own_next HO1.out hb2)
  have HOf := Lib.hid hof
  have HCv := Lib.hid hcv
  have hg1 := HX1.out.lt
  have HA1 : Hid (∀ a, c.A1 = some a → g < a.block) := fun a ha => by have := ha1 a ha; omega
  have HA2 : Hid (∀ a, c.A2 = some a → g < a.block) := fun a ha => by have := ha2 a ha; omega
  clear hof hcv ha1 ha2 hb2 HX1 HB1 HE1 HO1 HT hg1
  go_upto_region 5 with fail
  have hba := below_alloc1 w2 (Obj.cells c.cells 36)
  have HX3 := Lib.hid (HX2.out.below hba)
  have HB3 : Hid (Below g w (w2.alloc (Obj.cells c.cells 36))) := HB2.out.trans (hba.mono (by have := HX2.out.lt; omega))
  have HO3 := Lib.hid (own_next HO2.out hba)
  have HC3 := Lib.hid (HCv.out.next hba)
  have HY3 := Lib.hid (Box.new w2 36 c.cells)
  clear hba HX2 HB2 HO2 HCv
  generalize w2.alloc (Obj.cells c.cells 36) = w3 at *
  generalize w2.heap.size = gc at *
  go_upto_region 9 with (go_at_call 18; refine Calls.mono (scripts_any _) ?_; rintro e w' ⟨rfl, hw⟩; subst hw)
  obtain ⟨y0, y1, y2, y3, y4⟩ := ccells HY3.out
  have rf : ∀ i, w3.frozen? ⟨g, i, none⟩ = false := fun i => HX3.out.free i
  have r0 : w3.cell? ⟨g, 0, none⟩ = some (.string ⟨#[]⟩) := HX3.out.cell 0
  have r1 : w3.cell? ⟨g, 1, none⟩ = some (.int .i64 0) := HX3.out.cell 1
  have r2 : w3.cell? ⟨g, 2, none⟩ = some (.int .i64 0) := HX3.out.cell 2
  have r3 : w3.cell? ⟨g, 3, none⟩ = some (.slice none 0 0) := HX3.out.cell 3
  have r4 : w3.cell? ⟨g, 4, none⟩ = some (.slice none 0 0) := HX3.out.cell 4
  have hl := HX3.out.lt
  have HF : Hid (∀ w6, w6 = ((((w3.setCell ⟨g, 0, none⟩ (.string c.nm)).setCell ⟨g, 1, none⟩ (.int .i64 c.ep)).setCell ⟨g, 2, none⟩ (.int .i64 c.cy)).setCell ⟨g, 3, none⟩ (.slice c.A1 c.mo.length c.c1)).setCell ⟨g, 4, none⟩ (.slice c.A2 c.lp.length c.c2) →
      CalV w6 c ∧ w6.ownsRow g 56 2 v (partL R).length ((partL R).flatMap partV) ∧ Below g w w6) := fun w6 h => by
    rw [h]
    refine ⟨((((HC3.out.set_ g 0 _ HA1.out HA2.out).set_ g 1 _ HA1.out HA2.out).set_ g 2 _ HA1.out HA2.out).set_ g 3 _ HA1.out HA2.out).set_ g 4 _ HA1.out HA2.out, ?_, ((((HB3.out.setCell (p := ⟨g, 0, none⟩) (Nat.le_refl _) _).setCell (p := ⟨g, 1, none⟩) (Nat.le_refl _) _).setCell (p := ⟨g, 2, none⟩) (Nat.le_refl _) _).setCell (p := ⟨g, 3, none⟩) (Nat.le_refl _) _).setCell (p := ⟨g, 4, none⟩) (Nat.le_refl _) _⟩
    exact own_lower (ownsRow_setCell_below (ownsRow_setCell_below (ownsRow_setCell_below (ownsRow_setCell_below (ownsRow_setCell_below HO3.out (a := ⟨g, 0, none⟩) hgW _) (a := ⟨g, 1, none⟩) hgW _) (a := ⟨g, 2, none⟩) hgW _) (a := ⟨g, 3, none⟩) hgW _) (a := ⟨g, 4, none⟩) hgW _) (by omega)
  have HXk := Lib.hid HX3.out
  clear HC3 HO3 HB3 HX3 HY3 HA1 HA2
  go_region
  obtain ⟨hcv, hown, hbw⟩ := HF.out _ rfl
  have hx : Hid (Box ((((((w3.setCell ⟨g, 0, none⟩ (.string c.nm)).setCell ⟨g, 1, none⟩ (.int .i64 c.ep)).setCell ⟨g, 2, none⟩ (.int .i64 c.cy)).setCell ⟨g, 3, none⟩ (.slice c.A1 c.mo.length c.c1)).setCell ⟨g, 4, none⟩ (.slice c.A2 c.lp.length c.c2)).drew) g 36 c.cells) := ((((HXk.out.set_ 0 _).set_ 1 _).set_ 2 _).set_ 3 _).set_ 4 _
  have hdr : ∀ W : World, Below W.heap.size W W.drew := fun W => ⟨rfl, rfl, rfl, Nat.le_refl _, fun _ _ => rfl⟩
  have HCv := Lib.hid (hcv.next (hdr _))
  have HO5 := Lib.hid (World.ownsRow.drew hown)
  have HB5 := Lib.hid (hbw.trans ((hdr _).mono (by have := hx.out.lt; simp at this ⊢; omega)))
  clear hcv hown hbw rf r0 r1 r2 r3 r4 y0 y1 y2 y3 y4 HF HXk
  generalize (((((w3.setCell ⟨g, 0, none⟩ (.string c.nm)).setCell ⟨g, 1, none⟩ (.int .i64 c.ep)).setCell ⟨g, 2, none⟩ (.int .i64 c.cy)).setCell ⟨g, 3, none⟩ (.slice c.A1 c.mo.length c.c1)).setCell ⟨g, 4, none⟩ (.slice c.A2 c.lp.length c.c2)).drew = w6 at *
  obtain ⟨z0, z1, z2, z3, z4⟩ := ccells hx.out
  go_wp2_with fail
  refine bodyPost_ret (v := .tuple #[v, c.val, .int .i64 0]) (by simp [results, Tryz.results9, go_sem, z0, z1, z2, z3, z4]) rfl ?_
  exact ⟨v, c, rfl, HOf.out, HCv.out, by rw [HG.out]; exact HO5.out, by rw [HG.out]; exact HB5.out⟩

/-- what Write says of a day -/
def PWriteQ (R : List (List UInt8 × List UInt8)) (nt : Int → List UInt8) (r : CatRow) (day : Int) (w : World) (e : Ending) (w' : World) : Prop :=
  Below w.heap.size w w' ∧ ∃ c : Cal, CalOf r c ∧ CalOk c ∧ ((∃ (y : Int) (m : Nat) (d : Int), -10000 ≤ y ∧ y ≤ 10000 ∧ IsOn c y m d day ∧ e = .returned (.tuple #[.string (str ((partL R).flatMap (partX (c.mo.getD m mth0).nm nt y m d))), .int .i64 0])) ∨
    (¬ (c.ny (-10000) ≤ day ∧ day < c.ny 10001) ∧ e = .returned (.tuple #[.string ⟨#[]⟩, .int .i64 3])))
theorem partL_mem {R : List (List UInt8 × List UInt8)} {p : Bool × List UInt8} (h : p ∈ partL R) : ∃ x ∈ R, (p = (false, x.1)) ∨ p = (true, x.2) := by
  unfold partL at h
  obtain ⟨x, hx, h2⟩ := List.mem_flatMap.1 h
  refine ⟨x, hx, ?_⟩
  rcases List.mem_append.1 h2 with h3 | h3
  · split at h3
    · cases h3
    · exact .inl (List.mem_singleton.1 h3)
  · exact .inr (List.mem_singleton.1 h3)
theorem patT_part {R : List (List UInt8 × List UInt8)} {x : List UInt8 × List UInt8} (h : x ∈ R) : x.1.length ≤ (patT R).length ∧ x.2.length ≤ (patT R).length := by
  induction R with
  | nil => cases h
  | cons a R ih =>
    rw [patT_cons]
    simp only [List.length_append, List.length_cons]
    rcases List.mem_cons.1 h with rfl | h
    · omega
    · have := ih h
      omega

set_option maxHeartbeats 4000000 in
set_option maxRecDepth 100000 in
theorem PWrite_any (R : List (List UInt8 × List UInt8)) (hR : ∀ x ∈ R, PrOk x) (hlen : (patT R).length ≤ 60) (hn : R.length ≤ 20) (hne : R ≠ []) (nt : Int → List UInt8) (hnt : ∀ n, (nt n).length ≤ 100) (r : CatRow) (hr : r ∈ catR) (sc : Nat) (hsc : sc < 13) (day : Int) (hd1 : -4000000 ≤ day) (hd2 : day ≤ 4000000) (w : World) (hv : Env w)
    (hN : (∃ p ∈ partL R, p.1 = true ∧ p.2 ≠ pnameI) → ∀ n W, -20000 ≤ n → n ≤ 20000 → Below w.heap.size w W → Calls Tryz.prog 31 #[.int .i64 (sc : Int), .int .i64 n] W fun e w' => e = .returned (.tuple #[.string (str (nt n)), .int .i64 0]) ∧ Below W.heap.size W w') :
    Calls Tryz.prog 7 #[.string (str (patT R)), .string (str r.nm), .int .i64 (sc : Int), .int .i64 day] w (PWriteQ R nt r day w) := by
  have HO := Lib.hid (popen_any R hR hlen hn r hr sc hsc w hv)
  have hpl := partL_len R
  have hpos : ∃ k, (partL R).length = k + 1 := by
    cases R with
    | nil => exact absurd rfl hne
    | cons x R =>
      refine ⟨(partL (x :: R)).length - 1, ?_⟩
      have : 1 ≤ (partL (x :: R)).length := by
        have e : partL (x :: R) = ((if x.1 = [] then [] else [(false, x.1)]) ++ [(true, x.2)]) ++ partL R := by simp [partL]
        rw [e, List.length_append, List.length_append, List.length_singleton]
        omega
      omega
  have HPt : Hid (∀ p ∈ partL R, p.2.length ≤ 100 ∧ (p.1 = true → ∃ k, (p.2, k) ∈ itemK)) := fun p hp => by
    obtain ⟨x, hx, h⟩ := partL_mem hp
    have h2 := patT_part hx
    rcases h with rfl | rfl
    · exact ⟨by show x.1.length ≤ 100; omega, fun h => by cases h⟩
    · exact ⟨by show x.2.length ≤ 100; omega, fun _ => (hR x hx).k⟩
  have HNt := Lib.hid hnt
  have HNu := Lib.hid hN
  have HI := Lib.hid (fun W => isDay_any day W)
  rw [decide_eq_true (show -4000000 ≤ day ∧ day ≤ 4000000 from ⟨hd1, hd2⟩)] at HI
  have HD := Lib.hid (show -4000000 ≤ day ∧ day ≤ 4000000 from ⟨hd1, hd2⟩)
  unfold POpenQ at HO
  unfold PWriteQ
  clear hR hlen hnt hN hd1 hd2 hv
  generalize hPL : partL R = ps at *
  clear hPL
  go_enter Tryz.func7, Tryz.ntmps7
  go_wp2_with fail
  refine Calls.mono HO.out ?_
  rintro e w1 ⟨v, c, rfl, hof, hcv, hown, hb1⟩
  have HB1 := Lib.hid hb1
  have HOf := Lib.hid hof
  have HCv := Lib.hid hcv
  obtain ⟨k, hk⟩ := hpos
  rw [hk] at hown
  have hlo := fun b hb => (own_lt hown b hb).2
  obtain ⟨gp, cap, rfl⟩ := ownsRow_succ hown
  have hcs := fun i x hx => hown.cells (g := gp) rfl i x hx
  simp only [addPlain, Nat.zero_add] at hcs
  have hgl := hlo gp rfl
  rw [← hk]
  clear hown hlo hb1 hof hcv HO hk
  go_upto_region 4 with fail
  have hba := below_alloc1 w1 (Obj.cells c.cells 36)
  have HB2 := Lib.hid (below_then HB1.out hba)
  have HC2 := Lib.hid (HCv.out.next hba)
  have HX2 := Lib.hid (Box.new w1 36 c.cells)
  have hgl2 : gp < (w1.alloc (Obj.cells c.cells 36)).heap.size := Nat.lt_of_lt_of_le hgl hba.size
  have HCs : Hid (∀ i x, (ps.flatMap partV)[i]? = some x → (w1.alloc (Obj.cells c.cells 36)).cell? ⟨gp, i, none⟩ = some x) := fun i x hx => (hba.cell (p := ⟨gp, i, none⟩) hgl).trans (hcs i x hx)
  clear hba HB1 HCv hcs hgl
  generalize w1.alloc (Obj.cells c.cells 36) = w2 at *
  generalize w1.heap.size = gc at *
  have HW := Lib.hid (pwrite_any ps nt c (sc : Int) day gp cap w2 HC2.out hgl2 HCs.out (by omega) HPt.out HNt.out (fun i hi => by have := (HC2.out.ok.mo.each i hi).nm.2.1; omega) (fun h n W h1 h2 hb => HNu.out h n W h1 h2 (below_then HB2.out hb)) HD.out.1 HD.out.2)
  have HOk := Lib.hid HC2.out.ok
  obtain ⟨y0, y1, y2, y3, y4⟩ := ccells HX2.out
  unfold WrQ at HW
  clear HC2 HX2 HCs hgl2 HPt HNt HNu
  go_wp2_with (go_at_call 14; refine Calls.mono (HI.out _) ?_; rintro e w' ⟨rfl, hw⟩; subst hw)
  refine Calls.mono HW.out ?_
  rintro e w3 ⟨hb3, hc⟩
  have HB3 := Lib.hid (below_then HB2.out hb3)
  have HF := Lib.hid hc
  obtain ⟨s, E, rfl⟩ : ∃ s E, e = .returned (.tuple #[.string s, .int .i64 E]) := by
    rcases hc with ⟨y, m, d, _, _, _, h⟩ | ⟨_, h⟩
    · exact ⟨_, _, h⟩
    · exact ⟨_, _, h⟩
  clear hb3 hc HW y0 y1 y2 y3 y4 HI
  go_wp2_with fail
  go_ret2
  exact ⟨HB3.out, c, HOf.out, HOk.out, HF.out⟩
end Go.Proofs.YtjnajedjpfjgkaaGreatDoor
