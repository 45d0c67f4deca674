/- Show2, Show4 -/
import Derived.Test.YtbmbphikjainiaaGreatDoorGLex1
import Derived.Test.YtbmbphikjainiaaGreatDoorGPlainParse
import Derived.Test.YtbmbphikjainiaaGreatDoorGNum1
import Derived.Test.YtbmbphikjainiaaGreatDoorGReMem
import Derived.Test.YtbmbphikjainiaaGreatDoorGFlow
import Derived.Test.YtbmbphikjainiaaGreatDoorGParseA
import Derived.Test.YtbmbphikjainiaaGreatDoorGBuild1
/- Contract of rule.show. -/
namespace Go.Proofs.YtbmbphikjainiaaGreatDoor
open Go.Lib
set_option linter.unusedVariables false

theorem shB_one (n : Int) (A : Option Addr) (c : Nat) (ks : List RE) : shB (.node 1 n A c ks) = itoa n := by rw [shB, if_pos rfl]
theorem shB_two (n : Int) (A : Option Addr) (c : Nat) (ks : List RE) : shB (.node 2 n A c ks) = [121] := by rw [shB, if_neg (by omega), if_pos rfl]
theorem shB_neg (n : Int) (A : Option Addr) (c : Nat) (a : RE) : shB (.node 3 n A c [a]) = 45 :: shT 6 a := by
  have e0 := shL_get [a] 0 (by simp)
  simp only [List.getD_cons_zero] at e0
  rw [shB, if_neg (by omega), if_neg (by omega), if_pos rfl, e0]
  rfl
theorem shB_not (n : Int) (A : Option Addr) (c : Nat) (a : RE) : shB (.node 11 n A c [a]) = [110, 111, 116, 32] ++ shT 2 a := by
  have e0 := shL_get [a] 0 (by simp)
  simp only [List.getD_cons_zero] at e0
  rw [shB, if_neg (by omega), if_neg (by omega), if_neg (by omega), if_pos rfl, e0]
  rfl
theorem shB_bin (k n : Int) (A : Option Addr) (c : Nat) (a b : RE) (hk : isBin k) : shB (.node k n A c [a, b]) = shT (fst k) a ++ 32 :: (sgn k ++ 32 :: shT (lev k + 1) b) := by
  have h := hk
  unfold isBin at h
  have e0 := shL_get [a, b] 0 (by simp)
  have e1 := shL_get [a, b] 1 (by simp)
  simp only [List.getD_cons_zero, List.getD_cons_succ] at e0 e1
  rw [shB, if_neg (by omega), if_neg (by omega), if_neg (by omega), if_neg (by omega), e0, e1]
  rfl
theorem shT_len (L : Nat) (t : RE) : (shT L t).length ≤ (shB t).length + 2 := by
  unfold shT parB
  split <;> simp
theorem sgn_len (k : Int) : (sgn k).length ≤ 3 := by unfold sgn; repeat' split <;> try decide
/-- the sorts of a node -/
theorem node_cases {k n : Int} {ks : List RE} (h : ReNode k n ks.length) :
    (k = 1 ∧ ks = []) ∨ (k = 2 ∧ ks = []) ∨ (k = 3 ∧ ∃ a, ks = [a]) ∨ (k = 11 ∧ ∃ a, ks = [a]) ∨ (isBin k ∧ ∃ a b, ks = [a, b]) := by
  have h0 := h.k0
  have h1 := h.k1
  have hl := h.len
  have hc : k = 1 ∨ k = 2 ∨ k = 3 ∨ k = 11 ∨ isBin k := by unfold isBin; omega
  rcases hc with rfl | rfl | rfl | rfl | hb
  · exact .inl ⟨rfl, List.eq_nil_of_length_eq_zero (by rw [hl]; rfl)⟩
  · exact .inr (.inl ⟨rfl, List.eq_nil_of_length_eq_zero (by rw [hl]; rfl)⟩)
  · exact .inr (.inr (.inl ⟨rfl, List.length_eq_one_iff.1 (by rw [hl]; rfl)⟩))
  · exact .inr (.inr (.inr (.inl ⟨rfl, List.length_eq_one_iff.1 (by rw [hl]; rfl)⟩)))
  · have h2 : ks.length = 2 := by
      rw [hl]
      unfold isBin at hb
      unfold opsN
      repeat' split
      all_goals omega
    match ks, h2 with
    | [a, b], _ => exact .inr (.inr (.inr (.inr ⟨hb, a, b, rfl⟩)))
theorem shB_len {t : RE} (h : ReOk t) : (shB t).length + 2 ≤ 20 * sz t := by
  induction h with
  | @mk k n A c ks node kids ih =>
    rcases node_cases node with ⟨rfl, rfl⟩ | ⟨rfl, rfl⟩ | ⟨rfl, a, rfl⟩ | ⟨rfl, a, rfl⟩ | ⟨hb, a, b, rfl⟩
    · rw [shB_one, sz, szL]
      have h1 := node.n1
      rw [if_pos rfl] at h1
      have := itoa_nat_len n node.n0 (by omega)
      omega
    · rw [shB_two, sz, szL]; decide
    · have := ih a (by simp)
      have h2 := shT_len 6 a
      rw [shB_neg, sz, szL, szL]
      simp only [List.length_cons]
      omega
    · have := ih a (by simp)
      have h2 := shT_len 2 a
      rw [shB_not, sz, szL, szL]
      simp only [List.length_append, List.length_cons, List.length_nil]
      omega
    · have := ih a (by simp)
      have := ih b (by simp)
      have h2 := shT_len (fst k) a
      have h3 := shT_len (lev k + 1) b
      have h4 := sgn_len k
      rw [shB_bin k n A c a b hb, sz, szL, szL, szL]
      simp only [List.length_append, List.length_cons]
      omega
theorem shB_strip (t : RE) (h : ReOk t) : shB (strip t) = shB t := by
  induction h with
  | @mk k n A c ks node kids ih =>
    have hT : ∀ x ∈ ks, ∀ L, shT L (strip x) = shT L x := fun x hx L => by unfold shT; rw [strip_kd, ih x hx]
    rw [strip_node]
    rcases node_cases node with ⟨rfl, rfl⟩ | ⟨rfl, rfl⟩ | ⟨rfl, a, rfl⟩ | ⟨rfl, a, rfl⟩ | ⟨hb, a, b, rfl⟩
    · rw [shB_one, shB_one]
    · rw [shB_two, shB_two]
    · show shB (.node 3 n none 0 [strip a]) = _
      rw [shB_neg, shB_neg, hT a (by simp)]
    · show shB (.node 11 n none 0 [strip a]) = _
      rw [shB_not, shB_not, hT a (by simp)]
    · show shB (.node k n none 0 [strip a, strip b]) = _
      rw [shB_bin k _ _ _ _ _ hb, shB_bin k _ _ _ _ _ hb, hT a (by simp), hT b (by simp)]
end Go.Proofs.YtbmbphikjainiaaGreatDoor
namespace Go.Proofs.YtbmbphikjainiaaGreatDoor
open Go.RowKit
set_option linter.unusedVariables false

def ShQ (s : List UInt8) (w : World) (e : Ending) (w' : World) : Prop := e = .returned (.string (str s)) ∧ Below w.heap.size w w'
theorem lvN_eq (j : Nat) (h : 1 ≤ j) : lvN j = lev (j : Int) := by unfold lvN; rw [if_neg (by omega)]
theorem parB_yes (L : Nat) (k : Int) (s : List UInt8) (h : lev k < L) : str (parB L (k, s)) = (⟨#[40]⟩ ++ str s) ++ ⟨#[41]⟩ := by
  unfold parB
  rw [if_pos h, show (⟨#[40]⟩ : ByteArray) = str [40] from rfl, show (⟨#[41]⟩ : ByteArray) = str [41] from rfl, str_append, str_append]
  rfl
theorem parB_no (L : Nat) (k : Int) (s : List UInt8) (h : ¬ lev k < L) : str (parB L (k, s)) = str s := by
  unfold parB
  rw [if_neg h]
set_option maxHeartbeats 4000000 in
set_option maxRecDepth 100000 in
theorem show_any (w0 : World) (B : Nat) (hB : w0.heap.size = B) (hs0 : Sgs w0) (hv0 : Lvs w0) (hp0 : Pow w0) (t : RE) (hin : ReIn w0 B t) : ReOk t → sz t ≤ 1000 → ∀ (L : Nat), L ≤ 10 → ∀ w : World, Below B w0 w →
    Calls Tryz.prog 45 #[reV t, .int .i64 (L : Int)] w (ShQ (shT L t) w) := by
  induction hin with
  | @mk k n A c ks hk hn hl row kids ih =>
    intro hok hsz L hL w hb0
    have hsl := shB_len hok
    obtain ⟨node, okids⟩ : ReNode k n ks.length ∧ ∀ x ∈ ks, ReOk x := by cases hok with | mk node kids => exact ⟨node, kids⟩
    have k0 := node.k0
    have k1 := node.k1
    obtain ⟨j, rfl⟩ : ∃ j : Nat, k = (j : Int) := ⟨k.toNat, by omega⟩
    have hBw : B ≤ w.heap.size := by rw [← hB]; have := hb0.size; omega
    have IH : Hid (∀ x ∈ ks, sz x ≤ 1000 → ∀ (L : Nat), L ≤ 10 → ∀ w : World, Below B w0 w → Calls Tryz.prog 45 #[reV x, .int .i64 (L : Int)] w (ShQ (shT L x) w)) := fun x hx h1 => ih x hx (okids x hx) h1
    have HSZ : Hid (∀ x ∈ ks, sz x ≤ 1000) := fun x hx => by
      have h1 : sz (.node (j : Int) n A c ks) = szL ks + 1 := by rw [sz]
      have h2 : ∀ (l : List RE), x ∈ l → sz x ≤ szL l := by
        intro l
        induction l with
        | nil => intro h; cases h
        | cons y l ihl =>
          intro h
          rw [szL]
          rcases List.mem_cons.1 h with rfl | h
          · omega
          · have := ihl h; omega
      have := h2 ks hx
      omega
    have HOK := Lib.hid okids
    have HND := Lib.hid node
    have hjl : lvN j = lev (j : Int) := lvN_eq j (by omega)
    have HB0 := Lib.hid (hb0.trans ((below_alloc1 w (.cells #[.int .i64 (j : Int), .int .i64 n, .slice A ks.length c] 24)).mono hBw))
    have HBX := Lib.hid (below_alloc1 w (.cells #[.int .i64 (j : Int), .int .i64 n, .slice A ks.length c] 24))
    have qX := Box.new w 24 #[.int .i64 (j : Int), .int .i64 n, .slice A ks.length c]
    have hv1 := hv0.next (w' := w.alloc (.cells #[.int .i64 (j : Int), .int .i64 n, .slice A ks.length c] 24)) (by rw [hB]; exact HB0.out)
    have hs1 := hs0.next (w' := w.alloc (.cells #[.int .i64 (j : Int), .int .i64 n, .slice A ks.length c] 24)) (by rw [hB]; exact HB0.out)
    have HP : Hid (∀ W, Below B w0 W → Pow W) := fun W hW => hp0.next (by rw [hB]; exact hW)
    change Calls Tryz.prog 45 #[.agg #[.int .i64 (j : Int), .int .i64 n, .slice A ks.length c], .int .i64 (L : Int)] w _
    unfold ShQ shT
    have HT : Hid (kd (.node (j : Int) n A c ks) = (j : Int)) := rfl
    rw [HT.out]
    have hsl2 : (shB (.node (j : Int) n A c ks)).length ≤ 20000 := by omega
    have hend : Hid (∀ (T : List UInt8), shB (.node (j : Int) n A c ks) = T → ((lev (j : Int) < L ∧ decide ((lev (j : Int) : Int) < (L : Int)) = true ∧ (str T).size ≤ 30000 ∧ (⟨#[40]⟩ ++ str T : ByteArray).size ≤ 30001 ∧ (⟨#[40]⟩ ++ str T) ++ ⟨#[41]⟩ = str (parB L ((j : Int), T))) ∨ (¬ lev (j : Int) < L ∧ decide ((lev (j : Int) : Int) < (L : Int)) = false ∧ str T = str (parB L ((j : Int), T))))) := fun T hT => by
      by_cases hlt : lev (j : Int) < L
      · exact .inl ⟨hlt, decide_eq_true (by omega), by rw [str_size, ← hT]; omega, by rw [ByteArray.size_append, show (⟨#[40]⟩ : ByteArray).size = 1 from rfl, str_size, ← hT]; omega, (parB_yes _ _ _ hlt).symm⟩
      · exact .inr ⟨hlt, decide_eq_false (by omega), (parB_no _ _ _ hlt).symm⟩
    have HEND : Hid (∀ (T : List UInt8), shB (.node (j : Int) n A c ks) = T → str (parB L ((j : Int), shB (.node (j : Int) n A c ks))) = str (parB L ((j : Int), T))) := fun T hT => by rw [hT]
    have HSL := Lib.hid hsl2
    generalize str (parB L ((j : Int), shB (.node (j : Int) n A c ks))) = R at *
    clear hsl hsl2 hs0 hv0 hp0 hok ih okids node hb0 hk hn hl hsz
    go_enter Tryz.func45, Tryz.ntmps45
    go_upto_region 1 with fail
    generalize w.alloc (.cells #[.int .i64 (j : Int), .int .i64 n, .slice A ks.length c] 24) = W1 at *
    generalize hg : w.heap.size = g at *
    have x0 : W1.cell? ⟨g, 0, none⟩ = some (.int .i64 (j : Int)) := qX.cell 0
    have x1 : W1.cell? ⟨g, 1, none⟩ = some (.int .i64 n) := qX.cell 1
    have x2 : W1.cell? ⟨g, 2, none⟩ = some (.slice A ks.length c) := qX.cell 2
    have xl := qX.lt
    have v0 := hv1 j (by omega)
    rw [hjl] at v0
    have h14 : j < 14 := by omega
    rcases node_cases HND.out with ⟨hk, rfl⟩ | ⟨hk, rfl⟩ | ⟨hk, a, rfl⟩ | ⟨hk, a, rfl⟩ | ⟨hb, a, b, rfl⟩
    · have hn0 := HND.out.n0
      have hn1 := HND.out.n1
      rw [if_pos hk] at hn1
      have HI := Lib.hid (fun W h => itoa_any n W (by omega) (by omega) (HP.out W h))
      have HE : shB (.node (j : Int) n A c []) = Lib.itoa n := by rw [hk]; exact shB_one n A c []
      have e1 : ((j : Int) == 1) = true := by rw [hk]; rfl
      have hE := hend.out _ HE
      rw [← HEND.out _ HE] at hE
      clear qX hv1 hs1 HE hend HEND hk hjl
      generalize Lib.itoa n = T at *
      generalize lev (j : Int) = lv at *
      go_wp2_with fail
      refine (HI.out _ HB0.out).mono ?_
      rintro e w2 ⟨rfl, hb2⟩
      have HB2 := Lib.hid (HBX.out.trans (hb2.mono (by have := HBX.out.size; omega)))
      clear hb2
      rcases hE with ⟨_, t1, q3, q2, rfl⟩ | ⟨_, t1, rfl⟩
      · go_wp2_with fail
        go_ret
        exact ⟨rfl, by rw [hg]; exact HB2.out⟩
      · go_wp2_with fail
        go_ret
        exact ⟨rfl, by rw [hg]; exact HB2.out⟩
    · have HE : shB (.node (j : Int) n A c []) = [121] := by rw [hk]; exact shB_two n A c []
      have e1 : ((j : Int) == 1) = false := by rw [hk]; rfl
      have e2 : ((j : Int) == 2) = true := by rw [hk]; rfl
      have hE := hend.out _ HE
      rw [← HEND.out _ HE, show str [121] = (⟨#[121]⟩ : ByteArray) from rfl] at hE
      clear qX hv1 hs1 HE hend HEND hk hjl
      generalize lev (j : Int) = lv at *
      rcases hE with ⟨_, t1, q3, q2, rfl⟩ | ⟨_, t1, rfl⟩
      · go_wp2_with fail
        go_ret
        exact ⟨rfl, by rw [hg]; exact HBX.out⟩
      · go_wp2_with fail
        go_ret
        exact ⟨rfl, by rw [hg]; exact HBX.out⟩
    · have hlv : lev (j : Int) = 6 := by rw [hk]; rfl
      have HE : shB (.node (j : Int) n A c [a]) = [45] ++ shT (lev (j : Int)) a := by rw [hlv, hk]; exact shB_neg n A c a
      have e1 : ((j : Int) == 1) = false := by rw [hk]; rfl
      have e2 : ((j : Int) == 2) = false := by rw [hk]; rfl
      have e3 : ((j : Int) == 3) = true := by rw [hk]; rfl
      have hE := hend.out _ HE
      rw [← HEND.out _ HE, ← str_append] at hE
      have q0 : (str [45] ++ str (shT (lev (j : Int)) a) : ByteArray).size ≤ 30000 := by rw [str_append, str_size, ← HE]; have := HSL.out; omega
      have q9 : (str (shT (lev (j : Int)) a)).size ≤ 30000 := by rw [ByteArray.size_append] at q0; omega
      rw [show str [45] = (⟨#[45]⟩ : ByteArray) from rfl] at hE q0
      have HI := Lib.hid (fun W h => IH.out a (by simp) (HSZ.out a (by simp)) (lev (j : Int)) (by omega) W h)
      obtain ⟨b, o, rfl, hb, hc⟩ := row.open_ (by cases a; simp [reF])
      rw [List.flatMap_cons, List.flatMap_nil, List.append_nil] at hc
      have HC := Lib.hid hc
      cases a with
      | node k' n' A' c' ks' =>
      have y0 : W1.cell? ⟨b, o, none⟩ = some (.int .i64 k') := (HB0.out.cell (p := ⟨b, o + 0, none⟩) hb).trans (HC.out 0 _ rfl)
      have y1 : W1.cell? ⟨b, o + 1, none⟩ = some (.int .i64 n') := (HB0.out.cell (p := ⟨b, o + 1, none⟩) hb).trans (HC.out 1 _ rfl)
      have y2 : W1.cell? ⟨b, o + 2, none⟩ = some (.slice A' ks'.length c') := (HB0.out.cell (p := ⟨b, o + 2, none⟩) hb).trans (HC.out 2 _ rfl)
      have HI2 : Hid (∀ W, Below B w0 W → Calls Tryz.prog 45 #[.agg #[.int .i64 k', .int .i64 n', .slice A' ks'.length c'], .int .i64 (lev (j : Int) : Int)] W (ShQ (shT (lev (j : Int)) (.node k' n' A' c' ks')) W)) := HI.out
      have hbl : b < W1.heap.size := by have := HBX.out.size; omega
      clear qX hv1 hs1 HE hend HEND hk hjl HI hc HC IH HSZ HOK kids row
      generalize shT (lev (j : Int)) (.node k' n' A' c' ks') = T at *
      clear hlv
      generalize lev (j : Int) = lv at *
      go_wp2_with fail
      refine (HI2.out _ HB0.out).mono ?_
      rintro e w2 ⟨rfl, hb2⟩
      have HB2 := Lib.hid (HBX.out.trans (hb2.mono (by have := HBX.out.size; omega)))
      clear hb2
      rcases hE with ⟨_, t1, q3, q2, rfl⟩ | ⟨_, t1, rfl⟩
      · go_wp2_with fail
        go_ret
        exact ⟨rfl, by rw [hg]; exact HB2.out⟩
      · go_wp2_with fail
        go_ret
        exact ⟨rfl, by rw [hg]; exact HB2.out⟩
    · have hlv : lev (j : Int) = 2 := by rw [hk]; rfl
      have HE : shB (.node (j : Int) n A c [a]) = [110, 111, 116, 32] ++ shT (lev (j : Int)) a := by rw [hlv, hk]; exact shB_not n A c a
      have e1 : ((j : Int) == 1) = false := by rw [hk]; rfl
      have e2 : ((j : Int) == 2) = false := by rw [hk]; rfl
      have e3 : ((j : Int) == 3) = false := by rw [hk]; rfl
      have e11 : ((j : Int) == 11) = true := by rw [hk]; rfl
      have hE := hend.out _ HE
      rw [← HEND.out _ HE, ← str_append] at hE
      have q0 : (str [110, 111, 116, 32] ++ str (shT (lev (j : Int)) a) : ByteArray).size ≤ 30000 := by rw [str_append, str_size, ← HE]; have := HSL.out; omega
      have q9 : (str (shT (lev (j : Int)) a)).size ≤ 30000 := by rw [ByteArray.size_append] at q0; omega
      rw [show str [110, 111, 116, 32] = (⟨#[110, 111, 116, 32]⟩ : ByteArray) from rfl] at hE q0
      have HI := Lib.hid (fun W h => IH.out a (by simp) (HSZ.out a (by simp)) (lev (j : Int)) (by omega) W h)
      obtain ⟨b, o, rfl, hb, hc⟩ := row.open_ (by cases a; simp [reF])
      rw [List.flatMap_cons, List.flatMap_nil, List.append_nil] at hc
      have HC := Lib.hid hc
      cases a with
      | node k' n' A' c' ks' =>
      have y0 : W1.cell? ⟨b, o, none⟩ = some (.int .i64 k') := (HB0.out.cell (p := ⟨b, o + 0, none⟩) hb).trans (HC.out 0 _ rfl)
      have y1 : W1.cell? ⟨b, o + 1, none⟩ = some (.int .i64 n') := (HB0.out.cell (p := ⟨b, o + 1, none⟩) hb).trans (HC.out 1 _ rfl)
      have y2 : W1.cell? ⟨b, o + 2, none⟩ = some (.slice A' ks'.length c') := (HB0.out.cell (p := ⟨b, o + 2, none⟩) hb).trans (HC.out 2 _ rfl)
      have HI2 : Hid (∀ W, Below B w0 W → Calls Tryz.prog 45 #[.agg #[.int .i64 k', .int .i64 n', .slice A' ks'.length c'], .int .i64 (lev (j : Int) : Int)] W (ShQ (shT (lev (j : Int)) (.node k' n' A' c' ks')) W)) := HI.out
      have hbl : b < W1.heap.size := by have := HBX.out.size; omega
      clear qX hv1 hs1 HE hend HEND hk hjl HI hc HC IH HSZ HOK kids row
      generalize shT (lev (j : Int)) (.node k' n' A' c' ks') = T at *
      clear hlv
      generalize lev (j : Int) = lv at *
      go_wp2_with fail
      refine (HI2.out _ HB0.out).mono ?_
      rintro e w2 ⟨rfl, hb2⟩
      have HB2 := Lib.hid (HBX.out.trans (hb2.mono (by have := HBX.out.size; omega)))
      clear hb2
      rcases hE with ⟨_, t1, q3, q2, rfl⟩ | ⟨_, t1, rfl⟩
      · go_wp2_with fail
        go_ret
        exact ⟨rfl, by rw [hg]; exact HB2.out⟩
      · go_wp2_with fail
        go_ret
        exact ⟨rfl, by rw [hg]; exact HB2.out⟩
    · have hjb := hb
      have hj14 : (j : Int) < 14 := by omega
      unfold isBin at hjb
      have HE : shB (.node (j : Int) n A c [a, b]) = shT (fst (j : Int)) a ++ 32 :: (sgn (j : Int) ++ 32 :: shT (lev (j : Int) + 1) b) := shB_bin _ n A c a b hb
      have e1 : ((j : Int) == 1) = false := beq_eq_false_iff_ne.2 (by omega)
      have e2 : ((j : Int) == 2) = false := beq_eq_false_iff_ne.2 (by omega)
      have e3 : ((j : Int) == 3) = false := beq_eq_false_iff_ne.2 (by omega)
      have e11 : ((j : Int) == 11) = false := beq_eq_false_iff_ne.2 (by omega)
      have HT : str (shT (fst (j : Int)) a ++ 32 :: (sgn (j : Int) ++ 32 :: shT (lev (j : Int) + 1) b)) = (((str (shT (fst (j : Int)) a) ++ ⟨#[32]⟩) ++ str (sgn (j : Int))) ++ ⟨#[32]⟩) ++ str (shT (lev (j : Int) + 1) b) := by
        rw [show (⟨#[32]⟩ : ByteArray) = str [32] from rfl]
        simp only [str_append]
        congr 1
        simp
      have hE := hend.out _ HE
      rw [← HEND.out _ HE, HT] at hE
      have q0 : ((((str (shT (fst (j : Int)) a) ++ ⟨#[32]⟩) ++ str (sgn (j : Int))) ++ ⟨#[32]⟩) ++ str (shT (lev (j : Int) + 1) b) : ByteArray).size ≤ 30000 := by rw [← HT, str_size, ← HE]; have := HSL.out; omega
      have hlv : lev (j : Int) ≤ 5 := by unfold lev; (repeat' split) <;> omega
      have hs2 := hs1 j h14
      have hsb : 1 < W1.heap.size := block_lt_of_cell hs2
      have HF : fst (j : Int) = if lev (j : Int) = 3 then 4 else lev (j : Int) := rfl
      have hfl : fst (j : Int) ≤ 10 := by rw [HF]; split <;> omega
      have HI1 := Lib.hid (fun W h => IH.out a (by simp) (HSZ.out a (by simp)) (fst (j : Int)) hfl W h)
      have HI2 := Lib.hid (fun W h => IH.out b (by simp) (HSZ.out b (by simp)) (lev (j : Int) + 1) (by omega) W h)
      rw [show ((lev (j : Int) + 1 : Nat) : Int) = (lev (j : Int) : Int) + 1 from by omega] at HI2
      obtain ⟨ba, o, rfl, hbB, hc⟩ := row.open_ (by cases a; simp [reF])
      rw [List.flatMap_cons, List.flatMap_cons, List.flatMap_nil, List.append_nil] at hc
      have HC := Lib.hid hc
      have hbl : ba < W1.heap.size := by have := HBX.out.size; omega
      have z2 : ∀ W, Below W1.heap.size W1 W → W.cell? ⟨g, 2, none⟩ = some (.slice (some ⟨ba, o, none⟩) 2 c) := fun W hW => (qX.below hW).cell 2
      have z0 : ∀ W, Below W1.heap.size W1 W → W.cell? ⟨g, 0, none⟩ = some (.int .i64 (j : Int)) := fun W hW => (qX.below hW).cell 0
      have zs : ∀ W, Below W1.heap.size W1 W → W.cell? ⟨1, j, none⟩ = some (.string (str (sgn (j : Int)))) := fun W hW => (hW.cell (p := ⟨1, j, none⟩) hsb).trans hs2
      have hab : ∀ W, Below W1.heap.size W1 W → ∀ i v, (reF a ++ reF b)[i]? = some v → W.cell? ⟨ba, o + i, none⟩ = some v := fun W hW i v hv => ((HB0.out.trans (hW.mono (by have := HBX.out.size; omega))).cell (p := ⟨ba, o + i, none⟩) hbB).trans (HC.out i v hv)
      cases a with
      | node k1' n1 A1 c1 ks1 =>
      cases b with
      | node k2 n2 A2 c2 ks2 =>
      have y0 : ∀ W, Below W1.heap.size W1 W → W.cell? ⟨ba, o, none⟩ = some (.int .i64 k1') := fun W hW => hab W hW 0 _ rfl
      have y1 : ∀ W, Below W1.heap.size W1 W → W.cell? ⟨ba, o + 1, none⟩ = some (.int .i64 n1) := fun W hW => hab W hW 1 _ rfl
      have y2 : ∀ W, Below W1.heap.size W1 W → W.cell? ⟨ba, o + 2, none⟩ = some (.slice A1 ks1.length c1) := fun W hW => hab W hW 2 _ rfl
      have y3 : ∀ W, Below W1.heap.size W1 W → W.cell? ⟨ba, o + 3, none⟩ = some (.int .i64 k2) := fun W hW => hab W hW 3 _ rfl
      have y4 : ∀ W, Below W1.heap.size W1 W → W.cell? ⟨ba, o + 3 + 1, none⟩ = some (.int .i64 n2) := fun W hW => hab W hW 4 _ rfl
      have y5 : ∀ W, Below W1.heap.size W1 W → W.cell? ⟨ba, o + 3 + 2, none⟩ = some (.slice A2 ks2.length c2) := fun W hW => hab W hW 5 _ rfl
      have HJ1 : Hid (∀ W, Below B w0 W → Calls Tryz.prog 45 #[.agg #[.int .i64 k1', .int .i64 n1, .slice A1 ks1.length c1], .int .i64 (fst (j : Int) : Int)] W (ShQ (shT (fst (j : Int)) (.node k1' n1 A1 c1 ks1)) W)) := HI1.out
      have HJ2 : Hid (∀ W, Below B w0 W → Calls Tryz.prog 45 #[.agg #[.int .i64 k2, .int .i64 n2, .slice A2 ks2.length c2], .int .i64 ((lev (j : Int) : Int) + 1)] W (ShQ (shT (lev (j : Int) + 1) (.node k2 n2 A2 c2 ks2)) W)) := HI2.out
      have HX2 := Lib.hid qX
      have k5 : IntKind.i64.wrap ((lev (j : Int) : Int) + 1) = (lev (j : Int) : Int) + 1 := IntWalk.i64_in _ ⟨by omega, by omega⟩
      have t3 : (((lev (j : Int) : Nat) : Int) == 3) = decide (lev (j : Int) = 3) := by by_cases h : lev (j : Int) = 3 <;> simp [h] <;> omega
      clear qX hv1 hs1 HE HT hend HEND hjl HI1 HI2 hc HC IH HSZ HOK kids row hb hjb hs2 hab
      generalize shT (lev (j : Int) + 1) (.node k2 n2 A2 c2 ks2) = T2 at *
      generalize shT (fst (j : Int)) (.node k1' n1 A1 c1 ks1) = T1 at *
      generalize fst (j : Int) = lf at *
      generalize lev (j : Int) = lv at *
      generalize sgn (j : Int) = sg at *
      generalize hs1' : str T1 = S1 at *
      generalize hs2' : str T2 = S2 at *
      generalize hs3' : str sg = S3 at *
      have r4 : (((S1 ++ ⟨#[32]⟩) ++ S3) ++ ⟨#[32]⟩ : ByteArray).size ≤ 30000 := by rw [ByteArray.size_append] at q0; omega
      have r3 : ((S1 ++ ⟨#[32]⟩) ++ S3 : ByteArray).size ≤ 30000 := by rw [ByteArray.size_append] at r4; omega
      have r2 : (S1 ++ ⟨#[32]⟩ : ByteArray).size ≤ 30000 := by rw [ByteArray.size_append] at r3; omega
      have r1 : S1.size ≤ 30000 := by rw [ByteArray.size_append] at r2; omega
      have r5 : S2.size ≤ 30000 := by rw [ByteArray.size_append] at q0; omega
      have r6 : S3.size ≤ 30000 := by rw [ByteArray.size_append] at r3; omega
      have r0 : (⟨#[32]⟩ : ByteArray).size = 1 := rfl
      by_cases h3 : lv = 3
      · have hlf : lf = 4 := by rw [HF, if_pos h3]
        have t4 : decide (lv = 3) = true := decide_eq_true h3
        rw [t4] at t3
        rw [hlf, show ((4 : Nat) : Int) = (lv : Int) + 1 from by omega] at HJ1
        clear t4 HF hlf h3
        go_upto_region 7 with fail
        refine flow_begin (tellOf [(5, det (.string S1)), (19, det (.string S2))]) (by kernel_rfl) (by kernel_rfl) ?_
        repeat (first | (refine flow_val (v := ?_) (by rfl) (by rfl) (fun w hb => ?_) ?_; rotate_left; (· ((go_simp) <;> ((repeat' apply And.intro) <;> with_reducible rfl))); try simp only [Act.put, List.setIfInBounds_toArray, List.set_cons_zero, List.set_cons_succ, Nat.reduceAdd]) | (refine flow_val (v := ?_) (by rfl) (by rfl) (fun w hb => ?_) ?_; rotate_left; (· (go_simp; (refine (if_neg ?_).trans ?_); (· omega); (· with_reducible rfl))); try simp only [Act.put, List.setIfInBounds_toArray, List.set_cons_zero, List.set_cons_succ, Nat.reduceAdd]) | (refine flow_skip (by rfl) (by rfl) ?_; try simp only [Act.put, List.setIfInBounds_toArray, List.set_cons_zero, List.set_cons_succ, Nat.reduceAdd]))
        refine flow_call (f := ?_) (args := ?_) [] (by kernel_rfl) (by rfl) (by rfl) (fun w hb => ?_) (fun w hb hu => ?_) ?_; rotate_left 2; (· ((go_simp) <;> ((repeat' apply And.intro) <;> with_reducible rfl)))
        · refine (HJ1.out _ (HB0.out.trans (hb.mono (by have := HBX.out.size; omega)))).mono ?_
          rintro e w' ⟨rfl, hb'⟩
          exact ⟨by rw [hs1'], hb'⟩
        try simp only [Act.put, List.setIfInBounds_toArray, List.set_cons_zero, List.set_cons_succ, Nat.reduceAdd]
        repeat (first | (refine flow_val (v := ?_) (by rfl) (by rfl) (fun w hb => ?_) ?_; rotate_left; (· ((go_simp) <;> ((repeat' apply And.intro) <;> with_reducible rfl))); try simp only [Act.put, List.setIfInBounds_toArray, List.set_cons_zero, List.set_cons_succ, Nat.reduceAdd]) | (refine flow_val (v := ?_) (by rfl) (by rfl) (fun w hb => ?_) ?_; rotate_left; (· (go_simp; (refine (if_neg ?_).trans ?_); (· omega); (· with_reducible rfl))); try simp only [Act.put, List.setIfInBounds_toArray, List.set_cons_zero, List.set_cons_succ, Nat.reduceAdd]) | (refine flow_skip (by rfl) (by rfl) ?_; try simp only [Act.put, List.setIfInBounds_toArray, List.set_cons_zero, List.set_cons_succ, Nat.reduceAdd]))
        refine flow_call (f := ?_) (args := ?_) [] (by kernel_rfl) (by rfl) (by rfl) (fun w hb => ?_) (fun w hb hu => ?_) ?_; rotate_left 2; (· ((go_simp) <;> ((repeat' apply And.intro) <;> with_reducible rfl)))
        · refine (HJ2.out _ (HB0.out.trans (hb.mono (by have := HBX.out.size; omega)))).mono ?_
          rintro e w' ⟨rfl, hb'⟩
          exact ⟨by rw [hs2'], hb'⟩
        try simp only [Act.put, List.setIfInBounds_toArray, List.set_cons_zero, List.set_cons_succ, Nat.reduceAdd]
        repeat (first | (refine flow_val (v := ?_) (by rfl) (by rfl) (fun w hb => ?_) ?_; rotate_left; (· ((go_simp) <;> ((repeat' apply And.intro) <;> with_reducible rfl))); try simp only [Act.put, List.setIfInBounds_toArray, List.set_cons_zero, List.set_cons_succ, Nat.reduceAdd]) | (refine flow_val (v := ?_) (by rfl) (by rfl) (fun w hb => ?_) ?_; rotate_left; (· (go_simp; (refine (if_neg ?_).trans ?_); (· omega); (· with_reducible rfl))); try simp only [Act.put, List.setIfInBounds_toArray, List.set_cons_zero, List.set_cons_succ, Nat.reduceAdd]) | (refine flow_skip (by rfl) (by rfl) ?_; try simp only [Act.put, List.setIfInBounds_toArray, List.set_cons_zero, List.set_cons_succ, Nat.reduceAdd]))
        refine flow_nil fun w2 hb2 _ => ?_
        have HB2 := Lib.hid (HBX.out.trans (hb2.mono (by have := HBX.out.size; omega)))
        clear hb2 z0 z2 zs y0 y1 y2 y3 y4 y5 HJ1 HJ2
        rcases hE with ⟨_, t1, q3, q2, rfl⟩ | ⟨_, t1, rfl⟩
        · go_wp2_with fail
          go_ret
          exact ⟨rfl, by rw [hg]; exact HB2.out⟩
        · go_wp2_with fail
          go_ret
          exact ⟨rfl, by rw [hg]; exact HB2.out⟩
      · have hlf : lf = lv := by rw [HF, if_neg h3]
        have t4 : decide (lv = 3) = false := decide_eq_false h3
        rw [t4] at t3
        rw [hlf] at HJ1
        clear t4 HF hlf h3
        go_upto_region 7 with fail
        refine flow_begin (tellOf [(5, det (.string S1)), (19, det (.string S2))]) (by kernel_rfl) (by kernel_rfl) ?_
        repeat (first | (refine flow_val (v := ?_) (by rfl) (by rfl) (fun w hb => ?_) ?_; rotate_left; (· ((go_simp) <;> ((repeat' apply And.intro) <;> with_reducible rfl))); try simp only [Act.put, List.setIfInBounds_toArray, List.set_cons_zero, List.set_cons_succ, Nat.reduceAdd]) | (refine flow_val (v := ?_) (by rfl) (by rfl) (fun w hb => ?_) ?_; rotate_left; (· (go_simp; (refine (if_neg ?_).trans ?_); (· omega); (· with_reducible rfl))); try simp only [Act.put, List.setIfInBounds_toArray, List.set_cons_zero, List.set_cons_succ, Nat.reduceAdd]) | (refine flow_skip (by rfl) (by rfl) ?_; try simp only [Act.put, List.setIfInBounds_toArray, List.set_cons_zero, List.set_cons_succ, Nat.reduceAdd]))
        refine flow_call (f := ?_) (args := ?_) [] (by kernel_rfl) (by rfl) (by rfl) (fun w hb => ?_) (fun w hb hu => ?_) ?_; rotate_left 2; (· ((go_simp) <;> ((repeat' apply And.intro) <;> with_reducible rfl)))
        · refine (HJ1.out _ (HB0.out.trans (hb.mono (by have := HBX.out.size; omega)))).mono ?_
          rintro e w' ⟨rfl, hb'⟩
          exact ⟨by rw [hs1'], hb'⟩
        try simp only [Act.put, List.setIfInBounds_toArray, List.set_cons_zero, List.set_cons_succ, Nat.reduceAdd]
        repeat (first | (refine flow_val (v := ?_) (by rfl) (by rfl) (fun w hb => ?_) ?_; rotate_left; (· ((go_simp) <;> ((repeat' apply And.intro) <;> with_reducible rfl))); try simp only [Act.put, List.setIfInBounds_toArray, List.set_cons_zero, List.set_cons_succ, Nat.reduceAdd]) | (refine flow_val (v := ?_) (by rfl) (by rfl) (fun w hb => ?_) ?_; rotate_left; (· (go_simp; (refine (if_neg ?_).trans ?_); (· omega); (· with_reducible rfl))); try simp only [Act.put, List.setIfInBounds_toArray, List.set_cons_zero, List.set_cons_succ, Nat.reduceAdd]) | (refine flow_skip (by rfl) (by rfl) ?_; try simp only [Act.put, List.setIfInBounds_toArray, List.set_cons_zero, List.set_cons_succ, Nat.reduceAdd]))
        refine flow_call (f := ?_) (args := ?_) [] (by kernel_rfl) (by rfl) (by rfl) (fun w hb => ?_) (fun w hb hu => ?_) ?_; rotate_left 2; (· ((go_simp) <;> ((repeat' apply And.intro) <;> with_reducible rfl)))
        · refine (HJ2.out _ (HB0.out.trans (hb.mono (by have := HBX.out.size; omega)))).mono ?_
          rintro e w' ⟨rfl, hb'⟩
          exact ⟨by rw [hs2'], hb'⟩
        try simp only [Act.put, List.setIfInBounds_toArray, List.set_cons_zero, List.set_cons_succ, Nat.reduceAdd]
        repeat (first | (refine flow_val (v := ?_) (by rfl) (by rfl) (fun w hb => ?_) ?_; rotate_left; (· ((go_simp) <;> ((repeat' apply And.intro) <;> with_reducible rfl))); try simp only [Act.put, List.setIfInBounds_toArray, List.set_cons_zero, List.set_cons_succ, Nat.reduceAdd]) | (refine flow_val (v := ?_) (by rfl) (by rfl) (fun w hb => ?_) ?_; rotate_left; (· (go_simp; (refine (if_neg ?_).trans ?_); (· omega); (· with_reducible rfl))); try simp only [Act.put, List.setIfInBounds_toArray, List.set_cons_zero, List.set_cons_succ, Nat.reduceAdd]) | (refine flow_skip (by rfl) (by rfl) ?_; try simp only [Act.put, List.setIfInBounds_toArray, List.set_cons_zero, List.set_cons_succ, Nat.reduceAdd]))
        refine flow_nil fun w2 hb2 _ => ?_
        have HB2 := Lib.hid (HBX.out.trans (hb2.mono (by have := HBX.out.size; omega)))
        clear hb2 z0 z2 zs y0 y1 y2 y3 y4 y5 HJ1 HJ2
        rcases hE with ⟨_, t1, q3, q2, rfl⟩ | ⟨_, t1, rfl⟩
        · go_wp2_with fail
          go_ret
          exact ⟨rfl, by rw [hg]; exact HB2.out⟩
        · go_wp2_with fail
          go_ret
          exact ⟨rfl, by rw [hg]; exact HB2.out⟩
end Go.Proofs.YtbmbphikjainiaaGreatDoor

/- rule.Print, walked. -/
namespace Go.Proofs.YtbmbphikjainiaaGreatDoor
open Go.RowKit
set_option linter.unusedVariables false

def headP (t : Tr) : List UInt8 := [99, 97, 108, 101, 110, 100, 97, 114, 32] ++ t.nm.data.toList ++ [10, 101, 112, 111, 99, 104, 32] ++ Lib.itoa t.ep ++ [10, 99, 121, 99, 108, 101, 32] ++ Lib.itoa t.cy ++ [10, 108, 101, 97, 112, 32] ++ shB t.ex ++ [10]
def monN (m : Mth) : List UInt8 := monL m ++ [10]
def printR (t : Tr) : List UInt8 := headP t ++ t.mo.flatMap monN
def RTof (t : Tr) : RT := ⟨t.nm.data.toList, t.ep, t.cy, [108, 101, 97, 112, 32] ++ shB t.ex, t.mo⟩
theorem rest_mons (t : RT) : ∀ (j k : Nat), k + j = t.mo.length → t.rest (4 + k) = (t.mo.drop k).flatMap monN := by
  intro j
  induction j with
  | zero =>
    intro k hk
    obtain rfl : k = t.mo.length := by omega
    rw [RT.done, List.drop_length]
    rfl
  | succ j ih =>
    intro k hk
    rw [t.step (4 + k) (by omega), show 4 + k + 1 = 4 + (k + 1) from by omega, ih (k + 1) (by omega), List.drop_eq_getElem_cons (show k < t.mo.length by omega), List.flatMap_cons]
    have e : t.line (4 + k) = monL t.mo[k] := by
      unfold RT.line
      rw [if_neg (by omega), if_neg (by omega), if_neg (by omega), if_neg (by omega), show 4 + k - 4 = k from by omega]
      simp [List.getD, List.getElem?_eq_getElem (show k < t.mo.length by omega)]
    rw [e]
    unfold monN
    simp
theorem printR_rest (t : Tr) : printR t = (RTof t).rest 0 := by
  rw [(RTof t).step 0 (by omega), (RTof t).step 1 (by omega), (RTof t).step 2 (by omega), (RTof t).step 3 (by omega), show (3 + 1 : Nat) = 4 + 0 from rfl, rest_mons (RTof t) _ 0 (Nat.zero_add _)]
  unfold printR headP RT.line RTof
  simp
theorem name_data {s : ByteArray} (h : NameOk s) : s.data.toList.length ≤ 12 := by
  have := h.2.1
  rw [Array.length_toList]
  exact this
theorem headP_len (t : Tr) (h : TrOk t) : (headP t).length ≤ 1500 := by
  have h1 := name_data h.hd.1
  have h2 := Lib.itoa_length_le t.ep (by have := h.hd.2.1; omega) (by have := h.hd.2.1; omega)
  have h3 := Lib.itoa_length_le t.cy (by have := h.hd.2.2; omega) (by have := h.hd.2.2; omega)
  have h4 := shB_len h.ex.1
  have h5 := h.ex.2
  unfold headP
  simp only [List.length_append, List.length_cons, List.length_nil]
  omega
theorem monN_len (m : Mth) (h1 : NameOk m.nm) (h2 : 0 ≤ m.sh ∧ m.sh ≤ 400) (h3 : 0 ≤ m.lo ∧ m.lo ≤ 400) : (monN m).length ≤ 80 := by
  have h1 := name_data h1
  have h4 := Lib.itoa_length_le m.sh (by omega) (by omega)
  have h5 := Lib.itoa_length_le m.lo (by omega) (by omega)
  unfold monN monL
  split <;> simp only [List.length_append, List.length_cons, List.length_nil] <;> omega
def PriQ (t : Tr) (w : World) (e : Ending) (w' : World) : Prop := e = .returned (.tuple #[.string (str (printR t)), .int .i64 0]) ∧ Below w.heap.size w w'
def PriNo (w : World) (e : Ending) (w' : World) : Prop := ∃ E : Int, E ≠ 0 ∧ e = .returned (.tuple #[.string ⟨#[]⟩, .int .i64 E]) ∧ Below w.heap.size w w'
theorem below0 (W : World) : Below W.heap.size W W := Below.refl _ _
end Go.Proofs.YtbmbphikjainiaaGreatDoor
namespace Go.Proofs.YtbmbphikjainiaaGreatDoor
open Go.RowKit
set_option linter.unusedVariables false

theorem str_own' (s : ByteArray) : str s.data.toList = s := by simp [str]
set_option maxRecDepth 100000 in
theorem rprint_no (t : Tr) (w : World) (hin : TrIn w t) (hfit : TrFit t) (hno : ¬ TrOk t) :
    Calls Tryz.prog 14 #[t.val] w (PriNo w) := by
  have HB0 := Lib.hid (below_alloc1 w (Obj.cells t.cells 27))
  have HZ := Lib.hid (fun W (hW : Below w.heap.size w W) => trcheck_any t W (hin.next hW) hfit)
  have HNO := Lib.hid hno
  clear hin hno hfit
  unfold PriNo
  unfold Tr.val Tr.cells at *
  go_enter Tryz.func14, Tryz.ntmps14
  go_wp2_with fail
  refine (HZ.out _ HB0.out).mono ?_
  rintro e w1 ⟨E, rfl, hE, hb⟩
  have hE0 : E ≠ 0 := fun h => HNO.out (hE.1 h)
  have t1 : (E != 0) = true := by rw [bne_iff_ne]; exact hE0
  have HB1 := Lib.hid (below_then HB0.out hb)
  clear hE hb
  go_wp2_with fail
  go_ret2
  exact ⟨E, hE0, rfl, HB1.out⟩
set_option maxHeartbeats 4000000 in
set_option maxRecDepth 100000 in
theorem rprint_yes (t : Tr) (w : World) (hin : TrIn w t) (hfit : TrFit t) (hok : TrOk t) (hs : Sgs w) (hv : Lvs w) (hp : Pow w) :
    Calls Tryz.prog 14 #[t.val] w (PriQ t w) := by
  have hhl := headP_len t hok
  have hl2 := hok.mo.n2
  have hnm : t.nm.size ≤ 12 := hok.hd.1.2.1
  have hep := hok.hd.2.1
  have hcy := hok.hd.2.2
  have hlx : (shB t.ex).length ≤ 1200 := by have h4 := shB_len hok.ex.1; have h5 := hok.ex.2; omega
  have hxx : (str (shB t.ex)).size ≤ 1200 := by rw [str_size]; exact hlx
  have HEP := Lib.hid (fun W (hW : Below w.heap.size w W) => itoa_any t.ep W (by omega) (by omega) (hp.next hW))
  have HCY := Lib.hid (fun W (hW : Below w.heap.size w W) => itoa_any t.cy W (by omega) (by omega) (hp.next hW))
  have hpow := Lib.hid (fun W (hW : Below w.heap.size w W) => hp.next hW)
  have HSH : Hid (∀ W, Below w.heap.size w W → Calls Tryz.prog 45 #[.agg #[.int .i64 t.k, .int .i64 t.n, .slice t.A t.ks.length t.c], .int .i64 0] W (fun e w' => e = .returned (.string (str (shB t.ex))) ∧ Below W.heap.size W w')) := fun W hW => by
    have h := show_any w w.heap.size rfl hs hv hp t.ex hin.ex hok.ex.1 (by have h5 := hok.ex.2; omega) 0 (by omega) W hW
    refine h.mono ?_
    rintro e w' ⟨rfl, hb⟩
    refine ⟨?_, hb⟩
    unfold shT
    rw [parB_no 0 _ _ (by omega)]
  have HCK := Lib.hid (fun W (hW : Below w.heap.size w W) => trcheck_any t W (hin.next hW) hfit)
  have HRW := Lib.hid (fun W (hW : Below w.heap.size w W) => (hin.next hW).r1)
  have HOK := Lib.hid hok
  have HFT := Lib.hid hfit
  have HB0 := Lib.hid (below_alloc1 w (Obj.cells t.cells 27))
  have HX := Lib.hid (Box.new w 27 t.cells)
  have HEH : Hid (str (headP t) = ((((((((⟨#[99, 97, 108, 101, 110, 100, 97, 114, 32]⟩ ++ t.nm) ++ ⟨#[10, 101, 112, 111, 99, 104, 32]⟩) ++ str (Lib.itoa t.ep)) ++ ⟨#[10, 99, 121, 99, 108, 101, 32]⟩) ++ str (Lib.itoa t.cy)) ++ ⟨#[10, 108, 101, 97, 112, 32]⟩) ++ str (shB t.ex)) ++ ⟨#[10]⟩)) := by
    unfold headP
    rw [show (⟨#[99, 97, 108, 101, 110, 100, 97, 114, 32]⟩ : ByteArray) = str [99, 97, 108, 101, 110, 100, 97, 114, 32] from rfl, show (⟨#[10, 101, 112, 111, 99, 104, 32]⟩ : ByteArray) = str [10, 101, 112, 111, 99, 104, 32] from rfl, show (⟨#[10, 99, 121, 99, 108, 101, 32]⟩ : ByteArray) = str [10, 99, 121, 99, 108, 101, 32] from rfl, show (⟨#[10, 108, 101, 97, 112, 32]⟩ : ByteArray) = str [10, 108, 101, 97, 112, 32] from rfl, show (⟨#[10]⟩ : ByteArray) = str [10] from rfl]
    conv => rhs; rw [← str_own' t.nm]
    simp only [str_append]
    unfold Hid
    rfl
  have u1 := itoa_size t.ep (by omega) (by omega)
  have u2 := itoa_size t.cy (by omega) (by omega)
  clear hin hfit hok hs hv hp hep hcy
  unfold PriQ
  unfold printR
  unfold Tr.val Tr.cells at *
  go_enter Tryz.func14, Tryz.ntmps14
  go_wp2_with fail
  generalize w.alloc (Obj.cells #[.string t.nm, .int .i64 t.ep, .int .i64 t.cy, .int .i64 t.k, .int .i64 t.n, .slice t.A t.ks.length t.c, .slice t.A1 t.mo.length t.c1] 27) = W0 at *
  generalize hg : w.heap.size = g at *
  have HG := Lib.hid hg
  clear hg
  refine (HCK.out W0 HB0.out).mono ?_
  rintro e w1 ⟨E, rfl, hE, hb⟩
  obtain rfl : E = 0 := hE.2 HOK.out
  have HX1 := Lib.hid (HX.out.below hb)
  have HB1 := Lib.hid (show Below g w w1 from HB0.out.trans (hb.mono (by have := HX.out.lt; omega)))
  clear hE hb HB0 HX HCK
  go_wp2_with fail
  have HB2 := Lib.hid (HB1.out.alloc (by have h1 := HB1.out.size; have h2 := HG.out; omega) (Obj.cells #[.pointer none, .slice none 0 0] 88))
  have HX2 := Lib.hid (HX1.out.alloc (Obj.cells #[.pointer none, .slice none 0 0] 88))
  have HBD := Lib.hid (bld_new w1)
  have hgb : g < w1.heap.size := HX1.out.lt
  generalize w1.alloc (Obj.cells #[.pointer none, .slice none 0 0] 88) = W2 at *
  generalize w1.heap.size = b at *
  clear HX1 HB1
  have z0 : ∀ W, Below W2.heap.size W2 W → W.cell? ⟨g, 0, none⟩ = some (.string t.nm) := fun W hW => (HX2.out.below hW).cell 0
  have z1 : ∀ W, Below W2.heap.size W2 W → W.cell? ⟨g, 1, none⟩ = some (.int .i64 t.ep) := fun W hW => (HX2.out.below hW).cell 1
  have z2 : ∀ W, Below W2.heap.size W2 W → W.cell? ⟨g, 2, none⟩ = some (.int .i64 t.cy) := fun W hW => (HX2.out.below hW).cell 2
  have z3 : ∀ W, Below W2.heap.size W2 W → W.cell? ⟨g, 3, none⟩ = some (.int .i64 t.k) := fun W hW => (HX2.out.below hW).cell 3
  have z4 : ∀ W, Below W2.heap.size W2 W → W.cell? ⟨g, 4, none⟩ = some (.int .i64 t.n) := fun W hW => (HX2.out.below hW).cell 4
  have z5 : ∀ W, Below W2.heap.size W2 W → W.cell? ⟨g, 5, none⟩ = some (.slice t.A t.ks.length t.c) := fun W hW => (HX2.out.below hW).cell 5
  generalize str (shB t.ex) = sx at *
  generalize str (Lib.itoa t.ep) = se at *
  generalize str (Lib.itoa t.cy) = sc at *
  have c0 : (⟨#[99, 97, 108, 101, 110, 100, 97, 114, 32]⟩ : ByteArray).size = 9 := rfl
  have c1 : (⟨#[10, 101, 112, 111, 99, 104, 32]⟩ : ByteArray).size = 7 := rfl
  have c2 : (⟨#[10, 99, 121, 99, 108, 101, 32]⟩ : ByteArray).size = 7 := rfl
  have c3 : (⟨#[10, 108, 101, 97, 112, 32]⟩ : ByteArray).size = 6 := rfl
  have c4 : (⟨#[10]⟩ : ByteArray).size = 1 := rfl
  have s1 : (⟨#[99, 97, 108, 101, 110, 100, 97, 114, 32]⟩ ++ t.nm : ByteArray).size ≤ 21 := by rw [ByteArray.size_append]; omega
  have s2 : ((⟨#[99, 97, 108, 101, 110, 100, 97, 114, 32]⟩ ++ t.nm) ++ ⟨#[10, 101, 112, 111, 99, 104, 32]⟩ : ByteArray).size ≤ 28 := by rw [ByteArray.size_append]; omega
  have s3 : (((⟨#[99, 97, 108, 101, 110, 100, 97, 114, 32]⟩ ++ t.nm) ++ ⟨#[10, 101, 112, 111, 99, 104, 32]⟩) ++ se : ByteArray).size ≤ 49 := by rw [ByteArray.size_append]; omega
  have s4 : ((((⟨#[99, 97, 108, 101, 110, 100, 97, 114, 32]⟩ ++ t.nm) ++ ⟨#[10, 101, 112, 111, 99, 104, 32]⟩) ++ se) ++ ⟨#[10, 99, 121, 99, 108, 101, 32]⟩ : ByteArray).size ≤ 56 := by rw [ByteArray.size_append]; omega
  have s5 : (((((⟨#[99, 97, 108, 101, 110, 100, 97, 114, 32]⟩ ++ t.nm) ++ ⟨#[10, 101, 112, 111, 99, 104, 32]⟩) ++ se) ++ ⟨#[10, 99, 121, 99, 108, 101, 32]⟩) ++ sc : ByteArray).size ≤ 77 := by rw [ByteArray.size_append]; omega
  have s6 : ((((((⟨#[99, 97, 108, 101, 110, 100, 97, 114, 32]⟩ ++ t.nm) ++ ⟨#[10, 101, 112, 111, 99, 104, 32]⟩) ++ se) ++ ⟨#[10, 99, 121, 99, 108, 101, 32]⟩) ++ sc) ++ ⟨#[10, 108, 101, 97, 112, 32]⟩ : ByteArray).size ≤ 83 := by rw [ByteArray.size_append]; omega
  have s7 : (((((((⟨#[99, 97, 108, 101, 110, 100, 97, 114, 32]⟩ ++ t.nm) ++ ⟨#[10, 101, 112, 111, 99, 104, 32]⟩) ++ se) ++ ⟨#[10, 99, 121, 99, 108, 101, 32]⟩) ++ sc) ++ ⟨#[10, 108, 101, 97, 112, 32]⟩) ++ sx : ByteArray).size ≤ 1283 := by rw [ByteArray.size_append]; omega
  have hg2 : g ≤ W2.heap.size := by have := HX2.out.lt; omega
  refine flow_begin_tail 19 (tellOf [(6, det (.string se)), (11, det (.string sc)), (16, det (.string sx))]) (by kernel_rfl) (by kernel_rfl) ?_
  simp only [List.take_succ_cons, List.take_zero, List.drop_succ_cons, List.drop_zero]
  repeat (first | (refine flow_val (v := ?_) (by rfl) (by rfl) (fun w hb => ?_) ?_; rotate_left; (· ((go_simp) <;> ((repeat' apply And.intro) <;> with_reducible rfl))); try simp only [Act.put, List.setIfInBounds_toArray, List.set_cons_zero, List.set_cons_succ, Nat.reduceAdd]) | (refine flow_val (v := ?_) (by rfl) (by rfl) (fun w hb => ?_) ?_; rotate_left; (· (go_simp; (refine (if_neg ?_).trans ?_); (· omega); (· with_reducible rfl))); try simp only [Act.put, List.setIfInBounds_toArray, List.set_cons_zero, List.set_cons_succ, Nat.reduceAdd]) | (refine flow_skip (by rfl) (by rfl) ?_; try simp only [Act.put, List.setIfInBounds_toArray, List.set_cons_zero, List.set_cons_succ, Nat.reduceAdd]))
  refine flow_call (f := ?_) (args := ?_) [] (by kernel_rfl) (by rfl) (by rfl) (fun w hb => ?_) (fun w hb hu => ?_) ?_; rotate_left 2; (· ((go_simp) <;> ((repeat' apply And.intro) <;> with_reducible rfl)))
  · exact HEP.out w (HB2.out.trans (hb.mono hg2))
  try simp only [Act.put, List.setIfInBounds_toArray, List.set_cons_zero, List.set_cons_succ, Nat.reduceAdd]
  repeat (first | (refine flow_val (v := ?_) (by rfl) (by rfl) (fun w hb => ?_) ?_; rotate_left; (· ((go_simp) <;> ((repeat' apply And.intro) <;> with_reducible rfl))); try simp only [Act.put, List.setIfInBounds_toArray, List.set_cons_zero, List.set_cons_succ, Nat.reduceAdd]) | (refine flow_val (v := ?_) (by rfl) (by rfl) (fun w hb => ?_) ?_; rotate_left; (· (go_simp; (refine (if_neg ?_).trans ?_); (· omega); (· with_reducible rfl))); try simp only [Act.put, List.setIfInBounds_toArray, List.set_cons_zero, List.set_cons_succ, Nat.reduceAdd]) | (refine flow_skip (by rfl) (by rfl) ?_; try simp only [Act.put, List.setIfInBounds_toArray, List.set_cons_zero, List.set_cons_succ, Nat.reduceAdd]))
  refine flow_call (f := ?_) (args := ?_) [] (by kernel_rfl) (by rfl) (by rfl) (fun w hb => ?_) (fun w hb hu => ?_) ?_; rotate_left 2; (· ((go_simp) <;> ((repeat' apply And.intro) <;> with_reducible rfl)))
  · exact HCY.out w (HB2.out.trans (hb.mono hg2))
  try simp only [Act.put, List.setIfInBounds_toArray, List.set_cons_zero, List.set_cons_succ, Nat.reduceAdd]
  repeat (first | (refine flow_val (v := ?_) (by rfl) (by rfl) (fun w hb => ?_) ?_; rotate_left; (· ((go_simp) <;> ((repeat' apply And.intro) <;> with_reducible rfl))); try simp only [Act.put, List.setIfInBounds_toArray, List.set_cons_zero, List.set_cons_succ, Nat.reduceAdd]) | (refine flow_val (v := ?_) (by rfl) (by rfl) (fun w hb => ?_) ?_; rotate_left; (· (go_simp; (refine (if_neg ?_).trans ?_); (· omega); (· with_reducible rfl))); try simp only [Act.put, List.setIfInBounds_toArray, List.set_cons_zero, List.set_cons_succ, Nat.reduceAdd]) | (refine flow_skip (by rfl) (by rfl) ?_; try simp only [Act.put, List.setIfInBounds_toArray, List.set_cons_zero, List.set_cons_succ, Nat.reduceAdd]))
  refine flow_call (f := ?_) (args := ?_) [] (by kernel_rfl) (by rfl) (by rfl) (fun w hb => ?_) (fun w hb hu => ?_) ?_; rotate_left 2; (· ((go_simp) <;> ((repeat' apply And.intro) <;> with_reducible rfl)))
  · exact HSH.out w (HB2.out.trans (hb.mono hg2))
  try simp only [Act.put, List.setIfInBounds_toArray, List.set_cons_zero, List.set_cons_succ, Nat.reduceAdd]
  repeat (first | (refine flow_val (v := ?_) (by rfl) (by rfl) (fun w hb => ?_) ?_; rotate_left; (· ((go_simp) <;> ((repeat' apply And.intro) <;> with_reducible rfl))); try simp only [Act.put, List.setIfInBounds_toArray, List.set_cons_zero, List.set_cons_succ, Nat.reduceAdd]) | (refine flow_val (v := ?_) (by rfl) (by rfl) (fun w hb => ?_) ?_; rotate_left; (· (go_simp; (refine (if_neg ?_).trans ?_); (· omega); (· with_reducible rfl))); try simp only [Act.put, List.setIfInBounds_toArray, List.set_cons_zero, List.set_cons_succ, Nat.reduceAdd]) | (refine flow_skip (by rfl) (by rfl) ?_; try simp only [Act.put, List.setIfInBounds_toArray, List.set_cons_zero, List.set_cons_succ, Nat.reduceAdd]))
  refine flow_nil fun w3 hb3 _ => ?_
  rw [← HEH.out]
  clear HEH c0 c1 c2 c3 s1 s2 s3 s4 s5 s6 s7 z0 z1 z2 z3 z4 z5 HSH HEP HCY u1 u2 hxx hlx
  have HBW := Lib.hid (bld_write (bld_next HBD.out hb3) (headP t) (by simp; omega))
  have HB3 := Lib.hid (HB2.out.trans (hb3.mono hg2))
  have hb3' := hb3
  clear hb3 HB2 HBD
  refine wpList_step fun K hK => ?_
  rw [if_pos (by rfl)]
  go_simp
  refine HBW.out.mono ?_
  rintro e w4 ⟨rfl, hbd, hb4⟩
  refine hK _ _ (wpList_nil ?_)
  clear hK HBW K
  have HB4 := Lib.hid (show Below g w w4 from HB3.out.trans (hb4.mono (by omega)))
  have HX4 := Lib.hid ((HX2.out.below hb3').belowB hb4 hgb)
  rw [List.nil_append] at hbd
  have HBD := Lib.hid hbd
  have x6 : w4.cell? ⟨g, 6, none⟩ = some (.slice t.A1 t.mo.length t.c1) := HX4.out.cell 6
  clear hbd hb4 HB3 hb3' HX2
  generalize hHL : headP t = HL at *
  have HHL := Lib.hid hHL
  clear hHL
  have HBL : Hid (∀ k, k ≤ t.mo.length → (HL ++ (t.mo.take k).flatMap monN).length ≤ 1500 + 80 * k) := fun k hk => by
    induction k with
    | zero => simp; omega
    | succ k ih =>
      have := ih (by omega)
      have hck := HOK.out.mo.each k (by omega)
      have hl := monN_len (t.mo.getD k mth0) hck.nm hck.sh hck.lo
      rw [List.take_succ_eq_append_getElem (by omega), List.flatMap_append, ← List.append_assoc, List.length_append]
      simp only [List.flatMap_cons, List.flatMap_nil, List.append_nil]
      have e : t.mo[k] = t.mo.getD k mth0 := by simp [List.getD, List.getElem?_eq_getElem (show k < t.mo.length by omega)]
      rw [e]
      omega
  go_wp2_with fail
  go_loopw [7, 36] (fun _ i wr => ∃ k : Nat, k ≤ t.mo.length ∧ i = .int .i64 k ∧ Hid (BldF b (HL ++ (t.mo.take k).flatMap monN) wr) ∧ Hid (Below g w wr)) (fun _ i _ => t.mo.length - (intOf i).toNat)
  case atStart => exact ⟨0, by omega, rfl, by simpa using Lib.hid (bldf_of HBD.out), HB4⟩
  case round =>
    clear x6 HX4 HB4 HBD
    obtain ⟨k, hk, rfl, hbd, hbr⟩ := hrel
    have hrow := HRW.out wr hbr.out
    by_cases hlt : k < t.mo.length
    · obtain ⟨ba, o, hA, hb, hc⟩ := hrow.open_ (flat_ne mthF_len (by omega) t.mo (by omega))
      have hc0 := flat_cell mthF_len mth0 hc k 0 hlt (by omega) _ rfl
      have hc1 := flat_cell mthF_len mth0 hc k 1 hlt (by omega) _ rfl
      have hc2 := flat_cell mthF_len mth0 hc k 2 hlt (by omega) _ rfl
      rw [Nat.add_zero] at hc0
      have hck := HOK.out.mo.each k hlt
      have h1 := hck.sh
      have h2 := hck.lo
      have hnm2 : (t.mo.getD k mth0).nm.size ≤ 12 := hck.nm.2.1
      have hll := monN_len (t.mo.getD k mth0) hck.nm h1 h2
      have hbl := HBL.out k hk
      have HS : Hid (HL ++ (t.mo.take (k + 1)).flatMap monN = (HL ++ (t.mo.take k).flatMap monN) ++ monN (t.mo.getD k mth0)) := by
        rw [List.take_succ_eq_append_getElem (by omega), List.flatMap_append, ← List.append_assoc]
        have e : t.mo[k] = t.mo.getD k mth0 := by simp [List.getD, List.getElem?_eq_getElem hlt]
        rw [e]
        unfold Hid
        simp
      have hgr : g < wr.heap.size := Nat.lt_trans hgb (bldf_lt hbd.out)
      generalize t.mo.getD k mth0 = m at *
      have HMN : Hid (monN m = (([109, 111, 110, 116, 104, 32] ++ m.nm.data.toList) ++ [32] ++ Lib.itoa m.sh) ++ ((if m.lo = m.sh then [] else [32] ++ Lib.itoa m.lo) ++ [10])) := by
        unfold Hid monN monL
        split <;> simp
      have HEA : Hid (str ((([109, 111, 110, 116, 104, 32] ++ m.nm.data.toList) ++ [32]) ++ Lib.itoa m.sh) = ((⟨#[109, 111, 110, 116, 104, 32]⟩ ++ m.nm) ++ ⟨#[32]⟩) ++ str (Lib.itoa m.sh)) := by
        rw [show (⟨#[109, 111, 110, 116, 104, 32]⟩ : ByteArray) = str [109, 111, 110, 116, 104, 32] from rfl, show (⟨#[32]⟩ : ByteArray) = str [32] from rfl]
        conv => rhs; rw [← str_own' m.nm]
        simp only [str_append]
        unfold Hid
        rfl
      have HEB : Hid (str ([32] ++ Lib.itoa m.lo) = ⟨#[32]⟩ ++ str (Lib.itoa m.lo)) := by
        rw [show (⟨#[32]⟩ : ByteArray) = str [32] from rfl, str_append]
        unfold Hid
        rfl
      have HIS := Lib.hid (fun W (hW : Below g w W) => itoa_any m.sh W (by omega) (by omega) (hpow.out W hW))
      have HIL := Lib.hid (fun W (hW : Below g w W) => itoa_any m.lo W (by omega) (by omega) (hpow.out W hW))
      have q1 := itoa_size m.sh (by omega) (by omega)
      have q2 := itoa_size m.lo (by omega) (by omega)
      have hl1 : ((([109, 111, 110, 116, 104, 32] ++ m.nm.data.toList) ++ [32]) ++ Lib.itoa m.sh).length ≤ 100 := by
        rw [← str_size, HEA.out, ByteArray.size_append, ByteArray.size_append, ByteArray.size_append]
        show 6 + m.nm.size + 1 + _ ≤ 100
        omega
      have hl2' : ([32] ++ Lib.itoa m.lo).length ≤ 100 := by
        rw [← str_size, HEB.out, ByteArray.size_append]
        show 1 + _ ≤ 100
        omega
      generalize hLA : ((([109, 111, 110, 116, 104, 32] ++ m.nm.data.toList) ++ [32]) ++ Lib.itoa m.sh) = LA at *
      generalize hLB : [32] ++ Lib.itoa m.lo = LB at *
      generalize HL ++ (t.mo.take k).flatMap monN = HK at *
      have HBW := Lib.hid (fun W (hW : BldF b HK W) => bldf_write hW LA (by omega))
      have HBW2 := Lib.hid (fun W (hW : BldF b (HK ++ LA) W) => bldf_write hW LB (by rw [List.length_append]; omega))
      have HBW3 := Lib.hid (fun W (hW : BldF b (HK ++ LA ++ LB) W) => bldf_write hW [10] (by rw [List.length_append, List.length_append]; simp; omega))
      have HBW4 := Lib.hid (fun W (hW : BldF b (HK ++ LA) W) => bldf_write hW [10] (by rw [List.length_append]; simp; omega))
      generalize str (Lib.itoa m.sh) = ss at *
      generalize str (Lib.itoa m.lo) = sl at *
      have HS2 : Hid (HL ++ (t.mo.take (k + 1)).flatMap monN = HK ++ (LA ++ ((if m.lo = m.sh then [] else LB) ++ [10]))) := by
        unfold Hid
        rw [HS.out, HMN.out]
      have k0 : (k : Int) < (t.mo.length : Int) := by omega
      have hbaw : ba < wr.heap.size := hb
      have hbr1 := hbr
      have hbd1 := hbd
      clear HS HMN HBL hck hll hbl hbr hbd hrow hc hl1 hl2' HOK HFT HRW hpow
      generalize m.nm = vn at *
      generalize m.sh = vs at *
      generalize m.lo = vl at *
      rw [hA]
      go_upto_region 9 with fail
      have hX5 := (Box.new wr 62 #[.string vn, .int .i64 vs, .int .i64 vl])
      have hB5 := below_alloc1 wr (Obj.cells #[.string vn, .int .i64 vs, .int .i64 vl] 62)
      generalize wr.alloc (Obj.cells #[.string vn, .int .i64 vs, .int .i64 vl] 62) = W5 at *
      generalize hgr5 : wr.heap.size = g5 at *
      have HGR := Lib.hid hgr5
      clear hgr5
      have hg6 := hX5.lt
      have HB6 := Lib.hid hB5
      have HBD6 := Lib.hid (bldf_next hbd1.out (by rw [HGR.out]; exact hB5))
      have hbg5 : b < g5 := by have := bldf_lt hbd1.out; have := HGR.out; omega
      have l0 : ∀ W, Below W5.heap.size W5 W → W.cell? ⟨g5, 0, none⟩ = some (.string vn) := fun W hW => (hX5.below hW).cell 0
      have l1 : ∀ W, Below W5.heap.size W5 W → W.cell? ⟨g5, 1, none⟩ = some (.int .i64 vs) := fun W hW => (hX5.below hW).cell 1
      have HX5 := Lib.hid hX5
      have r0 : (⟨#[109, 111, 110, 116, 104, 32]⟩ : ByteArray).size = 6 := rfl
      have r9 : (⟨#[32]⟩ : ByteArray).size = 1 := rfl
      have r1 : (⟨#[109, 111, 110, 116, 104, 32]⟩ ++ vn : ByteArray).size ≤ 18 := by rw [ByteArray.size_append]; omega
      have r2 : ((⟨#[109, 111, 110, 116, 104, 32]⟩ ++ vn) ++ ⟨#[32]⟩ : ByteArray).size ≤ 19 := by rw [ByteArray.size_append]; omega
      clear hX5 hB5 hc0 hc1 hc2 hbd1
      have hg5W : g5 ≤ W5.heap.size := by omega
      refine flow_begin_tail 8 (tellOf [(6, det (.string ss))]) (by kernel_rfl) (by kernel_rfl) ?_
      simp only [List.take_succ_cons, List.take_zero, List.drop_succ_cons, List.drop_zero]
      repeat (first | (refine flow_val (v := ?_) (by rfl) (by rfl) (fun w hb => ?_) ?_; rotate_left; (· ((go_simp) <;> ((repeat' apply And.intro) <;> with_reducible rfl))); try simp only [Act.put, List.setIfInBounds_toArray, List.set_cons_zero, List.set_cons_succ, Nat.reduceAdd]) | (refine flow_val (v := ?_) (by rfl) (by rfl) (fun w hb => ?_) ?_; rotate_left; (· (go_simp; (refine (if_neg ?_).trans ?_); (· omega); (· with_reducible rfl))); try simp only [Act.put, List.setIfInBounds_toArray, List.set_cons_zero, List.set_cons_succ, Nat.reduceAdd]) | (refine flow_skip (by rfl) (by rfl) ?_; try simp only [Act.put, List.setIfInBounds_toArray, List.set_cons_zero, List.set_cons_succ, Nat.reduceAdd]))
      refine flow_call (f := ?_) (args := ?_) [] (by kernel_rfl) (by rfl) (by rfl) (fun w hb => ?_) (fun w hb hu => ?_) ?_; rotate_left 2; (· ((go_simp) <;> ((repeat' apply And.intro) <;> with_reducible rfl)))
      · exact HIS.out w (hbr1.out.trans ((HB6.out.trans (hb.mono hg5W)).mono (by omega)))
      try simp only [Act.put, List.setIfInBounds_toArray, List.set_cons_zero, List.set_cons_succ, Nat.reduceAdd]
      repeat (first | (refine flow_val (v := ?_) (by rfl) (by rfl) (fun w hb => ?_) ?_; rotate_left; (· ((go_simp) <;> ((repeat' apply And.intro) <;> with_reducible rfl))); try simp only [Act.put, List.setIfInBounds_toArray, List.set_cons_zero, List.set_cons_succ, Nat.reduceAdd]) | (refine flow_val (v := ?_) (by rfl) (by rfl) (fun w hb => ?_) ?_; rotate_left; (· (go_simp; (refine (if_neg ?_).trans ?_); (· omega); (· with_reducible rfl))); try simp only [Act.put, List.setIfInBounds_toArray, List.set_cons_zero, List.set_cons_succ, Nat.reduceAdd]) | (refine flow_skip (by rfl) (by rfl) ?_; try simp only [Act.put, List.setIfInBounds_toArray, List.set_cons_zero, List.set_cons_succ, Nat.reduceAdd]))
      refine flow_nil fun w7 hb7 _ => ?_
      rw [← HEA.out]
      have HBWa := Lib.hid (HBW.out w7 (bldf_next HBD6.out hb7))
      have HB7 := Lib.hid (hbr1.out.trans ((HB6.out.trans (hb7.mono hg5W)).mono (show g ≤ g5 by omega)))
      have HX7 := Lib.hid (HX5.out.below hb7)
      clear hb7 HEA r0 r1 r2 l0 l1 HIS HBW HBD6 HB6 HX5
      refine wpList_step fun K hK => ?_
      rw [if_pos (by rfl)]
      go_simp
      refine HBWa.out.mono ?_
      rintro e w8 ⟨rfl, hbd, hb8, hbx⟩
      refine hK _ _ (wpList_nil ?_)
      clear hK HBWa K
      have HB8 := Lib.hid (HB7.out.trans (hb8.mono (by omega)))
      have hX8 := hbx g5 _ _ HX7.out (by omega) (by decide)
      have HBD8 := Lib.hid hbd
      have l1 : w8.cell? ⟨g5, 1, none⟩ = some (.int .i64 vs) := hX8.cell 1
      have l2 : w8.cell? ⟨g5, 2, none⟩ = some (.int .i64 vl) := hX8.cell 2
      have l8 : g5 < w8.heap.size := hX8.lt
      have HI8 := Lib.hid (HIL.out w8 HB8.out)
      clear hb8 hbd HB7 HX7 hbx hX8 HIL
      by_cases hvl : vl = vs
      · have t1 : (vl != vs) = false := by rw [hvl]; simp
        rw [if_pos hvl] at HS2
        clear hvl
        go_wp2_with fail
        refine (HBW4.out w8 HBD8.out).mono ?_
        rintro e w9 ⟨rfl, hbd9, hb9, _⟩
        have HB9 := Lib.hid (HB8.out.trans (hb9.mono (by omega)))
        have HBD9 := Lib.hid hbd9
        clear hb9 hbd9
        go_wp2_with fail
        go_roundw
        case rel => exact ⟨k + 1, by omega, by go_num, by rw [HS2.out]; simpa using HBD9, HB9⟩
        case measure => simp [intOf]; omega
      · have t1 : (vl != vs) = true := by rw [bne_iff_ne]; exact hvl
        rw [if_neg hvl] at HS2
        clear hvl
        go_wp2_with fail
        refine HI8.out.mono ?_
        rintro e w9 ⟨rfl, hb9⟩
        have HB9 := Lib.hid (HB8.out.trans (hb9.mono (by omega)))
        have HBD9 := Lib.hid (bldf_next HBD8.out hb9)
        have HW9 := Lib.hid (HBW2.out w9 HBD9.out)
        rw [HEB.out] at HW9
        clear hb9
        go_wp2_with fail
        refine HW9.out.mono ?_
        rintro e w10 ⟨rfl, hbd10, hb10, _⟩
        have HB10 := Lib.hid (HB9.out.trans (hb10.mono (by omega)))
        have HBD10 := Lib.hid hbd10
        clear hb10 hbd10
        go_wp2_with fail
        refine (HBW3.out w10 HBD10.out).mono ?_
        rintro e w11 ⟨rfl, hbd11, hb11, _⟩
        have HB11 := Lib.hid (HB10.out.trans (hb11.mono (by omega)))
        have HBD11 := Lib.hid hbd11
        clear hb11 hbd11
        go_wp2_with fail
        go_roundw
        case rel => exact ⟨k + 1, by omega, by go_num, by rw [HS2.out]; simpa using HBD11, HB11⟩
        case measure => simp [intOf]; omega
    · obtain rfl : k = t.mo.length := by omega
      rw [List.take_length] at hbd
      go_wp2_with fail
      refine (bldf_string hbd.out).mono ?_
      rintro e w9 ⟨rfl, hb9⟩
      have HB9 := Lib.hid (hbr.out.trans (hb9.mono (by omega)))
      clear hb9
      go_wp2_with fail
      go_ret2
      exact ⟨by rw [← HHL.out]; rfl, by have := HG.out; rw [this]; exact HB9.out⟩
end Go.Proofs.YtbmbphikjainiaaGreatDoor
