/- Contract of rule.show. -/
import Derived.Test.YtbmbphikjainiaaDoorLex3
import Derived.Test.YtbmbphikjainiaaDoorPlainParse
import Derived.Test.YtbmbphikjainiaaDoorNum1
import Derived.Test.YtbmbphikjainiaaDoorReMem
import Derived.Test.YtbmbphikjainiaaDoorFlow2
namespace Go.Proofs.YtbmbphikjainiaaDoor
open Go.Lib
set_option linter.unusedVariables false

theorem shB_one (n : Int) (A : Option Addr) (c : Nat) (ks : List RE) : shB (.node 1 n A c ks) = itoa n := by rw [shB, if_pos rfl]
theorem shB_two (n : Int) (A : Option Addr) (c : Nat) (ks : List RE) : shB (.node 2 n A c ks) = [121] := by rw [shB, if_neg (by omega), if_pos rfl]
theorem shB_neg (n : Int) (A : Option Addr) (c : Nat) (a : RE) : shB (.node 3 n A c [a]) = 45 :: shT 6 a := by
  have e0 := shL_get [a] 0 (by simp)
  simp only [List.getD_cons_zero] at e0
  rw [shB, if_neg (by omega), if_neg (by omega), if_pos rfl, e0]
  rfl
theorem shB_not (n : Int) (A : Option Addr) (c : Nat) (a : RE) : shB (.node 11 n A c [a]) = [110, 111, 116, 32] ++ shT 2 a := by
  have e0 := shL_get [a] 0 (by simp)
  simp only [List.getD_cons_zero] at e0
  rw [shB, if_neg (by omega), if_neg (by omega), if_neg (by omega), if_pos rfl, e0]
  rfl
theorem shB_bin (k n : Int) (A : Option Addr) (c : Nat) (a b : RE) (hk : isBin k) : shB (.node k n A c [a, b]) = shT (fst k) a ++ 32 :: (sgn k ++ 32 :: shT (lev k + 1) b) := by
  have h := hk
  unfold isBin at h
  have e0 := shL_get [a, b] 0 (by simp)
  have e1 := shL_get [a, b] 1 (by simp)
  simp only [List.getD_cons_zero, List.getD_cons_succ] at e0 e1
  rw [shB, if_neg (by omega), if_neg (by omega), if_neg (by omega), if_neg (by omega), e0, e1]
  rfl
theorem shT_len (L : Nat) (t : RE) : (shT L t).length ≤ (shB t).length + 2 := by
  unfold shT parB
  split <;> simp
theorem sgn_len (k : Int) : (sgn k).length ≤ 3 := by unfold sgn; repeat' split <;> try decide
/-- the sorts of a node -/
theorem node_cases {k n : Int} {ks : List RE} (h : ReNode k n ks.length) :
    (k = 1 ∧ ks = []) ∨ (k = 2 ∧ ks = []) ∨ (k = 3 ∧ ∃ a, ks = [a]) ∨ (k = 11 ∧ ∃ a, ks = [a]) ∨ (isBin k ∧ ∃ a b, ks = [a, b]) := by
  have h0 := h.k0
  have h1 := h.k1
  have hl := h.len
  have hc : k = 1 ∨ k = 2 ∨ k = 3 ∨ k = 11 ∨ isBin k := by unfold isBin; omega
  rcases hc with rfl | rfl | rfl | rfl | hb
  · exact .inl ⟨rfl, List.eq_nil_of_length_eq_zero (by rw [hl]; rfl)⟩
  · exact .inr (.inl ⟨rfl, List.eq_nil_of_length_eq_zero (by rw [hl]; rfl)⟩)
  · exact .inr (.inr (.inl ⟨rfl, List.length_eq_one_iff.1 (by rw [hl]; rfl)⟩))
  · exact .inr (.inr (.inr (.inl ⟨rfl, List.length_eq_one_iff.1 (by rw [hl]; rfl)⟩)))
  · have h2 : ks.length = 2 := by
      rw [hl]
      unfold isBin at hb
      unfold opsN
      repeat' split
      all_goals omega
    match ks, h2 with
    | [a, b], _ => exact .inr (.inr (.inr (.inr ⟨hb, a, b, rfl⟩)))
theorem shB_len {t : RE} (h : ReOk t) : (shB t).length + 2 ≤ 20 * sz t := by
  induction h with
  | @mk k n A c ks node kids ih =>
    rcases node_cases node with ⟨rfl, rfl⟩ | ⟨rfl, rfl⟩ | ⟨rfl, a, rfl⟩ | ⟨rfl, a, rfl⟩ | ⟨hb, a, b, rfl⟩
    · rw [shB_one, sz, szL]
      have h1 := node.n1
      rw [if_pos rfl] at h1
      have := itoa_nat_len n node.n0 (by omega)
      omega
    · rw [shB_two, sz, szL]; decide
    · have := ih a (by simp)
      have h2 := shT_len 6 a
      rw [shB_neg, sz, szL, szL]
      simp only [List.length_cons]
      omega
    · have := ih a (by simp)
      have h2 := shT_len 2 a
      rw [shB_not, sz, szL, szL]
      simp only [List.length_append, List.length_cons, List.length_nil]
      omega
    · have := ih a (by simp)
      have := ih b (by simp)
      have h2 := shT_len (fst k) a
      have h3 := shT_len (lev k + 1) b
      have h4 := sgn_len k
      rw [shB_bin k n A c a b hb, sz, szL, szL, szL]
      simp only [List.length_append, List.length_cons]
      omega
theorem shB_strip (t : RE) (h : ReOk t) : shB (strip t) = shB t := by
  induction h with
  | @mk k n A c ks node kids ih =>
    have hT : ∀ x ∈ ks, ∀ L, shT L (strip x) = shT L x := fun x hx L => by unfold shT; rw [strip_kd, ih x hx]
    rw [strip_node]
    rcases node_cases node with ⟨rfl, rfl⟩ | ⟨rfl, rfl⟩ | ⟨rfl, a, rfl⟩ | ⟨rfl, a, rfl⟩ | ⟨hb, a, b, rfl⟩
    · rw [shB_one, shB_one]
    · rw [shB_two, shB_two]
    · show shB (.node 3 n none 0 [strip a]) = _
      rw [shB_neg, shB_neg, hT a (by simp)]
    · show shB (.node 11 n none 0 [strip a]) = _
      rw [shB_not, shB_not, hT a (by simp)]
    · show shB (.node k n none 0 [strip a, strip b]) = _
      rw [shB_bin k _ _ _ _ _ hb, shB_bin k _ _ _ _ _ hb, hT a (by simp), hT b (by simp)]
end Go.Proofs.YtbmbphikjainiaaDoor
namespace Go.Proofs.YtbmbphikjainiaaDoor
open Go.RowKit
set_option linter.unusedVariables false

def ShQ (s : List UInt8) (w : World) (e : Ending) (w' : World) : Prop := e = .returned (.string (str s)) ∧ Below w.heap.size w w'
theorem lvN_eq (j : Nat) (h : 1 ≤ j) : lvN j = lev (j : Int) := by unfold lvN; rw [if_neg (by omega)]
theorem parB_yes (L : Nat) (k : Int) (s : List UInt8) (h : lev k < L) : str (parB L (k, s)) = (⟨#[40]⟩ ++ str s) ++ ⟨#[41]⟩ := by
  unfold parB
  rw [if_pos h, show (⟨#[40]⟩ : ByteArray) = str [40] from rfl, show (⟨#[41]⟩ : ByteArray) = str [41] from rfl, str_append, str_append]
  rfl
theorem parB_no (L : Nat) (k : Int) (s : List UInt8) (h : ¬ lev k < L) : str (parB L (k, s)) = str s := by
  unfold parB
  rw [if_neg h]
set_option maxHeartbeats 4000000 in
set_option maxRecDepth 100000 in
theorem show_any (w0 : World) (B : Nat) (hB : w0.heap.size = B) (hs0 : Sgs w0) (hv0 : Lvs w0) (hp0 : Pow w0) (t : RE) (hin : ReIn w0 B t) : ReOk t → sz t ≤ 1000 → ∀ (L : Nat), L ≤ 10 → ∀ w : World, Below B w0 w →
    Calls Tryd.prog 17 #[reV t, .int .i64 (L : Int)] w (ShQ (shT L t) w) := by
  induction hin with
  | @mk k n A c ks hk hn hl row kids ih =>
    intro hok hsz L hL w hb0
    have hsl := shB_len hok
    obtain ⟨node, okids⟩ : ReNode k n ks.length ∧ ∀ x ∈ ks, ReOk x := by cases hok with | mk node kids => exact ⟨node, kids⟩
    have k0 := node.k0
    have k1 := node.k1
    obtain ⟨j, rfl⟩ : ∃ j : Nat, k = (j : Int) := ⟨k.toNat, by omega⟩
    have hBw : B ≤ w.heap.size := by rw [← hB]; have := hb0.size; omega
    have IH : Hid (∀ x ∈ ks, sz x ≤ 1000 → ∀ (L : Nat), L ≤ 10 → ∀ w : World, Below B w0 w → Calls Tryd.prog 17 #[reV x, .int .i64 (L : Int)] w (ShQ (shT L x) w)) := fun x hx h1 => ih x hx (okids x hx) h1
    have HSZ : Hid (∀ x ∈ ks, sz x ≤ 1000) := fun x hx => by
      have h1 : sz (.node (j : Int) n A c ks) = szL ks + 1 := by rw [sz]
      have h2 : ∀ (l : List RE), x ∈ l → sz x ≤ szL l := by
        intro l
        induction l with
        | nil => intro h; cases h
        | cons y l ihl =>
          intro h
          rw [szL]
          rcases List.mem_cons.1 h with rfl | h
          · omega
          · have := ihl h; omega
      have := h2 ks hx
      omega
    have HOK := Lib.hid okids
    have HND := Lib.hid node
    have hjl : lvN j = lev (j : Int) := lvN_eq j (by omega)
    have HB0 := Lib.hid (hb0.trans ((below_alloc1 w (.cells #[.int .i64 (j : Int), .int .i64 n, .slice A ks.length c] 24)).mono hBw))
    have HBX := Lib.hid (below_alloc1 w (.cells #[.int .i64 (j : Int), .int .i64 n, .slice A ks.length c] 24))
    have qX := Box.new w 24 #[.int .i64 (j : Int), .int .i64 n, .slice A ks.length c]
    have hv1 := hv0.next (w' := w.alloc (.cells #[.int .i64 (j : Int), .int .i64 n, .slice A ks.length c] 24)) (by rw [hB]; exact HB0.out)
    have hs1 := hs0.next (w' := w.alloc (.cells #[.int .i64 (j : Int), .int .i64 n, .slice A ks.length c] 24)) (by rw [hB]; exact HB0.out)
    have HP : Hid (∀ W, Below B w0 W → Pow W) := fun W hW => hp0.next (by rw [hB]; exact hW)
    change Calls Tryd.prog 17 #[.agg #[.int .i64 (j : Int), .int .i64 n, .slice A ks.length c], .int .i64 (L : Int)] w _
    unfold ShQ shT
    have HT : Hid (kd (.node (j : Int) n A c ks) = (j : Int)) := rfl
    rw [HT.out]
    have hsl2 : (shB (.node (j : Int) n A c ks)).length ≤ 20000 := by omega
    have hend : Hid (∀ (T : List UInt8), shB (.node (j : Int) n A c ks) = T → ((lev (j : Int) < L ∧ decide ((lev (j : Int) : Int) < (L : Int)) = true ∧ (str T).size ≤ 30000 ∧ (⟨#[40]⟩ ++ str T : ByteArray).size ≤ 30001 ∧ (⟨#[40]⟩ ++ str T) ++ ⟨#[41]⟩ = str (parB L ((j : Int), T))) ∨ (¬ lev (j : Int) < L ∧ decide ((lev (j : Int) : Int) < (L : Int)) = false ∧ str T = str (parB L ((j : Int), T))))) := fun T hT => by
      by_cases hlt : lev (j : Int) < L
      · exact .inl ⟨hlt, decide_eq_true (by omega), by rw [str_size, ← hT]; omega, by rw [ByteArray.size_append, show (⟨#[40]⟩ : ByteArray).size = 1 from rfl, str_size, ← hT]; omega, (parB_yes _ _ _ hlt).symm⟩
      · exact .inr ⟨hlt, decide_eq_false (by omega), (parB_no _ _ _ hlt).symm⟩
    have HEND : Hid (∀ (T : List UInt8), shB (.node (j : Int) n A c ks) = T → str (parB L ((j : Int), shB (.node (j : Int) n A c ks))) = str (parB L ((j : Int), T))) := fun T hT => by rw [hT]
    have HSL := Lib.hid hsl2
    generalize str (parB L ((j : Int), shB (.node (j : Int) n A c ks))) = R at *
    clear hsl hsl2 hs0 hv0 hp0 hok ih okids node hb0 hk hn hl hsz
    go_enter Tryd.func17, Tryd.ntmps17
    go_upto_region 1 with fail
    generalize w.alloc (.cells #[.int .i64 (j : Int), .int .i64 n, .slice A ks.length c] 24) = W1 at *
    generalize hg : w.heap.size = g at *
    have x0 : W1.cell? ⟨g, 0, none⟩ = some (.int .i64 (j : Int)) := qX.cell 0
    have x1 : W1.cell? ⟨g, 1, none⟩ = some (.int .i64 n) := qX.cell 1
    have x2 : W1.cell? ⟨g, 2, none⟩ = some (.slice A ks.length c) := qX.cell 2
    have xl := qX.lt
    have v0 := hv1 j (by omega)
    rw [hjl] at v0
    have h14 : j < 14 := by omega
    rcases node_cases HND.out with ⟨hk, rfl⟩ | ⟨hk, rfl⟩ | ⟨hk, a, rfl⟩ | ⟨hk, a, rfl⟩ | ⟨hb, a, b, rfl⟩
    · have hn0 := HND.out.n0
      have hn1 := HND.out.n1
      rw [if_pos hk] at hn1
      have HI := Lib.hid (fun W h => itoa_any n W (by omega) (by omega) (HP.out W h))
      have HE : shB (.node (j : Int) n A c []) = Lib.itoa n := by rw [hk]; exact shB_one n A c []
      have e1 : ((j : Int) == 1) = true := by rw [hk]; rfl
      have hE := hend.out _ HE
      rw [← HEND.out _ HE] at hE
      clear qX hv1 hs1 HE hend HEND hk hjl
      generalize Lib.itoa n = T at *
      generalize lev (j : Int) = lv at *
      go_wp2_with fail
      refine (HI.out _ HB0.out).mono ?_
      rintro e w2 ⟨rfl, hb2⟩
      have HB2 := Lib.hid (HBX.out.trans (hb2.mono (by have := HBX.out.size; omega)))
      clear hb2
      rcases hE with ⟨_, t1, q3, q2, rfl⟩ | ⟨_, t1, rfl⟩
      · go_wp2_with fail
        go_ret
        exact ⟨rfl, by rw [hg]; exact HB2.out⟩
      · go_wp2_with fail
        go_ret
        exact ⟨rfl, by rw [hg]; exact HB2.out⟩
    · have HE : shB (.node (j : Int) n A c []) = [121] := by rw [hk]; exact shB_two n A c []
      have e1 : ((j : Int) == 1) = false := by rw [hk]; rfl
      have e2 : ((j : Int) == 2) = true := by rw [hk]; rfl
      have hE := hend.out _ HE
      rw [← HEND.out _ HE, show str [121] = (⟨#[121]⟩ : ByteArray) from rfl] at hE
      clear qX hv1 hs1 HE hend HEND hk hjl
      generalize lev (j : Int) = lv at *
      rcases hE with ⟨_, t1, q3, q2, rfl⟩ | ⟨_, t1, rfl⟩
      · go_wp2_with fail
        go_ret
        exact ⟨rfl, by rw [hg]; exact HBX.out⟩
      · go_wp2_with fail
        go_ret
        exact ⟨rfl, by rw [hg]; exact HBX.out⟩
    · have hlv : lev (j : Int) = 6 := by rw [hk]; rfl
      have HE : shB (.node (j : Int) n A c [a]) = [45] ++ shT (lev (j : Int)) a := by rw [hlv, hk]; exact shB_neg n A c a
      have e1 : ((j : Int) == 1) = false := by rw [hk]; rfl
      have e2 : ((j : Int) == 2) = false := by rw [hk]; rfl
      have e3 : ((j : Int) == 3) = true := by rw [hk]; rfl
      have hE := hend.out _ HE
      rw [← HEND.out _ HE, ← str_append] at hE
      have q0 : (str [45] ++ str (shT (lev (j : Int)) a) : ByteArray).size ≤ 30000 := by rw [str_append, str_size, ← HE]; have := HSL.out; omega
      have q9 : (str (shT (lev (j : Int)) a)).size ≤ 30000 := by rw [ByteArray.size_append] at q0; omega
      rw [show str [45] = (⟨#[45]⟩ : ByteArray) from rfl] at hE q0
      have HI := Lib.hid (fun W h => IH.out a (by simp) (HSZ.out a (by simp)) (lev (j : Int)) (by omega) W h)
      obtain ⟨b, o, rfl, hb, hc⟩ := row.open_ (by cases a; simp [reF])
      rw [List.flatMap_cons, List.flatMap_nil, List.append_nil] at hc
      have HC := Lib.hid hc
      cases a with
      | node k' n' A' c' ks' =>
      have y0 : W1.cell? ⟨b, o, none⟩ = some (.int .i64 k') := (HB0.out.cell (p := ⟨b, o + 0, none⟩) hb).trans (HC.out 0 _ rfl)
      have y1 : W1.cell? ⟨b, o + 1, none⟩ = some (.int .i64 n') := (HB0.out.cell (p := ⟨b, o + 1, none⟩) hb).trans (HC.out 1 _ rfl)
      have y2 : W1.cell? ⟨b, o + 2, none⟩ = some (.slice A' ks'.length c') := (HB0.out.cell (p := ⟨b, o + 2, none⟩) hb).trans (HC.out 2 _ rfl)
      have HI2 : Hid (∀ W, Below B w0 W → Calls Tryd.prog 17 #[.agg #[.int .i64 k', .int .i64 n', .slice A' ks'.length c'], .int .i64 (lev (j : Int) : Int)] W (ShQ (shT (lev (j : Int)) (.node k' n' A' c' ks')) W)) := HI.out
      have hbl : b < W1.heap.size := by have := HBX.out.size; omega
      clear qX hv1 hs1 HE hend HEND hk hjl HI hc HC IH HSZ HOK kids row
      generalize shT (lev (j : Int)) (.node k' n' A' c' ks') = T at *
      clear hlv
      generalize lev (j : Int) = lv at *
      go_wp2_with fail
      refine (HI2.out _ HB0.out).mono ?_
      rintro e w2 ⟨rfl, hb2⟩
      have HB2 := Lib.hid (HBX.out.trans (hb2.mono (by have := HBX.out.size; omega)))
      clear hb2
      rcases hE with ⟨_, t1, q3, q2, rfl⟩ | ⟨_, t1, rfl⟩
      · go_wp2_with fail
        go_ret
        exact ⟨rfl, by rw [hg]; exact HB2.out⟩
      · go_wp2_with fail
        go_ret
        exact ⟨rfl, by rw [hg]; exact HB2.out⟩
    · have hlv : lev (j : Int) = 2 := by rw [hk]; rfl
      have HE : shB (.node (j : Int) n A c [a]) = [110, 111, 116, 32] ++ shT (lev (j : Int)) a := by rw [hlv, hk]; exact shB_not n A c a
      have e1 : ((j : Int) == 1) = false := by rw [hk]; rfl
      have e2 : ((j : Int) == 2) = false := by rw [hk]; rfl
      have e3 : ((j : Int) == 3) = false := by rw [hk]; rfl
      have e11 : ((j : Int) == 11) = true := by rw [hk]; rfl
      have hE := hend.out _ HE
      rw [← HEND.out _ HE, ← str_append] at hE
      have q0 : (str [110, 111, 116, 32] ++ str (shT (lev (j : Int)) a) : ByteArray).size ≤ 30000 := by rw [str_append, str_size, ← HE]; have := HSL.out; omega
      have q9 : (str (shT (lev (j : Int)) a)).size ≤ 30000 := by rw [ByteArray.size_append] at q0; omega
      rw [show str [110, 111, 116, 32] = (⟨#[110, 111, 116, 32]⟩ : ByteArray) from rfl] at hE q0
      have HI := Lib.hid (fun W h => IH.out a (by simp) (HSZ.out a (by simp)) (lev (j : Int)) (by omega) W h)
      obtain ⟨b, o, rfl, hb, hc⟩ := row.open_ (by cases a; simp [reF])
      rw [List.flatMap_cons, List.flatMap_nil, List.append_nil] at hc
      have HC := Lib.hid hc
      cases a with
      | node k' n' A' c' ks' =>
      have y0 : W1.cell? ⟨b, o, none⟩ = some (.int .i64 k') := (HB0.out.cell (p := ⟨b, o + 0, none⟩) hb).trans (HC.out 0 _ rfl)
      have y1 : W1.cell? ⟨b, o + 1, none⟩ = some (.int .i64 n') := (HB0.out.cell (p := ⟨b, o + 1, none⟩) hb).trans (HC.out 1 _ rfl)
      have y2 : W1.cell? ⟨b, o + 2, none⟩ = some (.slice A' ks'.length c') := (HB0.out.cell (p := ⟨b, o + 2, none⟩) hb).trans (HC.out 2 _ rfl)
      have HI2 : Hid (∀ W, Below B w0 W → Calls Tryd.prog 17 #[.agg #[.int .i64 k', .int .i64 n', .slice A' ks'.length c'], .int .i64 (lev (j : Int) : Int)] W (ShQ (shT (lev (j : Int)) (.node k' n' A' c' ks')) W)) := HI.out
      have hbl : b < W1.heap.size := by have := HBX.out.size; omega
      clear qX hv1 hs1 HE hend HEND hk hjl HI hc HC IH HSZ HOK kids row
      generalize shT (lev (j : Int)) (.node k' n' A' c' ks') = T at *
      clear hlv
      generalize lev (j : Int) = lv at *
      go_wp2_with fail
      refine (HI2.out _ HB0.out).mono ?_
      rintro e w2 ⟨rfl, hb2⟩
      have HB2 := Lib.hid (HBX.out.trans (hb2.mono (by have := HBX.out.size; omega)))
      clear hb2
      rcases hE with ⟨_, t1, q3, q2, rfl⟩ | ⟨_, t1, rfl⟩
      · go_wp2_with fail
        go_ret
        exact ⟨rfl, by rw [hg]; exact HB2.out⟩
      · go_wp2_with fail
        go_ret
        exact ⟨rfl, by rw [hg]; exact HB2.out⟩
    · have hjb := hb
      have hj14 : (j : Int) < 14 := by omega
      unfold isBin at hjb
      have HE : shB (.node (j : Int) n A c [a, b]) = shT (fst (j : Int)) a ++ 32 :: (sgn (j : Int) ++ 32 :: shT (lev (j : Int) + 1) b) := shB_bin _ n A c a b hb
      have e1 : ((j : Int) == 1) = false := beq_eq_false_iff_ne.2 (by omega)
      have e2 : ((j : Int) == 2) = false := beq_eq_false_iff_ne.2 (by omega)
      have e3 : ((j : Int) == 3) = false := beq_eq_false_iff_ne.2 (by omega)
      have e11 : ((j : Int) == 11) = false := beq_eq_false_iff_ne.2 (by omega)
      have HT : str (shT (fst (j : Int)) a ++ 32 :: (sgn (j : Int) ++ 32 :: shT (lev (j : Int) + 1) b)) = (((str (shT (fst (j : Int)) a) ++ ⟨#[32]⟩) ++ str (sgn (j : Int))) ++ ⟨#[32]⟩) ++ str (shT (lev (j : Int) + 1) b) := by
        rw [show (⟨#[32]⟩ : ByteArray) = str [32] from rfl]
        simp only [str_append]
        congr 1
        simp
      have hE := hend.out _ HE
      rw [← HEND.out _ HE, HT] at hE
      have q0 : ((((str (shT (fst (j : Int)) a) ++ ⟨#[32]⟩) ++ str (sgn (j : Int))) ++ ⟨#[32]⟩) ++ str (shT (lev (j : Int) + 1) b) : ByteArray).size ≤ 30000 := by rw [← HT, str_size, ← HE]; have := HSL.out; omega
      have hlv : lev (j : Int) ≤ 5 := by unfold lev; (repeat' split) <;> omega
      have hs2 := hs1 j h14
      have hsb : 1 < W1.heap.size := block_lt_of_cell hs2
      have HF : fst (j : Int) = if lev (j : Int) = 3 then 4 else lev (j : Int) := rfl
      have hfl : fst (j : Int) ≤ 10 := by rw [HF]; split <;> omega
      have HI1 := Lib.hid (fun W h => IH.out a (by simp) (HSZ.out a (by simp)) (fst (j : Int)) hfl W h)
      have HI2 := Lib.hid (fun W h => IH.out b (by simp) (HSZ.out b (by simp)) (lev (j : Int) + 1) (by omega) W h)
      rw [show ((lev (j : Int) + 1 : Nat) : Int) = (lev (j : Int) : Int) + 1 from by omega] at HI2
      obtain ⟨ba, o, rfl, hbB, hc⟩ := row.open_ (by cases a; simp [reF])
      rw [List.flatMap_cons, List.flatMap_cons, List.flatMap_nil, List.append_nil] at hc
      have HC := Lib.hid hc
      have hbl : ba < W1.heap.size := by have := HBX.out.size; omega
      have z2 : ∀ W, Below W1.heap.size W1 W → W.cell? ⟨g, 2, none⟩ = some (.slice (some ⟨ba, o, none⟩) 2 c) := fun W hW => (qX.below hW).cell 2
      have z0 : ∀ W, Below W1.heap.size W1 W → W.cell? ⟨g, 0, none⟩ = some (.int .i64 (j : Int)) := fun W hW => (qX.below hW).cell 0
      have zs : ∀ W, Below W1.heap.size W1 W → W.cell? ⟨1, j, none⟩ = some (.string (str (sgn (j : Int)))) := fun W hW => (hW.cell (p := ⟨1, j, none⟩) hsb).trans hs2
      have hab : ∀ W, Below W1.heap.size W1 W → ∀ i v, (reF a ++ reF b)[i]? = some v → W.cell? ⟨ba, o + i, none⟩ = some v := fun W hW i v hv => ((HB0.out.trans (hW.mono (by have := HBX.out.size; omega))).cell (p := ⟨ba, o + i, none⟩) hbB).trans (HC.out i v hv)
      cases a with
      | node k1' n1 A1 c1 ks1 =>
      cases b with
      | node k2 n2 A2 c2 ks2 =>
      have y0 : ∀ W, Below W1.heap.size W1 W → W.cell? ⟨ba, o, none⟩ = some (.int .i64 k1') := fun W hW => hab W hW 0 _ rfl
      have y1 : ∀ W, Below W1.heap.size W1 W → W.cell? ⟨ba, o + 1, none⟩ = some (.int .i64 n1) := fun W hW => hab W hW 1 _ rfl
      have y2 : ∀ W, Below W1.heap.size W1 W → W.cell? ⟨ba, o + 2, none⟩ = some (.slice A1 ks1.length c1) := fun W hW => hab W hW 2 _ rfl
      have y3 : ∀ W, Below W1.heap.size W1 W → W.cell? ⟨ba, o + 3, none⟩ = some (.int .i64 k2) := fun W hW => hab W hW 3 _ rfl
      have y4 : ∀ W, Below W1.heap.size W1 W → W.cell? ⟨ba, o + 3 + 1, none⟩ = some (.int .i64 n2) := fun W hW => hab W hW 4 _ rfl
      have y5 : ∀ W, Below W1.heap.size W1 W → W.cell? ⟨ba, o + 3 + 2, none⟩ = some (.slice A2 ks2.length c2) := fun W hW => hab W hW 5 _ rfl
      have HJ1 : Hid (∀ W, Below B w0 W → Calls Tryd.prog 17 #[.agg #[.int .i64 k1', .int .i64 n1, .slice A1 ks1.length c1], .int .i64 (fst (j : Int) : Int)] W (ShQ (shT (fst (j : Int)) (.node k1' n1 A1 c1 ks1)) W)) := HI1.out
      have HJ2 : Hid (∀ W, Below B w0 W → Calls Tryd.prog 17 #[.agg #[.int .i64 k2, .int .i64 n2, .slice A2 ks2.length c2], .int .i64 ((lev (j : Int) : Int) + 1)] W (ShQ (shT (lev (j : Int) + 1) (.node k2 n2 A2 c2 ks2)) W)) := HI2.out
      have HX2 := Lib.hid qX
      have k5 : IntKind.i64.wrap ((lev (j : Int) : Int) + 1) = (lev (j : Int) : Int) + 1 := IntWalk.i64_in _ ⟨by omega, by omega⟩
      have t3 : (((lev (j : Int) : Nat) : Int) == 3) = decide (lev (j : Int) = 3) := by by_cases h : lev (j : Int) = 3 <;> simp [h] <;> omega
      clear qX hv1 hs1 HE HT hend HEND hjl HI1 HI2 hc HC IH HSZ HOK kids row hb hjb hs2 hab
      generalize shT (lev (j : Int) + 1) (.node k2 n2 A2 c2 ks2) = T2 at *
      generalize shT (fst (j : Int)) (.node k1' n1 A1 c1 ks1) = T1 at *
      generalize fst (j : Int) = lf at *
      generalize lev (j : Int) = lv at *
      generalize sgn (j : Int) = sg at *
      generalize hs1' : str T1 = S1 at *
      generalize hs2' : str T2 = S2 at *
      generalize hs3' : str sg = S3 at *
      have r4 : (((S1 ++ ⟨#[32]⟩) ++ S3) ++ ⟨#[32]⟩ : ByteArray).size ≤ 30000 := by rw [ByteArray.size_append] at q0; omega
      have r3 : ((S1 ++ ⟨#[32]⟩) ++ S3 : ByteArray).size ≤ 30000 := by rw [ByteArray.size_append] at r4; omega
      have r2 : (S1 ++ ⟨#[32]⟩ : ByteArray).size ≤ 30000 := by rw [ByteArray.size_append] at r3; omega
      have r1 : S1.size ≤ 30000 := by rw [ByteArray.size_append] at r2; omega
      have r5 : S2.size ≤ 30000 := by rw [ByteArray.size_append] at q0; omega
      have r6 : S3.size ≤ 30000 := by rw [ByteArray.size_append] at r3; omega
      have r0 : (⟨#[32]⟩ : ByteArray).size = 1 := rfl
      by_cases h3 : lv = 3
      · have hlf : lf = 4 := by rw [HF, if_pos h3]
        have t4 : decide (lv = 3) = true := decide_eq_true h3
        rw [t4] at t3
        rw [hlf, show ((4 : Nat) : Int) = (lv : Int) + 1 from by omega] at HJ1
        clear t4 HF hlf h3
        go_upto_region 7 with fail
        refine flow_begin (tellOf [(5, det (.string S1)), (19, det (.string S2))]) (by kernel_rfl) (by kernel_rfl) ?_
        repeat (first | (refine flow_val (v := ?_) (by rfl) (by rfl) (fun w hb => ?_) ?_; rotate_left; (· ((go_simp) <;> ((repeat' apply And.intro) <;> with_reducible rfl))); try simp only [Act.put, List.setIfInBounds_toArray, List.set_cons_zero, List.set_cons_succ, Nat.reduceAdd]) | (refine flow_val (v := ?_) (by rfl) (by rfl) (fun w hb => ?_) ?_; rotate_left; (· (go_simp; (refine (if_neg ?_).trans ?_); (· omega); (· with_reducible rfl))); try simp only [Act.put, List.setIfInBounds_toArray, List.set_cons_zero, List.set_cons_succ, Nat.reduceAdd]) | (refine flow_skip (by rfl) (by rfl) ?_; try simp only [Act.put, List.setIfInBounds_toArray, List.set_cons_zero, List.set_cons_succ, Nat.reduceAdd]))
        refine flow_call (f := ?_) (args := ?_) [] (by kernel_rfl) (by rfl) (by rfl) (fun w hb => ?_) (fun w hb hu => ?_) ?_; rotate_left 2; (· ((go_simp) <;> ((repeat' apply And.intro) <;> with_reducible rfl)))
        · refine (HJ1.out _ (HB0.out.trans (hb.mono (by have := HBX.out.size; omega)))).mono ?_
          rintro e w' ⟨rfl, hb'⟩
          exact ⟨by rw [hs1'], hb'⟩
        try simp only [Act.put, List.setIfInBounds_toArray, List.set_cons_zero, List.set_cons_succ, Nat.reduceAdd]
        repeat (first | (refine flow_val (v := ?_) (by rfl) (by rfl) (fun w hb => ?_) ?_; rotate_left; (· ((go_simp) <;> ((repeat' apply And.intro) <;> with_reducible rfl))); try simp only [Act.put, List.setIfInBounds_toArray, List.set_cons_zero, List.set_cons_succ, Nat.reduceAdd]) | (refine flow_val (v := ?_) (by rfl) (by rfl) (fun w hb => ?_) ?_; rotate_left; (· (go_simp; (refine (if_neg ?_).trans ?_); (· omega); (· with_reducible rfl))); try simp only [Act.put, List.setIfInBounds_toArray, List.set_cons_zero, List.set_cons_succ, Nat.reduceAdd]) | (refine flow_skip (by rfl) (by rfl) ?_; try simp only [Act.put, List.setIfInBounds_toArray, List.set_cons_zero, List.set_cons_succ, Nat.reduceAdd]))
        refine flow_call (f := ?_) (args := ?_) [] (by kernel_rfl) (by rfl) (by rfl) (fun w hb => ?_) (fun w hb hu => ?_) ?_; rotate_left 2; (· ((go_simp) <;> ((repeat' apply And.intro) <;> with_reducible rfl)))
        · refine (HJ2.out _ (HB0.out.trans (hb.mono (by have := HBX.out.size; omega)))).mono ?_
          rintro e w' ⟨rfl, hb'⟩
          exact ⟨by rw [hs2'], hb'⟩
        try simp only [Act.put, List.setIfInBounds_toArray, List.set_cons_zero, List.set_cons_succ, Nat.reduceAdd]
        repeat (first | (refine flow_val (v := ?_) (by rfl) (by rfl) (fun w hb => ?_) ?_; rotate_left; (· ((go_simp) <;> ((repeat' apply And.intro) <;> with_reducible rfl))); try simp only [Act.put, List.setIfInBounds_toArray, List.set_cons_zero, List.set_cons_succ, Nat.reduceAdd]) | (refine flow_val (v := ?_) (by rfl) (by rfl) (fun w hb => ?_) ?_; rotate_left; (· (go_simp; (refine (if_neg ?_).trans ?_); (· omega); (· with_reducible rfl))); try simp only [Act.put, List.setIfInBounds_toArray, List.set_cons_zero, List.set_cons_succ, Nat.reduceAdd]) | (refine flow_skip (by rfl) (by rfl) ?_; try simp only [Act.put, List.setIfInBounds_toArray, List.set_cons_zero, List.set_cons_succ, Nat.reduceAdd]))
        refine flow_nil fun w2 hb2 _ => ?_
        have HB2 := Lib.hid (HBX.out.trans (hb2.mono (by have := HBX.out.size; omega)))
        clear hb2 z0 z2 zs y0 y1 y2 y3 y4 y5 HJ1 HJ2
        rcases hE with ⟨_, t1, q3, q2, rfl⟩ | ⟨_, t1, rfl⟩
        · go_wp2_with fail
          go_ret
          exact ⟨rfl, by rw [hg]; exact HB2.out⟩
        · go_wp2_with fail
          go_ret
          exact ⟨rfl, by rw [hg]; exact HB2.out⟩
      · have hlf : lf = lv := by rw [HF, if_neg h3]
        have t4 : decide (lv = 3) = false := decide_eq_false h3
        rw [t4] at t3
        rw [hlf] at HJ1
        clear t4 HF hlf h3
        go_upto_region 7 with fail
        refine flow_begin (tellOf [(5, det (.string S1)), (19, det (.string S2))]) (by kernel_rfl) (by kernel_rfl) ?_
        repeat (first | (refine flow_val (v := ?_) (by rfl) (by rfl) (fun w hb => ?_) ?_; rotate_left; (· ((go_simp) <;> ((repeat' apply And.intro) <;> with_reducible rfl))); try simp only [Act.put, List.setIfInBounds_toArray, List.set_cons_zero, List.set_cons_succ, Nat.reduceAdd]) | (refine flow_val (v := ?_) (by rfl) (by rfl) (fun w hb => ?_) ?_; rotate_left; (· (go_simp; (refine (if_neg ?_).trans ?_); (· omega); (· with_reducible rfl))); try simp only [Act.put, List.setIfInBounds_toArray, List.set_cons_zero, List.set_cons_succ, Nat.reduceAdd]) | (refine flow_skip (by rfl) (by rfl) ?_; try simp only [Act.put, List.setIfInBounds_toArray, List.set_cons_zero, List.set_cons_succ, Nat.reduceAdd]))
        refine flow_call (f := ?_) (args := ?_) [] (by kernel_rfl) (by rfl) (by rfl) (fun w hb => ?_) (fun w hb hu => ?_) ?_; rotate_left 2; (· ((go_simp) <;> ((repeat' apply And.intro) <;> with_reducible rfl)))
        · refine (HJ1.out _ (HB0.out.trans (hb.mono (by have := HBX.out.size; omega)))).mono ?_
          rintro e w' ⟨rfl, hb'⟩
          exact ⟨by rw [hs1'], hb'⟩
        try simp only [Act.put, List.setIfInBounds_toArray, List.set_cons_zero, List.set_cons_succ, Nat.reduceAdd]
        repeat (first | (refine flow_val (v := ?_) (by rfl) (by rfl) (fun w hb => ?_) ?_; rotate_left; (· ((go_simp) <;> ((repeat' apply And.intro) <;> with_reducible rfl))); try simp only [Act.put, List.setIfInBounds_toArray, List.set_cons_zero, List.set_cons_succ, Nat.reduceAdd]) | (refine flow_val (v := ?_) (by rfl) (by rfl) (fun w hb => ?_) ?_; rotate_left; (· (go_simp; (refine (if_neg ?_).trans ?_); (· omega); (· with_reducible rfl))); try simp only [Act.put, List.setIfInBounds_toArray, List.set_cons_zero, List.set_cons_succ, Nat.reduceAdd]) | (refine flow_skip (by rfl) (by rfl) ?_; try simp only [Act.put, List.setIfInBounds_toArray, List.set_cons_zero, List.set_cons_succ, Nat.reduceAdd]))
        refine flow_call (f := ?_) (args := ?_) [] (by kernel_rfl) (by rfl) (by rfl) (fun w hb => ?_) (fun w hb hu => ?_) ?_; rotate_left 2; (· ((go_simp) <;> ((repeat' apply And.intro) <;> with_reducible rfl)))
        · refine (HJ2.out _ (HB0.out.trans (hb.mono (by have := HBX.out.size; omega)))).mono ?_
          rintro e w' ⟨rfl, hb'⟩
          exact ⟨by rw [hs2'], hb'⟩
        try simp only [Act.put, List.setIfInBounds_toArray, List.set_cons_zero, List.set_cons_succ, Nat.reduceAdd]
        repeat (first | (refine flow_val (v := ?_) (by rfl) (by rfl) (fun w hb => ?_) ?_; rotate_left; (· ((go_simp) <;> ((repeat' apply And.intro) <;> with_reducible rfl))); try simp only [Act.put, List.setIfInBounds_toArray, List.set_cons_zero, List.set_cons_succ, Nat.reduceAdd]) | (refine flow_val (v := ?_) (by rfl) (by rfl) (fun w hb => ?_) ?_; rotate_left; (· (go_simp; (refine (if_neg ?_).trans ?_); (· omega); (· with_reducible rfl))); try simp only [Act.put, List.setIfInBounds_toArray, List.set_cons_zero, List.set_cons_succ, Nat.reduceAdd]) | (refine flow_skip (by rfl) (by rfl) ?_; try simp only [Act.put, List.setIfInBounds_toArray, List.set_cons_zero, List.set_cons_succ, Nat.reduceAdd]))
        refine flow_nil fun w2 hb2 _ => ?_
        have HB2 := Lib.hid (HBX.out.trans (hb2.mono (by have := HBX.out.size; omega)))
        clear hb2 z0 z2 zs y0 y1 y2 y3 y4 y5 HJ1 HJ2
        rcases hE with ⟨_, t1, q3, q2, rfl⟩ | ⟨_, t1, rfl⟩
        · go_wp2_with fail
          go_ret
          exact ⟨rfl, by rw [hg]; exact HB2.out⟩
        · go_wp2_with fail
          go_ret
          exact ⟨rfl, by rw [hg]; exact HB2.out⟩
end Go.Proofs.YtbmbphikjainiaaDoor
