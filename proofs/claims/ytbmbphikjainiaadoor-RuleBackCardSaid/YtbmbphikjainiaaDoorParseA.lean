/- A rule that was written: its lines, and each line read. -/
import Derived.Test.YtbmbphikjainiaaDoorRowD
import Derived.Test.YtbmbphikjainiaaDoorTree1
namespace Go.Proofs.YtbmbphikjainiaaDoor
open Go.RowKit
set_option linter.unusedVariables false

theorem lx_int (n : Int) (r : List UInt8) (hr : Bd r) : toks (Lib.itoa n ++ r) = numT n ++ toks r := by
  unfold numT
  by_cases h : n < 0
  · rw [if_pos h]
    have e : Lib.itoa n = 45 :: Lib.itoa (-n) := by
      unfold Lib.itoa
      rw [if_pos h, if_neg (by omega), show n.natAbs = (-n).toNat from by omega]
    rw [e, List.cons_append, lx_one 45 _ (by decide) (by decide) (by decide), lx_num _ _ (itoa_dig _ (by omega)) (itoa_ne _) hr]
    rfl
  · rw [if_neg h, lx_num _ _ (itoa_dig n (by omega)) (itoa_ne n) hr]
    rfl
/-- what a printed rule says -/
structure RT where
  nm : List UInt8
  ep : Int
  cy : Int
  lt : List UInt8
  mo : List Mth
def monL (m : Mth) : List UInt8 := [109, 111, 110, 116, 104, 32] ++ m.nm.data.toList ++ 32 :: (Lib.itoa m.sh ++ if m.lo = m.sh then [] else 32 :: Lib.itoa m.lo)
def RT.line (t : RT) (k : Nat) : List UInt8 :=
  if k = 0 then [99, 97, 108, 101, 110, 100, 97, 114, 32] ++ t.nm else if k = 1 then [101, 112, 111, 99, 104, 32] ++ Lib.itoa t.ep else if k = 2 then [99, 121, 99, 108, 101, 32] ++ Lib.itoa t.cy else if k = 3 then t.lt else monL (t.mo.getD (k - 4) mth0)
/-- the text from line k on -/
def RT.rest (t : RT) (k : Nat) : List UInt8 := (List.range' k (4 + t.mo.length - k)).flatMap fun j => t.line j ++ [10]
theorem RT.step (t : RT) (k : Nat) (hk : k < 4 + t.mo.length) : t.rest k = t.line k ++ 10 :: t.rest (k + 1) := by
  unfold RT.rest
  rw [show 4 + t.mo.length - k = (4 + t.mo.length - (k + 1)) + 1 from by omega, List.range'_succ, List.flatMap_cons]
  simp
theorem RT.done (t : RT) : t.rest (4 + t.mo.length) = [] := by unfold RT.rest; simp
theorem low_bd (l : List UInt8) (h : ∀ b ∈ l, isLow b = true) : ∀ b ∈ l, b ≠ 10 ∧ b ≠ 32 := fun b hb => by
  have := h b hb
  constructor <;> (intro e; subst e; revert this; decide)
/-- what is asked of the parts -/
structure RTOk (t : RT) : Prop where
  nm : ∀ b ∈ t.nm, isLow b = true
  nn : t.nm ≠ []
  e1 : -9999999999 ≤ t.ep
  e2 : t.ep ≤ 9999999999
  c1 : -9999999999 ≤ t.cy
  c2 : t.cy ≤ 9999999999
  lt : ∀ b ∈ t.lt, b ≠ 10
  ml : t.mo.length ≤ 20
  mo : ∀ i, i < t.mo.length → (∀ b ∈ (t.mo.getD i mth0).nm.data.toList, isLow b = true) ∧ (t.mo.getD i mth0).nm.data.toList ≠ [] ∧ -9999999999 ≤ (t.mo.getD i mth0).sh ∧ (t.mo.getD i mth0).sh ≤ 9999999999 ∧ -9999999999 ≤ (t.mo.getD i mth0).lo ∧ (t.mo.getD i mth0).lo ≤ 9999999999
theorem itoa_no10 (n : Int) : ∀ b ∈ Lib.itoa n, b ≠ 10 := itoa_no n 10 (by decide)
theorem RTOk.no10 {t : RT} (h : RTOk t) (k : Nat) (hk : k < 4 + t.mo.length) : ∀ b ∈ t.line k, b ≠ 10 := by
  intro b hb
  unfold RT.line at hb
  split at hb
  · rcases List.mem_append.1 hb with hb | hb
    · exact (show ∀ b ∈ ([99, 97, 108, 101, 110, 100, 97, 114, 32] : List UInt8), b ≠ 10 by decide) b hb
    · exact (low_bd t.nm h.nm b hb).1
  split at hb
  · rcases List.mem_append.1 hb with hb | hb
    · exact (show ∀ b ∈ ([101, 112, 111, 99, 104, 32] : List UInt8), b ≠ 10 by decide) b hb
    · exact itoa_no10 _ b hb
  split at hb
  · rcases List.mem_append.1 hb with hb | hb
    · exact (show ∀ b ∈ ([99, 121, 99, 108, 101, 32] : List UInt8), b ≠ 10 by decide) b hb
    · exact itoa_no10 _ b hb
  split at hb
  · exact h.lt b hb
  · unfold monL at hb
    obtain ⟨m1, _⟩ := h.mo (k - 4) (by omega)
    rcases List.mem_append.1 hb with hb | hb
    · rcases List.mem_append.1 hb with hb | hb
      · exact (show ∀ b ∈ ([109, 111, 110, 116, 104, 32] : List UInt8), b ≠ 10 by decide) b hb
      · exact (low_bd _ m1 b hb).1
    rcases List.mem_cons.1 hb with rfl | hb
    · decide
    rcases List.mem_append.1 hb with hb | hb
    · exact itoa_no10 _ b hb
    split at hb
    · cases hb
    rcases List.mem_cons.1 hb with rfl | hb
    · decide
    · exact itoa_no10 _ b hb
theorem bd_sp (r : List UInt8) : Bd (32 :: r) := bd_cons 32 r (by decide) (by decide)
theorem tok_cal {t : RT} (h : RTOk t) : toks (t.line 0) = [99, 97, 108, 101, 110, 100, 97, 114] :: [t.nm] := by
  unfold RT.line
  rw [if_pos rfl, show ([99, 97, 108, 101, 110, 100, 97, 114, 32] : List UInt8) ++ t.nm = [99, 97, 108, 101, 110, 100, 97, 114] ++ 32 :: (t.nm ++ []) from by simp, lx_word _ _ (by decide) (by simp) (bd_sp _), lx_sp, lx_word _ _ h.nm h.nn bd_nil]
  rfl
theorem tok_epo {t : RT} : toks (t.line 1) = [101, 112, 111, 99, 104] :: (numT t.ep ++ []) := by
  unfold RT.line
  rw [if_neg (by decide), if_pos rfl, show ([101, 112, 111, 99, 104, 32] : List UInt8) ++ Lib.itoa t.ep = [101, 112, 111, 99, 104] ++ 32 :: (Lib.itoa t.ep ++ []) from by simp, lx_word _ _ (by decide) (by simp) (bd_sp _), lx_sp, lx_int _ _ bd_nil]
  rfl
theorem tok_cyc {t : RT} : toks (t.line 2) = [99, 121, 99, 108, 101] :: (numT t.cy ++ []) := by
  unfold RT.line
  rw [if_neg (by decide), if_neg (by decide), if_pos rfl, show ([99, 121, 99, 108, 101, 32] : List UInt8) ++ Lib.itoa t.cy = [99, 121, 99, 108, 101] ++ 32 :: (Lib.itoa t.cy ++ []) from by simp, lx_word _ _ (by decide) (by simp) (bd_sp _), lx_sp, lx_int _ _ bd_nil]
  rfl
theorem tok_mon (m : Mth) (h1 : ∀ b ∈ m.nm.data.toList, isLow b = true) (h2 : m.nm.data.toList ≠ []) : toks (monL m) = [109, 111, 110, 116, 104] :: monT m.nm.data.toList m.sh m.lo := by
  unfold monL monT
  rw [show ([109, 111, 110, 116, 104, 32] : List UInt8) ++ m.nm.data.toList ++ 32 :: (Lib.itoa m.sh ++ if m.lo = m.sh then [] else 32 :: Lib.itoa m.lo) = [109, 111, 110, 116, 104] ++ 32 :: (m.nm.data.toList ++ 32 :: (Lib.itoa m.sh ++ if m.lo = m.sh then [] else 32 :: Lib.itoa m.lo)) from by simp,
    lx_word _ _ (by decide) (by simp) (bd_sp _), lx_sp, lx_word _ _ h1 h2 (bd_sp _), lx_sp]
  by_cases h : m.lo = m.sh
  · rw [if_pos h, if_pos h, lx_int _ _ bd_nil]
    rfl
  · rw [if_neg h, if_neg h, lx_int _ _ (bd_sp _), lx_sp, ← List.append_nil (Lib.itoa m.lo), lx_int _ _ bd_nil]
    simp [toks, toksN, sk]

/-- the tree in memory behind k lines -/
def PSt (gt : Nat) (t : RT) (lp : RE) (k : Nat) (w : World) : Prop :=
  (k = 0 ∧ Box w gt 27 (treeC ⟨#[]⟩ 0 0 0 0 (.slice none 0 0) (.slice none 0 0))) ∨
  (k = 1 ∧ Box w gt 27 (treeC (str t.nm) 0 0 0 0 (.slice none 0 0) (.slice none 0 0))) ∨
  (k = 2 ∧ Box w gt 27 (treeC (str t.nm) t.ep 0 0 0 (.slice none 0 0) (.slice none 0 0))) ∨
  (k = 3 ∧ Box w gt 27 (treeC (str t.nm) t.ep t.cy 0 0 (.slice none 0 0) (.slice none 0 0))) ∨
  (4 ≤ k ∧ ∃ (k0 n0 : Int) (A : Option Addr) (c : Nat) (ks : List RE) (A1 : Option Addr) (c1 M : Nat), Box w gt 27 (treeC (str t.nm) t.ep t.cy k0 n0 (.slice A ks.length c) (.slice A1 (k - 4) c1)) ∧ Same (.node k0 n0 A c ks) lp ∧ M ≤ w.heap.size ∧ gt < M ∧
    ReAt w (fun b => gt < b ∧ b < M) w.heap.size (.node k0 n0 A c ks) ∧ w.ownsRow M 60 3 (.slice A1 (k - 4) c1) (k - 4) ((t.mo.take (k - 4)).flatMap mthF))
theorem PSt.lt {gt : Nat} {t : RT} {lp : RE} {k : Nat} {w : World} (h : PSt gt t lp k w) : gt < w.heap.size := by
  rcases h with ⟨_, h⟩ | ⟨_, h⟩ | ⟨_, h⟩ | ⟨_, h⟩ | ⟨_, _, _, _, _, _, _, _, _, h, _⟩ <;> exact Box.lt h
theorem PSt.next {gt : Nat} {t : RT} {lp : RE} {k : Nat} {w w' : World} (h : PSt gt t lp k w) (hb : Below w.heap.size w w') : PSt gt t lp k w' := by
  rcases h with ⟨e, h⟩ | ⟨e, h⟩ | ⟨e, h⟩ | ⟨e, h⟩ | ⟨e, k0, n0, A, c, ks, A1, c1, M, h1, h2, h3, h4, h5, h6⟩
  · exact .inl ⟨e, h.below hb⟩
  · exact .inr (.inl ⟨e, h.below hb⟩)
  · exact .inr (.inr (.inl ⟨e, h.below hb⟩))
  · exact .inr (.inr (.inr (.inl ⟨e, h.below hb⟩)))
  · exact .inr (.inr (.inr (.inr ⟨e, k0, n0, A, c, ks, A1, c1, M, h1.below hb, h2, Nat.le_trans h3 hb.size, h4, h5.next hb, own_next h6 hb⟩)))
theorem Only.below {p : Nat → Prop} {w w' : World} (h : Only p w w') (B : Nat) (hp : ∀ b, p b → B ≤ b) (hB : B ≤ w.heap.size) : Below B w w' :=
  ⟨h.os, h.tape, h.output, h.size, fun k hk => h.block k (by omega) (fun e => by have := hp k e; omega)⟩
def StepQ (gt : Nat) (t : RT) (lp : RE) (k : Nat) (w : World) (e : Ending) (w' : World) : Prop := e = .returned (.bool true) ∧ PSt gt t lp (k + 1) w' ∧ Below gt w w'
theorem row_step (g gt : Nat) (t : RT) (ok : RTOk t) (lp : RE) (X : List Tok) (hX : toks t.lt = [108, 101, 97, 112] :: X) (k : Nat) (hk : k < 4 + t.mo.length) (w : World) (hgt : gt < g) (hf : Rd w g (str (t.line k)) 0 0 0) (hsz : (t.line k).length ≤ 5000) (w0 : World) (hp : PSt gt t lp k w0) (hbe : Below w0.heap.size w0 w) (hg0 : w0.heap.size ≤ g)
    (hs : Sgs w) (hv : Lvs w) (hg1 : 1 < gt) (hg2 : 0 < gt)
    (hE : ∀ W S, S.size ≤ 5000 → RdOk W g S 0 X → Calls Tryd.prog 33 #[.pointer (some ⟨g, 0, none⟩), .int .i64 0] W (ExprQ g S 0 lp [] W)) :
    Calls Tryd.prog 13 #[.pointer (some ⟨g, 0, none⟩), .pointer (some ⟨gt, 0, none⟩), .int .i64 (k : Int)] w (StepQ gt t lp k w) := by
  have hgl : g < w.heap.size := Box.lt hf
  have hsz' : (str (t.line k)).size ≤ 5000 := by rw [str_size]; exact hsz
  have hfr : ∀ ts, toks (t.line k) = ts → Fresh w g (str (t.line k)) ts := fun ts h => ⟨hf, by rw [str_data]; exact h, hsz'⟩
  have hob : ∀ {w' : World}, Only (fun b => b = g ∨ b = gt) w w' → Below gt w w' := fun h => h.below gt (fun b hb => by omega) (by omega)
  rcases hp with ⟨rfl, h⟩ | ⟨rfl, h⟩ | ⟨rfl, h⟩ | ⟨rfl, h⟩ | ⟨h4, k0, n0, A, c, ks, A1, c1, M, h1, h2, h3, h5, h6, h7⟩
  all_goals try replace h := h.below hbe
  · refine (row_cal g gt (str (t.line 0)) t.nm _ _ _ _ _ _ _ w ok.nm (by omega) (hfr _ (tok_cal ok)) h).mono ?_
    rintro e w' ⟨rfl, hb, ho⟩
    exact ⟨rfl, .inr (.inl ⟨rfl, hb⟩), hob ho⟩
  · refine (row_epo g gt (str (t.line 1)) t.ep _ _ _ _ _ _ _ w ok.e1 ok.e2 (by omega) (hfr _ tok_epo) h).mono ?_
    rintro e w' ⟨rfl, hb, ho⟩
    exact ⟨rfl, .inr (.inr (.inl ⟨rfl, hb⟩)), hob ho⟩
  · refine (row_cyc g gt (str (t.line 2)) t.cy _ _ _ _ _ _ _ w ok.c1 ok.c2 (by omega) (hfr _ tok_cyc) h).mono ?_
    rintro e w' ⟨rfl, hb, ho⟩
    exact ⟨rfl, .inr (.inr (.inr (.inl ⟨rfl, hb⟩))), hob ho⟩
  · have hl : t.line 3 = t.lt := by unfold RT.line; rw [if_neg (by decide), if_neg (by decide), if_neg (by decide), if_pos rfl]
    refine (row_leap g gt (str (t.line 3)) X lp _ _ _ _ _ _ _ w (by omega) (hfr _ (by rw [hl]; exact hX)) h hs hv (by omega) (by omega) (fun W hW => hE W _ hsz' hW)).mono ?_
    rintro e w' ⟨k0, n0, A, c, ks, hsm, rfl, hb, ha, ho⟩
    exact ⟨rfl, .inr (.inr (.inr (.inr ⟨by omega, k0, n0, A, c, ks, none, 0, w'.heap.size, hb, hsm, Nat.le_refl _, by have := ho.size; omega, ha.more fun b hb hB => ⟨by omega, hB⟩, World.ownsRow_nil _ _ _ _⟩))), hob ho⟩
  · have hl : t.line k = monL (t.mo.getD (k - 4) mth0) := by unfold RT.line; rw [if_neg (by omega), if_neg (by omega), if_neg (by omega), if_neg (by omega)]
    obtain ⟨m1, m2, m3, m4, m5, m6⟩ := ok.mo (k - 4) (by omega)
    have hml := ok.ml
    replace h1 := h1.below hbe
    replace h6 := h6.next hbe
    replace h7 := own_next h7 hbe
    have h3g : M ≤ g := by omega
    replace h3 : M ≤ w.heap.size := by omega
    refine (row_month g gt (str (t.line k)) k (t.mo.getD (k - 4) mth0).nm.data.toList (t.mo.getD (k - 4) mth0).sh (t.mo.getD (k - 4) mth0).lo _ _ _ _ _ _ A1 (k - 4) c1 M _ w h4 (by omega) (by omega) (by omega) (hfr _ (by rw [hl]; exact tok_mon _ m1 m2)) h1 h7 h3 m1 m3 m4 m5 m6).mono ?_
    rintro e w' ⟨A2, c2, rfl, hb, hw, ho⟩
    have hown : ∀ b, (Value.slice A1 (k - 4) c1).ownBlock = some b → M ≤ b := fun b hb => own_base h7 b hb
    have hk1 : k + 1 - 4 = k - 4 + 1 := by omega
    refine ⟨rfl, .inr (.inr (.inr (.inr ⟨by omega, k0, n0, A, c, ks, A2, c2, M, by rw [hk1]; exact hb, h2, Nat.le_trans h3 ho.size, h5, ?_, ?_⟩))), ho.below gt (fun b hb => ?_) (by omega)⟩
    · exact h6.keep (fun b hb hB => ho.block b hB (fun e => by
        rcases e with e | e | e
        · omega
        · omega
        · have := hown b e; omega)) (fun b hb _ => hb) ho.size
    · rw [hk1, List.take_succ_eq_append_getElem (by omega), List.flatMap_append]
      have e : t.mo[k - 4] = t.mo.getD (k - 4) mth0 := by simp [List.getD, List.getElem?_eq_getElem (show k - 4 < t.mo.length by omega)]
      rw [e]
      have := hw
      rw [show str (t.mo.getD (k - 4) mth0).nm.data.toList = (t.mo.getD (k - 4) mth0).nm from by apply ByteArray.ext; simp [str]] at this
      simpa [mthF] using this
    · rcases hb with e | e | e
      · omega
      · omega
      · have := hown b e; omega
end Go.Proofs.YtbmbphikjainiaaDoor
