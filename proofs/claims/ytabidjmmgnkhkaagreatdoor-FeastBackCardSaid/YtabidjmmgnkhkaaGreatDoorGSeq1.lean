/- Seq1, Seq2 -/
import Derived.RangeFuncNested
import Derived.RangeFuncBound
import Derived.RangeFuncCalls
import Derived.RangeFuncLeaves
import Derived.Shelf.Abstract
import Derived.Shelf.RegionOpen
import Derived.OwnWalkIn
import Derived.TacticsInMore
import Derived.LoopNIn
import Derived.LoopIn
import Derived.Test.YtabidjmmgnkhkaaGreatDoorGRowA
/- A range over an iterator that keeps its state in blocks of its own: what the caller owes. -/
namespace Go.Proofs.YtabidjmmgnkhkaaGreatDoor
open Go Go.RowKit
set_option linter.unusedVariables false
def SeqC {α : Type} (F : Fence) (n : Nat) (P : Program) (g : Nat) (lb : Array Value) (enc : α → Value) (own kp : Nat → Prop) (xs : List α) (W : World) : Prop :=
 ∀ (l : Nat) (J Jx : List α → World → Prop), (∀ s A B, J s A → Only own A B → J s B) → (∀ s A B, Jx s A → Only own A B → Jx s B) →
  (∀ pre x rest W1, xs = pre ++ x :: rest → J pre W1 → YieldAt F (n - 1) P l #[enc x] W1 fun e W' =>
   (e = .returned (.bool true) ∧ J (pre ++ [x]) W' ∧ Only (fun k => ¬ kp k) W1 W') ∨ (e = .returned (.bool false) ∧ Jx (pre ++ [x]) W')) →
  J [] W →
  CallsIn F n P g (#[.func (.yield l) #[] #[]] ++ lb) W fun e W' => (∃ v, e = .returned v) ∧ (J xs W' ∨ ∃ pre, pre <+: xs ∧ Jx pre W')
def postC {α : Type} (p : Nat → Prop) (I : List α → World → Prop) (Ix : Code → List α → World → Prop) (xs : List α) (W : World) : Exit → Act → World → Prop
 | .normal, _, W' => Only (fun k => ¬ p k) W W' ∧ I xs W'
 | .ret, _, W' => Only (fun k => ¬ p k) W W' ∧ Ix .ret xs W'
 | .exit id, _, W' => Only (fun k => ¬ p k) W W' ∧ Ix (.exit id) xs W'
 | .goto t, _, W' => Only (fun k => ¬ p k) W W' ∧ Ix (.goto t) xs W'
 | .panic _, _, _ => False
 | .outgrown, _, _ => False
theorem only_put {p : Nat → Prop} (W : World) (l : Nat) (o : Obj) (hp : p l) : Only p W (W.putObj l o) := only_grown (grownBy_putObj' W l o) (fun k e => by cases e; exact hp)
theorem only_alloc {p : Nat → Prop} (W : World) (o : Obj) : Only p W (W.alloc o) := only_grown (World.grownBy_alloc W o none) (fun k e => by cases e)
theorem Only.same {p : Nat → Prop} {A B : World} (h : Only p A B) {k : Nat} {o : Obj} (hk : A.heap[k]? = some o) (hn : ¬ p k) : B.heap[k]? = some o := (h.block k (Array.getElem?_eq_some_iff.1 hk).1 hn).trans hk
variable {F : Fence} {n : Nat} {P : Program}
theorem wpIn_rangeFunc_C {α : Type} {g : Operand} {ps : Array Tmp} {assign body : Code} {Q : Exit → Act → World → Prop} {a : Act} {w : World}
  (hro : F.round = none) (h1 : 1 ≤ n) {gf : Nat} {lb : Array Value} (hg : a.eval g = .func (.func gf) #[] lb) (hFg : F.fn gf) (eg : ∀ args w, (callFunc gf args).run P w = .ok (.enter gf args) w)
  {enc : α → Value} {own kp : Nat → Prop} {xs : List α} (hseq : ∀ W, Only (fun _ => False) w W → SeqC F (n - 1) P gf lb enc own kp xs W) (hok : ∀ k, own k → kp k) (hkp : ∀ k, kp k → k < w.heap.size) (hps : ps.size = 1)
  (I : List α → World → Prop) (Ix : Code → List α → World → Prop)
  (hI : ∀ s A B, I s A → Only (fun k => own k ∨ k = w.heap.size ∨ k = w.heap.size + 1) A B → I s B)
  (hIx : ∀ c s A B, Ix c s A → Only (fun k => own k ∨ k = w.heap.size ∨ k = w.heap.size + 1) A B → Ix c s B) (h0 : I [] w) (a₁ : α → Act)
  (hassign : ∀ (l : Nat) (x : α) (W : World) (K : Act → World → Prop), K (a₁ x) W →
   assign.wpIn (F.inRound l) (n - 1 - 1) P (Exit.then K (fun _ _ _ => False)) { tmps := (ps.zip #[enc x]).foldl (fun t (p, v) => t.setIfInBounds p v) a.tmps, defers := [] } W)
  (hbody : ∀ (l : Nat) (pre : List α) (x : α) (rest : List α) (W : World), xs = pre ++ x :: rest → w.heap.size + 1 < W.heap.size → I pre W → body.wpIn (F.inRound l) (n - 1 - 1) P (postC (fun k => kp k ∨ k = w.heap.size ∨ k = w.heap.size + 1) I Ix (pre ++ [x]) W) (a₁ x) W)
  (hdone : ∀ (W : World), w.heap.size + 1 < W.heap.size → I xs W → W.heap[w.heap.size]? = some (.deferred (some [])) → Q .normal { a with defers := { target := .collected w.heap.size, args := #[] } :: a.defers } W)
  (hstop : ∀ (c : Code) (pre : List α) (W : World), w.heap.size + 1 < W.heap.size → pre <+: xs → Ix c pre W → W.heap[w.heap.size]? = some (.deferred (some [])) → c.wpIn F n P Q { a with defers := { target := .collected w.heap.size, args := #[] } :: a.defers } W) :
  (Code.rangeFunc g ps assign body).wpIn F n P Q a w := by
 refine wpIn_rangeFunc ?_
 intro fn hfn
 rw [hro]
 obtain ⟨p, hp⟩ : ∃ p : Nat → Prop, p = fun k => own k ∨ k = w.heap.size ∨ k = w.heap.size + 1 := ⟨_, rfl⟩
 rw [← hp] at hI hIx
 obtain ⟨q, hq⟩ : ∃ q : Nat → Prop, q = fun k => kp k ∨ k = w.heap.size ∨ k = w.heap.size + 1 := ⟨_, rfl⟩
 rw [← hq] at hbody
 have hqD : q w.heap.size := by rw [hq]; exact .inr (.inl rfl)
 have hqL : q (w.heap.size + 1) := by rw [hq]; exact .inr (.inr rfl)
 have hkq : ∀ k, kp k → q k := fun k hk => by rw [hq]; exact .inl hk
 have hown : ∀ k, own k → k < w.heap.size := fun k hk => hkp k (hok k hk)
 have hkL : ¬ kp (w.heap.size + 1) := fun h => by have := hkp _ h; omega
 have hpD : p w.heap.size := by rw [hp]; exact .inr (.inl rfl)
 have hpL : p (w.heap.size + 1) := by rw [hp]; exact .inr (.inr rfl)
 have hop : ∀ k, own k → p k := fun k hk => by rw [hp]; exact .inl hk
 have hoD : ¬ own w.heap.size := fun h => by have := hown _ h; omega
 have hoL : ¬ own (w.heap.size + 1) := fun h => by have := hown _ h; omega
 clear hp hq
 obtain ⟨rec, hrec⟩ : ∃ rec : LoopState → Option Code → Loop, rec = fun st pe => { state := st, pending := pe, fn, tmps := a.tmps, params := ps, assign, body, defers := w.heap.size } := ⟨_, rfl⟩
 obtain ⟨W1, hW1⟩ : ∃ W1, (w.alloc (.deferred (some []))).alloc (.loop (rec .ready none)) = W1 := ⟨_, rfl⟩
 have hL1 : W1.heap[w.heap.size + 1]? = some (.loop (rec .ready none)) := by
  rw [← hW1]; have := World.alloc_heap_new (w.alloc (.deferred (some []))) (.loop (rec .ready none)); rwa [World.size_alloc] at this
 have hK1 : W1.heap[w.heap.size]? = some (.deferred (some [])) := by
  rw [← hW1]; exact (Below.heap_alloc _ _ _ (by simp)).trans (World.alloc_heap_new w _)
 have hO1 : ∀ q : Nat → Prop, Only q w W1 := fun q => by rw [← hW1]; exact (only_alloc w _).trans (only_alloc _ _)
 have hI1 : I [] W1 := hI _ _ _ h0 (hO1 _)
 refine ⟨w.heap.size + 1, [{ target := .collected w.heap.size, args := #[] }], W1, { target := .fn (.func gf) lb, args := #[.func (.yield (w.heap.size + 1)) #[] #[]] }, W1, gf,
  #[.func (.yield (w.heap.size + 1)) #[] #[]] ++ lb, W1, ?_, ?_, ?_, ?_, fun _ => h1, ?_⟩
 ·rw [← hW1, hrec]; exact run_enterLoop_outer _ _ _ _ _
 ·simp only [resolve, hg]
  simp [go_sem]
 ·intro f' hf'; simp [Target.leads] at hf'; subst hf'; exact hFg
 ·simp [invoke, go_sem, eg]
 ·have hlt1 : w.heap.size + 1 < W1.heap.size := (Array.getElem?_eq_some_iff.1 hL1).1
  refine (hseq W1 (hO1 _) (w.heap.size + 1)
   (fun pre W => I pre W ∧ W.heap[w.heap.size + 1]? = some (.loop (rec .ready none)) ∧ W.heap[w.heap.size]? = some (.deferred (some [])))
   (fun pre W => ∃ c, Ix c pre W ∧ W.heap[w.heap.size + 1]? = some (.loop (rec .done (some c))) ∧ W.heap[w.heap.size]? = some (.deferred (some [])))
   (fun s A B hs hg' => ⟨hI s A B hs.1 (hg'.more fun k _ => hop k), hg'.same hs.2.1 hoL, hg'.same hs.2.2 hoD⟩)
   (fun s A B hs hg' => by
    obtain ⟨c, hc, hl, hk⟩ := hs
    exact ⟨c, hIx c s A B hc (hg'.more fun k _ => hop k), hg'.same hl hoL, hg'.same hk hoD⟩)
   ?_ ⟨hI1, hL1, hK1⟩).mono ?_
  ·rintro pre x rest W hxs ⟨hi, hl, hk⟩
   have hlt : w.heap.size + 1 < W.heap.size := (Array.getElem?_eq_some_iff.1 hl).1
   have hy := run_yield (P := P) (args := #[enc x]) hl (by rw [hrec]; simp [hps])
   rw [hrec] at hy
   refine ⟨fn, _, assign, body, hy, roundIn_of_wpIn hfn (hassign _ x W _ ⟨_, run_beginRound hl (by rw [hrec]), ?_⟩)⟩
   have hl2 : (W.putObj (w.heap.size + 1) (.loop { rec .ready none with state := .busy })).heap[w.heap.size + 1]? = some (.loop { rec .ready none with state := .busy }) := World.putObj_heap_same hlt
   have hk2 : (W.putObj (w.heap.size + 1) (.loop { rec .ready none with state := .busy })).heap[w.heap.size]? = some (.deferred (some [])) := (World.putObj_heap_other (by omega)).trans hk
   refine wpIn_mono (hbody _ pre x rest _ hxs (by simpa using hlt) (hI _ _ _ hi (only_put _ _ _ hpL))) ?_
   have fin : ∀ (jump : Option Code) (W3 : World), Only (fun k => ¬ q k) (W.putObj (w.heap.size + 1) (.loop { rec .ready none with state := .busy })) W3 →
     (Instr.endRound (w.heap.size + 1) jump).run P W3 = .ok (.bool jump.isNone) (W3.putObj (w.heap.size + 1) (.loop (rec (if jump.isNone then .ready else .done) jump))) ∧
     W3.heap[w.heap.size + 1]? = some (.loop { rec .ready none with state := .busy }) ∧
     (W3.putObj (w.heap.size + 1) (.loop (rec (if jump.isNone then .ready else .done) jump))).heap[w.heap.size + 1]? = some (.loop (rec (if jump.isNone then .ready else .done) jump)) ∧
     (W3.putObj (w.heap.size + 1) (.loop (rec (if jump.isNone then .ready else .done) jump))).heap[w.heap.size]? = some (.deferred (some [])) := fun jump W3 hk3 => by
    have hl3 := hk3.same hl2 (fun h => h hqL)
    have := run_endRound (P := P) jump hl3
    rw [hrec] at this ⊢
    exact ⟨this, by rw [hrec] at hl3; exact hl3, World.putObj_heap_same (Array.getElem?_eq_some_iff.1 hl3).1, (World.putObj_heap_other (by omega)).trans (hk3.same hk2 (fun h => h hqD))⟩
   have hq1 : ∀ (A B : World), Only (fun k => ¬ q k) A B → Only (fun k => ¬ kp k) A B := fun A B h => h.more fun k _ hn ho => hn (hkq k ho)
   have hq2 : ∀ (A : World) o, Only (fun k => ¬ kp k) A (A.putObj (w.heap.size + 1) o) := fun A o => only_put _ _ _ hkL
   rintro e a3 W3 hp3
   cases e with
   | normal =>
    obtain ⟨hk3, hi3⟩ := hp3
    obtain ⟨hr, hl3, hl4, hk4⟩ := fin none W3 hk3
    exact ⟨_, _, hr, .inl ⟨rfl, ⟨hI _ _ _ hi3 (only_put _ _ _ hpL), hl4, hk4⟩, ((hq2 _ _).trans (hq1 _ _ hk3)).trans (hq2 _ _)⟩⟩
   | ret =>
    obtain ⟨hk3, hi3⟩ := hp3
    obtain ⟨hr, hl3, hl4, hk4⟩ := fin (some .ret) W3 hk3
    exact ⟨_, _, hr, .inr ⟨rfl, .ret, hIx _ _ _ _ hi3 (only_put _ _ _ hpL), hl4, hk4⟩⟩
   | exit id =>
    obtain ⟨hk3, hi3⟩ := hp3
    obtain ⟨hr, hl3, hl4, hk4⟩ := fin (some (.exit id)) W3 hk3
    exact ⟨_, _, hr, .inr ⟨rfl, .exit id, hIx _ _ _ _ hi3 (only_put _ _ _ hpL), hl4, hk4⟩⟩
   | goto t =>
    obtain ⟨hk3, hi3⟩ := hp3
    obtain ⟨hr, hl3, hl4, hk4⟩ := fin (some (.goto t)) W3 hk3
    exact ⟨_, _, hr, .inr ⟨rfl, .goto t, hIx _ _ _ _ hi3 (only_put _ _ _ hpL), hl4, hk4⟩⟩
   | panic ch => exact hp3.elim
   | outgrown => exact hp3.elim
  ·rintro e W2 ⟨⟨v, rfl⟩, (⟨hi, hl, hk⟩ | ⟨pre, hSp, c, hi, hl, hk⟩)⟩
   ·have hlt2 : w.heap.size + 1 < W2.heap.size := (Array.getElem?_eq_some_iff.1 hl).1
    exact ⟨none, _, by have := run_endLoop (P := P) hl (by rw [hrec]; simp); rw [hrec] at this; exact this, hdone _ (by simpa using hlt2) (hI _ _ _ hi (only_put _ _ _ hpL)) ((World.putObj_heap_other (by omega)).trans hk)⟩
   ·have hlt2 : w.heap.size + 1 < W2.heap.size := (Array.getElem?_eq_some_iff.1 hl).1
    exact ⟨some c, _, by have := run_endLoop (P := P) hl (by rw [hrec]; simp); rw [hrec] at this; exact this, hstop c pre _ (by simpa using hlt2) hSp (hIx c _ _ _ hi (only_put _ _ _ hpL)) ((World.putObj_heap_other (by omega)).trans hk)⟩
end Go.Proofs.YtabidjmmgnkhkaaGreatDoor
/- strings.SplitSeq: the iterator gives the pieces of a text, one by one. -/
namespace Go.Proofs.YtabidjmmgnkhkaaGreatDoor
open Go Go.RowKit Go.Shelf
attribute [local go_sem] Oper.semAt_some
set_option linter.unusedVariables false
inductive Pieces (sep : List UInt8) : List UInt8 → List (List UInt8) → Prop
 | last (s : List UInt8) : Lib.index s sep = -1 → Pieces sep s [s]
 | cut (s : List UInt8) (i : Nat) (r : List (List UInt8)) : Lib.index s sep = (i : Int) → i + sep.length ≤ s.length → Pieces sep (s.drop (i + sep.length)) r → Pieces sep s (s.take i :: r)
def szAt (w : World) (b : Nat) : Nat := match w.cell? ⟨b, 0, none⟩ with | some (.string s) => s.size | _ => 0
theorem szAt_eq {w : World} {b : Nat} {s : ByteArray} (h : w.cell? ⟨b, 0, none⟩ = some (.string s)) : szAt w b = s.size := by unfold szAt; rw [h]
set_option maxRecDepth 100000 in
set_option maxHeartbeats 4000000 in
theorem splitIter (n l bs bp bz : Nat) (hn : 1 ≤ n) (sep : ByteArray) (h1 : 1 ≤ sep.size) (h2 : sep.size ≤ 1000) (s : List UInt8) (hs : s.length ≤ 1000000) (xs : List (List UInt8)) (hp : Pieces sep.data.toList s xs)
  (J Jx : List (List UInt8) → World → Prop) (hJ : ∀ s A B, J s A → Only (fun k => k = bs) A B → J s B) (hJx : ∀ s A B, Jx s A → Only (fun k => k = bs) A B → Jx s B)
  (hY : ∀ pre x rest W1, xs = pre ++ x :: rest → J pre W1 → YieldAt Fence.wide (n - 1) Tryz.prog l #[.string (str x)] W1 fun e W' =>
   (e = .returned (.bool true) ∧ J (pre ++ [x]) W' ∧ Only (fun k => ¬ (k = bs ∨ k = bp ∨ k = bz ∨ k = 0)) W1 W') ∨ (e = .returned (.bool false) ∧ Jx (pre ++ [x]) W'))
  (W : World) (hbs : Box W bs 9 #[.string (str s)]) (hbp : Box W bp 9 #[.string sep]) (hbz : Box W bz 3 #[.int .i64 0]) (hsp : bs ≠ bp) (hsz : bs ≠ bz) (hsh : Shp W) (hsm : bs ≠ 0) (h0 : J [] W) :
  CallsIn Fence.wide n Tryz.prog 172 #[.func (.yield l) #[] #[], .pointer (some ⟨bp, 0, none⟩), .pointer (some ⟨bs, 0, none⟩), .pointer (some ⟨bz, 0, none⟩)] W fun e W' => (∃ v, e = .returned v) ∧ (J xs W' ∨ ∃ pre, pre <+: xs ∧ Jx pre W') := by
 have cp := hbp.cell 0
 have lp := hbp.lt
 refine callsIn_of_wp Tryz.func172 rfl trivial ?_ rfl
 simp only [Tryz.ntmps172, List.size_toArray, List.length_cons, List.length_nil, Nat.reduceAdd, Nat.reduceSub, Array.replicate_succ, Array.replicate_zero, List.push_toArray, List.append_toArray, List.nil_append, List.cons_append]
 have t0 : decide ((sep.size : Int) = 0) = false := decide_eq_false (by omega)
 have t1 : ((sep.size : Int) == 0) = false := by rw [beq_eq_false_iff_ne]; omega
 gi_wp2
 gi_loopw [7, 8] (fun _ _ wr => ∃ (pre rest : List (List UInt8)) (cur : List UInt8), xs = pre ++ rest ∧ Hid (Pieces sep.data.toList cur rest) ∧ cur.length ≤ 1000000 ∧ Hid (Box wr bs 9 #[.string (str cur)]) ∧ Hid (Box wr bp 9 #[.string sep]) ∧ Hid (Box wr bz 3 #[.int .i64 0]) ∧ Hid (Shp wr) ∧ Hid (J pre wr))
  (fun _ _ wr => szAt wr bs)
 case atStart => exact ⟨[], xs, s, rfl, Lib.hid hp, hs, Lib.hid hbs, Lib.hid hbp, Lib.hid hbz, Lib.hid hsh, Lib.hid h0⟩
 case round =>
  clear hbs hbp hbz hsh h0 cp lp
  obtain ⟨pre, rest, cur, hxs, hpc, hcl, hbs, hbp, hbz, hsh, hj⟩ := hrel
  have cs := hbs.out.cell 0
  have cp := hbp.out.cell 0
  have cz := hbz.out.cell 0
  have ls := hbs.out.lt
  have lp := hbp.out.lt
  have lz := hbz.out.lt
  have fs := hbs.out.free 0
  have hcs : (str cur).size = cur.length := str_size cur
  have hsep : sep.data.toList.length = sep.size := Array.length_toList
  have hwm : szAt wr bs = cur.length := by rw [szAt_eq cs, hcs]
  obtain ⟨m, hm⟩ := hsh.out
  have HI := Lib.hid (strings_Index (str cur) sep m wr (by omega) hm)
  rw [str_data] at HI
  cases hpc.out with
  | last _ hix =>
   rw [hix] at HI
   have hxs' : xs = pre ++ cur :: [] := hxs
   obtain ⟨fn, tmps, assign, body, hy, hR⟩ := hY pre cur [] wr hxs' hj.out
   gi_wp2_with (refine ⟨trivial, ?_⟩; gi_at_call 71; refine (callsIn_wide.2 HI.out).mono ?_; rintro e w' ⟨rfl, rfl⟩)
   refine hR.mono ?_
   rintro e W3 (⟨rfl, hJ3, hk3⟩ | ⟨rfl, hJx3⟩)
   ·gi_wp2
    go_end0
    exact ⟨⟨_, rfl⟩, .inl (by rw [hxs']; exact hJ3)⟩
   ·gi_wp2
    go_end0
    exact ⟨⟨_, rfl⟩, .inr ⟨_, by rw [hxs']; exact List.prefix_refl _, hJx3⟩⟩
  | cut _ i r hix hil hpr =>
   rw [hix] at HI
   rw [hsep] at hil hpr
   have HPR := Lib.hid hpr
   have e1 : (str cur).extract 0 i = str (cur.take i) := by rw [ext_str, List.drop_zero]
   have e2 : (str cur).extract (i + sep.size) cur.length = str (cur.drop (i + sep.size)) := by rw [ext_str, List.take_length]
   have hxs' : xs = pre ++ cur.take i :: r := hxs
   obtain ⟨fn, tmps, assign, body, hy, hR⟩ := hY pre (cur.take i) r wr hxs' hj.out
   clear hpr hix hxs
   gi_wp2_with (refine ⟨trivial, ?_⟩; gi_at_call 71; refine (callsIn_wide.2 HI.out).mono ?_; rintro e w' ⟨rfl, rfl⟩)
   refine hR.mono ?_
   rintro e W3 (⟨rfl, hJ3, hk3⟩ | ⟨rfl, hJx3⟩)
   ·have qs : Box W3 bs 9 #[.string (str cur)] := hk3.box hbs.out (fun h => h (.inl rfl))
    have qp : Hid (Box W3 bp 9 #[.string sep]) := hk3.box hbp.out (fun h => h (.inr (.inl rfl)))
    have qz : Hid (Box W3 bz 3 #[.int .i64 0]) := hk3.box hbz.out (fun h => h (.inr (.inr (.inl rfl))))
    have qm : Hid (Shp W3) := ⟨m, (World.cell?_of_block (hk3.block _ (block_lt_of_cell hm) (fun h => h (.inr (.inr (.inr rfl)))))).trans hm⟩
    have HJ3 := Lib.hid hJ3
    clear hbs hbp hbz hsh hj cs cp cz ls lp lz fs hm HI hR hy hJ3 hk3
    have cs := qs.cell 0
    have cp := qp.out.cell 0
    have ls := qs.lt
    have lp := qp.out.lt
    have fs := qs.free 0
    have QS := Lib.hid qs
    clear qs
    gi_wp2
    go_roundw
    case rel =>
     refine ⟨pre ++ [cur.take i], r, cur.drop (i + sep.size), by rw [hxs']; simp, HPR, by rw [List.length_drop]; omega, Lib.hid (QS.out.set_ 0 _), Lib.hid (qp.out.far (p := ⟨bs, 0, none⟩) (fun e => hsp e.symm) _), Lib.hid (qz.out.far (p := ⟨bs, 0, none⟩) (fun e => hsz e.symm) _), Lib.hid ?_, Lib.hid (hJ _ _ _ HJ3.out (only_set _ _ _ _ rfl))⟩
     obtain ⟨m', hm'⟩ := qm.out
     exact ⟨m', (World.cell?_of_block (Below.heap_setCell _ _ _ _ (fun e => hsm e.symm))).trans hm'⟩
    case measure =>
     rw [szAt_eq ((QS.out.set_ 0 _).cell 0)]
     show (str (cur.drop (i + sep.size))).size < _
     rw [str_size, List.length_drop, hwm]
     omega
   ·gi_wp2
    refine bodyPost_ret (results_none rfl _ _ _) rfl ?_
    exact ⟨⟨_, rfl⟩, .inr ⟨_, by rw [hxs']; exact ⟨r, by simp⟩, hJx3⟩⟩
abbrev seqKeep (g : Nat) (k : Nat) : Prop := k = g ∨ k = g + 1 ∨ k = g + 2 ∨ k = 0
theorem splitSeq_C (n g : Nat) (hn : 1 ≤ n) (sep : ByteArray) (h1 : 1 ≤ sep.size) (h2 : sep.size ≤ 1000) (s : List UInt8) (hs : s.length ≤ 1000000) (xs : List (List UInt8)) (hp : Pieces sep.data.toList s xs)
  (W : World) (hbs : Box W g 9 #[.string (str s)]) (hbp : Box W (g + 1) 9 #[.string sep]) (hbz : Box W (g + 2) 3 #[.int .i64 0]) (hsh : Shp W) (hsm : g ≠ 0) :
  SeqC Fence.wide n Tryz.prog 172 #[.pointer (some ⟨g + 1, 0, none⟩), .pointer (some ⟨g, 0, none⟩), .pointer (some ⟨g + 2, 0, none⟩)] (fun x => .string (str x)) (fun k => k = g) (seqKeep g) xs W :=
 fun l J Jx hJ hJx hY h0 => splitIter n l g (g + 1) (g + 2) hn sep h1 h2 s hs xs hp J Jx hJ hJx hY W hbs hbp hbz (by omega) (by omega) hsh hsm h0
abbrev seqW (w : World) (s sep : ByteArray) : World := ((w.alloc (.cells #[.string s] 9)).alloc (.cells #[.string sep] 9)).alloc (.cells #[.int .i64 0] 3)
abbrev seqF (g : Nat) : Value := .func (.func 172) #[] #[.pointer (some ⟨g + 1, 0, none⟩), .pointer (some ⟨g, 0, none⟩), .pointer (some ⟨g + 2, 0, none⟩)]
set_option maxRecDepth 100000 in
theorem splitSeq0_any (s sep : ByteArray) (w : World) : Calls Tryz.prog 150 #[.string s, .string sep, .int .i64 0] w fun e w' => e = .returned (seqF w.heap.size) ∧ w' = seqW w s sep := by
 go_enter Tryz.func150, Tryz.ntmps150
 go_wp2_with fail
 go_ret
 exact ⟨rfl, rfl⟩
set_option maxRecDepth 100000 in
theorem SplitSeq_any (s sep : ByteArray) (w : World) : Calls Tryz.prog 131 #[.string s, .string sep] w fun e w' => e = .returned (seqF w.heap.size) ∧ w' = seqW w s sep := by
 go_enter Tryz.func131, Tryz.ntmps131
 go_wp2_with (go_at_call 150; refine (splitSeq0_any _ _ _).mono ?_; rintro e w' ⟨rfl, rfl⟩)
 go_ret
 exact ⟨rfl, rfl⟩
theorem seqW_boxes (w : World) (s sep : ByteArray) : Box (seqW w s sep) w.heap.size 9 #[.string s] ∧ Box (seqW w s sep) (w.heap.size + 1) 9 #[.string sep] ∧ Box (seqW w s sep) (w.heap.size + 2) 3 #[.int .i64 0] ∧ Below w.heap.size w (seqW w s sep) ∧ (seqW w s sep).heap.size = w.heap.size + 3 := by
 refine ⟨((Box.new w _ _).alloc _).alloc _, ?_, ?_, below_alloc3 _ _ _ _, by simp⟩
 ·have := (Box.new (w.alloc (.cells #[.string s] 9)) 9 #[.string sep]).alloc (.cells #[.int .i64 0] 3)
  rwa [World.size_alloc] at this
 ·have := Box.new ((w.alloc (.cells #[.string s] 9)).alloc (.cells #[.string sep] 9)) 3 #[.int .i64 0]
  rwa [World.size_alloc, World.size_alloc] at this
end Go.Proofs.YtabidjmmgnkhkaaGreatDoor
