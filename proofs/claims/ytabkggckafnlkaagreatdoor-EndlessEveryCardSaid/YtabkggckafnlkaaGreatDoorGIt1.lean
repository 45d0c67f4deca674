/- It1, It2, It3, It4, It5, It6 -/
import Derived.Shelf.Abstract
import Derived.Shelf.RegionOpen
import Derived.WalkKit
import Derived.OwnWalkIn
import Derived.TacticsInMore
import Derived.LoopNIn
import Derived.LoopIn
import Derived.Laws.EntriesVeiled
import Derived.Test.YtabkggckafnlkaaGreatDoorGSeq1
import Derived.Test.YtabkggckafnlkaaGreatDoorGSv17
import Derived.Test.YtabkggckafnlkaaGreatDoorGMoon1
import Derived.Test.YtabkggckafnlkaaGreatDoorGSvMem
import Derived.Test.YtabkggckafnlkaaGreatDoorGListArg
/- A range over an iterator whose own blocks are the first ones that it makes: the law; iterators that do so. -/
namespace Go.Proofs.YtabkggckafnlkaaGreatDoor
open Go Go.RowKit
set_option linter.unusedVariables false

/-- the blocks that an iterator begun at a heap of s blocks makes for itself -/
def ownI (s c k : Nat) : Prop := s ≤ k ∧ k < s + c
/-- the blocks that a round must keep -/
def kpI (s c B k : Nat) : Prop := k < B ∨ ownI s c k
/-- The contract of an iterator that gives the list xs; it makes c blocks for itself, and reads what lies below B. -/
def SeqI {α : Type} (n c B : Nat) (P : Program) (g : Nat) (lb : Array Value) (enc : α → Value) (xs : List α) (W : World) : Prop :=
  ∀ (l : Nat) (J Jx : List α → World → Prop), (∀ s A B, J s A → Only (ownI W.heap.size c) A B → J s B) → (∀ s A B, Jx s A → Only (ownI W.heap.size c) A B → Jx s B) →
    (∀ pre x rest W1, xs = pre ++ x :: rest → W.heap.size + c ≤ W1.heap.size → J pre W1 → YieldAt Fence.wide (n - 1) P l #[enc x] W1 fun e W' =>
      (e = .returned (.bool true) ∧ J (pre ++ [x]) W' ∧ Only (fun k => ¬ kpI W.heap.size c B k) W1 W') ∨ (e = .returned (.bool false) ∧ Jx (pre ++ [x]) W' ∧ Only (fun k => ¬ kpI W.heap.size c B k) W1 W')) →
    J [] W →
    CallsIn Fence.wide n P g (#[.func (.yield l) #[] #[]] ++ lb) W fun e W' => (∃ v, e = .returned v) ∧ (J xs W' ∨ ∃ pre, pre <+: xs ∧ Jx pre W')
theorem RoundIn.anyDepthI {m m' : Nat} {P : Program} {l : Nat} {f : FuncId} {tmps : Array Value} {assign body : Code} {w : World} {R : Ending → World → Prop}
    (h : RoundIn Fence.wide m P l f tmps assign body w R) : RoundIn Fence.wide m' P l f tmps assign body w R := ⟨h.1, fun c cs _ => h.2 c cs (fun d hd => by cases hd)⟩
theorem YieldAt.anyDepthI {m : Nat} (m' : Nat) {P : Program} {l : Nat} {args : Array Value} {W : World} {R : Ending → World → Prop} (h : YieldAt Fence.wide m P l args W R) : YieldAt Fence.wide m' P l args W R := by
  obtain ⟨fn, tmps, assign, body, hy, hR⟩ := h
  exact ⟨fn, tmps, assign, body, hy, RoundIn.anyDepthI hR⟩

variable {n : Nat} {P : Program}
theorem wpIn_rangeFunc_I {α : Type} {g : Operand} {ps : Array Tmp} {assign body : Code} {Q : Exit → Act → World → Prop} {a : Act} {w : World}
    (h1 : 1 ≤ n) {gf : Nat} {lb : Array Value} (hg : a.eval g = .func (.func gf) #[] lb) (eg : ∀ args w, (callFunc gf args).run P w = .ok (.enter gf args) w)
    {enc : α → Value} {nb B : Nat} {xs : List α} (hB : B ≤ w.heap.size) (hseq : ∀ W, Only (fun _ => False) w W → W.heap.size = w.heap.size + 2 → SeqI (n - 1) nb B P gf lb enc xs W) (hps : ps.size = 1)
    (I : List α → World → Prop) (Ix : Code → List α → World → Prop)
    (hI : ∀ s A B, I s A → Only (fun k => ownI (w.heap.size + 2) nb k ∨ k = w.heap.size ∨ k = w.heap.size + 1) A B → I s B)
    (hIx : ∀ c s A B, Ix c s A → Only (fun k => ownI (w.heap.size + 2) nb k ∨ k = w.heap.size ∨ k = w.heap.size + 1) A B → Ix c s B) (h0 : I [] w) (a₁ : α → Act)
    (hassign : ∀ (l : Nat) (x : α) (W : World) (K : Act → World → Prop), K (a₁ x) W →
      assign.wpIn (Fence.wide.inRound l) (n - 1 - 1) P (Exit.then K (fun _ _ _ => False)) { tmps := (ps.zip #[enc x]).foldl (fun t (p, v) => t.setIfInBounds p v) a.tmps, defers := [] } W)
    (hbody : ∀ (l : Nat) (pre : List α) (x : α) (rest : List α) (W : World), xs = pre ++ x :: rest → w.heap.size + 2 + nb ≤ W.heap.size → I pre W → body.wpIn (Fence.wide.inRound l) (n - 1 - 1) P (postC (fun k => kpI (w.heap.size + 2) nb B k ∨ k = w.heap.size ∨ k = w.heap.size + 1) I Ix (pre ++ [x]) W) (a₁ x) W)
    (hdone : ∀ (W : World), w.heap.size + 1 < W.heap.size → I xs W → W.heap[w.heap.size]? = some (.deferred (some [])) → Q .normal { a with defers := { target := .collected w.heap.size, args := #[] } :: a.defers } W)
    (hstop : ∀ (c : Code) (pre : List α) (W : World), w.heap.size + 1 < W.heap.size → pre <+: xs → Ix c pre W → W.heap[w.heap.size]? = some (.deferred (some [])) → c.wpIn Fence.wide n P Q { a with defers := { target := .collected w.heap.size, args := #[] } :: a.defers } W) :
    (Code.rangeFunc g ps assign body).wpIn Fence.wide n P Q a w := by
  refine wpIn_rangeFunc ?_
  intro fn hfn
  have hro : Fence.wide.round = none := rfl
  rw [hro]
  obtain ⟨own, hown0⟩ : ∃ own : Nat → Prop, own = ownI (w.heap.size + 2) nb := ⟨_, rfl⟩
  obtain ⟨kp, hkp0⟩ : ∃ kp : Nat → Prop, kp = kpI (w.heap.size + 2) nb B := ⟨_, rfl⟩
  have hok : ∀ k, own k → kp k := fun k hk => by rw [hkp0]; rw [hown0] at hk; exact .inr hk
  rw [← hown0] at hI hIx
  rw [← hkp0] at hbody
  obtain ⟨p, hp⟩ : ∃ p : Nat → Prop, p = fun k => own k ∨ k = w.heap.size ∨ k = w.heap.size + 1 := ⟨_, rfl⟩
  rw [← hp] at hI hIx
  obtain ⟨q, hq⟩ : ∃ q : Nat → Prop, q = fun k => kp k ∨ k = w.heap.size ∨ k = w.heap.size + 1 := ⟨_, rfl⟩
  rw [← hq] at hbody
  have hqD : q w.heap.size := by rw [hq]; exact .inr (.inl rfl)
  have hqL : q (w.heap.size + 1) := by rw [hq]; exact .inr (.inr rfl)
  have hkq : ∀ k, kp k → q k := fun k hk => by rw [hq]; exact .inl hk
  have hkL : ¬ kp (w.heap.size + 1) := fun h => by rw [hkp0] at h; rcases h with h | h; omega; have := h.1; omega
  have hpD : p w.heap.size := by rw [hp]; exact .inr (.inl rfl)
  have hpL : p (w.heap.size + 1) := by rw [hp]; exact .inr (.inr rfl)
  have hop : ∀ k, own k → p k := fun k hk => by rw [hp]; exact .inl hk
  have hoD : ¬ own w.heap.size := fun h => by rw [hown0] at h; have := h.1; omega
  have hoL : ¬ own (w.heap.size + 1) := fun h => by rw [hown0] at h; have := h.1; omega
  clear hp hq
  obtain ⟨rec, hrec⟩ : ∃ rec : LoopState → Option Code → Loop, rec = fun st pe => { state := st, pending := pe, fn, tmps := a.tmps, params := ps, assign, body, defers := w.heap.size } := ⟨_, rfl⟩
  obtain ⟨W1, hW1⟩ : ∃ W1, (w.alloc (.deferred (some []))).alloc (.loop (rec .ready none)) = W1 := ⟨_, rfl⟩
  have hL1 : W1.heap[w.heap.size + 1]? = some (.loop (rec .ready none)) := by
    rw [← hW1]; have := World.alloc_heap_new (w.alloc (.deferred (some []))) (.loop (rec .ready none)); rwa [World.size_alloc] at this
  have hK1 : W1.heap[w.heap.size]? = some (.deferred (some [])) := by
    rw [← hW1]; exact (Below.heap_alloc _ _ _ (by simp)).trans (World.alloc_heap_new w _)
  have hO1 : ∀ q : Nat → Prop, Only q w W1 := fun q => by rw [← hW1]; exact (only_alloc w _).trans (only_alloc _ _)
  have hI1 : I [] W1 := hI _ _ _ h0 (hO1 _)
  refine ⟨w.heap.size + 1, [{ target := .collected w.heap.size, args := #[] }], W1, { target := .fn (.func gf) lb, args := #[.func (.yield (w.heap.size + 1)) #[] #[]] }, W1, gf,
    #[.func (.yield (w.heap.size + 1)) #[] #[]] ++ lb, W1, ?_, ?_, ?_, ?_, fun _ => h1, ?_⟩
  · rw [← hW1, hrec]; exact run_enterLoop_outer _ _ _ _ _
  · simp only [resolve, hg]
    simp [go_sem]
  · intro f' hf'; exact trivial
  · simp [invoke, go_sem, eg]
  · have hlt1 : w.heap.size + 1 < W1.heap.size := (Array.getElem?_eq_some_iff.1 hL1).1
    have hz1 : W1.heap.size = w.heap.size + 2 := by rw [← hW1, World.size_alloc, World.size_alloc]
    refine (hseq W1 (hO1 _) hz1 (w.heap.size + 1)
      (fun pre W => I pre W ∧ W.heap[w.heap.size + 1]? = some (.loop (rec .ready none)) ∧ W.heap[w.heap.size]? = some (.deferred (some [])))
      (fun pre W => ∃ c, Ix c pre W ∧ W.heap[w.heap.size + 1]? = some (.loop (rec .done (some c))) ∧ W.heap[w.heap.size]? = some (.deferred (some [])))
      (fun s A B hs hg' => by
        rw [hz1, ← hown0] at hg'
        exact ⟨hI s A B hs.1 (hg'.more fun k _ => hop k), hg'.same hs.2.1 hoL, hg'.same hs.2.2 hoD⟩)
      (fun s A B hs hg' => by
        rw [hz1, ← hown0] at hg'
        obtain ⟨c, hc, hl, hk⟩ := hs
        exact ⟨c, hIx c s A B hc (hg'.more fun k _ => hop k), hg'.same hl hoL, hg'.same hk hoD⟩)
      ?_ ⟨hI1, hL1, hK1⟩).mono ?_
    · -- one round
      rintro pre x rest W hxs hlen ⟨hi, hl, hk⟩
      rw [hz1] at hlen ⊢
      rw [← hkp0]
      have hlt : w.heap.size + 1 < W.heap.size := (Array.getElem?_eq_some_iff.1 hl).1
      have hy := run_yield (P := P) (args := #[enc x]) hl (by rw [hrec]; simp [hps])
      rw [hrec] at hy
      refine ⟨fn, _, assign, body, hy, roundIn_of_wpIn hfn (hassign _ x W _ ⟨_, run_beginRound hl (by rw [hrec]), ?_⟩)⟩
      have hl2 : (W.putObj (w.heap.size + 1) (.loop { rec .ready none with state := .busy })).heap[w.heap.size + 1]? = some (.loop { rec .ready none with state := .busy }) := World.putObj_heap_same hlt
      have hk2 : (W.putObj (w.heap.size + 1) (.loop { rec .ready none with state := .busy })).heap[w.heap.size]? = some (.deferred (some [])) := (World.putObj_heap_other (by omega)).trans hk
      refine wpIn_mono (hbody _ pre x rest _ hxs (by simpa using hlen) (hI _ _ _ hi (only_put _ _ _ hpL))) ?_
      have fin : ∀ (jump : Option Code) (W3 : World), Only (fun k => ¬ q k) (W.putObj (w.heap.size + 1) (.loop { rec .ready none with state := .busy })) W3 →
          (Instr.endRound (w.heap.size + 1) jump).run P W3 = .ok (.bool jump.isNone) (W3.putObj (w.heap.size + 1) (.loop (rec (if jump.isNone then .ready else .done) jump))) ∧
          W3.heap[w.heap.size + 1]? = some (.loop { rec .ready none with state := .busy }) ∧
          (W3.putObj (w.heap.size + 1) (.loop (rec (if jump.isNone then .ready else .done) jump))).heap[w.heap.size + 1]? = some (.loop (rec (if jump.isNone then .ready else .done) jump)) ∧
          (W3.putObj (w.heap.size + 1) (.loop (rec (if jump.isNone then .ready else .done) jump))).heap[w.heap.size]? = some (.deferred (some [])) := fun jump W3 hk3 => by
        have hl3 := hk3.same hl2 (fun h => h hqL)
        have := run_endRound (P := P) jump hl3
        rw [hrec] at this ⊢
        exact ⟨this, by rw [hrec] at hl3; exact hl3, World.putObj_heap_same (Array.getElem?_eq_some_iff.1 hl3).1, (World.putObj_heap_other (by omega)).trans (hk3.same hk2 (fun h => h hqD))⟩
      have hq1 : ∀ (A B : World), Only (fun k => ¬ q k) A B → Only (fun k => ¬ kp k) A B := fun A B h => h.more fun k _ hn ho => hn (hkq k ho)
      have hq2 : ∀ (A : World) o, Only (fun k => ¬ kp k) A (A.putObj (w.heap.size + 1) o) := fun A o => only_put _ _ _ hkL
      rintro e a3 W3 hp3
      cases e with
      | normal =>
        obtain ⟨hk3, hi3⟩ := hp3
        obtain ⟨hr, hl3, hl4, hk4⟩ := fin none W3 hk3
        exact ⟨_, _, hr, .inl ⟨rfl, ⟨hI _ _ _ hi3 (only_put _ _ _ hpL), hl4, hk4⟩, ((hq2 _ _).trans (hq1 _ _ hk3)).trans (hq2 _ _)⟩⟩
      | ret =>
        obtain ⟨hk3, hi3⟩ := hp3
        obtain ⟨hr, hl3, hl4, hk4⟩ := fin (some .ret) W3 hk3
        exact ⟨_, _, hr, .inr ⟨rfl, ⟨.ret, hIx _ _ _ _ hi3 (only_put _ _ _ hpL), hl4, hk4⟩, ((hq2 _ _).trans (hq1 _ _ hk3)).trans (hq2 _ _)⟩⟩
      | exit id =>
        obtain ⟨hk3, hi3⟩ := hp3
        obtain ⟨hr, hl3, hl4, hk4⟩ := fin (some (.exit id)) W3 hk3
        exact ⟨_, _, hr, .inr ⟨rfl, ⟨.exit id, hIx _ _ _ _ hi3 (only_put _ _ _ hpL), hl4, hk4⟩, ((hq2 _ _).trans (hq1 _ _ hk3)).trans (hq2 _ _)⟩⟩
      | goto t =>
        obtain ⟨hk3, hi3⟩ := hp3
        obtain ⟨hr, hl3, hl4, hk4⟩ := fin (some (.goto t)) W3 hk3
        exact ⟨_, _, hr, .inr ⟨rfl, ⟨.goto t, hIx _ _ _ _ hi3 (only_put _ _ _ hpL), hl4, hk4⟩, ((hq2 _ _).trans (hq1 _ _ hk3)).trans (hq2 _ _)⟩⟩
      | panic ch => exact hp3.elim
      | outgrown => exact hp3.elim
    · -- behind the iterator
      rintro e W2 ⟨⟨v, rfl⟩, (⟨hi, hl, hk⟩ | ⟨pre, hSp, c, hi, hl, hk⟩)⟩
      · have hlt2 : w.heap.size + 1 < W2.heap.size := (Array.getElem?_eq_some_iff.1 hl).1
        exact ⟨none, _, by have := run_endLoop (P := P) hl (by rw [hrec]; simp); rw [hrec] at this; exact this, hdone _ (by simpa using hlt2) (hI _ _ _ hi (only_put _ _ _ hpL)) ((World.putObj_heap_other (by omega)).trans hk)⟩
      · have hlt2 : w.heap.size + 1 < W2.heap.size := (Array.getElem?_eq_some_iff.1 hl).1
        exact ⟨some c, _, by have := run_endLoop (P := P) hl (by rw [hrec]; simp); rw [hrec] at this; exact this, hstop c pre _ (by simpa using hlt2) hSp (hIx c _ _ _ hi (only_put _ _ _ hpL)) ((World.putObj_heap_other (by omega)).trans hk)⟩
end Go.Proofs.YtabkggckafnlkaaGreatDoor

/- endless.Days: the iterator gives the days of an expression from a day on, up to the first one that is not found. -/
namespace Go.Proofs.YtabkggckafnlkaaGreatDoor
open Go Go.RowKit Go.Shelf
attribute [local go_sem] Oper.semAt_some
set_option linter.unusedVariables false

/-- the next day is found -/
def NextYes (t : FE) (day d : Int) : Prop := (FeGood t ∧ DayIn day) ∧ day ≤ d ∧ d ≤ day + 3000 ∧ memF t d ∧ ∀ x, day ≤ x → x < d → ¬ memF t x
/-- no next day is found -/
def NextNo (t : FE) (day : Int) : Prop := FeGood t ∧ DayIn day → ∀ x, day ≤ x → x ≤ day + 3000 → ¬ memF t x
/-- the days from a day on -/
inductive DaysL (t : FE) : Int → List Int → Prop
  | stop (day : Int) : NextNo t day → DaysL t day []
  | more (day d : Int) (r : List Int) : NextYes t day d → DaysL t (d + 1) r → DaysL t day (d :: r)
theorem NextYes.one {t : FE} {day d e : Int} (h : NextYes t day d) (k : NextYes t day e) : d = e := by
  obtain ⟨_, h1, h2, h3, h4⟩ := h
  obtain ⟨_, k1, k2, k3, k4⟩ := k
  by_cases hlt : d < e
  · exact absurd h3 (k4 d h1 hlt)
  · by_cases hgt : e < d
    · exact absurd k3 (h4 e k1 hgt)
    · omega
theorem NextYes.not {t : FE} {day d : Int} (h : NextYes t day d) : ¬ NextNo t day := fun k => k h.1 d h.2.1 h.2.2.1 h.2.2.2.1
theorem daysL_ex (t : FE) : ∀ (m : Nat) (day : Int), 4000001 - day ≤ (m : Int) → ∃ xs, DaysL t day xs
  | 0, day, h => ⟨[], .stop day fun hg => by have := hg.2.2; omega⟩
  | m + 1, day, h => by
    by_cases hn : NextNo t day
    · exact ⟨[], .stop day hn⟩
    · have hex : (FeGood t ∧ DayIn day) ∧ ∃ x, day ≤ x ∧ x ≤ day + 3000 ∧ memF t x := by
        by_cases hg : FeGood t ∧ DayIn day
        · refine ⟨hg, ?_⟩
          apply Classical.byContradiction
          intro hne
          exact hn fun _ x h1 h2 h3 => hne ⟨x, h1, h2, h3⟩
        · exact absurd (fun hg' => absurd hg' hg) hn
      obtain ⟨hg, x, h1, h2, h3⟩ := hex
      have least : ∀ (q : Nat) (y : Int), y - day ≤ (q : Int) → day ≤ y → memF t y → ∃ d, day ≤ d ∧ d ≤ y ∧ memF t d ∧ ∀ z, day ≤ z → z < d → ¬ memF t z := by
        intro q
        induction q with
        | zero => intro y hq hy hm; exact ⟨y, hy, Int.le_refl _, hm, fun z hz1 hz2 => by omega⟩
        | succ q ih =>
          intro y hq hy hm
          by_cases hz : ∃ z, day ≤ z ∧ z < y ∧ memF t z
          · obtain ⟨z, hz1, hz2, hz3⟩ := hz
            obtain ⟨d, d1, d2, d3⟩ := ih z (by omega) hz1 hz3
            exact ⟨d, d1, by omega, d3⟩
          · exact ⟨y, hy, Int.le_refl _, hm, fun z hz1 hz2 hz3 => hz ⟨z, hz1, hz2, hz3⟩⟩
      obtain ⟨d, d1, d2, d3, d4⟩ := least (x - day).toNat x (by omega) h1 h3
      obtain ⟨r, hr⟩ := daysL_ex t m (d + 1) (by omega)
      exact ⟨d :: r, .more day d r ⟨hg, d1, by omega, d3, d4⟩ hr⟩
theorem only_kp {s c B : Nat} {A A' : World} (h : Only (fun k => ¬ kpI s c B k) A A') (hB : B ≤ A.heap.size) : Below B A A' :=
  ⟨h.os, h.tape, h.output, h.size, fun k hk => h.block k (by omega) fun hn => hn (.inl hk)⟩
def daysF (gd gt : Nat) : Value := .func (.func 13) #[] #[.pointer (some ⟨gd, 0, none⟩), .pointer (some ⟨gt, 0, none⟩)]
set_option maxRecDepth 100000 in
set_option maxHeartbeats 4000000 in
theorem daysIter (n l gd gt : Nat) (hn : 3 ≤ n) (t : FE) (d0 : Int) (hd0 : -4000000 ≤ d0 ∧ d0 ≤ 4000000) (xs : List Int) (hp : DaysL t d0 xs) (W0 : World) (hgd : Box W0 gd 3 #[.int .i64 d0]) (hgt : Box W0 gt 24 (feC t)) (hin : FeIn W0 W0.heap.size t) (hv : Env W0)
    (W : World) (hW : Below W0.heap.size W0 W) (J Jx : List Int → World → Prop) (hJ : ∀ s A B, J s A → Only (ownI W.heap.size 0) A B → J s B)
    (hY : ∀ pre x rest W1, xs = pre ++ x :: rest → W.heap.size + 0 ≤ W1.heap.size → J pre W1 → YieldAt Fence.wide (n - 1) Tryz.prog l #[.int .i64 x] W1 fun e W' =>
      (e = .returned (.bool true) ∧ J (pre ++ [x]) W' ∧ Only (fun k => ¬ kpI W.heap.size 0 W0.heap.size k) W1 W') ∨ (e = .returned (.bool false) ∧ Jx (pre ++ [x]) W' ∧ Only (fun k => ¬ kpI W.heap.size 0 W0.heap.size k) W1 W'))
    (h0 : J [] W) :
    CallsIn Fence.wide n Tryz.prog 13 #[.func (.yield l) #[] #[], .pointer (some ⟨gd, 0, none⟩), .pointer (some ⟨gt, 0, none⟩)] W fun e W' => (∃ v, e = .returned v) ∧ (J xs W' ∨ ∃ pre, pre <+: xs ∧ Jx pre W') := by
  have HN := Lib.hid (fun day W' (h : Below W0.heap.size W0 W') => next_any t day W' (hv.next h) (hin.next h h.size))
  have HQ : Hid (∀ day e w w', NextQ t day w e w' → ∃ d E : Int, e = .returned (.tuple #[.int .i64 d, .int .i64 E]) ∧ Below w.heap.size w w' ∧ ((E = 0 ∧ NextYes t day d) ∨ (E ≠ 0 ∧ NextNo t day))) := fun day e w w' h => by
    obtain ⟨d, E, he, hb, h1, h2⟩ := h
    refine ⟨d, E, he, hb, ?_⟩
    by_cases hg : FeGood t ∧ DayIn day
    · rcases h2 hg with ⟨a, b, c, d, e⟩ | ⟨a, b, c⟩
      · exact .inl ⟨a, hg, b, c, d, e⟩
      · exact .inr ⟨by omega, fun _ => c⟩
    · exact .inr ⟨h1 hg, fun h => absurd h hg⟩
  obtain ⟨t0, ht0⟩ : ∃ t0, t0 = t := ⟨_, rfl⟩
  obtain ⟨k, a, b, nm, A, c, ks⟩ := t
  rw [← ht0] at HN HQ hp
  have hfe : feV t0 = .agg #[.int .i64 k, .int .i64 a, .int .i64 b, .string nm, .slice A ks.length c] := by rw [ht0]; rfl
  rw [hfe] at HN
  have HGt : Hid (Box W0 gt 24 #[.int .i64 k, .int .i64 a, .int .i64 b, .string nm, .slice A ks.length c]) := hgt
  have HJ := Lib.hid hJ
  have HY := Lib.hid hY
  have c0 : W.cell? ⟨gd, 0, none⟩ = some (.int .i64 d0) := (hgd.below hW).cell 0
  have HW := Lib.hid hW
  have HP := Lib.hid hp
  have H0 := Lib.hid h0
  clear hv hin hfe ht0 hgt hJ hY hgd hW hp h0
  have hn1 : 1 ≤ n := by omega
  refine callsIn_of_wp Tryz.func13 rfl trivial ?_ rfl
  simp only [Tryz.ntmps13, List.size_toArray, List.length_cons, List.length_nil, Nat.reduceAdd, Nat.reduceSub, Array.replicate_succ, Array.replicate_zero, List.push_toArray, List.append_toArray, List.nil_append, List.cons_append]
  gi_wp2
  clear c0
  gi_loopw [4, 5, 6] (fun s4 _ _ wr => ∃ (pre rest : List Int) (day : Int), s4 = .int .i64 day ∧ -4000000 ≤ day ∧ day ≤ 4003002 ∧ Hid (xs = pre ++ rest) ∧ Hid (DaysL t0 day rest) ∧ Hid (Below W0.heap.size W0 wr) ∧ Hid (W.heap.size ≤ wr.heap.size) ∧ Hid (J pre wr))
    (fun s4 _ _ _ => (4010000 - intOf s4).toNat)
  case atStart => exact ⟨[], xs, d0, rfl, hd0.1, by omega, rfl, HP, HW, Nat.le_refl _, H0⟩
  case round =>
    clear H0 HP
    obtain ⟨pre, rest, day, rfl, hd1, hd2, hxs, hpc, hb, hsz, hj⟩ := hrel
    have bx := HGt.out.below hb.out
    have c0 : wr.cell? ⟨gt, 0, none⟩ = some (.int .i64 k) := bx.cell 0
    have c1 : wr.cell? ⟨gt, 1, none⟩ = some (.int .i64 a) := bx.cell 1
    have c2 : wr.cell? ⟨gt, 2, none⟩ = some (.int .i64 b) := bx.cell 2
    have c3 : wr.cell? ⟨gt, 3, none⟩ = some (.string nm) := bx.cell 3
    have c4 : wr.cell? ⟨gt, 4, none⟩ = some (.slice A ks.length c) := bx.cell 4
    have HNx := Lib.hid ((HN.out day wr hb.out).mono (HQ.out day · wr ·))
    clear bx
    have HY1 : Hid (∀ (w2 : World) (d : Int), Below wr.heap.size wr w2 → NextYes t0 day d → ∃ r, xs = (pre ++ [d]) ++ r ∧ DaysL t0 (d + 1) r ∧ YieldAt Fence.wide (n - 1) Tryz.prog l #[.int .i64 d] w2 fun e W' => (e = .returned (.bool true) ∧ J (pre ++ [d]) W' ∧ Below W0.heap.size W0 W' ∧ W.heap.size ≤ W'.heap.size) ∨ (e = .returned (.bool false) ∧ Jx (pre ++ [d]) W')) := fun w2 d hb2 hyes => by
      have hdl := hpc.out
      have hxs' := hxs.out
      cases hdl with
      | stop _ hno => exact absurd hno hyes.not
      | more _ d' r hyes' hr =>
        obtain rfl := hyes.one hyes'
        refine ⟨r, by rw [hxs']; simp, hr, ?_⟩
        obtain ⟨fn, tmps, assign, body, hy, hR⟩ := HY.out pre d r w2 hxs' (by have := hsz.out; have := hb2.size; omega) (HJ.out _ _ _ hj.out (only_below hb2))
        refine ⟨fn, tmps, assign, body, hy, hR.mono ?_⟩
        rintro e W' (⟨he, hJ', hk'⟩ | ⟨he, hJ', _⟩)
        · have h3 := below_then hb.out hb2
          exact .inl ⟨he, hJ', h3.trans (only_kp hk' h3.size), by have := hsz.out; have := hb2.size; have := hk'.size; omega⟩
        · exact .inr ⟨he, hJ'⟩
    have HN1 : Hid (NextNo t0 day → xs = pre) := fun hno => by
      have hdl := hpc.out
      have hxs' := hxs.out
      cases hdl with
      | stop _ _ => rw [hxs', List.append_nil]
      | more _ d' r hyes' hr => exact absurd hno hyes'.not
    have HJ1 : Hid (∀ w2, Below wr.heap.size wr w2 → J pre w2) := fun w2 hb2 => HJ.out _ _ _ hj.out (only_below hb2)
    clear hpc hxs hj hb hsz
    gi_wp2_with (refine ⟨trivial, ?_⟩; gi_at_call 14; refine (callsIn_wide.2 HNx.out).mono ?_; rintro e w2 ⟨d, E, rfl, hb2, hq⟩; rcases hq with ⟨rfl, hyes⟩ | ⟨hE, hno⟩; (obtain ⟨r, hxs2, hdr, fn, tmps, assign, body, hy, hR⟩ := HY1.out w2 d hb2 hyes))
    · have hd9 := hyes.2
      have hdi := hyes.1.2
      unfold DayIn at hdi
      have hdb : day ≤ d ∧ d ≤ day + 3000 := ⟨hd9.1, hd9.2.1⟩
      have HX2 := Lib.hid hxs2
      have HD2 := Lib.hid hdr
      clear hyes hb2 hd9 hxs2 hdr hy HY1 HN1 HJ1 c0 c1 c2 c3 c4 HNx HN
      refine hR.mono ?_
      rintro e W3 (⟨rfl, hJ3, hb3, hs3⟩ | ⟨rfl, hJ3⟩)
      · have H3 := Lib.hid hJ3
        have HB3 := Lib.hid hb3
        have HS3 := Lib.hid hs3
        clear hJ3 hb3 hs3 hR
        gi_wp2
        go_roundw
        case rel => exact ⟨pre ++ [d], r, d + 1, by go_num, by omega, by omega, HX2, HD2, HB3, HS3, H3⟩
        case measure => simp [intOf]; omega
      · gi_wp2
        refine bodyPost_ret (results_none rfl _ _ _) rfl ?_
        exact ⟨⟨_, rfl⟩, .inr ⟨_, ⟨r, HX2.out.symm⟩, hJ3⟩⟩
    · have t1 : (E != 0) = true := by rw [bne_iff_ne]; exact hE
      have HXe := Lib.hid (HN1.out hno)
      have HJe := Lib.hid (HJ1.out w2 hb2)
      clear hE hno HN1 HJ1 HY1 hb2 HNx HN
      refine ⟨fun _ h => (by cases h), ?_⟩
      gi_wp2
      refine bodyPost_ret (results_none rfl _ _ _) rfl ?_
      exact ⟨⟨_, rfl⟩, .inl (by rw [HXe.out]; exact HJe.out)⟩
theorem days_SeqI (n gd gt : Nat) (hn : 3 ≤ n) (t : FE) (d0 : Int) (hd0 : -4000000 ≤ d0 ∧ d0 ≤ 4000000) (xs : List Int) (hp : DaysL t d0 xs) (W0 : World) (hgd : Box W0 gd 3 #[.int .i64 d0]) (hgt : Box W0 gt 24 (feC t)) (hin : FeIn W0 W0.heap.size t) (hv : Env W0) (W : World) (hW : Below W0.heap.size W0 W) :
    SeqI n 0 W0.heap.size Tryz.prog 13 #[.pointer (some ⟨gd, 0, none⟩), .pointer (some ⟨gt, 0, none⟩)] (fun x => .int .i64 x) xs W :=
  fun l J Jx hJ _ hY h0 => daysIter n l gd gt hn t d0 hd0 xs hp W0 hgd hgt hin hv W hW J Jx hJ hY h0
end Go.Proofs.YtabkggckafnlkaaGreatDoor

/- endless.Every: every k-th element of a sequence. -/
namespace Go.Proofs.YtabkggckafnlkaaGreatDoor
open Go Go.RowKit Go.Shelf
attribute [local go_sem] Oper.semAt_some
set_option linter.unusedVariables false

/-- each k-th element; i elements were passed -/
def evyL {α : Type} (k : Nat) : Nat → List α → List α
  | _, [] => []
  | i, x :: r => if i % k = 0 then x :: evyL k (i + 1) r else evyL k (i + 1) r
theorem evyL_app {α : Type} (k : Nat) : ∀ (a b : List α) (i : Nat), evyL k i (a ++ b) = evyL k i a ++ evyL k (i + a.length) b
  | [], b, i => by simp [evyL]
  | x :: a, b, i => by
    simp only [List.cons_append, evyL, List.length_cons]
    rw [evyL_app k a b (i + 1), show i + 1 + a.length = i + (a.length + 1) by omega]
    split <;> simp
theorem evyL_snoc {α : Type} (k : Nat) (a : List α) (x : α) : evyL k 0 (a ++ [x]) = evyL k 0 a ++ (if a.length % k = 0 then [x] else []) := by
  rw [evyL_app, Nat.zero_add]
  simp only [evyL]
theorem evyL_prefix {α : Type} (k : Nat) (a b : List α) (h : a <+: b) : evyL k 0 a <+: evyL k 0 b := by
  obtain ⟨r, rfl⟩ := h
  rw [evyL_app]
  exact List.prefix_append _ _
def seqV (gf : Nat) (lb : Array Value) : Value := .func (.func gf) #[] lb
theorem eqIn_func_nil (d : Nat) (w : World) (f : Fn) (a c : Array Value) : (Op.equalIn (d + 1) 28 (.func f a c) .nilFunc).run Tryz.prog w = .ok false w := by
  simp [Op.equalIn, run_underlying Tryz.underlying28]
theorem eql_func_nil (w : World) (f : Fn) (a c : Array Value) : (binOp .eql 28 (.func f a c) .nilFunc).run Tryz.prog w = .ok (.bool false) w := by
  simp only [binOp]
  simp [Op.equal, Op.maxDepth, eqIn_func_nil 9999 w f a c]
set_option maxRecDepth 100000 in
theorem all_any (gf : Nat) (lb : Array Value) (W : World) : Calls Tryz.prog 10 #[.func (.func gf) #[] lb] W fun e w' => e = .returned (.func (.func gf) #[] lb) ∧ w' = W := by
  have hnil := fun w => eql_func_nil w (.func gf) #[] lb
  go_enter Tryz.func10, Tryz.ntmps10
  go_wp2_with fail
  go_ret
  exact ⟨rfl, rfl⟩
def everyF (gn gs : Nat) : Value := .func (.func 11) #[] #[.pointer (some ⟨gn, 0, none⟩), .pointer (some ⟨gs, 0, none⟩)]
set_option maxRecDepth 100000 in
set_option maxHeartbeats 4000000 in
theorem everyIter (n l gn gs k c gf : Nat) (lbf : Array Value) (hn : 6 ≤ n) (hk : 1 ≤ k) (hk2 : k ≤ 100) (xs : List Int) (W0 W1 : World) (hW1 : Below W0.heap.size W0 W1) (hgn : Box W1 gn 3 #[.int .i64 (k : Int)]) (hgs : Box W1 gs 28 #[.func (.func gf) #[] lbf])
    (eg : ∀ args w, (callFunc gf args).run Tryz.prog w = .ok (.enter gf args) w)
    (hin : ∀ W, Below W0.heap.size W0 W → SeqI (n - 1) c W0.heap.size Tryz.prog gf lbf (fun x : Int => .int .i64 x) xs W)
    (W : World) (hW : Below W1.heap.size W1 W) (J Jx : List Int → World → Prop) (hJ : ∀ s A B, J s A → Only (ownI W.heap.size (4 + c)) A B → J s B) (hJx : ∀ s A B, Jx s A → Only (ownI W.heap.size (4 + c)) A B → Jx s B)
    (hY : ∀ pre x rest V, evyL k 0 xs = pre ++ x :: rest → W.heap.size + (4 + c) ≤ V.heap.size → J pre V → YieldAt Fence.wide (n - 1) Tryz.prog l #[.int .i64 x] V fun e W' =>
      (e = .returned (.bool true) ∧ J (pre ++ [x]) W' ∧ Only (fun k => ¬ kpI W.heap.size (4 + c) W1.heap.size k) V W') ∨ (e = .returned (.bool false) ∧ Jx (pre ++ [x]) W' ∧ Only (fun k => ¬ kpI W.heap.size (4 + c) W1.heap.size k) V W'))
    (h0 : J [] W) :
    CallsIn Fence.wide n Tryz.prog 11 #[.func (.yield l) #[] #[], .pointer (some ⟨gn, 0, none⟩), .pointer (some ⟨gs, 0, none⟩)] W fun e W' => (∃ v, e = .returned v) ∧ (J (evyL k 0 xs) W' ∨ ∃ pre, pre <+: evyL k 0 xs ∧ Jx pre W') := by
  have HJ := Lib.hid hJ
  have HJx := Lib.hid hJx
  have HY := Lib.hid hY
  have HIn := Lib.hid hin
  have HA := Lib.hid (fun V => all_any gf lbf V)
  have c0 : W.cell? ⟨gn, 0, none⟩ = some (.int .i64 (k : Int)) := (hgn.below hW).cell 0
  have c1 : W.cell? ⟨gs, 0, none⟩ = some (.func (.func gf) #[] lbf) := (hgs.below hW).cell 0
  have l0 : gn < W.heap.size := Nat.lt_of_lt_of_le hgn.lt hW.size
  have l1 : gs < W.heap.size := Nat.lt_of_lt_of_le hgs.lt hW.size
  have hn1 : 1 ≤ n := by omega
  have t1 : decide ((k : Int) < 1) = false := decide_eq_false (by omega)
  have HW := Lib.hid hW
  have HW1 := Lib.hid hW1
  have H0 := Lib.hid h0
  have HGn := Lib.hid hgn
  have HGs := Lib.hid hgs
  clear hJ hJx hY hin hW hW1 h0 hgn hgs
  refine callsIn_of_wp_marks Tryz.func11 rfl trivial ?_ rfl
  simp only [Tryz.ntmps11, List.size_toArray, List.length_cons, List.length_nil, Nat.reduceAdd, Nat.reduceSub, Array.replicate_succ, Array.replicate_zero, List.push_toArray, List.append_toArray, List.nil_append, List.cons_append]
  gi_wp2_with (refine ⟨trivial, ?_⟩; gi_at_call 10; refine (callsIn_wide.2 (HA.out _)).mono ?_; rintro e w2 ⟨rfl, rfl⟩)
  obtain ⟨s, hs⟩ : ∃ s, s = W.heap.size := ⟨_, rfl⟩
  have hb2 := below_alloc2 W (Obj.cells #[.func (.yield l) #[] #[]] 36) (Obj.cells #[.int .i64 0] 3)
  have hxy := (Box.new W 36 #[.func (.yield l) #[] #[]]).alloc (Obj.cells #[.int .i64 0] 3)
  have hxw := Box.new (W.alloc (Obj.cells #[.func (.yield l) #[] #[]] 36)) 3 #[.int .i64 0]
  rw [World.size_alloc, ← hs] at hxw
  have hz2 : ((W.alloc (Obj.cells #[.func (.yield l) #[] #[]] 36)).alloc (Obj.cells #[.int .i64 0] 3)).heap.size = s + 2 := by rw [World.size_alloc, World.size_alloc, hs]
  rw [← hs] at hxy HJ HJx HY l0 l1 ⊢
  have HS := Lib.hid hs
  generalize (W.alloc (Obj.cells #[.func (.yield l) #[] #[]] 36)).alloc (Obj.cells #[.int .i64 0] 3) = W2 at *
  have hW1s : W1.heap.size ≤ s := by rw [hs]; exact HW.out.size
  have hW0s : W0.heap.size ≤ W1.heap.size := HW1.out.size
  have H2 : Hid (Below W1.heap.size W1 W2) := HW.out.trans (hb2.mono (by rw [← hs]; exact hW1s))
  have HJ2 : Hid (J [] W2) := HJ.out _ _ _ H0.out (only_below hb2)
  clear hs hb2
  refine wpIn_rangeFunc_I (by omega) (gf := gf) (lb := lbf) rfl eg (enc := fun x : Int => .int .i64 x) (nb := c) (B := W0.heap.size) (xs := xs) (by rw [hz2]; omega)
    (fun V hV hVs => HIn.out V (HW1.out.trans ((H2.out.trans (below_only _ hV (fun k _ h => h) (by rw [hz2]; omega))).mono hW0s))) rfl
    (fun pre V => Hid (J (evyL k 0 pre) V) ∧ Box V s 36 #[.func (.yield l) #[] #[]] ∧ Box V (s + 1) 3 #[.int .i64 ((pre.length % k : Nat) : Int)] ∧ Below W1.heap.size W1 V)
    (fun cd pre V => cd = .ret ∧ Jx (evyL k 0 pre) V)
    ?hI ?hIx ?h0
    (fun x => { tmps := #[.func (.yield l) #[] #[], .pointer (some ⟨gn, 0, none⟩), .pointer (some ⟨gs, 0, none⟩), .pointer (some ⟨s, 0, none⟩), .pointer (some ⟨s + 1, 0, none⟩), .int .i64 x, .int .i64 (k : Int), .bool false, .func (.func gf) #[] lbf, .func (.func gf) #[] lbf, .int .i64 x, undef, undef, undef, undef, undef, undef, undef, undef, undef, undef, undef, undef, undef], defers := [] }) ?assign ?body ?done ?stop
  case hI =>
    rintro pre A B ⟨h1, h2, h3, h4⟩ hAB
    rw [hz2] at hAB
    refine ⟨HJ.out _ _ _ h1.out (hAB.more fun k _ hk => ?_), hAB.box h2 (fun hk => ?_), hAB.box h3 (fun hk => ?_), h4.trans (below_only _ hAB (fun k hk h => ?_) h4.size)⟩
    · unfold ownI at hk ⊢; omega
    · unfold ownI at hk; omega
    · unfold ownI at hk; omega
    · unfold ownI at h; omega
  case hIx =>
    rintro cd pre A B ⟨rfl, h1⟩ hAB
    rw [hz2] at hAB
    refine ⟨rfl, HJx.out _ _ _ h1 (hAB.more fun k _ hk => ?_)⟩
    unfold ownI at hk ⊢
    omega
  case h0 => exact ⟨HJ2, hxy, by simpa using hxw, H2.out⟩
  case assign =>
    intro l2 x V K hK
    gi_wp2
    exact hK
  case body =>
    rintro l2 pre x rest V hxs hsz ⟨h1, h2, h3, h4⟩
    rw [hz2] at hsz ⊢
    have bn := HGn.out.below h4
    have y0 := h2.cell 0
    have n0 : V.cell? ⟨gn, 0, none⟩ = some (.int .i64 (k : Int)) := bn.cell 0
    have lV := h2.lt
    have lw := h3.lt
    have ln := bn.lt
    have hsn := evyL_snoc k pre x
    have hln : (pre ++ [x]).length % k = if pre.length % k + 1 = k then 0 else pre.length % k + 1 := by
      rw [List.length_append, List.length_cons, List.length_nil, Nat.zero_add, Nat.add_mod]
      by_cases h1k : k = 1
      · subst h1k; simp [Nat.mod_one]
      · rw [Nat.mod_eq_of_lt (show 1 < k by omega)]
        by_cases he : pre.length % k + 1 = k
        · rw [if_pos he, he, Nat.mod_self]
        · rw [if_neg he, Nat.mod_eq_of_lt (by have := Nat.mod_lt pre.length (show 0 < k by omega); omega)]
    have hpk := Nat.mod_lt pre.length (show 0 < k by omega)
    obtain ⟨p, hp⟩ : ∃ p, p = pre.length % k := ⟨_, rfl⟩
    rw [← hp] at h3 hsn hln hpk
    have w0 := h3.cell 0
    have fw := h3.free 0
    have HEx : Hid (p = 0 → evyL k 0 xs = evyL k 0 pre ++ x :: evyL k (pre.length + 1) rest) := fun h => by
      rw [hxs, evyL_app, Nat.zero_add]
      simp only [evyL]
      rw [if_pos (by rw [← hp]; exact h)]
    have HSn := Lib.hid hsn
    have HLn := Lib.hid hln
    have HB3 := Lib.hid h3
    have HB2 := Lib.hid h2
    have H4 := Lib.hid h4
    clear hsn hln hp hxs h2 h3 h4 bn
    have HFin : Hid (∀ (W3 Wf : World) (v : Int), Only (fun j => ¬ (kpI (s + 2 + 2) c W0.heap.size j ∨ j = s + 2 ∨ j = s + 2 + 1)) V W3 → J (evyL k 0 (pre ++ [x])) W3 → Box W3 s 36 #[.func (.yield l) #[] #[]] → Below W1.heap.size W1 W3 → Only (fun j => j = s + 1) W3 Wf → Box Wf (s + 1) 3 #[.int .i64 v] → v = (((pre ++ [x]).length % k : Nat) : Int) →
        Only (fun j => ¬ (kpI (s + 2 + 2) c W0.heap.size j ∨ j = s + 2 ∨ j = s + 2 + 1)) V Wf ∧ (Hid (J (evyL k 0 (pre ++ [x])) Wf) ∧ Box Wf s 36 #[.func (.yield l) #[] #[]] ∧ Box Wf (s + 1) 3 #[.int .i64 (((pre ++ [x]).length % k : Nat) : Int)] ∧ Below W1.heap.size W1 Wf)) := fun W3 Wf v q1 q2 q3 q4 q5 q6 q7 => by
      refine ⟨q1.trans (q5.more fun j _ hj => ?_), HJ.out _ _ _ q2 (q5.more fun j _ hj => ?_), q5.box q3 (by omega), by rw [← q7]; exact q6, q4.trans (below_only _ q5 (fun j hj h => by omega) q4.size)⟩
      · unfold kpI ownI; omega
      · unfold ownI; omega
    have HQ1 : Hid (∀ W3, Only (fun j => ¬ kpI s (4 + c) W1.heap.size j) V W3 → Only (fun j => ¬ (kpI (s + 2 + 2) c W0.heap.size j ∨ j = s + 2 ∨ j = s + 2 + 1)) V W3) := fun W3 h => h.more fun j _ hj hq => hj (by unfold kpI ownI at hq ⊢; omega)
    by_cases hp0 : p = 0
    · obtain ⟨fn, tmps, assign, body, hy, hR⟩ := HY.out (evyL k 0 pre) x _ V (HEx.out hp0) (by omega) h1.out
      have hsn0 := HSn.out
      rw [if_pos hp0] at hsn0
      have HSn0 := Lib.hid hsn0
      clear hsn0
      have t2 : ((p : Int) == 0) = true := by rw [hp0]; rfl
      clear hp0
      gi_wp2
      refine ⟨fun _ => by omega, ?_⟩
      refine RoundIn.mono (show RoundIn (Fence.wide.inRound l2) (n - 1 - 1 - 1) Tryz.prog l fn tmps assign body V _ from RoundIn.anyDepthI hR) ?_
      clear hR hy t2 y0 n0 w0 fw
      rintro e W3 (⟨rfl, hJ3, hk3⟩ | ⟨rfl, hJ3, hk3⟩)
      · have h3 := H4.out.trans (only_kp hk3 H4.out.size)
        have HJ3 : Hid (J (evyL k 0 (pre ++ [x])) W3) := by unfold Hid; rw [HSn0.out]; exact hJ3
        have HK3 := Lib.hid (HQ1.out W3 hk3)
        have hy3 := hk3.box HB2.out (fun hn => hn (.inr ⟨by omega, by omega⟩))
        have hw3 := hk3.box HB3.out (fun hn => hn (.inr ⟨by omega, by omega⟩))
        have HY3 := Lib.hid hy3
        have HB33 := Lib.hid hw3
        have H43 := Lib.hid h3
        have w0 : W3.cell? ⟨s + 1, 0, none⟩ = some (.int .i64 (p : Int)) := hw3.cell 0
        have fw := hw3.free 0
        have lw3 := hw3.lt
        have n0 : W3.cell? ⟨gn, 0, none⟩ = some (.int .i64 (k : Int)) := (HGn.out.below h3).cell 0
        have hgns : gn ≠ s + 1 := by omega
        clear hJ3 hk3 hy3 hw3 h3
        by_cases he : p + 1 = k
        · have te : ((p : Int) + 1 == (k : Int)) = true := by rw [beq_iff_eq]; omega
          have hv0 : Hid ((0 : Int) = (((pre ++ [x]).length % k : Nat) : Int)) := by unfold Hid; rw [HLn.out, if_pos he]; rfl
          clear he
          gi_wp2
          all_goals exact HFin.out W3 _ 0 HK3.out HJ3.out HY3.out H43.out ((only_set (p := fun j => j = s + 1) W3 (s + 1) 0 _ rfl).trans (only_set (p := fun j => j = s + 1) _ (s + 1) 0 _ rfl)) ((HB33.out.set_ 0 _).set_ 0 _) hv0.out
        · have te : ((p : Int) + 1 == (k : Int)) = false := by rw [beq_eq_false_iff_ne]; omega
          have hv0 : Hid ((p : Int) + 1 = (((pre ++ [x]).length % k : Nat) : Int)) := by unfold Hid; rw [HLn.out, if_neg he]; rfl
          clear he
          gi_wp2
          all_goals exact HFin.out W3 _ ((p : Int) + 1) HK3.out HJ3.out HY3.out H43.out (only_set W3 (s + 1) 0 _ rfl) (HB33.out.set_ 0 _) hv0.out
      · have HJ3 : Hid (Jx (evyL k 0 (pre ++ [x])) W3) := by unfold Hid; rw [HSn0.out]; exact hJ3
        have HK3 := Lib.hid (HQ1.out W3 hk3)
        clear hJ3 hk3
        gi_wp2
        exact ⟨HK3.out, rfl, HJ3.out⟩
    · have hsn0 := HSn.out
      rw [if_neg hp0, List.append_nil] at hsn0
      have HSn0 := Lib.hid hsn0
      clear hsn0
      have t2 : ((p : Int) == 0) = false := by rw [beq_eq_false_iff_ne]; omega
      obtain ⟨W3, hW3⟩ : ∃ W3, W3 = V := ⟨_, rfl⟩
      have HJ3 : Hid (J (evyL k 0 (pre ++ [x])) W3) := by unfold Hid; rw [HSn0.out, hW3]; exact h1.out
      have HK3 : Hid (Only (fun j => ¬ (kpI (s + 2 + 2) c W0.heap.size j ∨ j = s + 2 ∨ j = s + 2 + 1)) V W3) := by rw [hW3]; exact only_below (Below.refl _ _)
      have HY3 : Hid (Box W3 s 36 #[.func (.yield l) #[] #[]]) := by rw [hW3]; exact HB2.out
      have HB33 : Hid (Box W3 (s + 1) 3 #[.int .i64 (p : Int)]) := by rw [hW3]; exact HB3.out
      have H43 : Hid (Below W1.heap.size W1 W3) := by rw [hW3]; exact H4.out
      have HV := Lib.hid hW3
      rw [← hW3] at y0 n0 w0 fw lV lw ln
      have hgns : gn ≠ s + 1 := by omega
      clear hW3 hp0
      rw [← HV.out]
      gi_wp2
      refine ⟨fun _ h => (by cases h), ?_⟩
      by_cases he : p + 1 = k
      · have te : ((p : Int) + 1 == (k : Int)) = true := by rw [beq_iff_eq]; omega
        have hv0 : Hid ((0 : Int) = (((pre ++ [x]).length % k : Nat) : Int)) := by unfold Hid; rw [HLn.out, if_pos he]; rfl
        clear he
        gi_wp2
        all_goals (have hfin := HFin.out W3 ((W3.setCell ⟨s + 1, 0, none⟩ (.int .i64 ((p : Int) + 1))).setCell ⟨s + 1, 0, none⟩ (.int .i64 0)) 0 HK3.out HJ3.out HY3.out H43.out ((only_set (p := fun j => j = s + 1) W3 (s + 1) 0 _ rfl).trans (only_set (p := fun j => j = s + 1) _ (s + 1) 0 _ rfl)) ((HB33.out.set_ 0 _).set_ 0 _) hv0.out; rw [← HV.out] at hfin; exact hfin)
      · have te : ((p : Int) + 1 == (k : Int)) = false := by rw [beq_eq_false_iff_ne]; omega
        have hv0 : Hid ((p : Int) + 1 = (((pre ++ [x]).length % k : Nat) : Int)) := by unfold Hid; rw [HLn.out, if_neg he]; rfl
        clear he
        gi_wp2
        all_goals (have hfin := HFin.out W3 (W3.setCell ⟨s + 1, 0, none⟩ (.int .i64 ((p : Int) + 1))) ((p : Int) + 1) HK3.out HJ3.out HY3.out H43.out (only_set W3 (s + 1) 0 _ rfl) (HB33.out.set_ 0 _) hv0.out; rw [← HV.out] at hfin; exact hfin)
  case done =>
    rintro V hlt ⟨h1, h2, h3, h4⟩ hK
    gi_wp2
    refine ⟨by simp, .inl ⟨_, _, rfl, run_takeDeferred hK, ?_⟩⟩
    exact ⟨_, results_none rfl _ _ _, ⟨⟨_, rfl⟩, .inl (HJ.out _ _ _ h1.out (only_put _ _ _ (by rw [hz2]; exact ⟨by omega, by omega⟩)))⟩⟩
  case stop =>
    rintro cd pre V hlt hpre ⟨rfl, h1⟩ hK
    gi_wp2
    refine ⟨by simp, .inl ⟨_, _, rfl, run_takeDeferred hK, ?_⟩⟩
    exact ⟨_, results_none rfl _ _ _, ⟨⟨_, rfl⟩, .inr ⟨_, evyL_prefix k pre xs hpre, HJx.out _ _ _ h1 (only_put _ _ _ (by rw [hz2]; exact ⟨by omega, by omega⟩))⟩⟩⟩
theorem every_SeqI (n gn gs k c gf : Nat) (lbf : Array Value) (hn : 6 ≤ n) (hk : 1 ≤ k) (hk2 : k ≤ 100) (xs : List Int) (W0 W1 : World) (hW1 : Below W0.heap.size W0 W1) (hgn : Box W1 gn 3 #[.int .i64 (k : Int)]) (hgs : Box W1 gs 28 #[.func (.func gf) #[] lbf])
    (eg : ∀ args w, (callFunc gf args).run Tryz.prog w = .ok (.enter gf args) w)
    (hin : ∀ W, Below W0.heap.size W0 W → SeqI (n - 1) c W0.heap.size Tryz.prog gf lbf (fun x : Int => .int .i64 x) xs W) (W : World) (hW : Below W1.heap.size W1 W) :
    SeqI n (4 + c) W1.heap.size Tryz.prog 11 #[.pointer (some ⟨gn, 0, none⟩), .pointer (some ⟨gs, 0, none⟩)] (fun x : Int => .int .i64 x) (evyL k 0 xs) W :=
  fun l J Jx hJ hJx hY h0 => everyIter n l gn gs k c gf lbf hn hk hk2 xs W0 W1 hW1 hgn hgs eg hin W hW J Jx hJ hJx hY h0
end Go.Proofs.YtabkggckafnlkaaGreatDoor

/- endless.Take: the first elements of a sequence. -/
namespace Go.Proofs.YtabkggckafnlkaaGreatDoor
open Go Go.RowKit Go.Shelf
attribute [local go_sem] Oper.semAt_some
set_option linter.unusedVariables false

set_option maxRecDepth 100000 in
set_option maxHeartbeats 4000000 in
theorem takeIn (n k c gf : Nat) (lbf : Array Value) (hn : 12 ≤ n) (hk : 1 ≤ k) (hk2 : k ≤ 100) (xs : List Int) (W0 : World) (eg : ∀ args w, (callFunc gf args).run Tryz.prog w = .ok (.enter gf args) w)
    (hin : ∀ W, Below W0.heap.size W0 W → SeqI (n - 1) c W0.heap.size Tryz.prog gf lbf (fun x : Int => .int .i64 x) xs W)
    (W : World) (hW : Below W0.heap.size W0 W) :
    CallsIn Fence.wide n Tryz.prog 4 #[.func (.func gf) #[] lbf, .int .i64 (k : Int)] W fun e W' => ∃ A cc, e = .returned (.slice A (xs.take k).length cc) ∧ W'.ownsRow W.heap.size 3 1 (.slice A (xs.take k).length cc) (xs.take k).length (ints (xs.take k)) ∧ Below W.heap.size W W' := by
  obtain ⟨i0, hi, hz0, hz1, hzz2⟩ := info_parts infoInt2
  have HIn := Lib.hid hin
  have HA := Lib.hid (fun V => all_any gf lbf V)
  have hn1 : 1 ≤ n := by omega
  have t1 : decide ((k : Int) < 1) = false := decide_eq_false (by omega)
  have HW := Lib.hid hW
  clear hin hW
  refine callsIn_of_wp_marks Tryz.func4 rfl trivial ?_ rfl
  simp only [Tryz.ntmps4, List.size_toArray, List.length_cons, List.length_nil, Nat.reduceAdd, Nat.reduceSub, Array.replicate_succ, Array.replicate_zero, List.push_toArray, List.append_toArray, List.nil_append, List.cons_append]
  gi_wp2_with (refine ⟨trivial, ?_⟩; gi_at_call 10; refine (callsIn_wide.2 (HA.out _)).mono ?_; rintro e w2 ⟨rfl, rfl⟩)
  obtain ⟨s, hs⟩ : ∃ s, s = W.heap.size := ⟨_, rfl⟩
  have hb2 := below_alloc2 W (Obj.cells #[.int .i64 (k : Int)] 3) (Obj.cells #[.slice none 0 0] 25)
  have hxk := (Box.new W 3 #[.int .i64 (k : Int)]).alloc (Obj.cells #[.slice none 0 0] 25)
  have hxo := Box.new (W.alloc (Obj.cells #[.int .i64 (k : Int)] 3)) 25 #[.slice none 0 0]
  rw [World.size_alloc, ← hs] at hxo
  have hz2 : ((W.alloc (Obj.cells #[.int .i64 (k : Int)] 3)).alloc (Obj.cells #[.slice none 0 0] 25)).heap.size = s + 2 := by rw [World.size_alloc, World.size_alloc, hs]
  have hW0s : W0.heap.size ≤ s := by rw [hs]; exact HW.out.size
  rw [← hs] at hxk hb2 ⊢
  generalize (W.alloc (Obj.cells #[.int .i64 (k : Int)] 3)).alloc (Obj.cells #[.slice none 0 0] 25) = W2 at *
  have H2 : Hid (Below s W W2) := hb2
  have H02 : Hid (Below W0.heap.size W0 W2) := HW.out.trans (hb2.mono hW0s)
  have HSs := Lib.hid hs
  clear hs hb2
  refine wpIn_rangeFunc_I (by omega) (gf := gf) (lb := lbf) rfl eg (enc := fun x : Int => .int .i64 x) (nb := c) (B := W0.heap.size) (xs := xs) (by rw [hz2]; omega)
    (fun V hV hVs => HIn.out V (H02.out.trans (below_only _ hV (fun k _ h => h) (by rw [hz2]; omega)))) rfl
    (fun pre V => (∃ A cc, Box V (s + 1) 25 #[.slice A pre.length cc] ∧ V.ownsRow (s + 4 + c) 3 1 (.slice A pre.length cc) pre.length (ints pre)) ∧ Box V s 3 #[.int .i64 (k : Int)] ∧ Below s W V ∧ pre.length < k)
    (fun cd pre V => cd = .exit 0 ∧ (∃ A cc, Box V (s + 1) 25 #[.slice A pre.length cc] ∧ V.ownsRow (s + 4 + c) 3 1 (.slice A pre.length cc) pre.length (ints pre)) ∧ Below s W V ∧ pre.length = k)
    ?hI ?hIx ?h0
    (fun x => { tmps := #[.func (.func gf) #[] lbf, .int .i64 (k : Int), undef, .pointer (some ⟨s, 0, none⟩), .slice none 0 0, .pointer (some ⟨s + 1, 0, none⟩), .int .i64 x, .int .i64 (k : Int), .bool false, .func (.func gf) #[] lbf, .func (.func gf) #[] lbf, .int .i64 x, undef, undef, undef, undef, undef, undef, undef, undef, undef], defers := [] }) ?assign ?body ?done ?stop
  case hI =>
    rintro pre A B ⟨⟨A1, cc, h1, h2⟩, h3, h4, h5⟩ hAB
    rw [hz2] at hAB
    have hAs := h1.lt
    refine ⟨⟨A1, cc, hAB.box h1 (fun h => by unfold ownI at h; omega), hAB.own h2 (fun k hk h => by unfold ownI at h; omega)⟩, hAB.box h3 (fun h => by unfold ownI at h; omega), h4.trans (below_only _ hAB (fun k hk h => by unfold ownI at h; omega) (by omega)), h5⟩
  case hIx =>
    rintro cd pre A B ⟨rfl, ⟨A1, cc, h1, h2⟩, h4, h5⟩ hAB
    rw [hz2] at hAB
    have hAs := h1.lt
    refine ⟨rfl, ⟨A1, cc, hAB.box h1 (fun h => by unfold ownI at h; omega), hAB.own h2 (fun k hk h => by unfold ownI at h; omega)⟩, h4.trans (below_only _ hAB (fun k hk h => by unfold ownI at h; omega) (by omega)), h5⟩
  case h0 => exact ⟨⟨none, 0, hxo, World.ownsRow_nil _ _ _ _⟩, hxk, H2.out, hk⟩
  case assign =>
    intro l2 x V K hK
    gi_wp2
    exact hK
  case body =>
    rintro l2 pre x rest V hxs hsz ⟨⟨A1, cc, h1, h2⟩, h3, h4, h5⟩
    rw [hz2] at hsz ⊢
    have o0 : V.cell? ⟨s + 1, 0, none⟩ = some (.slice A1 pre.length cc) := h1.cell 0
    have k0 : V.cell? ⟨s, 0, none⟩ = some (.int .i64 (k : Int)) := h3.cell 0
    have lo := h1.lt
    have lk := h3.lt
    have hcat : ints (pre ++ [x]) = ints pre ++ [.int .i64 x] := by simp [ints]
    have hplc : pre.length ≤ 100 := by omega
    have H1 := Lib.hid h1
    have H3 := Lib.hid h3
    have H4 := Lib.hid h4
    have q2 := h2
    clear h1 h2 h3 h4
    have HMain : Hid (∀ (w2 : World) (g' cap' : Nat), (V.alloc (Obj.cells #[.int .i64 x] 3)).grownBy w2 (Value.slice A1 pre.length cc).ownBlock → Box w2 (s + 1) 25 #[.slice A1 pre.length cc] → Box w2 s 3 #[.int .i64 (k : Int)] → w2.ownsRow (s + 4 + c) 3 1 (.slice (some ⟨g', 0, none⟩) (pre.length + 1) cap') (pre.length + 1) (ints pre ++ [.int .i64 x]) →
        Only (fun j => ¬ (kpI (s + 2 + 2) c W0.heap.size j ∨ j = s + 2 ∨ j = s + 2 + 1)) V (w2.setCell ⟨s + 1, 0, none⟩ (.slice (some ⟨g', 0, none⟩) (pre.length + 1) cap')) ∧
        (∃ A cc, Box (w2.setCell ⟨s + 1, 0, none⟩ (.slice (some ⟨g', 0, none⟩) (pre.length + 1) cap')) (s + 1) 25 #[.slice A (pre ++ [x]).length cc] ∧ (w2.setCell ⟨s + 1, 0, none⟩ (.slice (some ⟨g', 0, none⟩) (pre.length + 1) cap')).ownsRow (s + 4 + c) 3 1 (.slice A (pre ++ [x]).length cc) (pre ++ [x]).length (ints (pre ++ [x]))) ∧
        Box (w2.setCell ⟨s + 1, 0, none⟩ (.slice (some ⟨g', 0, none⟩) (pre.length + 1) cap')) s 3 #[.int .i64 (k : Int)] ∧ Below s W (w2.setCell ⟨s + 1, 0, none⟩ (.slice (some ⟨g', 0, none⟩) (pre.length + 1) cap'))) := fun w2 g' cap' hgrow r1 r3 hown' => by
      have HOnly : Only (fun j => ¬ (kpI (s + 2 + 2) c W0.heap.size j ∨ j = s + 2 ∨ j = s + 2 + 1)) V (w2.setCell ⟨s + 1, 0, none⟩ (.slice (some ⟨g', 0, none⟩) (pre.length + 1) cap')) :=
        (only_alloc V _).trans ((only_grown hgrow (fun j e => by have := (own_lt q2 _ e).1; unfold kpI ownI; omega)).trans (only_set w2 (s + 1) 0 _ (by unfold kpI ownI; omega)))
      have el : (pre ++ [x]).length = pre.length + 1 := by simp
      refine ⟨HOnly, ⟨some ⟨g', 0, none⟩, cap', ?_, ?_⟩, r3.far (p := ⟨s + 1, 0, none⟩) (by show s ≠ s + 1; omega) _, ?_⟩
      · rw [el]; exact r1.set_ 0 _
      · rw [el, hcat]; exact own_set hown' _ _ (show s + 1 < s + 4 + c by omega)
      · refine H4.out.trans ?_
        have h1 : Below s V (V.alloc (Obj.cells #[.int .i64 x] 3)) := (below_alloc1 V _).mono (by omega)
        exact (h1.grown hgrow (by rw [World.size_alloc]; omega) (fun j e => by have := (own_lt q2 _ e).1; omega)).setCell (p := ⟨s + 1, 0, none⟩) (by show s ≤ s + 1; omega) _
    have el : (pre ++ [x]).length = pre.length + 1 := by simp
    have HEl := Lib.hid el
    clear el
    by_cases he : pre.length + 1 = k
    · have te : (((pre.length : Int) + 1) == (k : Int)) = true := by rw [beq_iff_eq]; omega
      have HE := Lib.hid he
      clear he
      gi_wp2_with (gi_at_builtin; refine wpListIn_append_own _ rfl _ _ 25 rfl (s + 4 + c) 3 i0 (.int .i64 0) 1 8 Tryz.underlying25 hi hz0 hz1 hzz2 rfl (by decide) _ _ _ rfl (q2.alloc _) ⟨V.heap.size, 0, none⟩ 1 1 [.int .i64 x] rfl rfl (cell_one_new _ _ _) (by simp [Value.oneCell']) (by unfold maxLen; omega) (by omega) (by simp; omega) ?_; intro v' w2 hown' hgrow _; obtain ⟨g', cap', rfl⟩ := ownsRow_succ hown'; have r1 := (H1.out.alloc (Obj.cells #[.int .i64 x] 3)).grown hgrow (fun e => by have := (own_lt q2 _ e.symm).1; omega); have r3 := (H3.out.alloc (Obj.cells #[.int .i64 x] 3)).grown hgrow (fun e => by have := (own_lt q2 _ e.symm).1; omega); have hc2 := r1.cell 0; have hf2 := r1.free 0; have hl2 := r1.lt; have hc3 : w2.cell? ⟨s, 0, none⟩ = some (.int .i64 (k : Int)) := r3.cell 0; have R1 := Lib.hid r1; have R3 := Lib.hid r3; have HG := Lib.hid hgrow; have HO := Lib.hid hown'; clear r1 r3 hgrow hown')
      obtain ⟨m1, m2, m3, m4⟩ := HMain.out w2 g' cap' HG.out R1.out R3.out HO.out
      exact ⟨m1, rfl, m2, m4, by rw [HEl.out]; exact HE.out⟩
    · have te : (((pre.length : Int) + 1) == (k : Int)) = false := by rw [beq_eq_false_iff_ne]; omega
      have HE := Lib.hid he
      clear he
      gi_wp2_with (gi_at_builtin; refine wpListIn_append_own _ rfl _ _ 25 rfl (s + 4 + c) 3 i0 (.int .i64 0) 1 8 Tryz.underlying25 hi hz0 hz1 hzz2 rfl (by decide) _ _ _ rfl (q2.alloc _) ⟨V.heap.size, 0, none⟩ 1 1 [.int .i64 x] rfl rfl (cell_one_new _ _ _) (by simp [Value.oneCell']) (by unfold maxLen; omega) (by omega) (by simp; omega) ?_; intro v' w2 hown' hgrow _; obtain ⟨g', cap', rfl⟩ := ownsRow_succ hown'; have r1 := (H1.out.alloc (Obj.cells #[.int .i64 x] 3)).grown hgrow (fun e => by have := (own_lt q2 _ e.symm).1; omega); have r3 := (H3.out.alloc (Obj.cells #[.int .i64 x] 3)).grown hgrow (fun e => by have := (own_lt q2 _ e.symm).1; omega); have hc2 := r1.cell 0; have hf2 := r1.free 0; have hl2 := r1.lt; have hc3 : w2.cell? ⟨s, 0, none⟩ = some (.int .i64 (k : Int)) := r3.cell 0; have R1 := Lib.hid r1; have R3 := Lib.hid r3; have HG := Lib.hid hgrow; have HO := Lib.hid hown'; clear r1 r3 hgrow hown')
      obtain ⟨m1, m2, m3, m4⟩ := HMain.out w2 g' cap' HG.out R1.out R3.out HO.out
      exact ⟨m1, m2, m3, m4, by rw [HEl.out]; have := HE.out; omega⟩
  case done =>
    rintro V hlt ⟨⟨A1, cc, h1, h2⟩, h3, h4, h5⟩ hK
    have hv : V.cell? ⟨s + 1, 0, none⟩ = some (.slice A1 xs.length cc) := h1.cell 0
    have hl := h1.lt
    have hxk : xs.take k = xs := List.take_of_length_le (by omega)
    have H1 := Lib.hid h1
    have H2 := Lib.hid h2
    have H4 := Lib.hid h4
    clear h1 h2 h3 h4
    gi_wp2
    refine ⟨by simp, .inl ⟨_, _, rfl, run_takeDeferred hK, ?_⟩⟩
    rw [hxk, ← HSs.out]
    exact ⟨_, results_tmp rfl _ _ _, A1, cc, rfl, own_lower (ownsRow_putObj H2.out _ hK rfl) (by omega), H4.out.trans (below_only _ (only_put (p := fun k => k = W2.heap.size) V _ _ rfl) (fun k hk h => by omega) (by omega))⟩
  case stop =>
    rintro cd pre V hlt hpre ⟨rfl, ⟨A1, cc, h1, h2⟩, h4, h5⟩ hK
    have hv : V.cell? ⟨s + 1, 0, none⟩ = some (.slice A1 pre.length cc) := h1.cell 0
    have hl := h1.lt
    have hxk : xs.take k = pre := by
      obtain ⟨r, rfl⟩ := hpre
      rw [← h5]
      simp
    have H1 := Lib.hid h1
    have H2 := Lib.hid h2
    have H4 := Lib.hid h4
    have H5 := Lib.hid h5
    clear h1 h2 h4 h5
    gi_wp2
    refine ⟨by simp, .inl ⟨_, _, rfl, run_takeDeferred hK, ?_⟩⟩
    rw [hxk, ← HSs.out]
    exact ⟨_, results_tmp rfl _ _ _, A1, cc, rfl, own_lower (ownsRow_putObj H2.out _ hK rfl) (by omega), H4.out.trans (below_only _ (only_put (p := fun k => k = W2.heap.size) V _ _ rfl) (fun k hk h => by omega) (by omega))⟩
theorem take_any (k c gf : Nat) (lbf : Array Value) (hk : 1 ≤ k) (hk2 : k ≤ 100) (xs : List Int) (W0 : World) (eg : ∀ args w, (callFunc gf args).run Tryz.prog w = .ok (.enter gf args) w)
    (hin : ∀ n W, 19 ≤ n → Below W0.heap.size W0 W → SeqI n c W0.heap.size Tryz.prog gf lbf (fun x : Int => .int .i64 x) xs W) (W : World) (hW : Below W0.heap.size W0 W) :
    Calls Tryz.prog 4 #[.func (.func gf) #[] lbf, .int .i64 (k : Int)] W fun e W' => ∃ A cc, e = .returned (.slice A (xs.take k).length cc) ∧ W'.ownsRow W.heap.size 3 1 (.slice A (xs.take k).length cc) (xs.take k).length (ints (xs.take k)) ∧ Below W.heap.size W W' :=
  (callsIn_wide (n := 20)).1 (takeIn 20 k c gf lbf (by omega) hk hk2 xs W0 eg (fun V hV => hin 19 V (by omega) hV) W hW)
end Go.Proofs.YtabkggckafnlkaaGreatDoor

/- endless.clone: an expression that shares no memory. -/
namespace Go.Proofs.YtabkggckafnlkaaGreatDoor
open Go Go.RowKit Go.Shelf
set_option linter.unusedVariables false

theorem infoFe : (Tryz.prog.info? 24).map (fun i => (i.zero, i.size, i.bytes)) = some (some (.agg #[.int .i64 0, .int .i64 0, .int .i64 0, .string ⟨#[]⟩, .slice none 0 0]), 5, 64) := by kernel_rfl
/-- the expression lies in memory, in blocks of a kind -/
inductive FeAt (w : World) (p : Nat → Prop) : FE → Prop
  | mk {k a b : Int} {nm : ByteArray} {A : Option Addr} {c : Nat} {ks : List FE} (hk : I64 k) (ha : I64 a) (hb : I64 b) (hs : nm.size ≤ maxLen) (hl : ks.length ≤ maxLen) (row : RowAt w p A (ks.flatMap feF)) (kids : ∀ x ∈ ks, FeAt w p x) : FeAt w p (.node k a b nm A c ks)
theorem FeAt.keep {w w' : World} {p p' : Nat → Prop} {t : FE} (h : FeAt w p t) (hk : ∀ b, p b → b < w.heap.size → w'.heap[b]? = w.heap[b]? ∧ p' b) (hs : w.heap.size ≤ w'.heap.size) : FeAt w' p' t := by
  induction h with
  | mk h1 ha hb' hs' hl row kids ih => exact .mk h1 ha hb' hs' hl (row.keep hk hs) ih
theorem FeAt.in_ {w : World} {p : Nat → Prop} {t : FE} (h : FeAt w p t) : FeIn w w.heap.size t := by
  induction h with
  | mk h1 ha hb' hs' hl row kids ih => exact .mk h1 ha hb' hs' hl row.row ih
theorem feF_one (l : List FE) : ∀ u ∈ l.flatMap feF, u.oneCell' = true := fun u hu => by
  obtain ⟨x, _, hx⟩ := List.mem_flatMap.1 hu
  cases x
  simp [feF] at hx
  rcases hx with rfl | rfl | rfl | rfl | rfl <;> rfl
theorem fsz_pos (t : FE) : 1 ≤ fsz t := by cases t; simp [fsz]
theorem fsz_kid : ∀ (ks : List FE) (x : FE), x ∈ ks → fsz x ≤ fszL ks
  | y :: r, x, h => by
    simp only [fszL]
    rcases List.mem_cons.1 h with rfl | h
    · omega
    · have := fsz_kid r x h; omega
/-- what clone says -/
def CloneQ (k a b : Int) (nm : ByteArray) (n : Nat) (w : World) (e : Ending) (w' : World) : Prop :=
  ∃ (A : Option Addr) (c : Nat) (ks : List FE), e = .returned (feV (.node k a b nm A c ks)) ∧ ks.length = n ∧ FeAt w' (fun q => w.heap.size ≤ q) (.node k a b nm A c ks) ∧ Below w.heap.size w w'
/-- no list of operands is longer than memory allows -/
inductive FeSz : FE → Prop
  | mk {k a b : Int} {nm : ByteArray} {A : Option Addr} {c : Nat} {ks : List FE} (hl : ks.length * 64 ≤ 140737488355328) (kids : ∀ x ∈ ks, FeSz x) : FeSz (.node k a b nm A c ks)
theorem row_ownS5 {w : World} {base : Nat} {e : TypeId} {s : Nat} {A : Option Addr} {n c : Nat} {xs : List Value} (h : w.ownsRow base e s (.slice A n c) n xs) : Row w w.heap.size A xs := by
  by_cases hn : 0 < n
  · obtain ⟨g, cap, hv, _, hlt⟩ := h.form hn
    have hA : A = some ⟨g, 0, none⟩ := by injection hv
    subst hA
    refine .inr ⟨g, 0, rfl, hlt, fun j v hv => ?_⟩
    have := h.cells (g := g) rfl j v hv
    rw [Nat.zero_add]
    rw [addPlain, Nat.zero_add] at this
    exact this
  · have h0 : n = 0 := by omega
    subst h0
    have := h.1
    exact .inl (List.eq_nil_of_length_eq_zero (by simpa using this))

theorem own_feAt {w : World} {base n : Nat} {v : Value} {xs : List Value} (h : w.ownsRow base 24 5 v n xs) : ∃ A c, v = .slice A n c ∧ RowAt w (fun q => base ≤ q) A xs := by
  obtain ⟨A, c, rfl, _, _⟩ := own_form h
  refine ⟨A, c, rfl, ?_⟩
  rcases row_ownS5 h with e | ⟨b, o, e, hb, hc⟩
  · exact .inl e
  · subst e
    exact .inr ⟨b, o, rfl, (h.lt b rfl).1, hb, hc⟩
set_option maxHeartbeats 4000000 in
set_option maxRecDepth 100000 in
theorem clone_all : ∀ (m : Nat) (t : FE) (w : World), fsz t ≤ m → FeIn w w.heap.size t → FeSz t → Calls Tryz.prog 12 #[feV t] w fun e w' => ∃ k a b nm A c ks A' c' ks', t = .node k a b nm A c ks ∧ e = .returned (feV (.node k a b nm A' c' ks')) ∧ ks'.length = ks.length ∧ FeAt w' (fun q => w.heap.size ≤ q) (.node k a b nm A' c' ks') ∧ Below w.heap.size w w'
  | 0, t, w, h, _, _ => by have := fsz_pos t; omega
  | m + 1, .node k a b nm A c ks, w, hf, hin, hsz => by
    have ih := clone_all m
    obtain ⟨hl, hks⟩ : ks.length * 64 ≤ 140737488355328 ∧ ∀ x ∈ ks, FeSz x := by cases hsz with | mk h1 h2 => exact ⟨h1, h2⟩
    obtain ⟨i1, i2, i3, i4, i5, i6, i7⟩ : I64 k ∧ I64 a ∧ I64 b ∧ nm.size ≤ maxLen ∧ ks.length ≤ maxLen ∧ Row w w.heap.size A (ks.flatMap feF) ∧ ∀ x ∈ ks, FeIn w w.heap.size x := by cases hin with | mk h1 h2 h3 h4 h5 h6 h7 => exact ⟨h1, h2, h3, h4, h5, h6, h7⟩
    have hf2 : fszL ks ≤ m := by simp only [fsz] at hf; omega
    have HIH := Lib.hid (fun (x : FE) (hx : x ∈ ks) (W : World) (hb : Below w.heap.size w W) => ih x W (Nat.le_trans (fsz_kid ks x hx) hf2) ((i7 x hx).next hb hb.size) (hks x hx))
    have HRow := Lib.hid i6
    obtain ⟨i0, hi0, hz0, hz1, hz2⟩ := info_parts infoFe
    have HFin : Hid (∀ (w' : World) (A' : Option Addr) (c' : Nat) (ks' : List FE), ks'.length = ks.length → RowAt w' (fun q => w.heap.size ≤ q) A' (ks'.flatMap feF) → (∀ x ∈ ks', FeAt w' (fun q => w.heap.size ≤ q) x) → FeAt w' (fun q => w.heap.size ≤ q) (.node k a b nm A' c' ks')) := fun w' A' c' ks' h1 h2 h3 => .mk i1 i2 i3 i4 (by rw [h1]; exact i5) h2 h3
    clear hf hin hsz ih i1 i2 i3 i4 i6 i7 hks hf2
    have HX := Lib.hid ((Box.new w 24 #[.int .i64 k, .int .i64 a, .int .i64 b, .string nm, .slice A ks.length c]).alloc (Obj.cells #[.int .i64 0, .int .i64 0, .int .i64 0, .string ⟨#[]⟩, .slice none 0 0] 24))
    have HR := Lib.hid (Box.new (w.alloc (Obj.cells #[.int .i64 k, .int .i64 a, .int .i64 b, .string nm, .slice A ks.length c] 24)) 24 #[.int .i64 0, .int .i64 0, .int .i64 0, .string ⟨#[]⟩, .slice none 0 0])
    rw [World.size_alloc] at HR
    have HB := Lib.hid (below_alloc2 w (Obj.cells #[.int .i64 k, .int .i64 a, .int .i64 b, .string nm, .slice A ks.length c] 24) (Obj.cells #[.int .i64 0, .int .i64 0, .int .i64 0, .string ⟨#[]⟩, .slice none 0 0] 24))
    show Calls Tryz.prog 12 #[.agg #[.int .i64 k, .int .i64 a, .int .i64 b, .string nm, .slice A ks.length c]] w _
    go_enter Tryz.func12, Tryz.ntmps12
    go_upto_region 2 with fail
    obtain ⟨g, hg⟩ : ∃ g, g = w.heap.size := ⟨_, rfl⟩
    have hW0s : ((w.alloc (Obj.cells #[.int .i64 k, .int .i64 a, .int .i64 b, .string nm, .slice A ks.length c] 24)).alloc (Obj.cells #[.int .i64 0, .int .i64 0, .int .i64 0, .string ⟨#[]⟩, .slice none 0 0] 24)).heap.size = g + 2 := by rw [World.size_alloc, World.size_alloc, hg]
    rw [← hg] at HX HR HB HFin HIH HRow ⊢
    generalize (w.alloc (Obj.cells #[.int .i64 k, .int .i64 a, .int .i64 b, .string nm, .slice A ks.length c] 24)).alloc (Obj.cells #[.int .i64 0, .int .i64 0, .int .i64 0, .string ⟨#[]⟩, .slice none 0 0] 24) = W0 at *
    have HGg := Lib.hid hg
    clear hg
    have x4 : W0.cell? ⟨g, 4, none⟩ = some (.slice A ks.length c) := HX.out.cell 4
    go_wp2_with fail
    clear x4
    go_loopw [3, 5, 9] (fun s3 _ i wr => ∃ (j : Nat) (ks' : List FE), j ≤ ks.length ∧ ks'.length = j ∧ i = .int .i64 (j : Int) ∧ Hid (wr.ownsRow (g + 2) 24 5 s3 j (ks'.flatMap feF)) ∧ Hid (∀ x ∈ ks', FeAt wr (fun q => g + 2 ≤ q ∧ s3.ownBlock ≠ some q) x) ∧ Hid (Below W0.heap.size W0 wr)) (fun _ _ i _ => ks.length - (intOf i).toNat)
    case atStart => exact ⟨0, [], by omega, rfl, rfl, World.ownsRow_nil _ _ _ _, (fun (x : FE) (hx : x ∈ ([] : List FE)) => absurd hx List.not_mem_nil), Below.refl _ _⟩
    case round =>
      obtain ⟨j, ks', hj, hkl, rfl, hown, hkids, hbr⟩ := hrel
      rename World => w5
      by_cases hlt : j < ks.length
      · obtain ⟨bK, oK, hA, hbl, hcs⟩ := HRow.out.open_ (flat_ne feF_len (by omega) ks (by omega))
        have hcr : ∀ q v, (ks.flatMap feF)[q]? = some v → w5.cell? ⟨bK, oK + q, none⟩ = some v := fun q v hq => ((HB.out.trans (hbr.out.mono (by omega))).cell (p := ⟨bK, oK + q, none⟩) hbl).trans (hcs q v hq)
        have hxm := fe_mem_eq hlt
        have hcl := HIH.out _ hxm
        obtain ⟨x, hx⟩ : ∃ x, x = ks.getD j fe0 := ⟨_, rfl⟩
        have d0 := fun z v hz hv => flat_cell feF_len fe0 hcr j z hlt hz v hv
        rw [← hx] at hcl d0
        obtain ⟨k1, a1, b1, nm1, A1, c1, ks1⟩ := x
        have e0 := d0 0 _ (by omega) rfl
        have e1 := d0 1 _ (by omega) rfl
        have e2 := d0 2 _ (by omega) rfl
        have e3 := d0 3 _ (by omega) rfl
        have e4 := d0 4 _ (by omega) rfl
        rw [Nat.add_zero] at e0
        clear d0 hcr hcs hx hxm
        subst hA
        have t5 : decide ((j : Int) < (ks.length : Int)) = true := decide_eq_true (by omega)
        go_upto_region 5 with fail
        obtain ⟨gk, hgk⟩ : ∃ gk, gk = w5.heap.size := ⟨_, rfl⟩
        have hb6 := below_alloc1 w5 (Obj.cells #[.int .i64 k1, .int .i64 a1, .int .i64 b1, .string nm1, .slice A1 ks1.length c1] 24)
        have hx6 := Box.new w5 24 #[.int .i64 k1, .int .i64 a1, .int .i64 b1, .string nm1, .slice A1 ks1.length c1]
        rw [← hgk] at hx6 ⊢
        have hg5 : g + 2 ≤ w5.heap.size := by have := hbr.out.size; omega
        have hkl2 : w5.heap.size + 1 = (w5.alloc (Obj.cells #[.int .i64 k1, .int .i64 a1, .int .i64 b1, .string nm1, .slice A1 ks1.length c1] 24)).heap.size := (World.size_alloc ..).symm
        generalize w5.alloc (Obj.cells #[.int .i64 k1, .int .i64 a1, .int .i64 b1, .string nm1, .slice A1 ks1.length c1] 24) = w6 at *
        obtain ⟨z0, z1, z2, z3, z4⟩ := fecells hx6
        have HCl : Hid (Calls Tryz.prog 12 #[.agg #[.int .i64 k1, .int .i64 a1, .int .i64 b1, .string nm1, .slice A1 ks1.length c1]] w6 fun e w' => ∃ (k2 a2 b2 : Int) (nm2 : ByteArray) (A2 : Option Addr) (c2 : Nat) (ks2 : List FE), e = .returned (.agg #[.int .i64 k2, .int .i64 a2, .int .i64 b2, .string nm2, .slice A2 ks2.length c2]) ∧ FeAt w' (fun q => w6.heap.size ≤ q) (.node k2 a2 b2 nm2 A2 c2 ks2) ∧ Below w6.heap.size w6 w') :=
          (hcl w6 (HB.out.trans ((hbr.out.mono (by omega)).trans (hb6.mono (by omega))))).mono fun e w' ⟨k, a, b, nm, A, c, ks, A', c', ks', _, he, _, hat, hb⟩ => ⟨k, a, b, nm, A', c', ks', he, hat, hb⟩
        have HB6 := Lib.hid (below_then hbr.out hb6)
        have HOw6 := Lib.hid (own_next hown.out hb6)
        have HK5 := Lib.hid hkids.out
        have HBl := Lib.hid hb6
        have HOw5 := Lib.hid hown.out
        clear hcl hbr hown hkids hb6 hgk e0 e1 e2 e3 e4 hx6
        go_wp2_with (first
          | (go_at_call 12; refine HCl.out.mono ?_; rintro e w7 ⟨k2, a2, b2, nm2, A2, c2, ks2, rfl, hat, hb7⟩; have HB7 := Lib.hid hb7; have HAt := Lib.hid hat; have HO7 := Lib.hid (own_next (own_next HOw6.out hb7) (below_alloc1 w7 (Obj.cells #[.int .i64 k2, .int .i64 a2, .int .i64 b2, .string nm2, .slice A2 ks2.length c2] 24))); have hs7 := hb7.size; clear hb7 hat)
          | (at_builtin; refine wpList_append_own_at _ rfl (.tmp 13) (.tmp 16) 22 rfl (g + 2) 24 i0 (.agg #[.int .i64 0, .int .i64 0, .int .i64 0, .string ⟨#[]⟩, .slice none 0 0]) 5 64 Tryz.underlying22 hi0 hz0 hz1 hz2 rfl (by decide) u3 j (ks'.flatMap feF) rfl HO7.out ⟨w7.heap.size, 0, none⟩ 1 1 (feF (.node k2 a2 b2 nm2 A2 c2 ks2)) rfl ?c0 ?c1 ?c2 ?c3 ?c4 ?c5 ?_))
        case c0 => rfl
        case c1 => exact newsOf (fun z v hv => by have := (Box.new w7 24 #[.int .i64 k2, .int .i64 a2, .int .i64 b2, .string nm2, .slice A2 ks2.length c2]).cell (0 + z); rw [this, Nat.zero_add, List.getElem?_toArray]; exact hv)
        case c2 => have := feF_one [.node k2 a2 b2 nm2 A2 c2 ks2]; simpa using this
        case c3 => simp only [maxLen]; omega
        case c4 => omega
        case c5 => simp; omega
        intro v' w9 hown9 hgrow _ hor
        have hz8 : (w7.alloc (Obj.cells #[.int .i64 k2, .int .i64 a2, .int .i64 b2, .string nm2, .slice A2 ks2.length c2] 24)).heap.size = w7.heap.size + 1 := World.size_alloc ..
        have h57 : Below w5.heap.size w5 w7 := HBl.out.trans (HB7.out.mono (by omega))
        have hu : ∀ q, u3.ownBlock = some q → q < w5.heap.size := fun q hq => (HOw5.out.lt q hq).2
        have HNew : Hid (∀ x ∈ ks' ++ [FE.node k2 a2 b2 nm2 A2 c2 ks2], FeAt w9 (fun q => g + 2 ≤ q ∧ v'.ownBlock ≠ some q) x) := fun x hx => by
          have hgz := hgrow.size
          rcases List.mem_append.1 hx with hx | hx
          · refine (HK5.out x hx).keep (fun q hq hq2 => ⟨?_, hq.1, ?_⟩) (by have := h57.size; omega)
            · exact (hgrow.block q (by rw [hz8]; have := h57.size; omega) (fun e => hq.2 e.symm)).trans ((Below.heap_alloc _ _ _ (by have := h57.size; omega)).trans (h57.block q hq2))
            · rcases hor with e | e
              · rw [e]; exact hq.2
              · rw [e]; intro e2; injection e2 with e2; have := h57.size; omega
          · rw [List.mem_singleton.1 hx]
            refine HAt.out.keep (fun q hq hq2 => ⟨?_, by omega, ?_⟩) (by omega)
            · exact (hgrow.block q (by rw [hz8]; omega) (fun e => by have := hu q e.symm; omega)).trans (Below.heap_alloc _ _ _ hq2)
            · rcases hor with e | e
              · rw [e]; intro e2; have := hu q e2; omega
              · rw [e]; intro e2; injection e2 with e2; omega
        have HOw9 : Hid (w9.ownsRow (g + 2) 24 5 v' (j + 1) ((ks' ++ [FE.node k2 a2 b2 nm2 A2 c2 ks2]).flatMap feF)) := by
          unfold Hid
          rw [List.flatMap_append]
          simpa using hown9
        have HB9 : Hid (Below W0.heap.size W0 w9) := ((HB6.out.trans (HB7.out.mono (HB6.out.size))).trans ((below_alloc1 w7 _).mono (by have := HB6.out.size; omega))).grown hgrow (by rw [hz8]; have := HB6.out.size; omega) (fun q hq => by have := own_base HOw5.out q hq; omega)
        clear hown9 hgrow hor hu h57 hz8 z0 z1 z2 z3 z4 HK5 HAt HB7 HO7
        go_wp2_with fail
        go_roundw
        case rel => exact ⟨j + 1, ks' ++ [FE.node k2 a2 b2 nm2 A2 c2 ks2], by omega, by simp [hkl], by go_num, HOw9, HNew, HB9⟩
        case measure => simp [intOf]; omega
      · have t5 : decide ((j : Int) < (ks.length : Int)) = false := decide_eq_false (by omega)
        have hje : j = ks.length := by omega
        obtain ⟨A3, c3, hv3, hra⟩ := own_feAt hown.out
        have hx5 := HX.out.below hbr.out
        have hr5 := HR.out.below hbr.out
        have HFz := Lib.hid hkids.out
        have hb5 : Below g w w5 := HB.out.trans (hbr.out.mono (by omega))
        have hs5 : g + 2 ≤ w5.heap.size := by have := hbr.out.size; omega
        subst hv3
        have hgr : g ≠ g + 1 := by omega
        obtain ⟨z0, z1, z2, z3, z4⟩ := fecells hx5
        obtain ⟨y0, y1, y2, y3, y4⟩ := fecells hr5
        have f4 := hx5.free 4
        have fr0 := hr5.free 0
        have fr1 := hr5.free 1
        have fr2 := hr5.free 2
        have fr3 := hr5.free 3
        have fr4 := hr5.free 4
        have lg := hx5.lt
        have lr := hr5.lt
        clear hown hkids hbr HX HR HB HRow HIH
        go_wp2_with fail
        have q0 := hr5.far (p := ⟨g, 4, none⟩) (by show g + 1 ≠ g; omega) (.slice A3 ks.length c3)
        have q5 := ((((q0.set_ 0 (.int .i64 k)).set_ 1 (.int .i64 a)).set_ 2 (.int .i64 b)).set_ 3 (.string nm)).set_ 4 (.slice A3 ks.length c3)
        have q6 : Box ((((((w5.setCell ⟨g, 4, none⟩ (.slice A3 ks.length c3)).setCell ⟨g + 1, 0, none⟩ (.int .i64 k)).setCell ⟨g + 1, 1, none⟩ (.int .i64 a)).setCell ⟨g + 1, 2, none⟩ (.int .i64 b)).setCell ⟨g + 1, 3, none⟩ (.string nm)).setCell ⟨g + 1, 4, none⟩ (.slice A3 ks.length c3)) (g + 1) 24 #[.int .i64 k, .int .i64 a, .int .i64 b, .string nm, .slice A3 ks.length c3] := q5
        have hbF : Below g w ((((((w5.setCell ⟨g, 4, none⟩ (.slice A3 ks.length c3)).setCell ⟨g + 1, 0, none⟩ (.int .i64 k)).setCell ⟨g + 1, 1, none⟩ (.int .i64 a)).setCell ⟨g + 1, 2, none⟩ (.int .i64 b)).setCell ⟨g + 1, 3, none⟩ (.string nm)).setCell ⟨g + 1, 4, none⟩ (.slice A3 ks.length c3)) :=
          (((((hb5.setCell (p := ⟨g, 4, none⟩) (Nat.le_refl g) _).setCell (p := ⟨g + 1, 0, none⟩) (Nat.le_succ g) _).setCell (p := ⟨g + 1, 1, none⟩) (Nat.le_succ g) _).setCell (p := ⟨g + 1, 2, none⟩) (Nat.le_succ g) _).setCell (p := ⟨g + 1, 3, none⟩) (Nat.le_succ g) _).setCell (p := ⟨g + 1, 4, none⟩) (Nat.le_succ g) _
        have hkp : ∀ q, g + 2 ≤ q → ((((((w5.setCell ⟨g, 4, none⟩ (.slice A3 ks.length c3)).setCell ⟨g + 1, 0, none⟩ (.int .i64 k)).setCell ⟨g + 1, 1, none⟩ (.int .i64 a)).setCell ⟨g + 1, 2, none⟩ (.int .i64 b)).setCell ⟨g + 1, 3, none⟩ (.string nm)).setCell ⟨g + 1, 4, none⟩ (.slice A3 ks.length c3)).heap[q]? = w5.heap[q]? := fun q hq => by
          rw [Below.heap_setCell _ ⟨g + 1, 4, none⟩ _ q (by show q ≠ g + 1; omega), Below.heap_setCell _ ⟨g + 1, 3, none⟩ _ q (by show q ≠ g + 1; omega), Below.heap_setCell _ ⟨g + 1, 2, none⟩ _ q (by show q ≠ g + 1; omega), Below.heap_setCell _ ⟨g + 1, 1, none⟩ _ q (by show q ≠ g + 1; omega), Below.heap_setCell _ ⟨g + 1, 0, none⟩ _ q (by show q ≠ g + 1; omega), Below.heap_setCell _ ⟨g, 4, none⟩ _ q (by show q ≠ g; omega)]
        have hszF : w5.heap.size ≤ ((((((w5.setCell ⟨g, 4, none⟩ (.slice A3 ks.length c3)).setCell ⟨g + 1, 0, none⟩ (.int .i64 k)).setCell ⟨g + 1, 1, none⟩ (.int .i64 a)).setCell ⟨g + 1, 2, none⟩ (.int .i64 b)).setCell ⟨g + 1, 3, none⟩ (.string nm)).setCell ⟨g + 1, 4, none⟩ (.slice A3 ks.length c3)).heap.size := by simp [World.size_setCell]
        generalize (((((w5.setCell ⟨g, 4, none⟩ (.slice A3 ks.length c3)).setCell ⟨g + 1, 0, none⟩ (.int .i64 k)).setCell ⟨g + 1, 1, none⟩ (.int .i64 a)).setCell ⟨g + 1, 2, none⟩ (.int .i64 b)).setCell ⟨g + 1, 3, none⟩ (.string nm)).setCell ⟨g + 1, 4, none⟩ (.slice A3 ks.length c3) = wF at *
        obtain ⟨r0, r1, r2, r3, r4⟩ := fecells q6
        have hA := HFin.out wF A3 c3 ks' (by rw [hkl, hje]) (by rw [← hje] at *; exact hra.keep (fun q hq hq2 => ⟨hkp q hq, by show g ≤ q; have : g + 2 ≤ q := hq; omega⟩) hszF) (fun x hx => (HFz.out x hx).keep (fun q hq hq2 => ⟨hkp q hq.1, by have := hq.1; show g ≤ q; omega⟩) hszF)
        refine bodyPost_ret (v := .agg #[.int .i64 k, .int .i64 a, .int .i64 b, .string nm, .slice A3 ks.length c3]) (by simp [results, Tryz.results12, go_sem, r0, r1, r2, r3, r4]) rfl ?_
        rw [← HGg.out]
        exact ⟨k, a, b, nm, A, c, ks, A3, c3, ks', rfl, by rw [feV, hkl, hje], by rw [hkl, hje], hA, hbF⟩
end Go.Proofs.YtabkggckafnlkaaGreatDoor

/- endless.Days and Every: the iterators that they make. -/
namespace Go.Proofs.YtabkggckafnlkaaGreatDoor
open Go Go.RowKit Go.Shelf
set_option linter.unusedVariables false

/-- a function value that gives a list, in every world that has grown -/
def ItAt (W0 : World) (c m gf : Nat) (lb : Array Value) (xs : List Int) : Prop := ∀ n W, m ≤ n → Below W0.heap.size W0 W → SeqI n c W0.heap.size Tryz.prog gf lb (fun x : Int => .int .i64 x) xs W
theorem evyL_evyL {α : Type} (n m : Nat) (hn : 1 ≤ n) (hm : 1 ≤ m) : ∀ (l : List α) (j : Nat), evyL m ((j + (n - 1)) / n) (evyL n j l) = evyL (n * m) j l
  | [], j => by simp [evyL]
  | x :: l, j => by
    have ih := evyL_evyL n m hn hm l (j + 1)
    have hq : j = n * (j / n) + j % n := (Nat.div_add_mod j n).symm
    have hlt := Nat.mod_lt j (show 0 < n by omega)
    generalize j / n = q at hq
    generalize j % n = r at hq hlt
    simp only [evyL]
    by_cases hr : r = 0
    · have hj : j % n = 0 := by rw [hq, hr, Nat.add_zero, Nat.mul_mod_right]
      have h1 : (j + (n - 1)) / n = q := by
        rw [hq, hr, Nat.add_zero, Nat.mul_add_div (by omega), Nat.div_eq_of_lt (by omega), Nat.add_zero]
      have h2 : (j + 1 + (n - 1)) / n = q + 1 := by
        rw [show j + 1 + (n - 1) = n * (q + 1) by rw [hq, hr, Nat.mul_add, Nat.mul_one]; omega, Nat.mul_div_cancel_left _ (by omega)]
      have h3 : (q % m = 0) = (j % (n * m) = 0) := by
        rw [hq, hr, Nat.add_zero, Nat.mul_mod_mul_left]
        exact propext ⟨fun h => by rw [h, Nat.mul_zero], fun h => by
          rcases Nat.mul_eq_zero.1 h with h | h
          · omega
          · exact h⟩
      rw [if_pos hj, h1]
      simp only [evyL]
      rw [h2] at ih
      rw [ih]
      simp only [h3]
    · have hj : ¬ j % n = 0 := by rw [hq, Nat.mul_add_mod, Nat.mod_eq_of_lt hlt]; exact hr
      have h1 : (j + (n - 1)) / n = (j + 1 + (n - 1)) / n := by
        have a1 : (j + (n - 1)) / n = q + 1 := by
          rw [show j + (n - 1) = n * (q + 1) + (r - 1) by rw [Nat.mul_add, Nat.mul_one]; omega, Nat.mul_add_div (by omega), Nat.div_eq_of_lt (by omega), Nat.add_zero]
        have a2 : (j + 1 + (n - 1)) / n = q + 1 := by
          rw [show j + 1 + (n - 1) = n * (q + 1) + r by rw [Nat.mul_add, Nat.mul_one]; omega, Nat.mul_add_div (by omega), Nat.div_eq_of_lt hlt, Nat.add_zero]
        rw [a1, a2]
      have h3 : ¬ j % (n * m) = 0 := fun h => hj (by
        have hd : n * m ∣ j := Nat.dvd_of_mod_eq_zero h
        exact Nat.mod_eq_zero_of_dvd (Nat.dvd_trans ⟨m, rfl⟩ hd))
      rw [if_neg hj, if_neg h3, h1]
      exact ih
theorem evyL_two {α : Type} (n m : Nat) (hn : 1 ≤ n) (hm : 1 ≤ m) (l : List α) : evyL m 0 (evyL n 0 l) = evyL (n * m) 0 l := by
  have h := evyL_evyL n m hn hm l 0
  rwa [Nat.zero_add, Nat.div_eq_of_lt (by omega)] at h
set_option maxHeartbeats 2000000 in
set_option maxRecDepth 100000 in
theorem Days_any (t : FE) (d : Int) (w : World) (hd : -4000000 ≤ d ∧ d ≤ 4000000) (hin : FeIn w w.heap.size t) (hsz : FeSz t) (hv : Env w) : Calls Tryz.prog 6 #[feV t, .int .i64 d] w fun e w' =>
    ∃ gd gt t' xs, e = .returned (daysF gd gt) ∧ DaysL t' d xs ∧ ItAt w' 0 3 13 #[.pointer (some ⟨gd, 0, none⟩), .pointer (some ⟨gt, 0, none⟩)] xs ∧ Below w.heap.size w w' ∧ ∃ k a b nm A c ks A' c' ks', t = .node k a b nm A c ks ∧ t' = .node k a b nm A' c' ks' ∧ ks'.length = ks.length := by
  obtain ⟨t0, ht0⟩ : ∃ t0, t0 = t := ⟨_, rfl⟩
  have HCl := Lib.hid (fun W (h : Below w.heap.size w W) => clone_all (fsz t) t W (Nat.le_refl _) (hin.next h h.size) hsz)
  obtain ⟨k, a, b, nm, A, c, ks⟩ := t
  have HB := Lib.hid (below_alloc2 w (Obj.cells #[.int .i64 k, .int .i64 a, .int .i64 b, .string nm, .slice A ks.length c] 24) (Obj.cells #[.int .i64 d] 3))
  have HX := Lib.hid ((Box.new w 24 #[.int .i64 k, .int .i64 a, .int .i64 b, .string nm, .slice A ks.length c]).alloc (Obj.cells #[.int .i64 d] 3))
  have HD := Lib.hid (Box.new (w.alloc (Obj.cells #[.int .i64 k, .int .i64 a, .int .i64 b, .string nm, .slice A ks.length c] 24)) 3 #[.int .i64 d])
  rw [World.size_alloc] at HD
  rw [← ht0] at HCl
  have hfe : feV t0 = .agg #[.int .i64 k, .int .i64 a, .int .i64 b, .string nm, .slice A ks.length c] := by rw [ht0]; rfl
  rw [hfe] at HCl
  have HT0 := Lib.hid ht0
  have HV := Lib.hid hv
  clear hin hsz hv ht0 hfe
  show Calls Tryz.prog 6 #[.agg #[.int .i64 k, .int .i64 a, .int .i64 b, .string nm, .slice A ks.length c], .int .i64 d] w _
  go_enter Tryz.func6, Tryz.ntmps6
  go_upto_region 1 with fail
  obtain ⟨g, hg⟩ : ∃ g, g = w.heap.size := ⟨_, rfl⟩
  have hWs : ((w.alloc (Obj.cells #[.int .i64 k, .int .i64 a, .int .i64 b, .string nm, .slice A ks.length c] 24)).alloc (Obj.cells #[.int .i64 d] 3)).heap.size = g + 2 := by rw [World.size_alloc, World.size_alloc, hg]
  rw [← hg] at HX HD ⊢
  generalize (w.alloc (Obj.cells #[.int .i64 k, .int .i64 a, .int .i64 b, .string nm, .slice A ks.length c] 24)).alloc (Obj.cells #[.int .i64 d] 3) = W0 at *
  obtain ⟨z0, z1, z2, z3, z4⟩ := fecells HX.out
  have HCl1 : Hid (Calls Tryz.prog 12 #[.agg #[.int .i64 k, .int .i64 a, .int .i64 b, .string nm, .slice A ks.length c]] W0 fun e w' => ∃ (k2 a2 b2 : Int) (nm2 : ByteArray) (A2 : Option Addr) (c2 : Nat) (ks2 : List FE), e = .returned (.agg #[.int .i64 k2, .int .i64 a2, .int .i64 b2, .string nm2, .slice A2 ks2.length c2]) ∧ (k2 = k ∧ a2 = a ∧ b2 = b ∧ nm2 = nm ∧ ks2.length = ks.length) ∧ FeAt w' (fun q => W0.heap.size ≤ q) (.node k2 a2 b2 nm2 A2 c2 ks2) ∧ Below W0.heap.size W0 w') :=
    (HCl.out W0 HB.out).mono fun e w' ⟨k1, a1, b1, nm1, A1, c1, ks1, A', c', ks', hn, he, hl, hat, hb⟩ => by
      rw [HT0.out] at hn
      injection hn with e1 e2 e3 e4 e5 e6 e7
      exact ⟨k1, a1, b1, nm1, A', c', ks', he, ⟨e1.symm, e2.symm, e3.symm, e4.symm, by rw [hl, e7]⟩, hat, hb⟩
  have HGg := Lib.hid hg
  clear hg HCl
  go_upto_region 2 with (go_at_call 12; refine HCl1.out.mono ?_; rintro e w1 ⟨k2, a2, b2, nm2, A2, c2, ks2, rfl, hsame, hat, hb1⟩; have hx1 := HX.out.below hb1; have hd1 := HD.out.below hb1; obtain ⟨y0, y1, y2, y3, y4⟩ := fecells hx1; have f0 := hx1.free 0; have f1 := hx1.free 1; have f2 := hx1.free 2; have f3 := hx1.free 3; have f4 := hx1.free 4; have lx := hx1.lt)
  obtain ⟨e1, e2, e3, e4, e5⟩ := hsame
  rw [e1, e2, e3, e4] at hat
  have q5 := ((((hx1.set_ 0 (.int .i64 k)).set_ 1 (.int .i64 a)).set_ 2 (.int .i64 b)).set_ 3 (.string nm)).set_ 4 (.slice A2 ks.length c2)
  have q6 : Box (((((w1.setCell ⟨g, 0, none⟩ (.int .i64 k)).setCell ⟨g, 1, none⟩ (.int .i64 a)).setCell ⟨g, 2, none⟩ (.int .i64 b)).setCell ⟨g, 3, none⟩ (.string nm)).setCell ⟨g, 4, none⟩ (.slice A2 ks.length c2)) g 24 #[.int .i64 k, .int .i64 a, .int .i64 b, .string nm, .slice A2 ks.length c2] := q5
  have hn1 : g + 1 ≠ g := by omega
  have q7 := ((((hd1.far (p := ⟨g, 0, none⟩) hn1 (.int .i64 k)).far (p := ⟨g, 1, none⟩) hn1 (.int .i64 a)).far (p := ⟨g, 2, none⟩) hn1 (.int .i64 b)).far (p := ⟨g, 3, none⟩) hn1 (.string nm)).far (p := ⟨g, 4, none⟩) hn1 (.slice A2 ks.length c2)
  have hbW : Below g w w1 := by
    have h := HB.out
    rw [← HGg.out] at h
    exact h.trans (hb1.mono (by omega))
  have q8 := ((((hbW.setCell (p := ⟨g, 0, none⟩) (Nat.le_refl g) (.int .i64 k)).setCell (p := ⟨g, 1, none⟩) (Nat.le_refl g) (.int .i64 a)).setCell (p := ⟨g, 2, none⟩) (Nat.le_refl g) (.int .i64 b)).setCell (p := ⟨g, 3, none⟩) (Nat.le_refl g) (.string nm)).setCell (p := ⟨g, 4, none⟩) (Nat.le_refl g) (.slice A2 ks.length c2)
  have hkp : ∀ q, g + 2 ≤ q → (((((w1.setCell ⟨g, 0, none⟩ (.int .i64 k)).setCell ⟨g, 1, none⟩ (.int .i64 a)).setCell ⟨g, 2, none⟩ (.int .i64 b)).setCell ⟨g, 3, none⟩ (.string nm)).setCell ⟨g, 4, none⟩ (.slice A2 ks.length c2)).heap[q]? = w1.heap[q]? := fun q hq => by
    rw [Below.heap_setCell _ ⟨g, 4, none⟩ _ q (by show q ≠ g; omega), Below.heap_setCell _ ⟨g, 3, none⟩ _ q (by show q ≠ g; omega), Below.heap_setCell _ ⟨g, 2, none⟩ _ q (by show q ≠ g; omega), Below.heap_setCell _ ⟨g, 1, none⟩ _ q (by show q ≠ g; omega), Below.heap_setCell _ ⟨g, 0, none⟩ _ q (by show q ≠ g; omega)]
  have hszF : w1.heap.size ≤ (((((w1.setCell ⟨g, 0, none⟩ (.int .i64 k)).setCell ⟨g, 1, none⟩ (.int .i64 a)).setCell ⟨g, 2, none⟩ (.int .i64 b)).setCell ⟨g, 3, none⟩ (.string nm)).setCell ⟨g, 4, none⟩ (.slice A2 ks.length c2)).heap.size := by simp [World.size_setCell]
  generalize ((((w1.setCell ⟨g, 0, none⟩ (.int .i64 k)).setCell ⟨g, 1, none⟩ (.int .i64 a)).setCell ⟨g, 2, none⟩ (.int .i64 b)).setCell ⟨g, 3, none⟩ (.string nm)).setCell ⟨g, 4, none⟩ (.slice A2 ks.length c2) = wF at *
  have hinF : FeIn wF wF.heap.size (.node k a b nm A2 c2 ks2) := (hat.keep (p' := fun _ => True) (fun q hq hq2 => ⟨hkp q (by rw [← hWs]; exact hq), trivial⟩) hszF).in_
  have hvF : Env wF := HV.out.next (by rw [← HGg.out]; exact q8)
  obtain ⟨xs, hxs⟩ := daysL_ex (.node k a b nm A2 c2 ks2) (4000001 - d).toNat d (by omega)
  have hgt : Box wF g 24 (feC (.node k a b nm A2 c2 ks2)) := by
    show Box wF g 24 #[.int .i64 k, .int .i64 a, .int .i64 b, .string nm, .slice A2 ks2.length c2]
    rw [e5]
    exact q6
  have HFin : Hid (∃ gd gt t' xs, (daysF (g + 1) g = daysF gd gt) ∧ DaysL t' d xs ∧ ItAt wF 0 3 13 #[.pointer (some ⟨gd, 0, none⟩), .pointer (some ⟨gt, 0, none⟩)] xs ∧ Below w.heap.size w wF ∧ ∃ k a b nm A c ks A' c' ks', t0 = .node k a b nm A c ks ∧ t' = .node k a b nm A' c' ks' ∧ ks'.length = ks.length) :=
    ⟨g + 1, g, _, xs, rfl, hxs, fun n W hn hW => days_SeqI n (g + 1) g hn _ d hd xs hxs wF q7 hgt hinF hvF W hW, by rw [← HGg.out]; exact q8, k, a, b, nm, A, c, ks, A2, c2, ks2, HT0.out, rfl, e5⟩
  clear e1 e2 e3 e4 e5 hat hx1 hd1 y0 y1 y2 y3 y4 f0 f1 f2 f3 f4 lx q5 q6 q7 q8 hbW hkp hszF hinF hvF hxs hgt hn1
  go_wp2_with fail
  go_ret
  obtain ⟨gd, gt, t', xs', h1, h2, h3, h4, h5⟩ := HFin.out
  rw [HT0.out] at h5
  exact ⟨gd, gt, t', xs', by rw [← h1]; rfl, h2, h3, h4, h5⟩
set_option maxRecDepth 100000 in
theorem Every_any (k c m gf : Nat) (lb : Array Value) (hk : 1 ≤ k) (hk2 : k ≤ 100) (xs : List Int) (W0 : World) (eg : ∀ args w, (callFunc gf args).run Tryz.prog w = .ok (.enter gf args) w) (hit : ItAt W0 c m gf lb xs) (w : World) (hw : Below W0.heap.size W0 w) :
    Calls Tryz.prog 5 #[.func (.func gf) #[] lb, .int .i64 (k : Int)] w fun e w' => ∃ gn gs, e = .returned (everyF gn gs) ∧ ItAt w' (4 + c) (m + 6) 11 #[.pointer (some ⟨gn, 0, none⟩), .pointer (some ⟨gs, 0, none⟩)] (evyL k 0 xs) ∧ Below w.heap.size w w' := by
  have hb := below_alloc2 w (Obj.cells #[.func (.func gf) #[] lb] 28) (Obj.cells #[.int .i64 (k : Int)] 3)
  have hx := (Box.new w 28 #[.func (.func gf) #[] lb]).alloc (Obj.cells #[.int .i64 (k : Int)] 3)
  have hn := Box.new (w.alloc (Obj.cells #[.func (.func gf) #[] lb] 28)) 3 #[.int .i64 (k : Int)]
  rw [World.size_alloc] at hn
  have HF : Hid (ItAt ((w.alloc (Obj.cells #[.func (.func gf) #[] lb] 28)).alloc (Obj.cells #[.int .i64 (k : Int)] 3)) (4 + c) (m + 6) 11 #[.pointer (some ⟨w.heap.size + 1, 0, none⟩), .pointer (some ⟨w.heap.size, 0, none⟩)] (evyL k 0 xs)) := fun n W hnm hW =>
    every_SeqI n (w.heap.size + 1) w.heap.size k c gf lb (by omega) hk hk2 xs W0 _ (hw.trans (hb.mono hw.size)) hn hx eg (fun V hV => hit (n - 1) V (by omega) hV) W hW
  have HB := Lib.hid hb
  clear hb hx hn hit
  go_enter Tryz.func5, Tryz.ntmps5
  go_wp2_with fail
  go_ret
  exact ⟨_, _, rfl, HF.out, HB.out⟩
end Go.Proofs.YtabkggckafnlkaaGreatDoor
