/- Cat1, Cat2, Cat3, Cat4, Cat5, Cat6, Cat7, Cat8 -/
import Derived.Laws.BytesString
import Derived.Test.YtoemghiejfkpbaaGreatDoorGPcJoin
import Derived.Test.YtoemghiejfkpbaaGreatDoorGParen1
import Derived.Test.YtoemghiejfkpbaaGreatDoorGCatOk
import Derived.Test.YtoemghiejfkpbaaGreatDoorGAr1
/- Contract of catalog.Names. -/
namespace Go.Proofs.YtoemghiejfkpbaaGreatDoor
open Go Go.RowKit Go.Shelf
attribute [local go_sem] Oper.semAt_some
set_option linter.unusedVariables false
set_option linter.unusedSimpArgs false
theorem Only.own {p : Nat → Prop} {A B : World} {base : Nat} {e : TypeId} {s n : Nat} {v : Value} {xs : List Value} (h : Only p A B) (ho : A.ownsRow base e s v n xs) (hp : ∀ k, base ≤ k → ¬ p k) : B.ownsRow base e s v n xs :=
 own_heap ho fun b hv => h.block b (own_lt ho b hv).2 (hp b (own_lt ho b hv).1)
theorem Shp.only {p : Nat → Prop} {A B : World} (h : Shp A) (ho : Only p A B) (hp : ¬ p 4) : Shp B := by
 obtain ⟨m, hm⟩ := h
 exact ⟨m, (World.cell?_of_block (ho.block _ (block_lt_of_cell hm) hp)).trans hm⟩
theorem Shp.lt {w : World} (h : Shp w) : 4 < w.heap.size := by
 obtain ⟨m, hm⟩ := h
 exact block_lt_of_cell hm
theorem infoStr : (Tryz.prog.info? 9).map (fun i => (i.zero, i.size, i.bytes)) = some (some (.string ⟨#[]⟩), 1, 16) := by kernel_rfl
theorem below_only {p : Nat → Prop} {A B : World} (n : Nat) (h : Only p A B) (hp : ∀ k, k < n → ¬ p k) (hn : n ≤ A.heap.size) : Below n A B := ⟨h.os, h.tape, h.output, h.size, fun k hk => h.block k (by omega) (hp k hk)⟩
def nmV (r : List UInt8) : Value := .string (str (Lib.cut r [32]).1)
def nmsV (pre : List (List UInt8)) : List Value := pre.map nmV
set_option maxRecDepth 100000 in
set_option maxHeartbeats 4000000 in
theorem names_any (w : World) (h : Shp w) : Calls Tryz.prog 18 #[] w fun e w' => ∃ v, e = .returned v ∧ w'.ownsRow w.heap.size 9 1 v 40 (nmsV catL) ∧ Below w.heap.size w w' := by
 refine (callsIn_wide (n := 3)).1 ?_
 refine callsIn_of_wp_marks Tryz.func18 rfl trivial ?_ rfl
 simp only [Tryz.ntmps18, List.size_toArray, List.length_cons, List.length_nil, Nat.reduceAdd, Nat.reduceSub, Array.replicate_succ, Array.replicate_zero, List.push_toArray, List.append_toArray, List.nil_append, List.cons_append]
 rw [lit_eq]
 case h => kernel_rfl
 have hT := table_len
 have hP := Lib.hid table_pieces
 have HS := Lib.hid (fun s sep W => SplitSeq_any s sep W)
 generalize tableL = T at *
 gi_wp2_with (refine ⟨trivial, ?_⟩; gi_at_call 33; refine (callsIn_wide.2 (HS.out _ _ _)).mono ?_; rintro e w' ⟨rfl, rfl⟩)
 have hB0 := Lib.hid (below_alloc1 w (Obj.cells #[.slice none 0 0] 27))
 have hO0 := Box.new w 27 #[.slice none 0 0]
 have hx := seqW_boxes (w.alloc (Obj.cells #[.slice none 0 0] 27)) (str T) ⟨#[10]⟩
 rw [World.size_alloc] at hx
 obtain ⟨x1, x2, x3, x4, x5⟩ := hx
 have hO := Lib.hid (hO0.belowB x4 (by omega))
 have hB := Lib.hid (hB0.out.trans (x4.mono (by omega)))
 have hS := Lib.hid (h.next hB.out)
 have hm := h.lt
 clear x4 hB0 hO0 HS h
 generalize seqW (w.alloc (Obj.cells #[.slice none 0 0] 27)) (str T) ⟨#[10]⟩ = W0 at *
 generalize hg : w.heap.size = g at *
 obtain ⟨i0, hi, hz0, hz1, hz2⟩ := info_parts infoStr
 refine wpIn_rangeFunc_C (F := Fence.wide) rfl (by omega) (gf := 102) (lb := #[.pointer (some ⟨g + 1 + 1, 0, none⟩), .pointer (some ⟨g + 1, 0, none⟩), .pointer (some ⟨g + 1 + 2, 0, none⟩)]) rfl trivial (enters_of Tryz.func102 (by kernel_rfl) rfl)
  (enc := fun x => .string (str x)) (own := fun k => k = g + 1) (kp := seqKeep (g + 1)) (xs := catL)
  (fun W hW => splitSeq_C _ (g + 1) (by omega) ⟨#[10]⟩ (by decide) (by decide) T (by omega) catL hP.out W (hW.box x1 id) (hW.box x2 id) (hW.box x3 id) (hS.out.only hW id) (by omega)) (fun k hk => .inl hk)
  (fun k hk => by rcases hk with h | h | h | h <;> omega) rfl
  (fun pre W => ∃ v, Box W g 27 #[v] ∧ W.ownsRow (g + 6) 9 1 v pre.length (nmsV pre) ∧ Below g w W ∧ Shp W)
  (fun _ _ _ => False)
  ?hI (fun _ _ _ _ h _ => h) ⟨_, hO.out, World.ownsRow_nil _ _ _ _, hB.out, hS.out⟩
  (fun x => { tmps := #[.slice none 0 0, .pointer (some ⟨g, 0, none⟩), .string (str x), undef, undef, undef, seqF (g + 1), .string (str x), undef, undef, undef, undef, undef, undef, undef, undef, undef, undef, undef], defers := [] }) ?assign ?body ?done ?stop
 case hI =>
  rintro pre A B ⟨v, h1, h2, h3, h4⟩ hAB
  have hAs := h1.lt
  refine ⟨v, hAB.box h1 (by omega), hAB.own h2 (fun k hk => by omega), h3.trans (below_only _ hAB (fun k hk => by omega) (by omega)), h4.only hAB (by omega)⟩
 case assign =>
  intro l x W K hK
  gi_wp2
  exact hK
 case body =>
  rintro l pre x rest W hxs hlt ⟨v, h1, h2, h3, h4⟩
  have hmem : x ∈ catL := by rw [hxs]; simp
  have hxl : x.length ≤ 300 := by
   obtain ⟨r, hr, rfl⟩ := List.mem_map.1 hmem
   exact line_len r hr
  have hpl : pre.length + 1 ≤ 40 := by
   have := congrArg List.length hxs
   rw [catL_len] at this
   simp at this
   omega
  have HC := Lib.hid (cutc_any (str x) 32 W (by rw [str_size]; omega) h4)
  rw [str_data] at HC
  have hv := h1.cell 0
  have hns : nmV x = .string (str (Lib.cut x [32]).1) := rfl
  generalize str (Lib.cut x [32]).1 = s1 at *
  generalize str (Lib.cut x [32]).2.1 = s2 at *
  generalize (Lib.cut x [32]).2.2 = s3 at *
  have hcat : nmsV (pre ++ [x]) = nmsV pre ++ [.string s1] := by unfold nmsV; rw [List.map_append, List.map_cons, List.map_nil, hns]
  have HH3 := Lib.hid h3
  have HH4 := Lib.hid h4
  clear h3 h4
  gi_wp2_with (first
   | (refine ⟨trivial, ?_⟩; gi_at_call 53; refine (CallsIn.inRound l (callsIn_wide.2 HC.out)).mono ?_; rintro e w1 ⟨rfl, hb⟩; have q1 := h1.below hb; have q2 := own_next h2 hb; have hsz := hb.size; have HB1 := Lib.hid hb; have hv1 := q1.cell 0; clear h1 h2 hb hv HC)
   | (gi_at_builtin; refine wpListIn_append_own _ rfl _ _ 27 rfl (g + 6) 9 i0 (.string ⟨#[]⟩) 1 16 Tryz.underlying27 hi hz0 hz1 hz2 rfl (by decide) _ _ _ rfl (q2.alloc _) ⟨w1.heap.size, 0, none⟩ 1 1 [.string s1] rfl rfl (cell_one_new _ _ _) (by simp [Value.oneCell']) (by unfold maxLen; omega) (by omega) (by simp; omega) ?_; intro v' w2 hown' hgrow _; obtain ⟨g', cap', rfl⟩ := ownsRow_succ hown'; obtain ⟨r1, r2, r3, r4, r5⟩ := Boxed.appended (show Boxed w1 g 27 v from q1) (by decide) (own_lower (base' := g) q2 (by omega)) (by omega) (by omega) (own_lower (base' := g) hown' (by omega)) hgrow; have hc2 := r1.cell; have hf2 := r1.frozen))
  have hq : ∀ k, g + 6 ≤ k → ¬ (seqKeep (g + 1) k ∨ k = W0.heap.size ∨ k = W0.heap.size + 1) := fun k hk => by omega
  have HO := (only_below (p := fun k => ¬ (seqKeep (g + 1) k ∨ k = W0.heap.size ∨ k = W0.heap.size + 1)) HB1.out).trans ((only_alloc w1 _).trans ((only_grown hgrow (fun k e => hq k (own_lt q2 k e).1)).trans (only_set w2 g 0 (.slice (some ⟨g', 0, none⟩) (pre.length + 1) cap') (by omega))))
  refine ⟨HO, .slice (some ⟨g', 0, none⟩) (pre.length + 1) cap', r2, ?_, (HH3.out.trans (HB1.out.mono (by omega))).trans r5, HH4.out.only HO (fun h => h (.inl (.inr (.inr (.inr rfl)))))⟩
  rw [hcat, List.length_append]
  exact own_set hown' _ _ (show g < g + 6 by omega)
 case done =>
  rintro W hlt ⟨v, h1, h2, h3, h4⟩ hK
  have hv := h1.cell 0
  gi_wp2
  refine ⟨by simp, .inl ⟨_, _, rfl, run_takeDeferred hK, ?_⟩⟩
  have hl := h1.lt
  exact ⟨_, results_tmp rfl _ _ _, v, rfl, by rw [hg]; exact own_lower (ownsRow_putObj h2 _ hK rfl) (by omega), by rw [hg]; exact h3.trans (below_only _ (only_put (p := fun k => k = W0.heap.size) W _ _ rfl) (fun k hk => by omega) (by omega))⟩
 case stop => exact fun c pre W _ _ h _ => h.elim
end Go.Proofs.YtoemghiejfkpbaaGreatDoor
/- Contract of catalog.even. -/
namespace Go.Proofs.YtoemghiejfkpbaaGreatDoor
open Go Go.RowKit
set_option linter.unusedVariables false
set_option linter.unusedSimpArgs false
def evB (L k : Nat) : List UInt8 := [109, 97 + UInt8.ofNat k, 32, 48 + UInt8.ofNat (L / 10), 48 + UInt8.ofNat (L % 10)]
def evL (L n : Nat) : List (List UInt8) := (List.range n).map (evB L)
def evV (L n : Nat) : List Value := (evL L n).map fun s => .string (str s)
theorem evV_succ (L n : Nat) : evV L (n + 1) = evV L n ++ [.string (str (evB L n))] := by simp [evV, evL, List.range_succ]
theorem join_S (s : List UInt8) : ∀ (l : List (List UInt8)) (a : List UInt8), Lib.join (a :: l) s = joinS s a l
 | [], a => by simp [Lib.join, List.intercalate, List.intersperse, joinS]
 | b :: l, a => by
  have ih := join_S s l b
  rw [joinS, ← ih]
  unfold Lib.join
  simp [List.intercalate, List.intersperse]
theorem joinS_len (s : List UInt8) : ∀ (l : List (List UInt8)) (a : List UInt8), (∀ x ∈ a :: l, x.length ≤ 5) → s.length ≤ 2 → (joinS s a l).length ≤ 7 * (l.length + 1)
 | [], a, h, hs => by have := h a (by simp); simp [joinS]; omega
 | b :: l, a, h, hs => by
  have h1 := h a (by simp)
  have ih := joinS_len s l b (fun x hx => h x (List.mem_cons_of_mem _ hx)) hs
  rw [joinS]
  simp only [List.length_append, List.length_cons]
  omega
theorem join_len (l : List (List UInt8)) (h : ∀ x ∈ l, x.length ≤ 5) : (Lib.join l [44, 32]).length ≤ 7 * l.length := by
 cases l with
 | nil => simp [Lib.join, List.intercalate, List.intersperse]
 | cons a l => rw [join_S]; exact joinS_len _ l a h (by decide)
theorem conv_any (W : World) (xs : List Int) : (convert 101 9 (.slice (some ⟨W.heap.size, 0, none⟩) xs.length xs.length)).run Tryz.prog (W.alloc (.cells (xs.map (Value.int .u8)).toArray 5)) = .ok (.string ⟨(xs.map fun n => UInt8.ofNat n.toNat).toArray⟩) (W.alloc (.cells (xs.map (Value.int .u8)).toArray 5)) := by
 rw [run_convert_bytes_string _ _ _ _ _ _ _ Tryz.underlying101 Tryz.underlying5 Tryz.underlying9]
 have hl := run_loadCells_list (P := Tryz.prog) (W.alloc (.cells (xs.map (Value.int .u8)).toArray 5)) ⟨W.heap.size, 0, none⟩ (xs.map (Value.int .u8)) (fun j v hj => by
  have h := (Box.new W 5 (xs.map (Value.int .u8)).toArray).cell j
  have e : (⟨W.heap.size, 0, none⟩ : Addr).add j = ⟨W.heap.size, j, none⟩ := by unfold Addr.add; split <;> simp_all
  rw [e, h, ← hj]
  simp)
 simp only [List.length_map] at hl
 rw [run_bytesToString _ _ _ _ xs hl]
 congr 2
 have : ∀ (l : List Int) (s : ByteArray), l.foldl (fun r n => r.push (UInt8.ofNat n.toNat)) s = ⟨(s.data.toList ++ l.map fun n => UInt8.ofNat n.toNat).toArray⟩ := by
  intro l
  induction l with
  | nil => intro s; simp
  | cons x l ih => intro s; rw [List.foldl_cons, ih]; simp [ByteArray.push]
 rw [this]
 simp [ByteArray.empty, ByteArray.emptyWithCapacity]
 try rfl
theorem conv_one (W : World) (x : Int) : (convert 101 9 (.slice (some ⟨W.heap.size, 0, none⟩) 1 1)).run Tryz.prog (W.alloc (.cells #[.int .u8 x] 5)) = .ok (.string ⟨#[UInt8.ofNat x.toNat]⟩) (W.alloc (.cells #[.int .u8 x] 5)) := conv_any W [x]
theorem conv_two (W : World) (o : Obj) (x y : Int) : (convert 101 9 (.slice (some ⟨W.heap.size + 1, 0, none⟩) 2 2)).run Tryz.prog ((W.alloc o).alloc (.cells #[.int .u8 x, .int .u8 y] 5)) = .ok (.string ⟨#[UInt8.ofNat x.toNat, UInt8.ofNat y.toNat]⟩) ((W.alloc o).alloc (.cells #[.int .u8 x, .int .u8 y] 5)) := by
 have h := conv_any (W.alloc o) [x, y]
 rw [World.size_alloc] at h
 exact h
set_option maxRecDepth 100000 in
set_option maxHeartbeats 4000000 in
theorem even_any (n L : Nat) (hn : n ≤ 20) (hn1 : 1 ≤ n) (hL : L ≤ 99) (w : World) : Calls Tryz.prog 178 #[.int .i64 (n : Int), .int .i64 (L : Int)] w fun e w' => e = .returned (.string (str (Lib.join (evL L n) [44, 32]))) ∧ Below w.heap.size w w' := by
 obtain ⟨i0, hi, hz0, hz1, hz2⟩ := info_parts infoStr
 have kc1 := conv_one
 have kc2 := conv_two
 go_enter Tryz.func178, Tryz.ntmps178
 go_wp2_with fail
 go_loopw [5, 6, 8] (fun v _ i wr => ∃ k : Nat, k ≤ n ∧ i = .int .i64 (k : Int) ∧ wr.ownsRow w.heap.size 9 1 v k (evV L k) ∧ Below w.heap.size w wr) (fun _ _ i _ => n - (intOf i).toNat)
 case atStart => exact ⟨0, by omega, rfl, World.ownsRow_nil _ _ _ _, Below.refl _ _⟩
 case round =>
  obtain ⟨k, hk, rfl, hown, hB⟩ := hrel
  by_cases hlt : k < n
  ·have t1 : decide ((k : Int) < n) = true := decide_eq_true (by omega)
   have hsz := hB.size
   go_wp2_with (at_builtin; refine wpList_append_own _ rfl (.tmp 11) (.tmp 30) 27 rfl w.heap.size 9 i0 (.string ⟨#[]⟩) 1 16 Tryz.underlying27 hi hz0 hz1 hz2 rfl (by decide) u5 k _ rfl (((hown.alloc _).alloc _).alloc _) ⟨wr.heap.size + 1 + 1, 0, none⟩ 1 1 [.string (str (evB L k))] rfl rfl ?c1 ?c2 ?c3 ?c4 ?c5 ?_)
   case c1 =>
    have e : ({ data := #[109] } ++ { data := #[97 + UInt8.ofNat k] } ++ { data := #[32] } ++ { data := #[48 + UInt8.ofNat (L / 10), 48 + UInt8.ofNat (L % 10)] } : ByteArray) = str (evB L k) := by
     show str [109] ++ str [97 + UInt8.ofNat k] ++ str [32] ++ str [48 + UInt8.ofNat (L / 10), 48 + UInt8.ofNat (L % 10)] = _
     rw [str_append, str_append, str_append]
     rfl
    rw [e]
    have h := cell_one_new ((wr.alloc (Obj.cells #[.int .u8 (97 + (k : Int))] 5)).alloc (Obj.cells #[.int .u8 (48 + (L : Int) / 10), .int .u8 (48 + (L : Int) % 10)] 5)) (.string (str (evB L k))) 9
    simp only [World.size_alloc] at h
    exact h
   case c2 => intro u hu; simp at hu; subst hu; rfl
   case c3 => unfold maxLen; omega
   case c4 => omega
   case c5 => simp only [World.size_alloc]; omega
   intro v' w1 hown' hgrow _
   obtain ⟨g', cap', rfl⟩ := ownsRow_succ hown'
   rw [← evV_succ] at hown'
   have hgl : ∀ b, u5.ownBlock = some b → w.heap.size ≤ b := fun b hb => (own_lt hown b hb).1
   have hB1 : Below w.heap.size w w1 := hB.trans (((((Below.refl _ wr).alloc hsz _).alloc (by rw [World.size_alloc]; omega) _).alloc (by simp only [World.size_alloc]; omega) _).grown hgrow (by simp only [World.size_alloc]; omega) hgl)
   clear hgrow hown hB
   go_wp2_with fail
   go_roundw
   case rel => exact ⟨k + 1, by omega, by simp, hown', hB1⟩
   case measure => simp [intOf]; omega
  ·obtain rfl : k = n := by omega
   have hjl : (Lib.join (evL L k) [44, 32]).length ≤ 1000 := by
    have h1 := join_len (evL L k) (fun x hx => by obtain ⟨i, _, rfl⟩ := List.mem_map.1 hx; exact Nat.le_refl 5)
    have h2 : (evL L k).length = k := by simp [evL]
    omega
   have HJ : Hid (Calls Tryz.prog 189 #[u5, .string ⟨#[44, 32]⟩] wr fun e w' => e = .returned (.string (str (Lib.join (evL L k) [44, 32]))) ∧ Below wr.heap.size wr w') := by
    rcases hown.2 with ⟨_, h0⟩ | ⟨gb, cap, cur, rfl, hb, hg, h1, h2, h3, h4⟩
    ·omega
    ·have hm : ((evL L k).map str).map (·.data.toList) = evL L k := by
      rw [List.map_map]
      have : ((fun x : ByteArray => x.data.toList) ∘ str) = id := by funext l; exact str_data l
      rw [this, List.map_id]
     have hlen : ((evL L k).map str).length = k := by simp [evL]
     have h := strings_Join gb 0 cap ((evL L k).map str) ⟨#[44, 32]⟩ wr (fun j x hx => ?_) (own_lt hown gb rfl).2 (by omega) (by omega) (by rw [hm]; exact Nat.le_trans hjl (by omega))
     ·rw [hm, hlen] at h
      exact h
     ·rw [Nat.zero_add, hown.cellAt j (by
       have := (List.getElem?_eq_some_iff.1 hx).1
       omega)]
      unfold evV
      rw [List.getElem?_map] at hx ⊢
      cases hz : (evL L k)[j]? with
      | none => rw [hz] at hx; cases hx
      | some y => rw [hz] at hx; injection hx with hx; subst hx; rfl
   go_wp2_with fail
   refine HJ.out.mono ?_
   rintro e w1 ⟨rfl, hb⟩
   have hB1 := hB.trans (hb.mono hB.size)
   clear hb HJ hown
   go_wp2_with fail
   go_ret
   exact ⟨rfl, hB1⟩
end Go.Proofs.YtoemghiejfkpbaaGreatDoor
/- Contract of catalog.months (printed by wip/gen/catmon.py). -/
namespace Go.Proofs.YtoemghiejfkpbaaGreatDoor
open Go Go.RowKit
set_option linter.unusedVariables false
set_option linter.unusedSimpArgs false
def cmonT (l : List UInt8) : List UInt8 := joinS [44, 32] ((monP l).headD []) (monP l).tail
def CMonQ (l : List UInt8) (w : World) (e : Ending) (w' : World) : Prop := e = .returned (.string (str (cmonT l))) ∧ Below w.heap.size w w'
set_option maxRecDepth 100000 in
set_option maxHeartbeats 4000000 in
theorem months_A (w : World) : Calls Tryz.prog 145 #[.string ⟨#[65]⟩] w (CMonQ [65] w) := by
 go_enter Tryz.func145, Tryz.ntmps145
 go_wp2_with fail
 go_ret
 exact ⟨congrArg (fun s => Ending.returned (.string s)) (by kernel_rfl), Below.refl _ _⟩
set_option maxRecDepth 100000 in
set_option maxHeartbeats 4000000 in
theorem months_B (w : World) : Calls Tryz.prog 145 #[.string ⟨#[66]⟩] w (CMonQ [66] w) := by
 have HE := Lib.hid (fun W => even_any 12 30 (by omega) (by omega) (by omega) W)
 have hs : (str (Lib.join (evL 30 12) [44, 32])).size ≤ 2000 := by rw [str_size]; decide +kernel
 have he : str (Lib.join (evL 30 12) [44, 32]) ++ ⟨#[44, 32, 101, 110, 100, 32, 53, 47, 54]⟩ = str (cmonT [66]) := by
  show _ ++ str [44, 32, 101, 110, 100, 32, 53, 47, 54] = _
  rw [str_append]
  exact congrArg str (by decide +kernel)
 generalize str (Lib.join (evL 30 12) [44, 32]) = S at *
 go_enter Tryz.func145, Tryz.ntmps145
 go_wp2_with (go_at_call 178; refine (HE.out _).mono ?_; rintro e w1 ⟨rfl, hb⟩)
 go_ret
 exact ⟨rfl, hb⟩
set_option maxRecDepth 100000 in
set_option maxHeartbeats 4000000 in
theorem months_C (w : World) : Calls Tryz.prog 145 #[.string ⟨#[67]⟩] w (CMonQ [67] w) := by
 go_enter Tryz.func145, Tryz.ntmps145
 go_wp2_with fail
 go_ret
 exact ⟨congrArg (fun s => Ending.returned (.string s)) (by kernel_rfl), Below.refl _ _⟩
set_option maxRecDepth 100000 in
set_option maxHeartbeats 4000000 in
theorem months_D (w : World) : Calls Tryz.prog 145 #[.string ⟨#[68]⟩] w (CMonQ [68] w) := by
 go_enter Tryz.func145, Tryz.ntmps145
 go_wp2_with fail
 go_ret
 exact ⟨congrArg (fun s => Ending.returned (.string s)) (by kernel_rfl), Below.refl _ _⟩
set_option maxRecDepth 100000 in
set_option maxHeartbeats 4000000 in
theorem months_E (w : World) : Calls Tryz.prog 145 #[.string ⟨#[69]⟩] w (CMonQ [69] w) := by
 go_enter Tryz.func145, Tryz.ntmps145
 go_wp2_with fail
 go_ret
 exact ⟨congrArg (fun s => Ending.returned (.string s)) (by kernel_rfl), Below.refl _ _⟩
set_option maxRecDepth 100000 in
set_option maxHeartbeats 4000000 in
theorem months_F (w : World) : Calls Tryz.prog 145 #[.string ⟨#[70]⟩] w (CMonQ [70] w) := by
 have HE := Lib.hid (fun W => even_any 18 19 (by omega) (by omega) (by omega) W)
 have hs : (str (Lib.join (evL 19 18) [44, 32])).size ≤ 2000 := by rw [str_size]; decide +kernel
 have he : str (Lib.join (evL 19 18) [44, 32]) ++ ⟨#[44, 32, 103, 97, 112, 32, 52, 47, 53, 44, 32, 109, 115, 32, 49, 57]⟩ = str (cmonT [70]) := by
  show _ ++ str [44, 32, 103, 97, 112, 32, 52, 47, 53, 44, 32, 109, 115, 32, 49, 57] = _
  rw [str_append]
  exact congrArg str (by decide +kernel)
 generalize str (Lib.join (evL 19 18) [44, 32]) = S at *
 go_enter Tryz.func145, Tryz.ntmps145
 go_wp2_with (go_at_call 178; refine (HE.out _).mono ?_; rintro e w1 ⟨rfl, hb⟩)
 go_ret
 exact ⟨rfl, hb⟩
set_option maxRecDepth 100000 in
set_option maxHeartbeats 4000000 in
theorem months_G (w : World) : Calls Tryz.prog 145 #[.string ⟨#[71]⟩] w (CMonQ [71] w) := by
 go_enter Tryz.func145, Tryz.ntmps145
 go_wp2_with fail
 go_ret
 exact ⟨congrArg (fun s => Ending.returned (.string s)) (by kernel_rfl), Below.refl _ _⟩
set_option maxRecDepth 100000 in
set_option maxHeartbeats 4000000 in
theorem months_H (w : World) : Calls Tryz.prog 145 #[.string ⟨#[72]⟩] w (CMonQ [72] w) := by
 have HE := Lib.hid (fun W => even_any 13 28 (by omega) (by omega) (by omega) W)
 have hs : (str (Lib.join (evL 28 13) [44, 32])).size ≤ 2000 := by rw [str_size]; decide +kernel
 have he : str (Lib.join (evL 28 13) [44, 32]) ++ ⟨#[44, 32, 114, 101, 115, 116, 32, 49, 47, 50]⟩ = str (cmonT [72]) := by
  show _ ++ str [44, 32, 114, 101, 115, 116, 32, 49, 47, 50] = _
  rw [str_append]
  exact congrArg str (by decide +kernel)
 generalize str (Lib.join (evL 28 13) [44, 32]) = S at *
 go_enter Tryz.func145, Tryz.ntmps145
 go_wp2_with (go_at_call 178; refine (HE.out _).mono ?_; rintro e w1 ⟨rfl, hb⟩)
 go_ret
 exact ⟨rfl, hb⟩
set_option maxRecDepth 100000 in
set_option maxHeartbeats 4000000 in
theorem months_I (w : World) : Calls Tryz.prog 145 #[.string ⟨#[73]⟩] w (CMonQ [73] w) := by
 have HE := Lib.hid (fun W => even_any 12 30 (by omega) (by omega) (by omega) W)
 have hs : (str (Lib.join (evL 30 12) [44, 32])).size ≤ 2000 := by rw [str_size]; decide +kernel
 have he : str (Lib.join (evL 30 12) [44, 32]) ++ ⟨#[44, 32, 101, 110, 100, 32, 53]⟩ = str (cmonT [73]) := by
  show _ ++ str [44, 32, 101, 110, 100, 32, 53] = _
  rw [str_append]
  exact congrArg str (by decide +kernel)
 generalize str (Lib.join (evL 30 12) [44, 32]) = S at *
 go_enter Tryz.func145, Tryz.ntmps145
 go_wp2_with (go_at_call 178; refine (HE.out _).mono ?_; rintro e w1 ⟨rfl, hb⟩)
 go_ret
 exact ⟨rfl, hb⟩
set_option maxRecDepth 100000 in
set_option maxHeartbeats 4000000 in
theorem months_J (w : World) : Calls Tryz.prog 145 #[.string ⟨#[74]⟩] w (CMonQ [74] w) := by
 have HE := Lib.hid (fun W => even_any 18 20 (by omega) (by omega) (by omega) W)
 have hs : (str (Lib.join (evL 20 18) [44, 32])).size ≤ 2000 := by rw [str_size]; decide +kernel
 have he : str (Lib.join (evL 20 18) [44, 32]) ++ ⟨#[44, 32, 101, 110, 100, 32, 53]⟩ = str (cmonT [74]) := by
  show _ ++ str [44, 32, 101, 110, 100, 32, 53] = _
  rw [str_append]
  exact congrArg str (by decide +kernel)
 generalize str (Lib.join (evL 20 18) [44, 32]) = S at *
 go_enter Tryz.func145, Tryz.ntmps145
 go_wp2_with (go_at_call 178; refine (HE.out _).mono ?_; rintro e w1 ⟨rfl, hb⟩)
 go_ret
 exact ⟨rfl, hb⟩
set_option maxRecDepth 100000 in
set_option maxHeartbeats 4000000 in
theorem months_K (w : World) : Calls Tryz.prog 145 #[.string ⟨#[75]⟩] w (CMonQ [75] w) := by
 have HE := Lib.hid (fun W => even_any 18 20 (by omega) (by omega) (by omega) W)
 have hs : (str (Lib.join (evL 20 18) [44, 32])).size ≤ 2000 := by rw [str_size]; decide +kernel
 have he : str (Lib.join (evL 20 18) [44, 32]) = str (cmonT [75]) := congrArg str (by decide +kernel)
 generalize str (Lib.join (evL 20 18) [44, 32]) = S at *
 go_enter Tryz.func145, Tryz.ntmps145
 go_wp2_with (go_at_call 178; refine (HE.out _).mono ?_; rintro e w1 ⟨rfl, hb⟩)
 go_ret
 exact ⟨rfl, hb⟩
set_option maxRecDepth 100000 in
set_option maxHeartbeats 4000000 in
theorem months_L (w : World) : Calls Tryz.prog 145 #[.string ⟨#[76]⟩] w (CMonQ [76] w) := by
 have HE := Lib.hid (fun W => even_any 13 20 (by omega) (by omega) (by omega) W)
 have hs : (str (Lib.join (evL 20 13) [44, 32])).size ≤ 2000 := by rw [str_size]; decide +kernel
 have he : str (Lib.join (evL 20 13) [44, 32]) = str (cmonT [76]) := congrArg str (by decide +kernel)
 generalize str (Lib.join (evL 20 13) [44, 32]) = S at *
 go_enter Tryz.func145, Tryz.ntmps145
 go_wp2_with (go_at_call 178; refine (HE.out _).mono ?_; rintro e w1 ⟨rfl, hb⟩)
 go_ret
 exact ⟨rfl, hb⟩
set_option maxRecDepth 100000 in
set_option maxHeartbeats 4000000 in
theorem months_M (w : World) : Calls Tryz.prog 145 #[.string ⟨#[77]⟩] w (CMonQ [77] w) := by
 go_enter Tryz.func145, Tryz.ntmps145
 go_wp2_with fail
 go_ret
 exact ⟨congrArg (fun s => Ending.returned (.string s)) (by kernel_rfl), Below.refl _ _⟩
set_option maxRecDepth 100000 in
set_option maxHeartbeats 4000000 in
theorem months_N (w : World) : Calls Tryz.prog 145 #[.string ⟨#[78]⟩] w (CMonQ [78] w) := by
 go_enter Tryz.func145, Tryz.ntmps145
 go_wp2_with fail
 go_ret
 exact ⟨congrArg (fun s => Ending.returned (.string s)) (by kernel_rfl), Below.refl _ _⟩
set_option maxRecDepth 100000 in
set_option maxHeartbeats 4000000 in
theorem months_O (w : World) : Calls Tryz.prog 145 #[.string ⟨#[79]⟩] w (CMonQ [79] w) := by
 go_enter Tryz.func145, Tryz.ntmps145
 go_wp2_with fail
 go_ret
 exact ⟨congrArg (fun s => Ending.returned (.string s)) (by kernel_rfl), Below.refl _ _⟩
set_option maxRecDepth 100000 in
set_option maxHeartbeats 4000000 in
theorem months_P (w : World) : Calls Tryz.prog 145 #[.string ⟨#[80]⟩] w (CMonQ [80] w) := by
 go_enter Tryz.func145, Tryz.ntmps145
 go_wp2_with fail
 go_ret
 exact ⟨congrArg (fun s => Ending.returned (.string s)) (by kernel_rfl), Below.refl _ _⟩
set_option maxRecDepth 100000 in
set_option maxHeartbeats 4000000 in
theorem months_Q (w : World) : Calls Tryz.prog 145 #[.string ⟨#[81]⟩] w (CMonQ [81] w) := by
 go_enter Tryz.func145, Tryz.ntmps145
 go_wp2_with fail
 go_ret
 exact ⟨congrArg (fun s => Ending.returned (.string s)) (by kernel_rfl), Below.refl _ _⟩
set_option maxRecDepth 100000 in
set_option maxHeartbeats 4000000 in
theorem months_R (w : World) : Calls Tryz.prog 145 #[.string ⟨#[82]⟩] w (CMonQ [82] w) := by
 go_enter Tryz.func145, Tryz.ntmps145
 go_wp2_with fail
 go_ret
 exact ⟨congrArg (fun s => Ending.returned (.string s)) (by kernel_rfl), Below.refl _ _⟩
set_option maxRecDepth 100000 in
set_option maxHeartbeats 4000000 in
theorem months_S (w : World) : Calls Tryz.prog 145 #[.string ⟨#[83]⟩] w (CMonQ [83] w) := by
 go_enter Tryz.func145, Tryz.ntmps145
 go_wp2_with fail
 go_ret
 exact ⟨congrArg (fun s => Ending.returned (.string s)) (by kernel_rfl), Below.refl _ _⟩
set_option maxRecDepth 100000 in
set_option maxHeartbeats 4000000 in
theorem months_T (w : World) : Calls Tryz.prog 145 #[.string ⟨#[84]⟩] w (CMonQ [84] w) := by
 have HE := Lib.hid (fun W => even_any 10 36 (by omega) (by omega) (by omega) W)
 have hs : (str (Lib.join (evL 36 10) [44, 32])).size ≤ 2000 := by rw [str_size]; decide +kernel
 have he : str (Lib.join (evL 36 10) [44, 32]) ++ ⟨#[44, 32, 114, 101, 115, 116, 32, 53, 47, 54]⟩ = str (cmonT [84]) := by
  show _ ++ str [44, 32, 114, 101, 115, 116, 32, 53, 47, 54] = _
  rw [str_append]
  exact congrArg str (by decide +kernel)
 generalize str (Lib.join (evL 36 10) [44, 32]) = S at *
 go_enter Tryz.func145, Tryz.ntmps145
 go_wp2_with (go_at_call 178; refine (HE.out _).mono ?_; rintro e w1 ⟨rfl, hb⟩)
 go_ret
 exact ⟨rfl, hb⟩
theorem months_row (r : CatRow) (hr : r ∈ catR) (w : World) : Calls Tryz.prog 145 #[.string (str r.lt)] w (CMonQ r.lt w) := by
 have h : catR.all (fun r => [65, 66, 67, 68, 69, 70, 71, 72, 73, 74, 75, 76, 77, 78, 79, 80, 81, 82, 83, 84].any (fun c => r.lt == [c])) = true := by decide +kernel
 have h1 := List.all_eq_true.1 h r hr
 simp only [List.any_cons, List.any_nil, Bool.or_false, Bool.or_eq_true, beq_iff_eq] at h1
 rcases h1 with h | h | h | h | h | h | h | h | h | h | h | h | h | h | h | h | h | h | h | h
 ·rw [h]; exact months_A w
 ·rw [h]; exact months_B w
 ·rw [h]; exact months_C w
 ·rw [h]; exact months_D w
 ·rw [h]; exact months_E w
 ·rw [h]; exact months_F w
 ·rw [h]; exact months_G w
 ·rw [h]; exact months_H w
 ·rw [h]; exact months_I w
 ·rw [h]; exact months_J w
 ·rw [h]; exact months_K w
 ·rw [h]; exact months_L w
 ·rw [h]; exact months_M w
 ·rw [h]; exact months_N w
 ·rw [h]; exact months_O w
 ·rw [h]; exact months_P w
 ·rw [h]; exact months_Q w
 ·rw [h]; exact months_R w
 ·rw [h]; exact months_S w
 ·rw [h]; exact months_T w
end Go.Proofs.YtoemghiejfkpbaaGreatDoor
/- Contract of catalog.text: the rule of a row of the table, as it would be printed. -/
namespace Go.Proofs.YtoemghiejfkpbaaGreatDoor
open Go Go.RowKit Go.Shelf
attribute [local go_sem] Oper.semAt_some
set_option linter.unusedVariables false
set_option linter.unusedSimpArgs false
def headC (r : CatRow) : List UInt8 := [99, 97, 108, 101, 110, 100, 97, 114, 32] ++ r.nm ++ [10, 101, 112, 111, 99, 104, 32] ++ r.ep ++ [10, 99, 121, 99, 108, 101, 32] ++ r.cy ++ [10, 108, 101, 97, 112, 32] ++ r.xp ++ [10]
def monC (p : List UInt8) : List UInt8 := [109, 111, 110, 116, 104, 32] ++ Lib.replace p [47] [32] 1 ++ [10]
def textC (r : CatRow) (ps : List (List UInt8)) : List UInt8 := headC r ++ ps.flatMap monC
theorem textC_snoc (r : CatRow) (ps : List (List UInt8)) (p : List UInt8) : textC r (ps ++ [p]) = textC r ps ++ monC p := by simp [textC]
theorem row_text (r : CatRow) (hr : r ∈ catR) : textC r (monP r.lt) = printR r.t := by
 have h : catR.all (fun r => textC r (monP r.lt) == printR r.t) = true := by decide +kernel
 simpa using List.all_eq_true.1 h r hr
theorem row_mons (r : CatRow) (hr : r ∈ catR) : (monP r.lt).length ≤ 20 ∧ monP r.lt = (monP r.lt).headD [] :: (monP r.lt).tail ∧ (∀ p ∈ monP r.lt, p.length ≤ 20 ∧ ∀ b ∈ p, b ≠ 44) ∧ (cmonT r.lt).length ≤ 1000 := by
 have h : catR.all (fun r => decide ((monP r.lt).length ≤ 20) && (monP r.lt == (monP r.lt).headD [] :: (monP r.lt).tail) && (monP r.lt).all (fun p => decide (p.length ≤ 20) && p.all (fun b => b != 44)) && decide ((cmonT r.lt).length ≤ 1000)) = true := by decide +kernel
 have h1 := List.all_eq_true.1 h r hr
 simp only [Bool.and_eq_true, decide_eq_true_eq, beq_iff_eq] at h1
 refine ⟨h1.1.1.1, h1.1.1.2, fun p hp => ?_, h1.2⟩
 have h2 := List.all_eq_true.1 h1.1.2 p hp
 simp only [Bool.and_eq_true, decide_eq_true_eq] at h2
 exact ⟨h2.1, fun b hb => by simpa using List.all_eq_true.1 h2.2 b hb⟩
theorem row_pieces (r : CatRow) (hr : r ∈ catR) : Pieces [44, 32] (cmonT r.lt) (monP r.lt) := by
 obtain ⟨_, h2, h3, _⟩ := row_mons r hr
 have h := pieces_join 44 [32] (monP r.lt).tail ((monP r.lt).headD []) (by rw [← h2]; exact fun p hp => (h3 p hp).2)
 rw [← h2] at h
 exact h
theorem row_split (r : CatRow) (hr : r ∈ catR) : Lib.splitB ⟨#[32]⟩ 0 4 (str r.line) = [str r.nm, str r.ep, str r.cy, str r.lt, str r.xp] := by
 have h : catR.all (fun r => r.nm.all (fun b => b != 32) && r.ep.all (fun b => b != 32) && r.cy.all (fun b => b != 32) && r.lt.all (fun b => b != 32)) = true := by decide +kernel
 have h1 := List.all_eq_true.1 h r hr
 simp only [Bool.and_eq_true] at h1
 have hq : ∀ {l : List UInt8}, l.all (fun b => b != 32) = true → ∀ b ∈ l, b ≠ 32 := fun hl b hb => by simpa using List.all_eq_true.1 hl b hb
 rw [split_head 32 3 _ _ (hq h1.1.1.1), split_head 32 2 _ _ (hq h1.1.1.2), split_head 32 1 _ _ (hq h1.1.2), split_head 32 0 _ _ (hq h1.2), Lib.splitB_zero]
theorem row_lens (r : CatRow) (hr : r ∈ catR) : r.nm.length ≤ 100 ∧ r.ep.length ≤ 100 ∧ r.cy.length ≤ 100 ∧ r.xp.length ≤ 100 ∧ 5 ≤ r.line.length := by
 have h : catR.all (fun r => decide (r.nm.length ≤ 100) && decide (r.ep.length ≤ 100) && decide (r.cy.length ≤ 100) && decide (r.xp.length ≤ 100) && decide (5 ≤ r.line.length)) = true := by decide +kernel
 have h1 := List.all_eq_true.1 h r hr
 simp only [Bool.and_eq_true, decide_eq_true_eq] at h1
 exact ⟨h1.1.1.1.1, h1.1.1.1.2, h1.1.1.2, h1.1.2, h1.2⟩
def rowC (r : CatRow) : Array Value := #[.string (str r.nm), .string (str r.ep), .string (str r.cy), .string (str r.lt), .string (str r.xp)]
theorem splitn_row (r : CatRow) (hr : r ∈ catR) (w : World) (h : Shp w) :
  Calls Tryz.prog 144 #[.string (str r.line), .string ⟨#[32]⟩, .int .i64 5] w fun e w' => e = .returned (.slice (some ⟨w.heap.size, 0, none⟩) 5 5) ∧ w' = w.alloc (.cells (rowC r) 9) := by
 obtain ⟨m, hm⟩ := h
 have hs : (str r.line).size = r.line.length := str_size _
 have h1 := line_len r hr
 have h2 := (row_lens r hr).2.2.2.2
 have hmin : min 5 ((str r.line).size + 1) = 5 := by omega
 refine (strings_SplitN (str r.line) ⟨#[32]⟩ 5 m w (by omega) hm (by decide) (by omega) (by omega)).mono ?_
 rintro e w' ⟨he, hw⟩
 rw [hmin, show 5 - 1 = 4 from rfl, row_split r hr] at he hw
 exact ⟨he, hw⟩
theorem replace_mon (p : List UInt8) (hp : p.length ≤ 20) (w : World) (h : Shp w) :
  Calls Tryz.prog 146 #[.string (str p), .string ⟨#[47]⟩, .string ⟨#[32]⟩, .int .i64 1] w fun e w' => e = .returned (.string (str (Lib.replace p [47] [32] 1))) ∧ Below w.heap.size w w' := by
 obtain ⟨m, hm⟩ := h
 have hs : (str p).size = p.length := str_size _
 refine (strings_Replace (str p) ⟨#[47]⟩ ⟨#[32]⟩ 1 m w (by omega) hm (by decide) ?_).mono ?_
 ·have h1 : Lib.countB (str p) ⟨#[47]⟩ ≤ (str p).data.toList.length + 1 := Lib.count_le _ _
  rw [str_data] at h1
  have h2 : (⟨#[32]⟩ : ByteArray).size = 1 := rfl
  rw [h2]
  omega
 ·rintro e w' ⟨he, hb⟩
  rw [str_data] at he
  exact ⟨he, hb⟩
theorem mon_len (r : CatRow) (hr : r ∈ catR) (p : List UInt8) (hp : p ∈ monP r.lt) : (Lib.replace p [47] [32] 1).length ≤ 30 := by
 have h : catR.all (fun r => (monP r.lt).all fun p => decide ((Lib.replace p [47] [32] 1).length ≤ 30)) = true := by decide +kernel
 simpa using List.all_eq_true.1 (List.all_eq_true.1 h r hr) p hp
theorem text_len (r : CatRow) (hr : r ∈ catR) (ps qs : List (List UInt8)) (h : monP r.lt = ps ++ qs) : (textC r ps).length ≤ 1000 := by
 have h0 : catR.all (fun r => decide ((textC r (monP r.lt)).length ≤ 1000)) = true := by decide +kernel
 have h1 : (textC r (monP r.lt)).length ≤ 1000 := by simpa using List.all_eq_true.1 h0 r hr
 rw [h] at h1
 unfold textC at h1 ⊢
 rw [List.flatMap_append] at h1
 simp only [List.length_append] at h1 ⊢
 omega
end Go.Proofs.YtoemghiejfkpbaaGreatDoor
/- Contract of catalog.text, the walk. -/
namespace Go.Proofs.YtoemghiejfkpbaaGreatDoor
open Go Go.RowKit Go.Shelf
attribute [local go_sem] Oper.semAt_some
set_option linter.unusedVariables false
set_option linter.unusedSimpArgs false
def TextQ (r : CatRow) (w : World) (e : Ending) (w' : World) : Prop := e = .returned (.string (str (printR r.t))) ∧ Below w.heap.size w w'
set_option maxRecDepth 100000 in
set_option maxHeartbeats 4000000 in
theorem text_any (r : CatRow) (hr : r ∈ catR) (w : World) (h : Shp w) : Calls Tryz.prog 105 #[.string (str r.line)] w (TextQ r w) := by
 have HSN := Lib.hid (splitn_row r hr w h)
 have HM := Lib.hid (fun W => months_row r hr W)
 have HS := Lib.hid (fun s sep W => SplitSeq_any s sep W)
 have HT := Lib.hid (row_text r hr)
 have HP := Lib.hid (row_pieces r hr)
 have HR := Lib.hid (fun p hp W hW => replace_mon p ((row_mons r hr).2.2.1 p hp).1 W hW)
 have HL := Lib.hid (fun ps qs hps => text_len r hr ps qs hps)
 have HL2 := Lib.hid (fun p hp => mon_len r hr p hp)
 have hml := (row_mons r hr).2.2.2
 have hlens := row_lens r hr
 unfold TextQ
 refine (callsIn_wide (n := 3)).1 ?_
 refine callsIn_of_wp_marks Tryz.func105 rfl trivial ?_ rfl
 simp only [Tryz.ntmps105, List.size_toArray, List.length_cons, List.length_nil, Nat.reduceAdd, Nat.reduceSub, Array.replicate_succ, Array.replicate_zero, List.push_toArray, List.append_toArray, List.nil_append, List.cons_append]
 have HX := Lib.hid (Box.new w 9 (rowC r))
 have HB := Lib.hid (below_alloc1 w (Obj.cells (rowC r) 9))
 gi_wp2_with (refine ⟨trivial, ?_⟩; gi_at_call 144; refine (callsIn_wide.2 HSN.out).mono ?_; rintro e w' ⟨rfl, rfl⟩)
 have hb0 : Below w.heap.size w (w.alloc (Obj.cells (rowC r) 9)) := HB.out
 have hsz0 := Lib.hid (show (w.alloc (Obj.cells (rowC r) 9)).heap.size = w.heap.size + 1 from World.size_alloc _ _)
 have hS0 := Lib.hid (h.next hb0)
 have hm0 := h.lt
 have hd : Hid (⟨#[99, 97, 108, 101, 110, 100, 97, 114, 32]⟩ ++ str r.nm ++ ⟨#[10, 101, 112, 111, 99, 104, 32]⟩ ++ str r.ep ++ ⟨#[10, 99, 121, 99, 108, 101, 32]⟩ ++ str r.cy ++ ⟨#[10, 108, 101, 97, 112, 32]⟩ ++ str r.xp ++ ⟨#[10]⟩ = str (textC r [])) := by
  show str [99, 97, 108, 101, 110, 100, 97, 114, 32] ++ str r.nm ++ str [10, 101, 112, 111, 99, 104, 32] ++ str r.ep ++ str [10, 99, 121, 99, 108, 101, 32] ++ str r.cy ++ str [10, 108, 101, 97, 112, 32] ++ str r.xp ++ str [10] = _
  simp only [str_append]
  unfold textC headC
  simp
 have u1 : (str r.nm).size ≤ 100 := by rw [str_size]; omega
 have u2 : (str r.ep).size ≤ 100 := by rw [str_size]; omega
 have u3 : (str r.cy).size ≤ 100 := by rw [str_size]; omega
 have u4 : (str r.xp).size ≤ 100 := by rw [str_size]; omega
 unfold rowC at *
 clear HSN h HB
 generalize w.alloc (Obj.cells #[.string (str r.nm), .string (str r.ep), .string (str r.cy), .string (str r.lt), .string (str r.xp)] 9) = W0 at *
 generalize hg : w.heap.size = g at *
 have HG := Lib.hid hg
 clear hg
 have z0 : ∀ W, Below W0.heap.size W0 W → W.cell? ⟨g, 0, none⟩ = some (.string (str r.nm)) := fun W hW => (HX.out.below hW).cell 0
 have z1 : ∀ W, Below W0.heap.size W0 W → W.cell? ⟨g, 1, none⟩ = some (.string (str r.ep)) := fun W hW => (HX.out.below hW).cell 1
 have z2 : ∀ W, Below W0.heap.size W0 W → W.cell? ⟨g, 2, none⟩ = some (.string (str r.cy)) := fun W hW => (HX.out.below hW).cell 2
 have z4 : ∀ W, Below W0.heap.size W0 W → W.cell? ⟨g, 4, none⟩ = some (.string (str r.xp)) := fun W hW => (HX.out.below hW).cell 4
 generalize str r.nm = sn at *
 generalize str r.ep = se at *
 generalize str r.cy = sc at *
 generalize str r.xp = sx at *
 have c0 : (⟨#[99, 97, 108, 101, 110, 100, 97, 114, 32]⟩ : ByteArray).size = 9 := rfl
 have c1 : (⟨#[10, 101, 112, 111, 99, 104, 32]⟩ : ByteArray).size = 7 := rfl
 have c2 : (⟨#[10, 99, 121, 99, 108, 101, 32]⟩ : ByteArray).size = 7 := rfl
 have c3 : (⟨#[10, 108, 101, 97, 112, 32]⟩ : ByteArray).size = 6 := rfl
 have c4 : (⟨#[10]⟩ : ByteArray).size = 1 := rfl
 have s1 : (⟨#[99, 97, 108, 101, 110, 100, 97, 114, 32]⟩ ++ sn : ByteArray).size ≤ 109 := by rw [ByteArray.size_append]; omega
 have s2 : ((⟨#[99, 97, 108, 101, 110, 100, 97, 114, 32]⟩ ++ sn) ++ ⟨#[10, 101, 112, 111, 99, 104, 32]⟩ : ByteArray).size ≤ 116 := by rw [ByteArray.size_append]; omega
 have s3 : (((⟨#[99, 97, 108, 101, 110, 100, 97, 114, 32]⟩ ++ sn) ++ ⟨#[10, 101, 112, 111, 99, 104, 32]⟩) ++ se : ByteArray).size ≤ 216 := by rw [ByteArray.size_append]; omega
 have s4 : ((((⟨#[99, 97, 108, 101, 110, 100, 97, 114, 32]⟩ ++ sn) ++ ⟨#[10, 101, 112, 111, 99, 104, 32]⟩) ++ se) ++ ⟨#[10, 99, 121, 99, 108, 101, 32]⟩ : ByteArray).size ≤ 223 := by rw [ByteArray.size_append]; omega
 have s5 : (((((⟨#[99, 97, 108, 101, 110, 100, 97, 114, 32]⟩ ++ sn) ++ ⟨#[10, 101, 112, 111, 99, 104, 32]⟩) ++ se) ++ ⟨#[10, 99, 121, 99, 108, 101, 32]⟩) ++ sc : ByteArray).size ≤ 323 := by rw [ByteArray.size_append]; omega
 have s6 : ((((((⟨#[99, 97, 108, 101, 110, 100, 97, 114, 32]⟩ ++ sn) ++ ⟨#[10, 101, 112, 111, 99, 104, 32]⟩) ++ se) ++ ⟨#[10, 99, 121, 99, 108, 101, 32]⟩) ++ sc) ++ ⟨#[10, 108, 101, 97, 112, 32]⟩ : ByteArray).size ≤ 329 := by rw [ByteArray.size_append]; omega
 have s7 : (((((((⟨#[99, 97, 108, 101, 110, 100, 97, 114, 32]⟩ ++ sn) ++ ⟨#[10, 101, 112, 111, 99, 104, 32]⟩) ++ se) ++ ⟨#[10, 99, 121, 99, 108, 101, 32]⟩) ++ sc) ++ ⟨#[10, 108, 101, 97, 112, 32]⟩) ++ sx : ByteArray).size ≤ 429 := by rw [ByteArray.size_append]; omega
 refine wpIn_wide.2 ?_
 refine flow_begin_tail 21 (tellOf []) (by kernel_rfl) (by kernel_rfl) ?_
 simp only [List.take_succ_cons, List.take_zero, List.drop_succ_cons, List.drop_zero]
 repeat (first | (refine flow_val (v := ?_) (by rfl) (by rfl) (fun w hb => ?_) ?_; rotate_left; (· ((go_simp) <;> ((repeat' apply And.intro) <;> with_reducible rfl))); try simp only [Act.put, List.setIfInBounds_toArray, List.set_cons_zero, List.set_cons_succ, Nat.reduceAdd]) | (refine flow_val (v := ?_) (by rfl) (by rfl) (fun w hb => ?_) ?_; rotate_left; (· (go_simp; (refine (if_neg ?_).trans ?_); (· omega); (· with_reducible rfl))); try simp only [Act.put, List.setIfInBounds_toArray, List.set_cons_zero, List.set_cons_succ, Nat.reduceAdd]) | (refine flow_skip (by rfl) (by rfl) ?_; try simp only [Act.put, List.setIfInBounds_toArray, List.set_cons_zero, List.set_cons_succ, Nat.reduceAdd]))
 refine flow_box (t := ?_) (cs := ?_) (by rfl) (by rfl) (fun w hb => ?_) (fun go hgo => ?_); rotate_left 2; (· ((go_simp) <;> ((repeat' apply And.intro) <;> with_reducible rfl))); try simp only [Act.put, List.setIfInBounds_toArray, List.set_cons_zero, List.set_cons_succ, Nat.reduceAdd]
 refine flow_nil fun w3 hb3 hf => ?_
 have hbo := hf.1
 have hgo0 := hgo
 rw [hd.out]
 clear c0 c1 c2 c3 c4 s1 s2 s3 s4 s5 s6 s7 z0 z1 z2 z4 u1 u2 u3 u4 hd hf
 have HX3 := Lib.hid (HX.out.below hb3)
 have HB3 := Lib.hid (hb0.trans (hb3.mono (by have := hsz0.out; omega)))
 replace hsz0 := hsz0.out
 have HS3 := Lib.hid (hS0.out.next hb3)
 have hsz3 := hb3.size
 have ho := hbo.lt
 have hoc := hbo.cell 0
 have hof := hbo.free 0
 clear hb3 hb0 HX hS0
 refine wpList_step fun K hK => ?_
 rw [if_pos (by rfl)]
 go_simp
 refine hK _ _ (wpList_nil ?_)
 generalize (⟨#[99, 97, 108, 101, 110, 100, 97, 114, 32]⟩ ++ sn ++ ⟨#[10, 101, 112, 111, 99, 104, 32]⟩ ++ se ++ ⟨#[10, 99, 121, 99, 108, 101, 32]⟩ ++ sc ++ ⟨#[10, 108, 101, 97, 112, 32]⟩ ++ sx : ByteArray) = q6
 generalize (⟨#[99, 97, 108, 101, 110, 100, 97, 114, 32]⟩ ++ sn ++ ⟨#[10, 101, 112, 111, 99, 104, 32]⟩ ++ se ++ ⟨#[10, 99, 121, 99, 108, 101, 32]⟩ ++ sc ++ ⟨#[10, 108, 101, 97, 112, 32]⟩ : ByteArray) = q5
 generalize (⟨#[99, 97, 108, 101, 110, 100, 97, 114, 32]⟩ ++ sn ++ ⟨#[10, 101, 112, 111, 99, 104, 32]⟩ ++ se ++ ⟨#[10, 99, 121, 99, 108, 101, 32]⟩ ++ sc : ByteArray) = q4
 generalize (⟨#[99, 97, 108, 101, 110, 100, 97, 114, 32]⟩ ++ sn ++ ⟨#[10, 101, 112, 111, 99, 104, 32]⟩ ++ se ++ ⟨#[10, 99, 121, 99, 108, 101, 32]⟩ : ByteArray) = q3
 generalize (⟨#[99, 97, 108, 101, 110, 100, 97, 114, 32]⟩ ++ sn ++ ⟨#[10, 101, 112, 111, 99, 104, 32]⟩ ++ se : ByteArray) = q2
 generalize (⟨#[99, 97, 108, 101, 110, 100, 97, 114, 32]⟩ ++ sn ++ ⟨#[10, 101, 112, 111, 99, 104, 32]⟩ : ByteArray) = q1
 generalize (⟨#[99, 97, 108, 101, 110, 100, 97, 114, 32]⟩ ++ sn : ByteArray) = q0
 clear hK K
 have hgo : g < go := by omega
 have HX4 := Lib.hid (HX3.out.far (p := ⟨go, 0, none⟩) (show g ≠ go by omega) (.string (str (textC r []))))
 have HO4 : Hid (Box (w3.setCell ⟨go, 0, none⟩ (.string (str (textC r [])))) go 9 #[.string (str (textC r []))]) := hbo.set_ 0 _
 have HB4 := Lib.hid (HB3.out.setCell (p := ⟨go, 0, none⟩) (show g ≤ go by omega) (.string (str (textC r []))))
 have HS4 := Lib.hid (HS3.out.only (only_set (p := fun k => k = go) w3 go 0 (.string (str (textC r []))) rfl) (by omega))
 clear HX3 HB3 HS3 hbo hoc hof
 generalize w3.setCell ⟨go, 0, none⟩ (.string (str (textC r []))) = W4 at *
 have hgo2 := HG.out
 have z3 : W4.cell? ⟨g, 3, none⟩ = some (.string (str r.lt)) := HX4.out.cell 3
 have zl := HX4.out.lt
 have HM4 := Lib.hid (HM.out W4)
 unfold CMonQ at HM4
 generalize str r.lt = sl at *
 gi_wp2_with (first
  | (refine ⟨trivial, ?_⟩; gi_at_call 145; refine (callsIn_wide.2 HM4.out).mono ?_; rintro e w5 ⟨rfl, hb5⟩; have HO5 := Lib.hid (HO4.out.below hb5); have HB5 := Lib.hid (HB4.out.trans (hb5.mono (by omega))); have HS5 := Lib.hid (HS4.out.next hb5); clear hb5)
  | (refine ⟨trivial, ?_⟩; gi_at_call 33; refine (callsIn_wide.2 (HS.out _ _ _)).mono ?_; rintro e w' ⟨rfl, rfl⟩))
 obtain ⟨x1, x2, x3, x4, x5⟩ := seqW_boxes w5 (str (cmonT r.lt)) ⟨#[44, 32]⟩
 have hlo := HO5.out.lt
 have HO6 := Lib.hid (HO5.out.below x4)
 have HB6 := Lib.hid (HB5.out.trans (x4.mono (by omega)))
 have HS6 := Lib.hid (HS5.out.next x4)
 clear x4 HO5 HB5 HS5 HS HM4 HM HX4 z3 zl HO4 HB4 HS4
 generalize seqW w5 (str (cmonT r.lt)) ⟨#[44, 32]⟩ = W6 at *
 generalize w5.heap.size = n5 at *
 refine wpIn_rangeFunc_C (F := Fence.wide) rfl (by omega) (gf := 102) (lb := #[.pointer (some ⟨n5 + 1, 0, none⟩), .pointer (some ⟨n5, 0, none⟩), .pointer (some ⟨n5 + 2, 0, none⟩)]) rfl trivial (enters_of Tryz.func102 (by kernel_rfl) rfl)
  (enc := fun x => .string (str x)) (own := fun k => k = n5) (kp := seqKeep n5) (xs := monP r.lt)
  (fun W hW => splitSeq_C _ n5 (by omega) ⟨#[44, 32]⟩ (by decide) (by decide) (cmonT r.lt) (by omega) (monP r.lt) HP.out W (hW.box x1 id) (hW.box x2 id) (hW.box x3 id) (HS6.out.only hW id) (by omega)) (fun k hk => .inl hk)
  (fun k hk => by rcases hk with h | h | h | h <;> omega) rfl
  (fun pre W => Box W go 9 #[.string (str (textC r pre))] ∧ Below g w W ∧ Shp W)
  (fun _ _ _ => False)
  ?hI (fun _ _ _ _ h _ => h) ⟨HO6.out, HB6.out, HS6.out⟩
  (fun x => { tmps := #[.string (str r.line), undef, .string ⟨#[]⟩, .slice (some ⟨g, 0, none⟩) 5 5, .pointer (some ⟨go, 0, none⟩), .string (str x), .string (str r.line), .slice (some ⟨g, 0, none⟩) 5 5, .slice (some ⟨g, 0, none⟩) 5 5, .pointer (some ⟨g, 0, none⟩), .string sn, .string q0, .string q1, .slice (some ⟨g, 0, none⟩) 5 5, .pointer (some ⟨g, 1, none⟩), .string se, .string q2, .string q3, .slice (some ⟨g, 0, none⟩) 5 5, .pointer (some ⟨g, 2, none⟩), .string sc, .string q4, .string q5, .slice (some ⟨g, 0, none⟩) 5 5, .pointer (some ⟨g, 4, none⟩), .string sx, .string q6, .string (str (textC r [])), .slice (some ⟨g, 0, none⟩) 5 5, .pointer (some ⟨g, 3, none⟩), .string sl, .string (str (cmonT r.lt)), seqF n5, .string (str x), undef, undef, undef, undef, undef, undef, undef], defers := [] }) ?assign ?body ?done ?stop
 case hI =>
  rintro pre A B ⟨h1, h3, h4⟩ hAB
  have hAs := h1.lt
  exact ⟨hAB.box h1 (by omega), h3.trans (below_only _ hAB (fun k hk => by omega) (by omega)), h4.only hAB (by omega)⟩
 case assign =>
  intro l x W K hK
  gi_wp2
  exact hK
 case body =>
  rintro l pre x rest W hxs hlt ⟨h1, h3, h4⟩
  have hmem : x ∈ monP r.lt := by rw [hxs]; simp
  have HR2 := Lib.hid (HR.out x hmem)
  have hl1 := HL.out pre _ hxs
  have hl2 := HL2.out x hmem
  have ht : Hid (str (textC r pre) ++ (⟨#[109, 111, 110, 116, 104, 32]⟩ ++ str (Lib.replace x [47] [32] 1) ++ ⟨#[10]⟩) = str (textC r (pre ++ [x]))) := by
   show str (textC r pre) ++ (str [109, 111, 110, 116, 104, 32] ++ str (Lib.replace x [47] [32] 1) ++ str [10]) = _
   rw [textC_snoc, str_append, str_append, str_append]
   rfl
  have k1 : (str (textC r pre)).size ≤ 1000 := by rw [str_size]; omega
  have k2 : (str (Lib.replace x [47] [32] 1)).size ≤ 30 := by rw [str_size]; omega
  generalize str (textC r pre) = P at *
  generalize str (Lib.replace x [47] [32] 1) = R at *
  have c0 : (⟨#[109, 111, 110, 116, 104, 32]⟩ : ByteArray).size = 6 := rfl
  have c1 : (⟨#[10]⟩ : ByteArray).size = 1 := rfl
  have k3 : (⟨#[109, 111, 110, 116, 104, 32]⟩ ++ R : ByteArray).size ≤ 36 := by rw [ByteArray.size_append]; omega
  have k4 : (⟨#[109, 111, 110, 116, 104, 32]⟩ ++ R ++ ⟨#[10]⟩ : ByteArray).size ≤ 37 := by rw [ByteArray.size_append]; omega
  have hv := h1.cell 0
  have hf := h1.free 0
  have hmx : Tryz.prog.follows .mixedOrders = true := by kernel_rfl
  have HCL : Hid (∀ w1, Below W.drew.heap.size W.drew w1 → Box w1 go 9 #[.string P] →
    Only (fun k => ¬ (seqKeep n5 k ∨ k = W6.heap.size ∨ k = W6.heap.size + 1)) W (w1.setCell ⟨go, 0, none⟩ (.string (P ++ (⟨#[109, 111, 110, 116, 104, 32]⟩ ++ R ++ ⟨#[10]⟩)))) ∧
    Box (w1.setCell ⟨go, 0, none⟩ (.string (P ++ (⟨#[109, 111, 110, 116, 104, 32]⟩ ++ R ++ ⟨#[10]⟩)))) go 9 #[.string (str (textC r (pre ++ [x])))] ∧
    Below g w (w1.setCell ⟨go, 0, none⟩ (.string (P ++ (⟨#[109, 111, 110, 116, 104, 32]⟩ ++ R ++ ⟨#[10]⟩)))) ∧ Shp (w1.setCell ⟨go, 0, none⟩ (.string (P ++ (⟨#[109, 111, 110, 116, 104, 32]⟩ ++ R ++ ⟨#[10]⟩))))) := fun w1 hb q => by
   have hbW : Below W.heap.size W w1 := (show Below W.heap.size W W.drew from ⟨rfl, rfl, rfl, Nat.le_refl _, fun _ _ => rfl⟩).trans hb
   have HO := (only_below (p := fun k => ¬ (seqKeep n5 k ∨ k = W6.heap.size ∨ k = W6.heap.size + 1)) hbW).trans (only_set w1 go 0 (.string (P ++ (⟨#[109, 111, 110, 116, 104, 32]⟩ ++ R ++ ⟨#[10]⟩))) (by omega))
   refine ⟨HO, ?_, (h3.trans (hbW.mono (by have := h1.lt; omega))).setCell (p := ⟨go, 0, none⟩) (show g ≤ go by omega) _, h4.only HO (fun h => h (.inl (.inr (.inr (.inr rfl)))))⟩
   have h5 := q.set_ 0 (.string (P ++ (⟨#[109, 111, 110, 116, 104, 32]⟩ ++ R ++ ⟨#[10]⟩)))
   rw [ht.out] at h5 ⊢
   exact h5
  gi_wp2
  gi_region_with_o (refine ⟨trivial, ?_⟩; gi_at_call 146; refine (CallsIn.inRound l (callsIn_wide.2 (HR2.out W.drew h4))).mono ?_; rintro e w1 ⟨rfl, hb⟩; have q1 := (show Box W.drew go 9 #[.string P] from h1).below hb; have hv1 := q1.cell 0; have hf1 := q1.free 0; have HB1 := Lib.hid hb; clear hb)
  all_goals exact HCL.out _ HB1.out q1
 case done =>
  rintro W hlt ⟨h1, h3, h4⟩ hK
  have hv := h1.cell 0
  have hl := h1.lt
  gi_wp2
  refine ⟨by simp, .inl ⟨_, _, rfl, run_takeDeferred hK, ?_⟩⟩
  rw [HT.out] at *
  exact ⟨_, results_tmp rfl _ _ _, rfl, by rw [HG.out]; exact h3.trans (below_only _ (only_put (p := fun k => k = W6.heap.size) W _ _ rfl) (fun k hk => by omega) (by omega))⟩
 case stop => exact fun c pre W _ _ h _ => h.elim
end Go.Proofs.YtoemghiejfkpbaaGreatDoor
/- Contract of catalog.tree: the rule of a name. -/
namespace Go.Proofs.YtoemghiejfkpbaaGreatDoor
open Go Go.RowKit Go.Shelf
attribute [local go_sem] Oper.semAt_some
set_option linter.unusedVariables false
set_option linter.unusedSimpArgs false
theorem TrNew.next {B : Nat} {w w' : World} {u : Tr} (h : TrNew B w u) (hb : Below w.heap.size w w') : TrNew B w' u := ⟨h.ex.next hb, own_next h.mo hb⟩
theorem TrNew.only {B : Nat} {w w' : World} {u : Tr} {p : Nat → Prop} (h : TrNew B w u) (hb : Only p w w') (hp : ∀ k, B ≤ k → ¬ p k) : TrNew B w' u :=
 ⟨h.ex.keep (fun b hbB hlt => hb.block b hlt (hp b hbB)) (fun b hbB _ => hbB) hb.size, hb.own h.mo hp⟩
theorem TrNew.lower {B B' : Nat} {w : World} {u : Tr} (h : TrNew B w u) (hb : B' ≤ B) : TrNew B' w u := ⟨h.ex.more fun b h _ => by omega, own_lower h.mo hb⟩
def TreeQ (r : CatRow) (w : World) (e : Ending) (w' : World) : Prop :=
 ∃ u : Tr, e = .returned (.tuple #[u.val, .int .i64 0]) ∧ ReadAs (RTof r.t) r.t.ex u ∧ TrNew w.heap.size w' u ∧ TrFit u ∧ Below w.heap.size w w'
set_option maxRecDepth 100000 in
set_option maxHeartbeats 4000000 in
theorem tree_any (r : CatRow) (hr : r ∈ catR) (w : World) (hs : Sgs w) (hv : Lvs w) (h : Shp w) : Calls Tryz.prog 67 #[.string (str r.nm)] w (TreeQ r w) := by
 unfold TreeQ
 refine (callsIn_wide (n := 3)).1 ?_
 refine callsIn_of_wp_marks Tryz.func67 rfl trivial ?_ rfl
 simp only [Tryz.ntmps67, List.size_toArray, List.length_cons, List.length_nil, Nat.reduceAdd, Nat.reduceSub, Array.replicate_succ, Array.replicate_zero, List.push_toArray, List.append_toArray, List.nil_append, List.cons_append]
 rw [lit_eq]
 case h => kernel_rfl
 have hT := table_len
 have hP := Lib.hid table_pieces
 have HS := Lib.hid (fun s sep W => SplitSeq_any s sep W)
 generalize tableL = T at *
 gi_wp2_with (refine ⟨trivial, ?_⟩; gi_at_call 33; refine (callsIn_wide.2 (HS.out _ _ _)).mono ?_; rintro e w' ⟨rfl, rfl⟩)
 have hB0 := Lib.hid (below_alloc3 w (Obj.cells #[.string (str r.nm)] 9) (Obj.cells zeroT 131) (Obj.cells #[.int .i64 0] 22))
 have hN0 := ((Box.new w 9 #[.string (str r.nm)]).alloc (Obj.cells zeroT 131)).alloc (Obj.cells #[.int .i64 0] 22)
 have hO0 := (Box.new (w.alloc (Obj.cells #[.string (str r.nm)] 9)) 131 zeroT).alloc (Obj.cells #[.int .i64 0] 22)
 have hE0 := Box.new ((w.alloc (Obj.cells #[.string (str r.nm)] 9)).alloc (Obj.cells zeroT 131)) 22 #[.int .i64 0]
 have hx := seqW_boxes (((w.alloc (Obj.cells #[.string (str r.nm)] 9)).alloc (Obj.cells zeroT 131)).alloc (Obj.cells #[.int .i64 0] 22)) (str T) ⟨#[10]⟩
 rw [World.size_alloc, World.size_alloc, World.size_alloc] at hx
 simp only [World.size_alloc] at hO0 hE0
 obtain ⟨x1, x2, x3, x4, x5⟩ := hx
 have hN := Lib.hid (hN0.belowB x4 (by omega))
 have hO := Lib.hid (hO0.belowB x4 (by omega))
 have hE := Lib.hid (hE0.belowB x4 (by omega))
 have hB := Lib.hid (hB0.out.trans (x4.mono (by omega)))
 have hS := Lib.hid (h.next hB.out)
 have hSg := Lib.hid (hs.next hB.out)
 have hLv := Lib.hid (hv.next hB.out)
 have hm := h.lt
 have hms : 7 < w.heap.size := block_lt_of_cell (hs 0 (by omega))
 have hml : 8 < w.heap.size := block_lt_of_cell (hv 0 (by omega))
 clear x4 hB0 hN0 hO0 hE0 HS h hs hv
 generalize seqW (((w.alloc (Obj.cells #[.string (str r.nm)] 9)).alloc (Obj.cells zeroT 131)).alloc (Obj.cells #[.int .i64 0] 22)) (str T) ⟨#[10]⟩ = W0 at *
 generalize hg : w.heap.size = g at *
 have HG := Lib.hid hg
 clear hg
 generalize hb3 : g + 1 + 1 + 1 = b at *
 have hb3a : b ≤ g + 3 := by omega
 have hb3b : g + 3 ≤ b := by omega
 clear hb3
 have HPr := Lib.hid (fun W (hs : Sgs W) (hv : Lvs W) (h : Shp W) => parse_printn r.t (row_ok r hr).1 (row_ok r hr).2.1 W hs hv h)
 have HTx := Lib.hid (fun W (h : Shp W) => text_any r hr W h)
 refine wpIn_rangeFunc_C (F := Fence.wide) rfl (by omega) (gf := 102) (lb := #[.pointer (some ⟨b + 1, 0, none⟩), .pointer (some ⟨b, 0, none⟩), .pointer (some ⟨b + 2, 0, none⟩)]) rfl trivial (enters_of Tryz.func102 (by kernel_rfl) rfl)
  (enc := fun x => .string (str x)) (own := fun k => k = b) (kp := seqKeep b) (xs := catL)
  (fun W hW => splitSeq_C _ b (by omega) ⟨#[10]⟩ (by decide) (by decide) T (by omega) catL hP.out W (hW.box x1 id) (hW.box x2 id) (hW.box x3 id) (hS.out.only hW id) (by omega)) (fun k hk => .inl hk)
  (fun k hk => by rcases hk with h | h | h | h <;> omega) rfl
  (fun pre W => Box W g 9 #[.string (str r.nm)] ∧ Box W (g + 1) 131 zeroT ∧ Box W (g + 2) 22 #[.int .i64 0] ∧ Below g w W ∧ Shp W ∧ Sgs W ∧ Lvs W ∧ ∀ x ∈ pre, x ≠ r.line)
  (fun c _ W => c = .ret ∧ ∃ u : Tr, Box W (g + 1) 131 u.cells ∧ Box W (g + 2) 22 #[.int .i64 0] ∧ ReadAs (RTof r.t) r.t.ex u ∧ TrNew (W0.heap.size + 2) W u ∧ TrFit u ∧ Below g w W)
  ?hI ?hIx ⟨hN.out, hO.out, hE.out, hB.out, hS.out, hSg.out, hLv.out, fun x hx => absurd hx (List.not_mem_nil)⟩
  (fun x => { tmps := #[.string (str r.nm), .pointer (some ⟨g, 0, none⟩), .pointer (some ⟨g + 1, 0, none⟩), .pointer (some ⟨g + 1 + 1, 0, none⟩), .string (str x), undef, undef, undef, undef, undef, undef, seqF b, .string (str x), undef, undef, undef, undef, undef, undef, undef, undef, undef, undef, undef, undef, undef, undef, undef, undef, undef, undef, undef], defers := [] }) ?assign ?body ?done ?stop
 case hI =>
  rintro pre A B ⟨h1, h2, h3, h4, h5, h6, h7, h8⟩ hAB
  have hAs := h3.lt
  refine ⟨hAB.box h1 (by omega), hAB.box h2 (by omega), hAB.box h3 (by omega), h4.trans (below_only _ hAB (fun k hk => by omega) (by omega)), h5.only hAB (by omega), ?_, ?_, h8⟩
  ·intro k hk; exact (World.cell?_of_block (hAB.block _ (block_lt_of_cell (h6 k hk)) (show ¬ (7 = b ∨ 7 = W0.heap.size ∨ 7 = W0.heap.size + 1) by omega))).trans (h6 k hk)
  ·intro k hk; exact (World.cell?_of_block (hAB.block _ (block_lt_of_cell (h7 k hk)) (show ¬ (8 = b ∨ 8 = W0.heap.size ∨ 8 = W0.heap.size + 1) by omega))).trans (h7 k hk)
 case hIx =>
  rintro c pre A B ⟨rfl, u, h1, h2, h3, h4, h5, h6⟩ hAB
  have hAs := h2.lt
  exact ⟨rfl, u, hAB.box h1 (by omega), hAB.box h2 (by omega), h3, h4.only hAB (fun k hk => by omega), h5, h6.trans (below_only _ hAB (fun k hk => by omega) (by omega))⟩
 case assign =>
  intro l x W K hK
  gi_wp2
  exact hK
 case body =>
  rintro l pre x rest W hxs hlt ⟨h1, h2, h3, h4, h5, h6, h7, h8⟩
  have hmem : x ∈ catL := by rw [hxs]; simp
  obtain ⟨r', hr', rfl⟩ := List.mem_map.1 hmem
  have hxl := line_len r' hr'
  have hcut := cut_row r' hr'
  have hone := row_one r' r hr' hr
  have hcat : ∀ x ∈ pre, x ≠ r.line := h8
  have HC := Lib.hid (cutc_any (str r'.line) 32 W (by rw [str_size]; omega) h5)
  rw [str_data, hcut] at HC
  clear hcut
  by_cases he : r'.nm = r.nm
  ·obtain rfl := hone he
   have t1 : ((str r'.nm).toList == (str r'.nm).toList) = true := beq_self_eq_true _
   have HH4 := Lib.hid h4
   have HH5 := Lib.hid h5
   have HH6 := Lib.hid h6
   have HH7 := Lib.hid h7
   clear h4 h5 h6 h7
   have hv := h1.cell 0
   generalize str (r'.ep ++ 32 :: (r'.cy ++ 32 :: (r'.lt ++ 32 :: r'.xp))) = s2 at *
   gi_wp2_with (first
    | (refine ⟨trivial, ?_⟩; gi_at_call 53; refine (CallsIn.inRound l (callsIn_wide.2 HC.out)).mono ?_; rintro e w1 ⟨rfl, hb⟩; have q1 := h1.below hb; have hsz := hb.size; have HB1 := Lib.hid hb; have hv1 := q1.cell 0; clear h1 hb hv HC)
    | (refine ⟨trivial, ?_⟩; gi_at_call 105; refine (CallsIn.inRound l (callsIn_wide.2 (HTx.out w1 (HH5.out.next HB1.out)))).mono ?_; rintro e w2 ⟨rfl, hb⟩; have HB2 := Lib.hid (below_then HB1.out hb); clear hb q1 hv1 HB1)
    | (refine ⟨trivial, ?_⟩; gi_at_call 104; refine (CallsIn.inRound l (callsIn_wide.2 (HPr.out w2 (HH6.out.next HB2.out) (HH7.out.next HB2.out) (HH5.out.next HB2.out)))).mono ?_; rintro e w3 ⟨u, rfl, hra, hnw, hft, hb⟩; have HRa := Lib.hid hra; have HNw := Lib.hid hnw; have HFt := Lib.hid hft; have HB3 := Lib.hid (below_then HB2.out hb); have hsz3 := HB3.out.size; have hsz2 := HB2.out.size; have q2 := h2.below HB3.out; have q3 := h3.below HB3.out; have c0 := q2.cell 0; have c1 := q2.cell 1; have c2 := q2.cell 2; have c3 := q2.cell 3; have c4 := q2.cell 4; have c5 := q2.cell 5; have c6 := q2.cell 6; have cf := q2.free; have cl := q2.lt; have d0 := q3.cell 0; have df := q3.free; have dl := q3.lt; have hw2 := Lib.hid hb.size; have h2' := q2; have h3' := q3; clear hb hra hnw hft h2 h3 q2 q3))
   have q2 := (((((((h2'.set_ 0 (.string u.nm)).set_ 1 (.int .i64 u.ep)).set_ 2 (.int .i64 u.cy)).set_ 3 (.int .i64 u.k)).set_ 4 (.int .i64 u.n)).set_ 5 (.slice u.A u.ks.length u.c)).set_ 6 (.slice u.A1 u.mo.length u.c1)).far (p := ⟨g + 1 + 1, 0, none⟩) (show g + 1 ≠ g + 1 + 1 by omega) (.int .i64 0)
   have q3 := (((((((h3'.far (p := ⟨g + 1, 0, none⟩) (show g + 1 + 1 ≠ g + 1 by omega) (.string u.nm)).far (p := ⟨g + 1, 1, none⟩) (show g + 1 + 1 ≠ g + 1 by omega) (.int .i64 u.ep)).far (p := ⟨g + 1, 2, none⟩) (show g + 1 + 1 ≠ g + 1 by omega) (.int .i64 u.cy)).far (p := ⟨g + 1, 3, none⟩) (show g + 1 + 1 ≠ g + 1 by omega) (.int .i64 u.k)).far (p := ⟨g + 1, 4, none⟩) (show g + 1 + 1 ≠ g + 1 by omega) (.int .i64 u.n)).far (p := ⟨g + 1, 5, none⟩) (show g + 1 + 1 ≠ g + 1 by omega) (.slice u.A u.ks.length u.c)).far (p := ⟨g + 1, 6, none⟩) (show g + 1 + 1 ≠ g + 1 by omega) (.slice u.A1 u.mo.length u.c1)).set_ 0 (.int .i64 0)
   have HO : ∀ p : Nat → Prop, p (g + 1) → p (g + 1 + 1) → Only p w3 ((((((((w3.setCell ⟨g + 1, 0, none⟩ (.string u.nm)).setCell ⟨g + 1, 1, none⟩ (.int .i64 u.ep)).setCell ⟨g + 1, 2, none⟩ (.int .i64 u.cy)).setCell ⟨g + 1, 3, none⟩ (.int .i64 u.k)).setCell ⟨g + 1, 4, none⟩ (.int .i64 u.n)).setCell ⟨g + 1, 5, none⟩ (.slice u.A u.ks.length u.c)).setCell ⟨g + 1, 6, none⟩ (.slice u.A1 u.mo.length u.c1)).setCell ⟨g + 1 + 1, 0, none⟩ (.int .i64 0)) := fun p p1 p2 =>
    (((((((only_set _ (g + 1) 0 _ p1).trans (only_set _ (g + 1) 1 _ p1)).trans (only_set _ (g + 1) 2 _ p1)).trans (only_set _ (g + 1) 3 _ p1)).trans (only_set _ (g + 1) 4 _ p1)).trans (only_set _ (g + 1) 5 _ p1)).trans (only_set _ (g + 1) 6 _ p1)).trans (only_set _ (g + 1 + 1) 0 _ p2)
   have hc2 : (((((((zeroT.setIfInBounds 0 (.string u.nm)).setIfInBounds 1 (.int .i64 u.ep)).setIfInBounds 2 (.int .i64 u.cy)).setIfInBounds 3 (.int .i64 u.k)).setIfInBounds 4 (.int .i64 u.n)).setIfInBounds 5 (.slice u.A u.ks.length u.c)).setIfInBounds 6 (.slice u.A1 u.mo.length u.c1)) = u.cells := rfl
   generalize (((((((w3.setCell ⟨g + 1, 0, none⟩ (.string u.nm)).setCell ⟨g + 1, 1, none⟩ (.int .i64 u.ep)).setCell ⟨g + 1, 2, none⟩ (.int .i64 u.cy)).setCell ⟨g + 1, 3, none⟩ (.int .i64 u.k)).setCell ⟨g + 1, 4, none⟩ (.int .i64 u.n)).setCell ⟨g + 1, 5, none⟩ (.slice u.A u.ks.length u.c)).setCell ⟨g + 1, 6, none⟩ (.slice u.A1 u.mo.length u.c1)).setCell ⟨g + 1 + 1, 0, none⟩ (.int .i64 0) = W5 at *
   have HOA := (only_below (p := fun k => ¬ (seqKeep b k ∨ k = W0.heap.size ∨ k = W0.heap.size + 1)) HB3.out).trans (HO _ (by omega) (by omega))
   have HOB := HO (fun k => k = g + 1 ∨ k = g + 1 + 1) (.inl rfl) (.inr rfl)
   have hl5 := q3.lt
   refine ⟨HOA.trans (only_alloc _ _), rfl, u, q2.alloc _, q3.alloc _, HRa.out, ?_, HFt.out, ?_⟩
   ·exact ((HNw.out.only HOB (fun k hk => by omega)).next (below_alloc1 _ _)).lower (by omega)
   ·exact ((HH4.out.trans (HB3.out.mono (by omega))).trans (below_only _ HOB (fun k hk => by omega) (by omega))).trans ((below_alloc1 _ _).mono (by omega))
  ·have t1 : ((str r'.nm).toList == (str r.nm).toList) = false := by
    rw [beq_eq_false_iff_ne, str_toList, str_toList]
    exact he
   have HH4 := Lib.hid h4
   have HH5 := Lib.hid h5
   have HH6 := Lib.hid h6
   have HH7 := Lib.hid h7
   clear h4 h5 h6 h7
   have hv := h1.cell 0
   gi_wp2_with (refine ⟨trivial, ?_⟩; gi_at_call 53; refine (CallsIn.inRound l (callsIn_wide.2 HC.out)).mono ?_; rintro e w1 ⟨rfl, hb⟩; have q1 := h1.below hb; have hsz := hb.size; have HB1 := Lib.hid hb; have hv1 := q1.cell 0; clear h1 hb hv HC)
   have HO := only_below (p := fun k => ¬ (seqKeep b k ∨ k = W0.heap.size ∨ k = W0.heap.size + 1)) HB1.out
   refine ⟨HO, q1, h2.below HB1.out, h3.below HB1.out, HH4.out.trans (HB1.out.mono (by have := h3.lt; omega)), HH5.out.next HB1.out, HH6.out.next HB1.out, HH7.out.next HB1.out, fun y hy => ?_⟩
   rcases List.mem_append.1 hy with hy | hy
   ·exact h8 y hy
   ·obtain rfl := List.mem_singleton.1 hy
    intro e
    have e2 := congrArg (fun z => (Lib.cut z [32]).1) e
    simp only [cut_row r' hr', cut_row r hr] at e2
    exact he e2
 case done =>
  rintro W hlt ⟨h1, h2, h3, h4, h5, h6, h7, h8⟩ hK
  exact absurd rfl (h8 r.line (List.mem_map_of_mem hr))
 case stop =>
  rintro c pre W hlt hpre ⟨rfl, u, h1, h2, h3, h4, h5, h6⟩ hK
  have hl := h2.lt
  have HH3 := Lib.hid h3
  have HH4 := Lib.hid h4
  have HH5 := Lib.hid h5
  have HH6 := Lib.hid h6
  have hP : Only (fun k => k = W0.heap.size) W (W.putObj W0.heap.size (Obj.deferred none)) := only_put W _ _ rfl
  have k1 := hP.box h1 (by omega)
  have k2 := hP.box h2 (by omega)
  have c0 : (W.putObj W0.heap.size (Obj.deferred none)).cell? ⟨g + 1, 0, none⟩ = some (.string u.nm) := k1.cell 0
  have c1 : (W.putObj W0.heap.size (Obj.deferred none)).cell? ⟨g + 1, 1, none⟩ = some (.int .i64 u.ep) := k1.cell 1
  have c2 : (W.putObj W0.heap.size (Obj.deferred none)).cell? ⟨g + 1, 2, none⟩ = some (.int .i64 u.cy) := k1.cell 2
  have c3 : (W.putObj W0.heap.size (Obj.deferred none)).cell? ⟨g + 1, 3, none⟩ = some (.int .i64 u.k) := k1.cell 3
  have c4 : (W.putObj W0.heap.size (Obj.deferred none)).cell? ⟨g + 1, 4, none⟩ = some (.int .i64 u.n) := k1.cell 4
  have c5 : (W.putObj W0.heap.size (Obj.deferred none)).cell? ⟨g + 1, 5, none⟩ = some (.slice u.A u.ks.length u.c) := k1.cell 5
  have c6 : (W.putObj W0.heap.size (Obj.deferred none)).cell? ⟨g + 1, 6, none⟩ = some (.slice u.A1 u.mo.length u.c1) := k1.cell 6
  have c7 : (W.putObj W0.heap.size (Obj.deferred none)).cell? ⟨g + 1 + 1, 0, none⟩ = some (.int .i64 0) := k2.cell 0
  clear h1 h2 h3 h4 h5 h6
  gi_wp2
  refine ⟨by simp, .inl ⟨_, _, rfl, run_takeDeferred hK, ?_⟩⟩
  generalize W.putObj W0.heap.size (Obj.deferred none) = W9 at *
  refine ⟨.tuple #[u.val, .int .i64 0], by simp [results, Tryz.results67, go_sem, c0, c1, c2, c3, c4, c5, c6, c7], u, rfl, HH3.out, ?_, HH5.out, ?_⟩
  ·rw [HG.out]
   exact (HH4.out.only hP (fun k hk => by omega)).lower (by omega)
  ·rw [HG.out]
   exact HH6.out.trans (below_only _ hP (fun k hk => by omega) (by omega))
end Go.Proofs.YtoemghiejfkpbaaGreatDoor
/- Contracts of catalog.Calendar, Date and Day. -/
namespace Go.Proofs.YtoemghiejfkpbaaGreatDoor
open Go Go.RowKit
set_option linter.unusedVariables false
structure Env (w : World) : Prop where
 s : Sgs w
 l : Lvs w
 h : Shp w
theorem Env.next {w w' : World} (h : Env w) (hb : Below w.heap.size w w') : Env w' := ⟨h.s.next hb, h.l.next hb, h.h.next hb⟩
theorem row_setD {w : World} {B : Nat} {A : Option Addr} {cs : List Value} (h : Row w B A cs) (p : Addr) (v : Value) (hp : ∀ a, A = some a → a.block ≠ p.block) : Row (w.setCell p v) B A cs := by
 rcases h with h | ⟨b, o, hA, hb, hc⟩
 ·exact .inl h
 ·refine .inr ⟨b, o, hA, hb, fun j v hv => ?_⟩
  rw [World.cell?_of_block (Below.heap_setCell _ _ _ b (hp _ hA))]
  exact hc j v hv
theorem CalV.set_ {w : World} {c : Cal} (h : CalV w c) (g : Nat) (i : Nat) (v : Value) (h1 : ∀ a, c.A1 = some a → g < a.block) (h2 : ∀ a, c.A2 = some a → g < a.block) : CalV (w.setCell ⟨g, i, none⟩ v) c :=
 ⟨⟨by rw [show (w.setCell ⟨g, i, none⟩ v).heap.size = w.heap.size from by simp]; exact row_setD h.r.r1 _ _ fun a ha => by have := h1 a ha; show a.block ≠ g; omega, by rw [show (w.setCell ⟨g, i, none⟩ v).heap.size = w.heap.size from by simp]; exact row_setD h.r.r2 _ _ fun a ha => by have := h2 a ha; show a.block ≠ g; omega⟩, h.f, h.ok⟩
def CalQ (r : CatRow) (w : World) (e : Ending) (w' : World) : Prop :=
 ∃ c : Cal, e = .returned (.tuple #[c.val, .int .i64 0]) ∧ CalOf r c ∧ CalV w' c ∧ (∀ a, c.A1 = some a → w.heap.size ≤ a.block) ∧ (∀ a, c.A2 = some a → w.heap.size ≤ a.block) ∧ Below w.heap.size w w'
theorem comp_row (r : CatRow) (hr : r ∈ catR) (u : Tr) (hu : ReadAs (RTof r.t) r.t.ex u) (hf : TrFit u) (w : World) (hin : TrIn w u) : Calls Tryz.prog 68 #[u.val] w (CalQ r w) := by
 obtain ⟨ok, hl, hn⟩ := row_ok r hr
 obtain ⟨oku, hp⟩ := read_ok ok hu
 have e1 : u.nm = r.t.nm := by rw [hu.nm]; exact str_own' r.t.nm
 have e2 : u.ep = r.t.ep := hu.ep
 have e3 : u.cy = r.t.cy := hu.cy
 have e4 : u.mo = r.t.mo := hu.mo
 have e5 : u.leaps u.cy.toNat = r.t.leaps r.t.cy.toNat := by
  unfold Tr.leaps
  rw [e3]
  exact List.filter_congr fun y _ => by rw [hu.ex.eval y]
 refine (Compile_full u w hin hf).mono ?_
 rintro e w' ⟨c, E, rfl, hb, h0, h1⟩
 by_cases hE : E = 0
 ·subst hE
  obtain ⟨⟨_, a1, a2, a3, a4, a5, a6, a7, a8, a9, a10⟩, _⟩ := h0 rfl
  exact ⟨c, rfl, ⟨by rw [a1, e1, hn], by rw [a2, e2], by rw [a3, e3], by rw [a4, e4], by rw [a5, e5]⟩, ⟨a6, a7, a8⟩, a9, a10, hb⟩
 ·obtain ⟨_, j, hj, he, _⟩ := h1 hE oku
  rw [hu.ex.eval, row_ev r hr j (by rw [← e3]; exact hj)] at he
  exact absurd he hE
set_option maxRecDepth 100000 in
set_option maxHeartbeats 4000000 in
theorem Calendar_any (r : CatRow) (hr : r ∈ catR) (w : World) (hv : Env w) : Calls Tryz.prog 37 #[.string (str r.nm)] w (CalQ r w) := by
 have HB := Lib.hid (below_alloc1 w (Obj.cells zeroCal 43))
 have HX := Lib.hid (Box.new w 43 zeroCal)
 have HE := Lib.hid (hv.next HB.out)
 have HT := Lib.hid (fun w (h : Env w) => tree_any r hr w h.s h.l h.h)
 have HC := Lib.hid (fun u hu hf w hin => comp_row r hr u hu hf w hin)
 clear hv
 unfold TreeQ at HT
 unfold CalQ at *
 go_enter Tryz.func37, Tryz.ntmps37
 go_wp2_with fail
 generalize w.alloc (Obj.cells zeroCal 43) = W0 at *
 generalize hg : w.heap.size = g at *
 have HG := Lib.hid hg
 clear hg
 refine (HT.out _ HE.out).mono ?_
 rintro e w1 ⟨u, rfl, hra, hnw, hft, hb1⟩
 have HX1 := Lib.hid (HX.out.below hb1)
 have HB1 : Hid (Below g w w1) := HB.out.trans (hb1.mono (by have := HX.out.lt; omega))
 have HI1 := Lib.hid hnw.in_
 have HC1 := Lib.hid (fun w hin => HC.out u hra hft w hin)
 clear hra hnw hft hb1 HX HB HE HT HC
 go_wp2_with fail
 have HX2 := Lib.hid (HX1.out.alloc (Obj.cells u.cells 131))
 have HB2 : Hid (Below g w (w1.alloc (Obj.cells u.cells 131))) := HB1.out.alloc (by have := HX1.out.lt; omega) _
 have HI2 := Lib.hid (HI1.out.next (below_alloc1 w1 (Obj.cells u.cells 131)))
 clear HX1 HB1 HI1
 generalize w1.alloc (Obj.cells u.cells 131) = w2 at *
 refine (HC1.out _ HI2.out).mono ?_
 rintro e w3 ⟨c, rfl, hof, hcv, ha1, ha2, hb3⟩
 have HX3 := Lib.hid (HX2.out.below hb3)
 have HB3 : Hid (Below g w w3) := HB2.out.trans (hb3.mono (by have := HX2.out.lt; omega))
 have hg2 := HX2.out.lt
 have HA1 : Hid (∀ a, c.A1 = some a → g < a.block) := fun a ha => by have := ha1 a ha; omega
 have HA2 : Hid (∀ a, c.A2 = some a → g < a.block) := fun a ha => by have := ha2 a ha; omega
 have HOf := Lib.hid hof
 have HCv := Lib.hid hcv
 clear hof hcv ha1 ha2 hb3 HX2 HB2 HI2 HC1
 have rf : ∀ i, w3.frozen? ⟨g, i, none⟩ = false := fun i => HX3.out.free i
 have r0 : w3.cell? ⟨g, 0, none⟩ = some (.string ⟨#[]⟩) := HX3.out.cell 0
 have r1 : w3.cell? ⟨g, 1, none⟩ = some (.int .i64 0) := HX3.out.cell 1
 have r2 : w3.cell? ⟨g, 2, none⟩ = some (.int .i64 0) := HX3.out.cell 2
 have r3 : w3.cell? ⟨g, 3, none⟩ = some (.slice none 0 0) := HX3.out.cell 3
 have r4 : w3.cell? ⟨g, 4, none⟩ = some (.slice none 0 0) := HX3.out.cell 4
 have hl := HX3.out.lt
 go_wp2_with fail
 refine bodyPost_ret (v := .tuple #[c.val, .int .i64 0]) (by simp [results, Tryz.results37, go_sem, r0, r1, r2, r3, r4]) rfl ?_
 refine ⟨c, rfl, HOf.out, ((((HCv.out.set_ g 0 _ HA1.out HA2.out).set_ g 1 _ HA1.out HA2.out).set_ g 2 _ HA1.out HA2.out).set_ g 3 _ HA1.out HA2.out).set_ g 4 _ HA1.out HA2.out, fun a ha => by have := HA1.out a ha; have := HG.out; omega, fun a ha => by have := HA2.out a ha; have := HG.out; omega, ?_⟩
 rw [HG.out]
 exact ((((HB3.out.setCell (p := ⟨g, 0, none⟩) (Nat.le_refl _) _).setCell (p := ⟨g, 1, none⟩) (Nat.le_refl _) _).setCell (p := ⟨g, 2, none⟩) (Nat.le_refl _) _).setCell (p := ⟨g, 3, none⟩) (Nat.le_refl _) _).setCell (p := ⟨g, 4, none⟩) (Nat.le_refl _) _
end Go.Proofs.YtoemghiejfkpbaaGreatDoor
/- Contracts of the law package's name and known. -/
namespace Go.Proofs.YtoemghiejfkpbaaGreatDoor
open Go Go.RowKit
set_option linter.unusedVariables false
def row0 : CatRow := cr0
def rowK (k : Int) : CatRow := catR.getD (k % 40).toNat row0
theorem rowK_in (k : Int) : rowK k ∈ catR := by
 have h : (k % 40).toNat < catR.length := by rw [catR_len]; omega
 unfold rowK
 rw [List.getD_eq_getElem?_getD, List.getElem?_eq_getElem h]
 exact List.getElem_mem h
theorem cut_nm (r : CatRow) (hr : r ∈ catR) : nmV r.line = .string (str r.nm) := by unfold nmV; rw [cut_row r hr]
theorem names_at (i : Nat) (h : i < 40) : (nmsV catL)[i]? = some (.string (str (catR.getD i row0).nm)) := by
 have hl : i < catR.length := by rw [catR_len]; exact h
 unfold nmsV catL
 rw [List.map_map, List.getElem?_map, List.getElem?_eq_getElem hl, Option.map_some, List.getD_eq_getElem?_getD, List.getElem?_eq_getElem hl]
 show some (nmV (catR[i]).line) = _
 rw [cut_nm _ (List.getElem_mem hl)]
 rfl
theorem IsOn.first {c : Cal} (ok : CalOk c) (h : 0 < c.mlen 1 0) : IsOn c 1 0 0 c.ep := ⟨by have := ok.mo.n1; omega, Int.le_refl _, h, by rw [Cal.ny_one ok, c.pre_zero]; omega⟩
theorem mlen_pos {r : CatRow} (hr : r ∈ catR) {c : Cal} (h : CalOf r c) (y : Int) : 0 < c.mlen y 0 := by
 have hd : catR.all (fun r => decide (0 < (r.t.mo.getD 0 mth0).sh ∧ 0 < (r.t.mo.getD 0 mth0).lo)) = true := by decide +kernel
 have h1 := of_decide_eq_true (List.all_eq_true.1 hd r hr)
 unfold Cal.mlen
 rw [h.mo]
 split
 ·exact h1.2
 ·exact h1.1
end Go.Proofs.YtoemghiejfkpbaaGreatDoor
