/- Contract of rule.Parse at a text that was written. -/
import Derived.Test.YtbmbphikjainiaaDoorParseA
namespace Go.Proofs.YtbmbphikjainiaaDoor
open Go.RowKit
set_option linter.unusedVariables false

mutual
theorem sz_strip : ∀ t : RE, sz (strip t) = sz t
  | .node k n A c ks => by rw [strip, sz, sz, szL_strip ks]
theorem szL_strip : ∀ ks : List RE, szL (stripL ks) = szL ks
  | [] => rfl
  | x :: r => by rw [stripL, szL, szL, sz_strip x, szL_strip r]
end
mutual
theorem ht_strip : ∀ t : RE, ht (strip t) = ht t
  | .node k n A c ks => by rw [strip, ht, ht, htL_strip ks]
theorem htL_strip : ∀ ks : List RE, htL (stripL ks) = htL ks
  | [] => rfl
  | x :: r => by rw [stripL, htL, htL, ht_strip x, htL_strip r]
end
theorem Same.ok {t u : RE} (h : Same t u) (hu : ReOk u) : ReOk t := ok_strip (strip_ok hu) h
theorem Same.sz {t u : RE} (h : Same t u) : sz t = sz u := by rw [← sz_strip t, ← sz_strip u, h]
theorem Same.ht {t u : RE} (h : Same t u) : ht t = ht u := by rw [← ht_strip t, ← ht_strip u, h]

/-- the rule that was read -/
structure ReadAs (t : RT) (lp : RE) (u : Tr) : Prop where
  nm : u.nm = str t.nm
  ep : u.ep = t.ep
  cy : u.cy = t.cy
  mo : u.mo = t.mo
  ex : Same u.ex lp
def PrsQ (t : RT) (lp : RE) (w : World) (e : Ending) (w' : World) : Prop :=
  ∃ u : Tr, e = .returned (.tuple #[u.val, .int .i64 0, .int .i64 0]) ∧ ReadAs t lp u ∧ TrIn w' u ∧ TrFit u ∧ Below w.heap.size w w'
abbrev zeroT : Array Value := #[.string ⟨#[]⟩, .int .i64 0, .int .i64 0, .int .i64 0, .int .i64 0, .slice none 0 0, .slice none 0 0]
set_option maxHeartbeats 8000000 in
set_option maxRecDepth 100000 in
theorem parse_rule (t : RT) (ok : RTOk t) (lp : RE) (X : List Tok) (hX : toks t.lt = [108, 101, 97, 112] :: X) (hlen : (t.rest 0).length ≤ 4000) (hh : NameOk (str t.nm) ∧ (-4000000 ≤ t.ep ∧ t.ep ≤ 4000000) ∧ 1 ≤ t.cy ∧ t.cy ≤ 3000) (hlp : ReFine lp) (hmo : MthsOk t.mo) (w : World) (hs : Sgs w) (hv : Lvs w) (hsh : Shp w)
    (hE : ∀ g W S, S.size ≤ 5000 → RdOk W g S 0 X → Calls Tryd.prog 33 #[.pointer (some ⟨g, 0, none⟩), .int .i64 0] W (ExprQ g S 0 lp [] W)) :
    Calls Tryd.prog 5 #[.string (str (t.rest 0))] w (PrsQ t lp w) := by
  have hsz0 : (str (t.rest 0)).size ≤ 4000 := by rw [str_size]; exact hlen
  have t1 : decide (4000 < ((str (t.rest 0)).size : Int)) = false := decide_eq_false (by omega)
  have t2 : decide (4000 < (str (t.rest 0)).size) = false := decide_eq_false (by omega)
  have hrl : ∀ k, k ≤ 4 + t.mo.length → (t.rest k).length ≤ 4000 := fun k hk => by
    induction k with
    | zero => exact hlen
    | succ k ih =>
      have h1 := ih (by omega)
      rw [t.step k (by omega)] at h1
      simp at h1
      omega
  have hll : ∀ k, k < 4 + t.mo.length → (t.line k).length ≤ 4000 := fun k hk => by
    have h1 := hrl k (by omega)
    rw [t.step k hk] at h1
    simp at h1
    omega
  have HE1 : Hid (∀ k, k < 4 + t.mo.length → (str (t.rest k)).toList.isEmpty = false) := fun k hk => by
    rw [str_toList, t.step k hk]
    simp
  have HE2 : Hid ((str (t.rest (4 + t.mo.length))).toList.isEmpty = true) := by unfold Hid; rw [str_toList, t.done]; rfl
  have HC : Hid (∀ k, k < 4 + t.mo.length → ∀ W, Below w.heap.size w W → Calls Tryd.prog 12 #[.string (str (t.rest k)), .string ⟨#[10]⟩] W fun e w' => e = .returned (.tuple #[.string (str (t.line k)), .string (str (t.rest (k + 1))), .bool true]) ∧ Below W.heap.size W w') := fun k hk W hW => by
    have h := cutc_any (str (t.rest k)) 10 W (by rw [str_size]; have := hrl k (by omega); omega) (hsh.next hW)
    rw [str_data, t.step k hk, cut_at 10 _ _ (ok.no10 k hk)] at h
    rw [t.step k hk]
    exact h
  have hg1 : 1 < w.heap.size := block_lt_of_cell (hs 0 (by omega))
  have hg2 : 0 < w.heap.size := block_lt_of_cell (hv 0 (by omega))
  have HST : Hid (∀ k, k < 4 + t.mo.length → ∀ (W0 W : World) (g : Nat), PSt (w.heap.size + 1) t lp k W0 → Below W0.heap.size W0 W → W0.heap.size ≤ g → Below w.heap.size w W → Rd W g (str (t.line k)) 0 0 0 → Calls Tryd.prog 13 #[.pointer (some ⟨g, 0, none⟩), .pointer (some ⟨w.heap.size + 1, 0, none⟩), .int .i64 (k : Int)] W (StepQ (w.heap.size + 1) t lp k W)) := fun k hk W0 W g hp0 hbe hg0 hW hrd =>
    row_step g (w.heap.size + 1) t ok lp X hX k hk W (by have := hp0.lt; omega) hrd (by have := hll k hk; omega) W0 hp0 hbe hg0 (hs.next hW) (hv.next hW) (by omega) (by omega) (fun W' S hS h => hE g W' S hS h)
  have HL20 := ok.ml
  have HCK : Hid (∀ (u : Tr) W, ReadAs t lp u → TrIn W u → TrFit u → Calls Tryd.prog 14 #[u.val] W fun e w' => e = .returned (.int .i64 0) ∧ Below W.heap.size W w') := fun u W hu hin hft => by
    have hok : TrOk u := ⟨by rw [hu.nm, hu.ep, hu.cy]; exact hh, ⟨hu.ex.ok hlp.1, by rw [hu.ex.sz]; exact hlp.2, by rw [hu.ex.ht]; exact hlp.3⟩, by rw [hu.mo]; exact hmo⟩
    refine (trcheck_any u W hin hft).mono ?_
    rintro e w' ⟨E, he, hE', hb⟩
    obtain rfl : E = 0 := hE'.2 hok
    exact ⟨he, hb⟩
  have HNM : Hid ((str t.nm).size ≤ maxLen) := by unfold Hid; have := hh.1.2.1; unfold maxLen; omega
  have HMN : Hid (∀ x ∈ t.mo, x.nm.size ≤ maxLen) := fun x hx => by
    obtain ⟨i, hi, rfl⟩ := List.getElem_of_mem hx
    have := (hmo.each i hi).nm.2.1
    have e : t.mo.getD i mth0 = t.mo[i] := by simp [List.getD, List.getElem?_eq_getElem hi]
    rw [e] at this
    unfold maxLen
    omega
  have hX0 := (Box.new w 27 zeroT).alloc (Obj.cells zeroT 27)
  have hY0 := Box.new (w.alloc (Obj.cells zeroT 27)) 27 zeroT
  rw [show (w.alloc (Obj.cells zeroT 27)).heap.size = w.heap.size + 1 from by simp] at hY0
  have HB0 := Lib.hid (below_alloc2 w (Obj.cells zeroT 27) (Obj.cells zeroT 27))
  have HZ0 := Lib.hid hX0
  have HPS : Hid (PSt (w.heap.size + 1) t lp 0 ((w.alloc (Obj.cells zeroT 27)).alloc (Obj.cells zeroT 27))) := .inl ⟨rfl, hY0⟩
  clear hX0 hY0 hs hv hsh hE hX hlp hmo ok hh hll hrl hg1 hg2
  go_enter Tryd.func5, Tryd.ntmps5
  go_wp2_with fail
  generalize (w.alloc (Obj.cells zeroT 27)).alloc (Obj.cells zeroT 27) = W0 at *
  generalize hg : w.heap.size = g at *
  have HG := Lib.hid hg
  clear hg
  have hgg : w.heap.size ≤ g := by have := HG.out; omega
  go_loopw [0, 6, 7, 8, 9, 10] (fun sv lv _ _ _ _ wr => ∃ k : Nat, k ≤ 4 + t.mo.length ∧ sv = .string (str (t.rest k)) ∧ lv = .int .i64 (k : Int) ∧ Hid (PSt (g + 1) t lp k wr) ∧ Hid (Box wr g 27 zeroT) ∧ Hid (Below g w wr)) (fun _ lv _ _ _ _ _ => 4 + t.mo.length - (intOf lv).toNat)
  case atStart => exact ⟨0, by omega, rfl, rfl, HPS, HZ0, HB0⟩
  case round =>
    clear HPS HB0 HZ0
    obtain ⟨k, hk, rfl, rfl, hps, hbz, hbr⟩ := hrel
    by_cases hlt : k < 4 + t.mo.length
    · have he := HE1.out k hlt
      have hCk := Lib.hid (HC.out k hlt wr hbr.out)
      have hSk := Lib.hid (HST.out k hlt)
      generalize str (t.rest k) = R at *
      go_wp2_with fail
      refine hCk.out.mono ?_
      rintro e w1 ⟨rfl, hb⟩
      have hp1 := hps.out.next hb
      have hz1 := hbz.out.below hb
      have hB1 : Below g w w1 := hbr.out.trans (hb.mono (by have := hbz.out.lt; omega))
      have hal := below_alloc1 w1 (Obj.cells #[.string (str (t.line k)), .int .i64 0, .int .i64 0, .int .i64 0, .int .i64 0] 45)
      have hrd : Rd (w1.alloc (Obj.cells #[.string (str (t.line k)), .int .i64 0, .int .i64 0, .int .i64 0, .int .i64 0] 45)) w1.heap.size (str (t.line k)) 0 0 0 := Box.new w1 45 #[.string (str (t.line k)), .int .i64 0, .int .i64 0, .int .i64 0, .int .i64 0]
      have hB2 : Below g w (w1.alloc (Obj.cells #[.string (str (t.line k)), .int .i64 0, .int .i64 0, .int .i64 0, .int .i64 0] 45)) := hB1.trans (hal.mono (by have := hz1.lt; omega))
      have HR := Lib.hid (hSk.out w1 _ w1.heap.size hp1 hal (Nat.le_refl _) hB2 hrd)
      have HZ2 := Lib.hid (hz1.below hal)
      have HB2 := Lib.hid hB2
      clear hb hp1 hz1 hB1 hal hrd hB2 hCk hSk hps hbz hbr
      go_wp2_with fail
      refine HR.out.mono ?_
      rintro e w3 ⟨rfl, hp3, hb3⟩
      have HP3 := Lib.hid hp3
      have HZ3 : Hid (Box w3 g 27 zeroT) := HZ2.out.belowB hb3 (by omega)
      have HB3 : Hid (Below g w w3) := HB2.out.trans (hb3.mono (by omega))
      clear hp3 hb3 HR HZ2 HB2
      go_wp2_with fail
      go_roundw
      case rel => exact ⟨k + 1, by omega, rfl, by go_num, HP3, HZ3, HB3⟩
      case measure => simp [intOf]; omega
    · obtain rfl : k = 4 + t.mo.length := by omega
      have he := HE2.out
      rcases hps.out with ⟨e, _⟩ | ⟨e, _⟩ | ⟨e, _⟩ | ⟨e, _⟩ | ⟨_, k0, n0, A, c, ks, A1, c1, M, hb1, hs1, _, _, ha, hw⟩
      · omega
      · omega
      · omega
      · omega
      rw [show 4 + t.mo.length - 4 = t.mo.length from by omega] at hb1 hw
      rw [List.take_length] at hw
      have hfit := own_form hw
      obtain ⟨A1', c1', hAv, hc1, hc2⟩ := hfit
      injection hAv with hA1 hlen' hcc
      subst hA1 hcc
      have HU : Hid (ReadAs t lp ⟨str t.nm, t.ep, t.cy, k0, n0, A, c, ks, t.mo, A1, c1⟩) := ⟨rfl, rfl, rfl, rfl, hs1⟩
      have HIN : Hid (TrIn wr ⟨str t.nm, t.ep, t.cy, k0, n0, A, c, ks, t.mo, A1, c1⟩) := ⟨row_own hw, ha.in_⟩
      have HFT : Hid (TrFit ⟨str t.nm, t.ep, t.cy, k0, n0, A, c, ks, t.mo, A1, c1⟩) := ⟨HNM.out, HMN.out, hc1, hc2⟩
      have HCk := Lib.hid (HCK.out _ wr HU.out HIN.out HFT.out)
      have x0 : wr.cell? ⟨g + 1, 0, none⟩ = some (.string (str t.nm)) := hb1.cell 0
      have x1 : wr.cell? ⟨g + 1, 1, none⟩ = some (.int .i64 t.ep) := hb1.cell 1
      have x2 : wr.cell? ⟨g + 1, 2, none⟩ = some (.int .i64 t.cy) := hb1.cell 2
      have x3 : wr.cell? ⟨g + 1, 3, none⟩ = some (.int .i64 k0) := hb1.cell 3
      have x4 : wr.cell? ⟨g + 1, 4, none⟩ = some (.int .i64 n0) := hb1.cell 4
      have x5 : wr.cell? ⟨g + 1, 5, none⟩ = some (.slice A ks.length c) := hb1.cell 5
      have x6 : wr.cell? ⟨g + 1, 6, none⟩ = some (.slice A1 t.mo.length c1) := hb1.cell 6
      have xl : g + 1 < wr.heap.size := hb1.lt
      have HBX := Lib.hid hb1
      have HHW := Lib.hid hw
      have HHA := Lib.hid ha
      have t4 : decide (((4 + t.mo.length : Nat) : Int) < 4) = false := decide_eq_false (by omega)
      clear hb1 hw ha hs1 hc1 hc2 hps hlen'
      generalize str (t.rest (4 + t.mo.length)) = R at *
      go_wp2_with fail
      refine HCk.out.mono ?_
      rintro e w9 ⟨rfl, hb9⟩
      have hz9 := hbz.out.below hb9
      have hb9x := HBX.out.below hb9
      have HW9 := Lib.hid (own_next HHW.out hb9)
      have HA9 := Lib.hid (HHA.out.next hb9)
      have HB9 := Lib.hid (hbr.out.trans (hb9.mono (by have := hbz.out.lt; omega)))
      clear x0 x1 x2 x3 x4 x5 x6 xl HCk HBX HHW HHA hbz hbr hb9 HIN HFT
      have x0 : w9.cell? ⟨g + 1, 0, none⟩ = some (.string (str t.nm)) := hb9x.cell 0
      have x1 : w9.cell? ⟨g + 1, 1, none⟩ = some (.int .i64 t.ep) := hb9x.cell 1
      have x2 : w9.cell? ⟨g + 1, 2, none⟩ = some (.int .i64 t.cy) := hb9x.cell 2
      have x3 : w9.cell? ⟨g + 1, 3, none⟩ = some (.int .i64 k0) := hb9x.cell 3
      have x4 : w9.cell? ⟨g + 1, 4, none⟩ = some (.int .i64 n0) := hb9x.cell 4
      have x5 : w9.cell? ⟨g + 1, 5, none⟩ = some (.slice A ks.length c) := hb9x.cell 5
      have x6 : w9.cell? ⟨g + 1, 6, none⟩ = some (.slice A1 t.mo.length c1) := hb9x.cell 6
      have xl : g + 1 < w9.heap.size := hb9x.lt
      have r0 : w9.cell? ⟨g, 0, none⟩ = some (.string ⟨#[]⟩) := hz9.cell 0
      have r1 : w9.cell? ⟨g, 1, none⟩ = some (.int .i64 0) := hz9.cell 1
      have r2 : w9.cell? ⟨g, 2, none⟩ = some (.int .i64 0) := hz9.cell 2
      have r3 : w9.cell? ⟨g, 3, none⟩ = some (.int .i64 0) := hz9.cell 3
      have r4 : w9.cell? ⟨g, 4, none⟩ = some (.int .i64 0) := hz9.cell 4
      have r5 : w9.cell? ⟨g, 5, none⟩ = some (.slice none 0 0) := hz9.cell 5
      have r6 : w9.cell? ⟨g, 6, none⟩ = some (.slice none 0 0) := hz9.cell 6
      have rf : ∀ i, w9.frozen? ⟨g, i, none⟩ = false := fun i => hz9.free i
      have HZ9 := Lib.hid hz9
      clear hz9 hb9x
      go_wp2_with fail
      refine bodyPost_ret (v := .tuple #[.agg #[.string (str t.nm), .int .i64 t.ep, .int .i64 t.cy, .int .i64 k0, .int .i64 n0, .slice A ks.length c, .slice A1 t.mo.length c1], .int .i64 0, .int .i64 0]) (by simp [results, Tryd.results5, go_sem, r0, r1, r2, r3, r4, r5, r6]) rfl ?_
      have hown : (((((((w9.setCell ⟨g, 0, none⟩ (.string (str t.nm))).setCell ⟨g, 1, none⟩ (.int .i64 t.ep)).setCell ⟨g, 2, none⟩ (.int .i64 t.cy)).setCell ⟨g, 3, none⟩ (.int .i64 k0)).setCell ⟨g, 4, none⟩ (.int .i64 n0)).setCell ⟨g, 5, none⟩ (.slice A ks.length c)).setCell ⟨g, 6, none⟩ (.slice A1 t.mo.length c1)).ownsRow M 60 3 (.slice A1 t.mo.length c1) t.mo.length (t.mo.flatMap mthF) := own_heap HW9.out fun b hb => by
        have h := ownApart HW9.out HZ9.out (by decide) b hb
        rw [Below.heap_setCell _ _ _ b h, Below.heap_setCell _ _ _ b h, Below.heap_setCell _ _ _ b h, Below.heap_setCell _ _ _ b h, Below.heap_setCell _ _ _ b h, Below.heap_setCell _ _ _ b h, Below.heap_setCell _ _ _ b h]
      have hre : ReAt (((((((w9.setCell ⟨g, 0, none⟩ (.string (str t.nm))).setCell ⟨g, 1, none⟩ (.int .i64 t.ep)).setCell ⟨g, 2, none⟩ (.int .i64 t.cy)).setCell ⟨g, 3, none⟩ (.int .i64 k0)).setCell ⟨g, 4, none⟩ (.int .i64 n0)).setCell ⟨g, 5, none⟩ (.slice A ks.length c)).setCell ⟨g, 6, none⟩ (.slice A1 t.mo.length c1)) (fun b => g + 1 < b ∧ b < M) (((((((w9.setCell ⟨g, 0, none⟩ (.string (str t.nm))).setCell ⟨g, 1, none⟩ (.int .i64 t.ep)).setCell ⟨g, 2, none⟩ (.int .i64 t.cy)).setCell ⟨g, 3, none⟩ (.int .i64 k0)).setCell ⟨g, 4, none⟩ (.int .i64 n0)).setCell ⟨g, 5, none⟩ (.slice A ks.length c)).setCell ⟨g, 6, none⟩ (.slice A1 t.mo.length c1)).heap.size (.node k0 n0 A c ks) := (((((((HA9.out.set_ g 0 _ (by omega)).set_ g 1 _ (by omega)).set_ g 2 _ (by omega)).set_ g 3 _ (by omega)).set_ g 4 _ (by omega)).set_ g 5 _ (by omega)).set_ g 6 _ (by omega))
      refine ⟨⟨str t.nm, t.ep, t.cy, k0, n0, A, c, ks, t.mo, A1, c1⟩, rfl, HU.out, ⟨row_own hown, hre.in_⟩, ⟨HNM.out, HMN.out, ?_, ?_⟩, ?_⟩
      · obtain ⟨A1', c1', hAv, hc1, hc2⟩ := own_form hown
        injection hAv with _ _ hcc
        subst hcc
        exact hc1
      · obtain ⟨A1', c1', hAv, hc1, hc2⟩ := own_form hown
        injection hAv with _ _ hcc
        subst hcc
        exact hc2
      · rw [HG.out]
        exact (((((((HB9.out.setCell (p := ⟨g, 0, none⟩) (by exact Nat.le_refl _) _).setCell (p := ⟨g, 1, none⟩) (by exact Nat.le_refl _) _).setCell (p := ⟨g, 2, none⟩) (by exact Nat.le_refl _) _).setCell (p := ⟨g, 3, none⟩) (by exact Nat.le_refl _) _).setCell (p := ⟨g, 4, none⟩) (by exact Nat.le_refl _) _).setCell (p := ⟨g, 5, none⟩) (by exact Nat.le_refl _) _).setCell (p := ⟨g, 6, none⟩) (by exact Nat.le_refl _) _)
end Go.Proofs.YtbmbphikjainiaaDoor
