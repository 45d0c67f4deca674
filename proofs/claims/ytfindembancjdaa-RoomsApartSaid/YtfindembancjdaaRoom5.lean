/- Contract of Book: the walk. -/
import Derived.Test.YtfindembancjdaaRoom4
import Derived.Test.YtfindembancjdaaIns2
import Derived.BigQuiet
namespace Go.Proofs.Ytfindembancjdaa
open Go.RowKit
set_option linter.unusedVariables false

set_option maxHeartbeats 1000000 in
set_option maxRecDepth 100000 in
theorem book_any {base g gB : Nat} {An : Option Addr} {cn : Nat} {nms : List ByteArray} {vs : List Value} {ls : List (List Bk)} (b : Bk) (w : World) (h : Rms w base g gB An cn nms vs ls) (hn : nms.length ≤ 20) (hgB : base ≤ gB) (hbase : base ≤ w.heap.size) (hl : ∀ k, (ls.getD k []).length ≤ 1000)
    (hw : b.who.size ≤ maxLen) (h1 : -9223372036854775808 ≤ b.fr) (h2 : b.fr ≤ 9223372036854775807) (h3 : -9223372036854775808 ≤ b.to) (h4 : b.to ≤ 9223372036854775807) :
    Calls Try.prog 23 #[.pointer (some ⟨g, 0, none⟩), b.val] w (BookQ base g gB An cn nms ls b w) := by
  have NO : Hid (∀ (E : Int) (W : World), E ≠ 0 → Below w.heap.size w W → (∀ k : Nat, k < nms.length → IdxS nms b.rm (k : Int) → ¬ BookOk (ls.getD k []) b) → BookQ base g gB An cn nms ls b w (.returned (.int .i64 E)) W) := fun E W hE hb hno =>
    ⟨E, vs, ls, rfl, .inr ⟨hE, rfl, hno⟩, h.next hb, hb.mono hbase, hb.size⟩
  have HW := Lib.hid (below_alloc1 w (Obj.cells b.cells 55))
  have hX := Box.new w 55 b.cells
  have H1 := Lib.hid (h.next HW.out)
  have HX := Lib.hid hX
  have x0 : (w.alloc (Obj.cells b.cells 55)).cell? ⟨w.heap.size, 0, none⟩ = some (.string b.rm) := hX.cell 0
  have x3 : (w.alloc (Obj.cells b.cells 55)).cell? ⟨w.heap.size, 3, none⟩ = some (.string b.who) := hX.cell 3
  have HF := Lib.hid (find_any b.rm _ H1.out hn)
  have HN := Lib.hid (fun w => isName_any b.who w hw)
  have HH := Lib.hid h
  clear h hX
  go_enter Try.func23, Try.ntmps23
  go_wp2_with fail
  refine HF.out.mono ?_
  rintro e w' ⟨i, rfl, hi, rfl⟩
  generalize hw1 : w.alloc (Obj.cells b.cells 55) = w1 at *
  generalize hgb : w.heap.size = gb at *
  have HI := Lib.hid hi
  rcases hi with ⟨rfl, hno⟩ | ⟨k, rfl, hk, -, -⟩
  · clear hno
    go_wp2_with fail
    go_ret
    refine NO.out 5 _ (by decide) HW.out (fun k hk hk' => ?_)
    rcases HI.out with ⟨_, hno⟩ | ⟨a, ha, _⟩
    · rcases hk' with ⟨h, _⟩ | ⟨a, ha, ha', hat, _⟩
      · omega
      · obtain rfl : k = a := by omega
        rw [hno k hk] at hat; cases hat
    · omega
  have k0 : ¬ ((k : Int) < 0) := by omega
  have t0 : decide ((k : Int) < 0) = false := decide_eq_false k0
  have ONE : Hid (∀ j : Nat, IdxS nms b.rm (j : Int) → j = k) := fun j hj => hj.one HI.out
  by_cases an : NameOk b.who
  case neg =>
    have HA := Lib.hid an
    clear an
    go_wp2_with fail
    refine (HN.out _).mono ?_
    rintro e w' ⟨bb, rfl, hbb, rfl⟩
    have hf : bb = false := by
      cases bb
      · rfl
      · exact absurd (hbb.1 rfl) HA.out
    subst hf
    clear hbb
    go_wp2_with fail
    go_ret
    exact NO.out 5 _ (by decide) HW.out (fun j hj hj' hok => HA.out hok.who)
  have HS := Lib.hid (stretch_any b.fr b.to w1 h1 h2 h3 h4)
  have X1 : Hid (∀ W, Below w1.heap.size w1 W → W.cell? ⟨gb, 1, none⟩ = some (.int .i64 b.fr)) := fun W hW => (HX.out.below hW).cell 1
  have X2 : Hid (∀ W, Below w1.heap.size w1 W → W.cell? ⟨gb, 2, none⟩ = some (.int .i64 b.to)) := fun W hW => (HX.out.below hW).cell 2
  have x1 := X1.out _ (Below.refl _ _)
  have x2 := X2.out _ (Below.refl _ _)
  have HA := Lib.hid an
  clear an
  go_wp2_with fail
  refine (HN.out _).mono ?_
  rintro e w' ⟨bb, rfl, hbb, rfl⟩
  obtain rfl : bb = true := hbb.2 HA.out
  clear hbb
  go_wp2_with fail
  refine HS.out.mono ?_
  rintro e w' ⟨E, rfl, hE, n, rfl⟩
  have HE := Lib.hid hE
  clear hE HS
  by_cases e0 : E = 0
  case neg =>
    go_wp2_with fail
    go_ret
    exact NO.out E _ e0 (below_drew HW.out n) (fun j hj hj' hok => e0 (HE.out.2 hok.st))
  subst e0
  have HST := Lib.hid (HE.out.1 rfl)
  have HB2 := Lib.hid (below_drewN w1 n)
  generalize w1.drewN n = w2 at *
  replace x1 := X1.out _ HB2.out
  replace x2 := X2.out _ HB2.out
  have HT := Lib.hid (taken_any k b.fr b.to w2 (H1.out.next HB2.out) hn hk (hl k))
  clear HE
  have hle : gb ≤ w1.heap.size := by have := HW.out.size; omega
  have NO1 : Hid (∀ (E : Int) (W : World), E ≠ 0 → Below w1.heap.size w1 W → ¬ BookOk (ls.getD k []) b → BookQ base g gB An cn nms ls b w (.returned (.int .i64 E)) W) := fun E W hE hb hno =>
    NO.out E W hE (HW.out.trans (hb.mono hle)) (fun j hj hj' hok => by rw [ONE.out j hj'] at hok; exact hno hok)
  clear NO
  go_wp2_with fail
  refine HT.out.mono ?_
  rintro e w3 ⟨rfl, hb3⟩
  replace HB2 := Lib.hid (below_then HB2.out hb3)
  clear hb3 x1 x2 HT
  cases hR : (ls.getD k []).any (fun x => x.over b.fr b.to)
  case true =>
    have HR := Lib.hid hR
    clear hR
    go_wp2_with fail
    go_ret
    exact NO1.out 7 _ (by decide) HB2.out (fun hok => by rw [hok.free] at HR; exact absurd HR.out (by decide))
  have HR := Lib.hid hR
  clear hR
  have HM := Lib.hid (H1.out.next HB2.out)
  obtain ⟨A, c, hv, hcn, hcm⟩ := own_form (HM.out.rows k hk)
  have x1 : w3.cell? ⟨g, 1, none⟩ = some (.slice (some ⟨gB, 0, none⟩) nms.length nms.length) := HM.out.bx.cell 1
  have x2 : w3.cell? ⟨gB, k, none⟩ = some (.slice A (ls.getD k []).length c) := by
    rw [HM.out.bk.cell k, ← hv]
    have : k < vs.length := by rw [HM.out.lv]; exact hk
    simp [List.getD, List.getElem?_eq_getElem this]
  have kk0 : (0 : Int) ≤ (k : Int) := by omega
  have kk1 : (k : Int) < (nms.length : Int) := by omega
  have HV := Lib.hid hv
  have HL := Lib.hid (hl k)
  have HROW := Lib.hid (show Row w3 w3.heap.size A ((ls.getD k []).flatMap bkF) from row_ownB (by have := HM.out.rows k hk; rwa [hv] at this))
  clear hv hl hcn hcm
  generalize hlq : ls.getD k [] = l at *
  have HLQ := Lib.hid hlq
  clear hlq
  by_cases a200 : (200 : Int) ≤ (l.length : Int)
  · have t200 : decide ((200 : Int) ≤ (l.length : Int)) = true := decide_eq_true a200
    have A200 := Lib.hid a200
    clear a200
    go_wp2_with fail
    go_ret
    exact NO1.out 2 _ (by decide) HB2.out (fun hok => by have := hok.len; have := A200.out; omega)
  have t200 : decide ((200 : Int) ≤ (l.length : Int)) = false := decide_eq_false a200
  have OK : Hid (BookOk l b) := ⟨HA.out, HST.out, HR.out, by omega⟩
  go_wp2_with fail
  go_loopw [8] (fun i wr => ∃ q : Nat, q ≤ l.length ∧ i = .int .i64 (q : Int) ∧ Hid (∀ j, j < q → (l.getD j bk0).fr < b.fr) ∧ Hid (Below w3.heap.size w3 wr)) (fun i _ => l.length - (intOf i).toNat)
  case atStart => exact ⟨0, by omega, rfl, fun j hj => by omega, Below.refl _ _⟩
  case round =>
    obtain ⟨q, hq, rfl, hall, hbr⟩ := hrel
    go_upto_region 13 with fail
    go_cut [59] (fun s wx => ∃ C : Bool, s = .bool C ∧ (C = true ↔ q < l.length ∧ (l.getD q bk0).fr < b.fr) ∧ Hid (Below w3.heap.size w3 wx))
    case first =>
      have y1 : wr.cell? ⟨gb, 1, none⟩ = some (.int .i64 b.fr) := X1.out _ (HB2.out.trans (hbr.out.mono HB2.out.size))
      have q0 : (0 : Int) ≤ (q : Int) := by omega
      by_cases hlt : q < l.length
      · have tl : decide ((q : Int) < (l.length : Int)) = true := decide_eq_true (by omega)
        have q1 : (q : Int) < (l.length : Int) := by omega
        obtain ⟨b0, o, rfl, _, hcs⟩ := (HROW.out.next hbr.out).open_ (flat_ne bkF_len (by omega) l (by omega))
        have hc1 := flat_cell bkF_len bk0 hcs q 1 hlt (by omega) _ rfl
        clear hcs HROW
        by_cases hc : (l.getD q bk0).fr < b.fr
        · have tc : decide ((l.getD q bk0).fr < b.fr) = true := decide_eq_true hc
          have HC := Lib.hid hc
          clear hc
          generalize l.getD q bk0 = y at *
          go_quiet (fail)
          go_wp2_with fail
          go_meet
          exact ⟨true, rfl, ⟨fun _ => ⟨hlt, HC.out⟩, fun _ => rfl⟩, below_drew hbr.out _⟩
        · have tc : decide ((l.getD q bk0).fr < b.fr) = false := decide_eq_false hc
          have HC := Lib.hid hc
          clear hc
          generalize l.getD q bk0 = y at *
          go_quiet (fail)
          go_wp2_with fail
          go_meet
          exact ⟨false, rfl, ⟨(fun h => by cases h), fun h => by have := h.2; have := HC.out; omega⟩, below_drew hbr.out _⟩
      · have tl : decide ((q : Int) < (l.length : Int)) = false := decide_eq_false (by omega)
        clear HROW
        go_quiet (fail)
        go_wp2_with fail
        go_meet
        exact ⟨false, rfl, ⟨(fun h => by cases h), fun h => absurd h.1 hlt⟩, below_drew hbr.out _⟩
    case rest =>
      obtain ⟨C, rfl, hC, hbx⟩ := hcut
      have HC := Lib.hid hC
      clear hC
      cases C
      case true =>
        have hC := HC.out.1 rfl
        have hqi : q + 1 ≤ l.length := by omega
        have HX' : Hid (∀ j, j < q + 1 → (l.getD j bk0).fr < b.fr) := fun j hj => by
          by_cases e : j = q
          · subst e; exact hC.2
          · exact hall.out j (by omega)
        clear hC
        go_wp2_with fail
        go_roundw
        case rel =>
          exact ⟨q + 1, hqi, by go_num, HX', hbx⟩
        case measure => simp [intOf]; omega
      case false =>
        have hqs : Hid (q < l.length → ¬ (l.getD q bk0).fr < b.fr) := fun h hh => by have := HC.out.2 ⟨h, hh⟩; cases this
        have HMc := Lib.hid (HM.out.next hbx.out)
        have HBc := Lib.hid (below_then HB2.out hbx.out)
        have HXc := Lib.hid (HX.out.below HBc.out)
        have hRL := HMc.out.rows k hk
        rw [HLQ.out, HV.out] at hRL
        have HRL := Lib.hid hRL
        clear hRL x1 x2 HC
        go_upto_region 15 with fail
        have hrl : ∀ bb, (Value.slice A l.length c).ownBlock = some bb → bb < wc.heap.size := fun bb h => (own_lt HRL.out bb h).2
        have c1 : ∀ W, wc.grownBy W (Value.slice A l.length c).ownBlock → W.cell? ⟨g, 1, none⟩ = some (.slice (some ⟨gB, 0, none⟩) nms.length nms.length) := fun W hW => (HMc.out.bx.grown hW (fun e => by
          obtain ⟨cur, hcc⟩ := own_kind HRL.out e.symm
          exact HMc.out.bx.other hcc (by decide) rfl)).cell 1
        have c2 : ∀ W, wc.grownBy W (Value.slice A l.length c).ownBlock → Box W gb 55 b.cells := fun W hW => HXc.out.grown hW (fun e => by
          have hh := HH.out.rows k hk
          rw [HLQ.out, HV.out] at hh
          have := (own_lt hh gb e.symm).2
          omega)
        have d0 : ∀ W, wc.grownBy W (Value.slice A l.length c).ownBlock → W.cell? ⟨gb, 0, none⟩ = some (.string b.rm) := fun W hW => (c2 W hW).cell 0
        have d1 : ∀ W, wc.grownBy W (Value.slice A l.length c).ownBlock → W.cell? ⟨gb, 1, none⟩ = some (.int .i64 b.fr) := fun W hW => (c2 W hW).cell 1
        have d2 : ∀ W, wc.grownBy W (Value.slice A l.length c).ownBlock → W.cell? ⟨gb, 2, none⟩ = some (.int .i64 b.to) := fun W hW => (c2 W hW).cell 2
        have d3 : ∀ W, wc.grownBy W (Value.slice A l.length c).ownBlock → W.cell? ⟨gb, 3, none⟩ = some (.string b.who) := fun W hW => (c2 W hW).cell 3
        clear c2
        refine flowG_begin_tail 11 9 (Value.slice A l.length c).ownBlock (tellOf [(9, ⟨fun v => (∃ A' c', v = .slice A' (l.length + 1) c') ∧ ∀ bb, v.ownBlock = some bb → (Value.slice A l.length c).ownBlock = some bb ∨ wc.heap.size ≤ bb, fun v W => W.ownsRow base 55 4 v (l.length + 1) ((l.take q ++ [b] ++ l.drop q).flatMap bkF)⟩)]) (by kernel_rfl) (by kernel_rfl) ?_
        simp only [List.take_succ_cons, List.take_zero, List.drop_succ_cons, List.drop_zero]
        repeat (first | (refine flowG_val (v := ?_) (by rfl) (by rfl) (fun w hb => ?_) ?_; rotate_left; (· ((go_simp) <;> ((repeat' apply And.intro) <;> with_reducible rfl))); try simp only [Act.put, List.setIfInBounds_toArray, List.set_cons_zero, List.set_cons_succ, Nat.reduceAdd]) | (refine flowG_skip (by rfl) (by rfl) ?_; try simp only [Act.put, List.setIfInBounds_toArray, List.set_cons_zero, List.set_cons_succ, Nat.reduceAdd]))
        refine flowG_lits (n := ?_) (c := ?_) (t := ?_) (cs := ?_) hrl (by rfl) (by rfl) (fun w hb => ?_) (fun g8 hg8 => ?_); rotate_left 4; (· ((go_simp) <;> ((repeat' apply And.intro) <;> with_reducible rfl))); try simp only [Act.put, List.setIfInBounds_toArray, List.set_cons_zero, List.set_cons_succ, Nat.reduceAdd]
        refine flowG_call (f := ?_) (args := ?_) [8] (by kernel_rfl) (by rfl) (by rfl) (by rfl) ?_ ?_ (fun w hb => ?_) (fun w hb hu => ?_) ?_; rotate_left 4; (· ((go_simp) <;> ((repeat' apply And.intro) <;> with_reducible rfl)))
        · have hbx8 := usef_at (k := 8) rfl hu (by decide)
          have hgr : wc.grownBy w (Value.slice A l.length c).ownBlock := grown_bel hb
          have := insert_any base g8 q (.slice A l.length c) l b w (own_next HRL.out hb) hbx8 (fun e => by have := hrl g8 e; omega) (by have := hb.size; have := HBc.out.size; omega) hq (by have := HL.out; omega)
          refine this.mono fun e w' ⟨v', he, ho, hg, hn⟩ => ⟨v', he, ⟨?_, fun bb h => (hn bb h).imp id fun h' => by have := hb.size; omega⟩, ho, hg⟩
          obtain ⟨A', c', hv', _, _⟩ := own_form ho
          exact ⟨A', c', hv'⟩
        · rintro v ⟨⟨A9, c9, rfl⟩, hnear⟩
          try simp only [Act.put, List.setIfInBounds_toArray, List.set_cons_zero, List.set_cons_succ, Nat.reduceAdd]
          repeat (first | (refine flowG_val (v := ?_) (by rfl) (by rfl) (fun w hb => ?_) ?_; rotate_left; (· ((go_simp) <;> ((repeat' apply And.intro) <;> with_reducible rfl))); try simp only [Act.put, List.setIfInBounds_toArray, List.set_cons_zero, List.set_cons_succ, Nat.reduceAdd]) | (refine flowG_skip (by rfl) (by rfl) ?_; try simp only [Act.put, List.setIfInBounds_toArray, List.set_cons_zero, List.set_cons_succ, Nat.reduceAdd]))
          refine flowG_nil fun w5 hg5 hf => ?_
          have hinb := insB_at b l q hq hall.out hqs.out
          have ho : w5.ownsRow base 55 4 (.slice A9 (l.length + 1) c9) (insB b l).length ((insB b l).flatMap bkF) := by
            rw [insB_length, ← hinb]; exact hf.1
          have RP := Lib.hid (HMc.out.put k hk (by rw [HV.out]; exact hg5) (insB b l) _ ho (by rw [HV.out]; exact hnear))
          have RB := Lib.hid (HMc.out.put_below hgB k hk (by rw [HV.out]; exact hg5) (by have := HBc.out.size; omega) (.slice A9 (l.length + 1) c9))
          have hbk5 := HMc.out.bk.grown hg5 (fun e => by
            obtain ⟨cur, hcc⟩ := own_kind HRL.out e.symm
            exact HMc.out.bk.other hcc (by decide) rfl)
          have hkv : k < vs.length := by rw [HMc.out.lv]; exact hk
          have xk : w5.cell? ⟨gB, k, none⟩ = some vs[k] := by
            rw [hbk5.cell k]
            simp [hkv]
          have xf : w5.frozen? ⟨gB, k, none⟩ = false := hbk5.free k
          clear hbk5
          generalize vs[k] = vk at *
          have RSZ : w.heap.size ≤ (w5.setCell ⟨gB, k, none⟩ (.slice A9 (l.length + 1) c9)).heap.size := by
            have h1 := HBc.out.size
            have h2 := hg5.size
            rw [World.size_setCell]
            omega
          have BASE : Below base w wc := HW.out.mono (by omega) |>.trans (HBc.out.mono (by have := HW.out.size; omega))
          clear hf ho hg5 hinb c1 d0 d1 d2 d3 hrl
          refine wpList_step fun K hK => ?_
          rw [if_pos (by rfl)]
          go_simp
          refine hK _ _ (wpList_nil ?_)
          go_wp2_with fail
          go_ret
          refine ⟨0, vs.set k (.slice A9 (l.length + 1) c9), ls.set k (insB b l), rfl, .inl ⟨rfl, k, hk, HI.out, ?_, ?_⟩, RP.out, BASE.trans RB.out, RSZ⟩
          · rw [HLQ.out]; exact OK.out
          · rw [HLQ.out]
        · exact ⟨.slice none (l.length + 1) 0, ⟨none, 0, rfl⟩, fun bb h => by cases h⟩
        · exact fun v w w' hb ho => own_next ho hb
end Go.Proofs.Ytfindembancjdaa
