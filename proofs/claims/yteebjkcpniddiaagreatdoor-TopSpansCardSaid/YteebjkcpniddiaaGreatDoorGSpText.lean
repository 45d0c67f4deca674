/- SpText, FlowAt -/
import Derived.Lib.SlTrimSet
import Derived.Maps.AppendAt
import Derived.Test.YteebjkcpniddiaaGreatDoorGSpPlain
import Derived.Test.YteebjkcpniddiaaGreatDoorGPlainItoa
import Derived.Test.YteebjkcpniddiaaGreatDoorGCatPlain
import Derived.Test.YteebjkcpniddiaaGreatDoorGCat1
import Derived.Test.YteebjkcpniddiaaGreatDoorGMem
/- The text of a duration, in plain words: what is written is read. -/
namespace Go.Proofs.YteebjkcpniddiaaGreatDoor
open Go Go.RowKit Go.Lib
set_option linter.unusedVariables false

/-- the units -/
def unitL (i : Nat) : List UInt8 := if i = 0 then [121] else if i = 1 then [109] else if i = 2 then [100] else [109, 115]
/-- the numbers that are written -/
def itemsL (y m d s : Int) : List (Int × Nat) := (if y = 0 then [] else [(y, 0)]) ++ ((if m = 0 then [] else [(m, 1)]) ++ ((if d = 0 then [] else [(d, 2)]) ++ (if s = 0 then [] else [(s, 3)])))
def itemT (p : Int × Nat) : List UInt8 := itoa p.1 ++ unitL p.2
/-- what stands there -/
def readL (y m d s : Int) : List (Int × Nat) := if itemsL y m d s = [] then [(0, 2)] else itemsL y m d s
/-- the text -/
def spanT (y m d s : Int) : List UInt8 := join ((readL y m d s).map itemT) [32]
def stOf (l : List (Int × Nat)) : Array Value := l.foldl (fun cs p => cs.setIfInBounds p.2 (.int .i64 p.1)) (lenC 0 0 0 0)
theorem stOf_snoc (l : List (Int × Nat)) (p : Int × Nat) : stOf (l ++ [p]) = (stOf l).setIfInBounds p.2 (.int .i64 p.1) := by simp [stOf]
theorem st_items (y m d s : Int) : stOf (itemsL y m d s) = lenC y m d s := by
  unfold itemsL
  by_cases h0 : y = 0 <;> by_cases h1 : m = 0 <;> by_cases h2 : d = 0 <;> by_cases h3 : s = 0 <;> simp [h0, h1, h2, h3, stOf, lenC]
theorem st_read (y m d s : Int) : stOf (readL y m d s) = lenC y m d s := by
  unfold readL
  split
  · rename_i h
    have := st_items y m d s
    rw [h] at this
    rw [← this]
    rfl
  · exact st_items y m d s
theorem items_in (y m d s : Int) : ∀ p ∈ itemsL y m d s, p.2 ≤ 3 ∧ (p.1 = y ∨ p.1 = m ∨ p.1 = d ∨ p.1 = s) := by
  intro p hp
  unfold itemsL at hp
  by_cases h0 : y = 0 <;> by_cases h1 : m = 0 <;> by_cases h2 : d = 0 <;> by_cases h3 : s = 0 <;> simp [h0, h1, h2, h3] at hp <;> (try rcases hp with rfl | rfl | rfl | rfl) <;> (try rcases hp with rfl | rfl | rfl) <;> (try rcases hp with rfl | rfl) <;> (try subst hp) <;> simp
theorem read_in (y m d s : Int) (hy : y.natAbs < 10000000000000000) (hm : m.natAbs < 10000000000000000) (hd : d.natAbs < 10000000000000000) (hs : s.natAbs < 10000000000000000) : ∀ p ∈ readL y m d s, p.2 ≤ 3 ∧ p.1.natAbs < 10000000000000000 := by
  intro p hp
  unfold readL at hp
  split at hp
  · simp at hp; subst hp; exact ⟨by decide, by decide⟩
  · have h := items_in y m d s p hp
    refine ⟨h.1, ?_⟩
    rcases h.2 with h | h | h | h <;> rw [h] <;> assumption
theorem items_len (y m d s : Int) : (itemsL y m d s).length ≤ 4 := by
  unfold itemsL
  by_cases h0 : y = 0 <;> by_cases h1 : m = 0 <;> by_cases h2 : d = 0 <;> by_cases h3 : s = 0 <;> simp [h0, h1, h2, h3]
theorem read_ne (y m d s : Int) : readL y m d s ≠ [] := by
  unfold readL
  split
  · exact List.cons_ne_nil _ _
  · assumption
theorem read_len (y m d s : Int) : (readL y m d s).length ≤ 4 := by
  unfold readL
  split
  · decide
  · exact items_len y m d s
theorem unit_len (i : Nat) : (unitL i).length ≤ 2 := by unfold unitL; split <;> (try split) <;> (try split) <;> decide
theorem itemT_len (p : Int × Nat) (h : p.1.natAbs < 10000000000000000) : (itemT p).length ≤ 20 := by
  have h1 := itoa_len p.1 17 (by have : (10000000000000000 : Nat) < 10 ^ 17 := by decide
                                 omega) (by omega)
  have h2 := unit_len p.2
  unfold itemT
  rw [List.length_append]
  omega
theorem itemT_no (p : Int × Nat) : ∀ b ∈ itemT p, b ≠ 32 := by
  intro b hb
  unfold itemT at hb
  rcases List.mem_append.1 hb with hb | hb
  · exact itoa_no p.1 32 (.inl (by decide)) b hb
  · unfold unitL at hb
    split at hb
    · simp at hb; subst hb; decide
    · split at hb
      · simp at hb; subst hb; decide
      · split at hb
        · simp at hb; subst hb; decide
        · simp at hb; rcases hb with rfl | rfl <;> decide
/-- the pieces of the text -/
theorem span_pieces (y m d s : Int) : Pieces [32] (spanT y m d s) ((readL y m d s).map itemT) := by
  unfold spanT
  have hne := read_ne y m d s
  generalize readL y m d s = l at *
  match l, hne with
  | p :: r, _ =>
    rw [List.map_cons, join_S]
    exact pieces_join 32 [] (r.map itemT) (itemT p) fun w hw b hb => by
      rw [← List.map_cons] at hw
      obtain ⟨q, _, rfl⟩ := List.mem_map.1 hw
      exact itemT_no q b hb
/-- the number of a piece -/
theorem item_cut (p : Int × Nat) : trimRightS (itemT p) [121, 109, 100, 115] = itoa p.1 := by
  have hne := itoa_ne p.1
  have h1 : ∀ b ∈ unitL p.2, [121, 109, 100, 115].contains b = true := by
    intro b hb
    unfold unitL at hb
    split at hb
    · simp at hb; subst hb; decide
    · split at hb
      · simp at hb; subst hb; decide
      · split at hb
        · simp at hb; subst hb; decide
        · simp at hb; rcases hb with rfl | rfl <;> decide
  have h2 : ∀ b ∈ itoa p.1, [121, 109, 100, 115].contains b = false := by
    intro b hb
    have h := itoa_byte p.1 b hb
    have hne : ∀ c : UInt8, 100 ≤ c.toNat → b ≠ c := fun c hc e => by subst e; omega
    simp [hne 121 (by decide), hne 109 (by decide), hne 100 (by decide), hne 115 (by decide)]
  have hlen : 0 < (itoa p.1).length := List.length_pos_iff.2 hne
  rw [trimRightS_take (itemT p) _ (itoa p.1).length (by unfold itemT; simp) (fun j b hj hb => ?_) (fun b hk hb => ?_)]
  · unfold itemT; simp
  · unfold itemT at hb
    rw [List.getElem?_append_right hj] at hb
    exact h1 b (List.mem_of_getElem? hb)
  · unfold itemT at hb
    rw [List.getElem?_append_left (by omega)] at hb
    exact h2 b (List.mem_of_getElem? hb)
theorem item_unit (p : Int × Nat) : (itemT p).drop (itoa p.1).length = unitL p.2 := by unfold itemT; simp
end Go.Proofs.YteebjkcpniddiaaGreatDoor

/- A region that appends to a row of one's own; where the new row lies. -/
namespace Go.Proofs.YteebjkcpniddiaaGreatDoor
open Go.RowKit
set_option linter.unusedVariables false

section
variable {P : Program} {ops : Array Oper} {m : Nat} {row : Option Nat} {w0 : World} {R : Nat → Option Told} {E : Act → World → Prop} {o : Oper} {rest : List Oper} {k : Nat} {a : Act} {L : List Fact}
/-- a told call next to the writer: it only grows -/
theorem flowG_told {t : Told} {f : FuncId} {args : Array Value} (use : List Nat) (hu : pastB ops k use = true) (hR : R k = some t) (hw : Region.wanted o (yielded ops a.tmps) = true) (hs : ∃ v, t.V v) (hst : ∀ v w w', w.grownBy w' row → t.F v w → t.F v w')
    (h : ∀ w, w0.grownBy w row → (execOp a.eval o).run P w = .ok (.enter f args) w)
    (hc : ∀ w, w0.grownBy w row → usef use L w → Calls P f args w fun e w' => ∃ v, e = .returned v ∧ t.V v ∧ t.F v w' ∧ Below w.heap.size w w')
    (hr : ∀ v, t.V v → FlowG P ops m w0 row R E rest (k + 1) (a.put o.dst v) ((k, t.F v) :: L)) : FlowG P ops m w0 row R E (o :: rest) k a L := by
  refine ⟨t, hs, ⟨fun t' ht => (by rw [hR] at ht; exact Option.some.inj ht), fun w hc' hp => ?_, fun hk => (by rw [hR] at hk; cases hk), fun j hne hp v w w' ht h => hst v w w' (transG_grown ht) h⟩, fun u hu => ?_⟩
  · have hg := capG_grown hc'
    unfold Gives
    rw [if_pos hw, h w hg]
    refine Calls.mono (hc w hg (usef_of L fun i hi => hp i (pastB_spec hu i hi))) fun e w' ⟨v, he, h1, h2, h3⟩ => ?_
    subst he
    exact ⟨h1, h2, transG_bel h3⟩
  · exact wpFlow.mono _ _ _ _ _ (fun i w h => lf_cons i w ⟨h.1, h.2⟩) (hr u hu)
/-- append to a row of one's own; the new row lies in the old one or in a block that was made since -/
theorem flowG_app_at (use : List Nat) (hu : pastB ops k use = true) (hk : k = m) (hR : R k = none) (hw : Region.wanted o (yielded ops a.tmps) = true) (s x : Operand) (t : TypeId)
    (ho : o.op = .call { callee := .builtin .append, args := #[s, x], argTypes := #[t, t] }) (base : Nat) (e : TypeId) (i : TypeInfo) (z : Value) (size bytes : Nat) (ht : P.underlying t = some (.slice e)) (hi : P.info? e = some i) (hz : i.zero = some z)
    (hsize : i.size = size) (hby : i.bytes = bytes) (hzs : z.cells.size = size) (hsz : 0 < size)
    (v : Value) (n : Nat) (xs : List Value) (hs : a.eval s = v) (hrow : row = v.ownBlock) (hown : w0.ownsRow base e size v n xs) (hbase : base ≤ w0.heap.size)
    (ad : Addr) (q c : Nat) (news : List Value) (hx : a.eval x = .slice (some ad) q c) (hl : news.length = q * size) (hnews : ∀ w, Below w0.heap.size w0 w → usef use L w → ∀ j u, news[j]? = some u → w.cell? (ad.add j) = some u) (h1 : ∀ u ∈ news, u.oneCell' = true)
    (Z : World → Prop) (hZ : ∀ w w', Below w.heap.size w w' → Z w → Z w') (hZ0 : ∀ w, Below w0.heap.size w0 w → usef use L w → Z w)
    (D : Option Nat → World → Prop) (hD : ∀ b w w', Below w.heap.size w w' → D b w → D b w')
    (hD0 : ∀ b w w', Z w → w.grownBy w' row → Below w0.heap.size w0 w → b = row ∨ b = some w.heap.size → D b w')
    (h63 : n + q ≤ maxLen) (hbytes : (n + q) * bytes ≤ 140737488355328)
    (hr : ∀ A c, FlowG P ops m w0 row R E rest (k + 1) (a.put o.dst (.slice A (n + q) c)) ((k, fun w => w.ownsRow base e size (.slice A (n + q) c) (n + q) (xs ++ news) ∧ D (Value.slice A (n + q) c).ownBlock w) :: L)) : FlowG P ops m w0 row R E (o :: rest) k a L := by
  refine flowG_write (t := ⟨fun v => ∃ A c, v = .slice A (n + q) c, fun v w => w.ownsRow base e size v (n + q) (xs ++ news) ∧ D v.ownBlock w⟩) use hu hk hR hw ⟨_, none, 0, rfl⟩ (fun v w w' hb hF => ⟨own_next hF.1 hb, hD _ _ _ hb hF.2⟩) (fun w hb hl' => ?_) fun v hv => ?_
  · obtain ⟨v', w', r1, r2, r3, _, r5⟩ := run_append_own_at (P := P) w base t o.type e i z size bytes ht hi hz hsize hby hzs hsz v n xs (own_next hown hb) ad q c news hl (hnews w hb hl') h1 h63 hbytes (Nat.le_trans hbase hb.size)
    obtain ⟨A, c', rfl, _⟩ := own_form r2
    rw [← hrow] at r3 r5
    exact ⟨_, w', run_app_op s x t t ho _ _ _ hs hx r1, ⟨A, c', rfl⟩, ⟨r2, hD0 _ w w' (hZ0 w hb hl') r3 hb r5⟩, r3⟩
  · obtain ⟨A, c', rfl⟩ := hv
    exact hr A c'
end
end Go.Proofs.YteebjkcpniddiaaGreatDoor
