/- Tp1, Tp2, Tp3, Tp4 -/
import Derived.Test.YtoemghiejfkpbaaGreatDoorGPg1
import Derived.Test.YtoemghiejfkpbaaGreatDoorGPb0
/- Texts of code points: valid, without control characters; a checked text of a table. -/
namespace Go.Proofs.YtoemghiejfkpbaaGreatDoor
open Go Go.Shelf Go.RowKit Go.Lib
set_option linter.unusedVariables false
theorem encs_cons' (a : Nat) (b : List Nat) : encs (a :: b) = encodeRune (a : Int) ++ encs b := by simp [encs]
theorem encs_app' (a b : List Nat) : encs (a ++ b) = encs a ++ encs b := by simp [encs]
theorem enc_bad (r : Nat) (h : Bmp r) : ¬ (r = 65533 ∧ (encodeRune (r : Int)).length = 1) := fun ⟨e, h1⟩ => by
 subst e
 rw [enc_three 65533 (.inr ⟨by omega, by omega⟩)] at h1
 simp at h1
theorem encs_valid : ∀ (rs : List Nat), (∀ r ∈ rs, Bmp r) → validD (encs rs) = true ∧ rcT (encs rs) = rs.length
 | [], _ => ⟨rfl, rfl⟩
 | r :: rs, h => by
  have hr := h r (List.mem_cons_self ..)
  obtain ⟨i1, i2⟩ := encs_valid rs fun x hx => h x (List.mem_cons_of_mem _ hx)
  have hne := enc_ne r hr (encs rs)
  rw [encs_cons', validD_step _ hne, rcT_step _ hne, decodeL_enc r hr, if_neg (enc_bad r hr)]
  simp only [List.drop_left]
  rw [i1, i2]
  exact ⟨rfl, by simp; omega⟩
theorem idx_encs (p : Nat → Bool) (s : ByteArray) : ∀ (rs : List Nat) (f pos : Nat), (∀ r ∈ rs, Bmp r) → (∀ r ∈ rs, p r = false) → s.data.toList.drop pos = encs rs → idxFuncFrom p true s f pos = -1
 | _, 0, _, _, _, _ => rfl
 | [], f + 1, pos, _, _, h => by
  have hsz : s.size = s.data.toList.length := (Array.length_toList).symm
  have hl := congrArg List.length h
  rw [List.length_drop] at hl
  have hz : (encs []).length = 0 := rfl
  rw [hz] at hl
  exact idxFuncFrom_end p true s (f + 1) pos (by omega)
 | r :: rs, f + 1, pos, hb, hp, h => by
  have hr := hb r (List.mem_cons_self ..)
  have hsz : s.size = s.data.toList.length := (Array.length_toList).symm
  have hlt : pos < s.size := by
   refine Classical.byContradiction fun hn => ?_
   rw [List.drop_eq_nil_of_le (by omega), encs_cons'] at h
   exact enc_ne r hr _ h.symm
  have hd : Utf8.decode s pos = (r, (encodeRune (r : Int)).length) := by
   rw [← decodeL_drop s pos, h, encs_cons', decodeL_enc r hr]
  unfold idxFuncFrom
  rw [if_pos hlt, hd]
  dsimp only
  rw [hp r (List.mem_cons_self ..), if_neg (by simp)]
  refine idx_encs p s rs f _ (fun x hx => hb x (List.mem_cons_of_mem _ hx)) (fun x hx => hp x (List.mem_cons_of_mem _ hx)) ?_
  rw [← List.drop_drop, h, encs_cons', List.drop_left]
theorem byte_ne (x : Nat) (h : x < 256) (h2 : x ≠ 32) : x.toUInt8 ≠ 32 := fun e => by
 have := congrArg UInt8.toNat e
 rw [byte_nat x h] at this
 exact h2 this
theorem enc_ends (r : Nat) (h : Bmp r) (hn : r ≠ 32) : (∃ b t, encodeRune (r : Int) = b :: t ∧ b ≠ 32) ∧ ∃ i b, encodeRune (r : Int) = i ++ [b] ∧ b ≠ 32 := by
 by_cases h1 : r < 128
 ·rw [enc_one r h1]
  exact ⟨⟨_, _, rfl, byte_ne r (by omega) hn⟩, ⟨[], _, rfl, byte_ne r (by omega) hn⟩⟩
 by_cases h2 : r ≤ 2047
 ·rw [enc_two r (by omega) h2]
  exact ⟨⟨_, _, rfl, byte_ne _ (by omega) (by omega)⟩, ⟨[_], _, rfl, byte_ne _ (by omega) (by omega)⟩⟩
 have h3 : (2048 ≤ r ∧ r < 55296) ∨ (57343 < r ∧ r ≤ 65535) := by
  rcases h with h | h
  ·exact .inl ⟨by omega, h⟩
  ·exact .inr h
 rw [enc_three r h3]
 exact ⟨⟨_, _, rfl, byte_ne _ (by omega) (by omega)⟩, ⟨[_, _], _, rfl, byte_ne _ (by omega) (by omega)⟩⟩
theorem tx_encs (a z : Nat) (rs rs' : List Nat) (e : a :: rs = rs' ++ [z]) (hb : ∀ r ∈ a :: rs, Bmp r) (hc : ∀ r ∈ a :: rs, ctlR r = false) (ha : a ≠ 32) (hz : z ≠ 32) (hl : (encs (a :: rs)).length ≤ 120) : TxOk ⟨(encs (a :: rs)).toArray⟩ := by
 refine ⟨by show (encs (a :: rs)).toArray.size ≤ 120; rw [List.size_toArray]; exact hl, (encs_valid _ hb).1, ?_, ?_, ?_⟩
 ·obtain ⟨b, t, eb, hb2⟩ := (enc_ends a (hb a (List.mem_cons_self ..)) ha).1
  show hasPrefix (encs (a :: rs)) [32] = false
  rw [encs_cons', eb]
  unfold hasPrefix
  simp [List.isPrefixOf, Ne.symm hb2]
 ·obtain ⟨i, b, eb, hb2⟩ := (enc_ends z (hb z (by rw [e]; simp)) hz).2
  show hasSuffix (encs (a :: rs)) [32] = false
  rw [e, encs_app', show encs [z] = encodeRune (z : Int) from by simp [encs], eb]
  unfold hasSuffix
  rw [Bool.eq_false_iff]
  intro h
  have h := List.isSuffixOf_iff_suffix.1 h
  obtain ⟨p, hp⟩ := h
  have := congrArg List.getLast? hp
  rw [List.getLast?_append, ← List.append_assoc, List.getLast?_append] at this
  simp at this
  exact hb2 this.symm
 ·show idxFuncFrom ctlR true _ _ 0 < 0
  rw [idx_encs ctlR _ (a :: rs) _ 0 hb hc rfl]
  decide
theorem tx_ascii (a z : UInt8) (l l' : List UInt8) (e : a :: l = l' ++ [z]) (h : ∀ b ∈ a :: l, 33 ≤ b.toNat ∧ b.toNat ≤ 122) (hl : (a :: l).length ≤ 120) : TxOk ⟨(a :: l).toArray⟩ ∧ rcT (a :: l) = (a :: l).length := by
 have key : ∀ l : List UInt8, (∀ b ∈ l, b.toNat < 128) → encs (l.map UInt8.toNat) = l := by
  intro l
  induction l with
  | nil => intro _; rfl
  | cons b l ih =>
   intro h
   rw [List.map_cons, encs_cons', enc_one _ (h b (List.mem_cons_self ..)), ih fun x hx => h x (List.mem_cons_of_mem _ hx)]
   simp
 have hk := key (a :: l) (fun b hb => by have := h b hb; omega)
 refine ⟨?_, (ascii_all _ (fun b hb => by have := h b hb; omega)).2⟩
 have hz : z ∈ a :: l := by rw [e]; simp
 have := tx_encs a.toNat z.toNat (l.map UInt8.toNat) (l'.map UInt8.toNat) (by
  have := congrArg (List.map UInt8.toNat) e
  simpa using this) (fun r hr => by
   rw [← List.map_cons] at hr
   obtain ⟨b, hb, rfl⟩ := List.mem_map.1 hr
   have := h b hb
   exact .inl (by omega)) (fun r hr => by
   rw [← List.map_cons] at hr
   obtain ⟨b, hb, rfl⟩ := List.mem_map.1 hr
   have := h b hb
   unfold ctlR
   rw [decide_eq_false (by omega), decide_eq_false (by omega)]
   rfl) (by have := h a (List.mem_cons_self ..); omega) (by have := h z hz; omega) (by rw [← List.map_cons, hk]; exact hl)
 rw [← List.map_cons, hk] at this
 exact this
end Go.Proofs.YtoemghiejfkpbaaGreatDoor
/- Numbers in thirteen scripts are short, without control characters and spaces. -/
namespace Go.Proofs.YtoemghiejfkpbaaGreatDoor
open Go.Lib
set_option linter.unusedVariables false
def InkB (x : Nat) : Bool := decide (33 ≤ x) && !decide (x = 127)
def ShortB (l : List Nat) : Bool := decide (l.length ≤ 16) && l.all InkB
theorem rom_short : ∀ n, n < 4000 → ShortB (wrR 9 n) = true := by
 have h : ((List.range 4000).all fun n => ShortB (wrR 9 n)) = true := by kernel_rfl
 exact fun n hn => List.all_eq_true.1 h n (List.mem_range.2 hn)
theorem sgs_short : ∀ sc, sc < 2 → ∀ n, n < 1000 → ShortB (wrR (10 + sc) n) = true := by
 have h : ((List.range 2).all fun sc => (List.range 1000).all fun n => ShortB (wrR (10 + sc) n)) = true := by kernel_rfl
 exact fun sc hs n hn => List.all_eq_true.1 (List.all_eq_true.1 h sc (List.mem_range.2 hs)) n (List.mem_range.2 hn)
theorem chD_ink : ∀ d, d < 10 → InkB (chD d) = true := by decide
theorem chF_short (n : Nat) (s : List Nat × Bool) (x : Nat × List Nat) (h : s.1.all InkB = true) (hx : x.2.all InkB = true) : (chF n s x).1.length ≤ s.1.length + 2 + x.2.length ∧ (chF n s x).1.all InkB = true := by
 unfold chF
 by_cases hd : n / x.1 % 10 = 0
 ·simp only [hd, if_true]
  exact ⟨by omega, h⟩
 ·simp only [hd, if_false]
  have h1 : InkB (chD (n / x.1 % 10)) = true := chD_ink _ (Nat.mod_lt _ (by omega))
  have h0 : InkB (chD 0) = true := chD_ink 0 (by omega)
  cases s.2 with
  | true => simp [h, hx, h1, h0]; omega
  | false => simp [h, hx, h1]; omega
theorem chi_short (n : Nat) : ShortB (wrR 12 n) = true := by
 show ShortB (chR n) = true
 have key : (chPl.foldl (chF n) ([], false)).1.length ≤ 16 ∧ (chPl.foldl (chF n) ([], false)).1.all InkB = true := by
  show (chF n (chF n (chF n (chF n ([], false) (1000, [0x5343])) (100, [0x767e])) (10, [0x5341])) (1, [])).1.length ≤ 16 ∧ (chF n (chF n (chF n (chF n ([], false) (1000, [0x5343])) (100, [0x767e])) (10, [0x5341])) (1, [])).1.all InkB = true
  obtain ⟨a1, b1⟩ := chF_short n ([], false) (1000, [0x5343]) rfl (by decide)
  obtain ⟨a2, b2⟩ := chF_short n _ (100, [0x767e]) b1 (by decide)
  obtain ⟨a3, b3⟩ := chF_short n _ (10, [0x5341]) b2 (by decide)
  obtain ⟨a4, b4⟩ := chF_short n _ (1, []) b3 (by decide)
  refine ⟨?_, b4⟩
  simp only [List.length_cons, List.length_nil] at a1 a2 a3 a4
  omega
 unfold chR
 split
 ·decide
 ·unfold ShortB
  rw [Bool.and_eq_true, decide_eq_true_eq]
  exact key
theorem num_short (sc : Nat) (hs : sc < 13) (n : Int) (h1 : -20000 ≤ n) (h2 : n ≤ 20000) (r : List Nat) (h : ntR sc 0 n = some r) : r.length ≤ 16 ∧ ∀ x ∈ r, 33 ≤ x ∧ x ≠ 127 := by
 have key : ShortB r = true → r.length ≤ 16 ∧ ∀ x ∈ r, 33 ≤ x ∧ x ≠ 127 := fun hk => by
  unfold ShortB at hk
  rw [Bool.and_eq_true, decide_eq_true_eq] at hk
  refine ⟨hk.1, fun x hx => ?_⟩
  have := List.all_eq_true.1 hk.2 x hx
  unfold InkB at this
  simp only [Bool.and_eq_true, decide_eq_true_eq, Bool.not_eq_true', decide_eq_false_iff_not] at this
  exact this
 unfold ntR at h
 split at h
 ·rename_i h9
  injection h with h
  subst h
  have hl := dec_len6 n.natAbs (by omega)
  have hpl : (padD 0 n.natAbs).length ≤ 6 := by
   unfold padD
   rw [List.length_append, List.length_replicate]
   omega
  refine ⟨?_, fun x hx => ?_⟩
  ·unfold posR dsN
   rw [List.length_append, List.length_map]
   split <;> simp <;> omega
  ·unfold posR at hx
   rcases List.mem_append.1 hx with hx | hx
   ·split at hx
    ·obtain rfl := List.mem_singleton.1 hx
     omega
    ·cases hx
   ·obtain ⟨b, hb, rfl⟩ := List.mem_map.1 hx
    have hb2 := padD_byte _ _ b hb
    have hz : zeroN.getD sc 0 = 48 ∨ 1000 ≤ zeroN.getD sc 0 := by
     match sc, h9 with
     | 0, _ | 1, _ | 2, _ | 3, _ | 4, _ | 5, _ | 6, _ | 7, _ | 8, _ => decide
    rcases hz with hz | hz <;> omega
 ·rename_i h9
  rw [if_pos rfl] at h
  split at h
  ·rename_i hi
   injection h with h
   subst h
   unfold inN at hi
   rw [Bool.and_eq_true] at hi
   apply key
   have h4 : sc = 9 ∨ sc = 10 ∨ sc = 11 ∨ sc = 12 := by omega
   rcases h4 with rfl | rfl | rfl | rfl
   ·exact rom_short _ (by have := hi.2; simp [inR] at this; omega)
   ·exact sgs_short 0 (by omega) _ (by have := hi.2; simp [inR] at this; omega)
   ·exact sgs_short 1 (by omega) _ (by have := hi.2; simp [inR] at this; omega)
   ·exact chi_short _
  ·cases h
end Go.Proofs.YtoemghiejfkpbaaGreatDoor
/- The table of TopPage is valid and can be laid. -/
namespace Go.Proofs.YtoemghiejfkpbaaGreatDoor
open Go Go.Shelf Go.RowKit Go.Lib
set_option linter.unusedVariables false
def tpP : List (Bool × List UInt8) := partE (pR 1) (pT 1)
theorem tpP_eq : tpP = [(true, [100]), (false, [46, 32]), (true, [110, 97, 109, 101]), (false, [32]), (true, [121])] := by decide
theorem tp_nums {mn : ByteArray} {sc : Nat} {y : Int} {m : Nat} {d wk : Int} (h : ∀ p ∈ tpP, partO mn sc y m d wk p ≠ none) : ∃ rd ry, ntR sc 0 (d + 1) = some rd ∧ ntR sc 0 y = some ry ∧ dtT tpP mn sc y m d wk = encs rd ++ ([46, 32] ++ (mn.data.toList ++ ([32] ++ encs ry))) := by
 have k1 : kdw [100] = (3, 0) := by decide
 have k2 : kdw [110, 97, 109, 101] = (4, 0) := by decide
 have k3 : kdw [121] = (1, 0) := by decide
 have e1 : partO mn sc y m d wk (true, [100]) = (ntR sc 0 (d + 1)).map encs := by
  unfold partO
  rw [if_neg (by simp), k1, if_neg (by decide)]
  rfl
 have e2 : partO mn sc y m d wk (true, [121]) = (ntR sc 0 y).map encs := by
  unfold partO
  rw [if_neg (by simp), k3, if_neg (by decide)]
  rfl
 have e3 : partO mn sc y m d wk (true, [110, 97, 109, 101]) = some mn.data.toList := by
  unfold partO
  rw [if_neg (by simp), k2, if_pos rfl]
 rw [tpP_eq] at h
 have h1 := h (true, [100]) (by simp)
 have h2 := h (true, [121]) (by simp)
 rw [e1] at h1
 rw [e2] at h2
 cases hr : ntR sc 0 (d + 1) with
 | none => rw [hr] at h1; exact absurd rfl h1
 | some rd =>
  cases hy : ntR sc 0 y with
  | none => rw [hy] at h2; exact absurd rfl h2
  | some ry =>
   refine ⟨rd, ry, rfl, rfl, ?_⟩
   unfold dtT
   rw [tpP_eq]
   simp only [List.flatMap_cons, List.flatMap_nil, List.append_nil]
   rw [e1, e2, e3, hr, hy]
   rfl
theorem encs_low (l : List UInt8) (h : ∀ b ∈ l, b.toNat < 128) : encs (l.map UInt8.toNat) = l := by
 induction l with
 | nil => rfl
 | cons b l ih =>
  rw [List.map_cons, encs_cons', enc_one _ (h b (List.mem_cons_self ..)), ih fun x hx => h x (List.mem_cons_of_mem _ hx)]
  simp
theorem tp_text {mn : ByteArray} {sc : Nat} (hs : sc < 13) {y : Int} {m : Nat} {d wk : Int} (h : ∀ p ∈ tpP, partO mn sc y m d wk p ≠ none) (hy : -20000 ≤ y ∧ y ≤ 20000) (hd : -20000 ≤ d + 1 ∧ d + 1 ≤ 20000) (hm : ∀ b ∈ mn.data.toList, 97 ≤ b.toNat ∧ b.toNat ≤ 122) (hl : mn.data.toList.length ≤ 12) :
  TxOk (str (dtT tpP mn sc y m d wk)) ∧ rcT (dtT tpP mn sc y m d wk) ≤ 50 := by
 obtain ⟨rd, ry, e1, e2, e3⟩ := tp_nums h
 have n1 := nt_ok sc 0 hs (by omega) _ hd.1 hd.2 rd e1
 have n2 := nt_ok sc 0 hs (by omega) _ hy.1 hy.2 ry e2
 obtain ⟨l1, i1⟩ := num_short sc hs _ hd.1 hd.2 rd e1
 obtain ⟨l2, i2⟩ := num_short sc hs _ hy.1 hy.2 ry e2
 obtain ⟨a, rd', rfl⟩ := List.exists_cons_of_ne_nil n1.ne
 obtain ⟨ry', z, rfl⟩ : ∃ r z, ry = r ++ [z] := ⟨_, _, (List.dropLast_concat_getLast n2.ne).symm⟩
 have hc : dtT tpP mn sc y m d wk = encs (a :: (rd' ++ ([46, 32] ++ (mn.data.toList.map UInt8.toNat ++ ([32] ++ (ry' ++ [z])))))) := by
  rw [e3, show a :: (rd' ++ ([46, 32] ++ (mn.data.toList.map UInt8.toNat ++ ([32] ++ (ry' ++ [z]))))) = (a :: rd') ++ ([46, 32] ++ (mn.data.toList.map UInt8.toNat ++ ([32] ++ (ry' ++ [z])))) from by simp]
  have q1 := encs_low mn.data.toList (fun b hb => by have := hm b hb; omega)
  have q2 : encs [46, 32] = [46, 32] := by decide
  have q3 : encs [32] = [32] := by decide
  simp only [encs_app', q1, q2, q3]
 have hmem : ∀ x ∈ a :: (rd' ++ ([46, 32] ++ (mn.data.toList.map UInt8.toNat ++ ([32] ++ (ry' ++ [z]))))), Bmp x ∧ ctlR x = false := fun x hx => by
  have hx : x ∈ a :: rd' ∨ x = 46 ∨ x = 32 ∨ x ∈ mn.data.toList.map UInt8.toNat ∨ x ∈ ry' ++ [z] := by
   simp only [List.mem_cons, List.mem_append, List.not_mem_nil, or_false] at hx ⊢
   grind
  have ct : ∀ x : Nat, 32 ≤ x → x ≠ 127 → ctlR x = false := fun x h1 h2 => by
   unfold ctlR
   rw [decide_eq_false (by omega), decide_eq_false h2]
   rfl
  rcases hx with hx | rfl | rfl | hx | hx
  ·have := i1 x hx
   exact ⟨n1.bmp x hx, ct x (by omega) this.2⟩
  ·exact ⟨.inl (by omega), by decide⟩
  ·exact ⟨.inl (by omega), by decide⟩
  ·obtain ⟨b, hb, rfl⟩ := List.mem_map.1 hx
   have := hm b hb
   exact ⟨.inl (by omega), ct _ (by omega) (by omega)⟩
  ·have := i2 x hx
   exact ⟨n2.bmp x hx, ct x (by omega) this.2⟩
 have hb := fun x hx => (hmem x hx).1
 have hlen : (a :: (rd' ++ ([46, 32] ++ (mn.data.toList.map UInt8.toNat ++ ([32] ++ (ry' ++ [z])))))).length ≤ 47 := by
  simp only [List.length_cons, List.length_append, List.length_map, List.length_nil] at l1 l2 ⊢
  omega
 have hsz : (encs (a :: (rd' ++ ([46, 32] ++ (mn.data.toList.map UInt8.toNat ++ ([32] ++ (ry' ++ [z]))))))).length ≤ 120 := by
  rw [← hc, e3]
  have q1 := (encs_len (a :: rd') n1.bmp).2
  have q2 := (encs_len (ry' ++ [z]) n2.bmp).2
  simp only [List.length_append, List.length_cons, List.length_nil] at q1 q2 l1 l2 ⊢
  omega
 refine ⟨?_, ?_⟩
 ·unfold str
  rw [hc]
  exact tx_encs a z _ (a :: (rd' ++ ([46, 32] ++ (mn.data.toList.map UInt8.toNat ++ ([32] ++ ry'))))) (by simp) hb (fun x hx => (hmem x hx).2) (by have := i1 a (List.mem_cons_self ..); omega) (by have := i2 z (by simp); omega) hsz
 ·rw [hc, (encs_valid _ hb).2]
  omega
set_option maxRecDepth 1000000 in
theorem mon_ink (r : CatRow) (hr : r ∈ catR) (i : Nat) (hi : i < r.t.mo.length) : (∀ b ∈ (r.t.mo.getD i mth0).nm.data.toList, 97 ≤ b.toNat ∧ b.toNat ≤ 122) ∧ (r.t.mo.getD i mth0).nm.data.toList.length ≤ 12 := by
 have h : catR.all (fun r => (List.range r.t.mo.length).all fun i => ((r.t.mo.getD i mth0).nm.data.toList.all fun b => decide (97 ≤ b.toNat) && decide (b.toNat ≤ 122)) && decide ((r.t.mo.getD i mth0).nm.data.toList.length ≤ 12)) = true := by decide +kernel
 have h1 := List.all_eq_true.1 (List.all_eq_true.1 h r hr) i (List.mem_range.2 hi)
 rw [Bool.and_eq_true, decide_eq_true_eq] at h1
 refine ⟨fun b hb => ?_, h1.2⟩
 have := List.all_eq_true.1 h1.1 b hb
 rw [Bool.and_eq_true, decide_eq_true_eq, decide_eq_true_eq] at this
 exact this
set_option maxRecDepth 1000000 in
theorem cat_ink (r : CatRow) (hr : r ∈ catR) : (∀ b ∈ r.nm, 33 ≤ b.toNat ∧ b.toNat ≤ 122) ∧ r.nm.length ≤ 20 ∧ r.nm ≠ [] ∧ r.nm ≠ [110] ∧ r.nm ≠ [119] := by
 have h : catR.all (fun r => (r.nm.all fun b => decide (33 ≤ b.toNat) && decide (b.toNat ≤ 122)) && (decide (r.nm.length ≤ 20) && (decide (r.nm ≠ []) && (decide (r.nm ≠ [110]) && decide (r.nm ≠ [119]))))) = true := by decide +kernel
 have h1 := List.all_eq_true.1 h r hr
 simp only [Bool.and_eq_true, decide_eq_true_eq] at h1
 refine ⟨fun b hb => ?_, h1.2⟩
 have := List.all_eq_true.1 h1.1 b hb
 rw [Bool.and_eq_true, decide_eq_true_eq, decide_eq_true_eq] at this
 exact this
structure TpRow where
 i : Nat
 s : List UInt8
 k : Nat
def TpRow.l (x : TpRow) : List ByteArray := [str (itoa (x.i : Int)), str x.s, str (itoa (x.k : Int))]
def TpRow.ok (x : TpRow) : Prop := x.i < 10 ∧ x.k < 10 ∧ TxOk (str x.s) ∧ rcT x.s ≤ 50
theorem dig_text : ∀ i : Nat, i < 10 → itoa (i : Int) = [UInt8.ofNat (48 + i)] := by decide +kernel
theorem dig_ok (i : Nat) (h : i < 10) : TxOk (str (itoa (i : Int))) ∧ rcT (itoa (i : Int)) = 1 := by
 rw [dig_text i h]
 exact tx_ascii (UInt8.ofNat (48 + i)) (UInt8.ofNat (48 + i)) [] [] rfl (fun b hb => by
  obtain rfl := List.mem_singleton.1 hb
  rw [UInt8.toNat_ofNat']
  omega) (by show 1 ≤ 120; omega)
theorem low_ok (l : List UInt8) (h : ∀ b ∈ l, 33 ≤ b.toNat ∧ b.toNat ≤ 122) (hl : l.length ≤ 20) (hne : l ≠ []) : TxOk (str l) ∧ rcT l ≤ 50 := by
 obtain ⟨a, l', rfl⟩ := List.exists_cons_of_ne_nil hne
 have hz : a :: l' = (a :: l').dropLast ++ [(a :: l').getLast hne] := (List.dropLast_concat_getLast hne).symm
 have := tx_ascii a _ l' _ hz h (by omega)
 exact ⟨this.1, by rw [this.2]; omega⟩
theorem gGo_some (w : List Nat) (W : Nat) : ∀ (l : List Nat) (done : List (List Nat)) (cur : List Nat) (used : Nat), (∀ i ∈ l, w.getD 0 0 + 2 + w.getD i 0 ≤ W) → ∃ gs, gGo w W l done cur used = some gs
 | [], done, cur, used, _ => ⟨_, rfl⟩
 | i :: l, done, cur, used, h => by
  have hi := h i (List.mem_cons_self ..)
  have ih := fun d c u => gGo_some w W l d c u fun j hj => h j (List.mem_cons_of_mem _ hj)
  unfold gGo
  rw [if_neg (by omega)]
  split
  ·exact ih _ _ _
  ·exact ih _ _ _
theorem max_le (B : Nat) : ∀ (l : List Nat) (a : Nat), a ≤ B → (∀ x ∈ l, x ≤ B) → l.foldl max a ≤ B
 | [], a, h, _ => h
 | b :: l, a, h, hl => by
  rw [List.foldl_cons]
  exact max_le B l _ (Nat.max_le.2 ⟨h, hl b (List.mem_cons_self ..)⟩) fun x hx => hl x (List.mem_cons_of_mem _ hx)
theorem tp_lay (t : Tb) (r : CatRow) (hr : r ∈ catR) (xs : List TpRow) (hh : t.h.l = [⟨#[110]⟩, str r.nm, ⟨#[119]⟩]) (hrs : t.rs.map SR.l = xs.map TpRow.l) (hx : ∀ x ∈ xs, x.ok) (hn : xs.length ≤ 7) (wd : Nat) (hw : 60 ≤ wd) : LayOk t wd := by
 have hc := cat_ink r hr
 have hlen : t.rs.length = xs.length := by have := congrArg List.length hrs; simpa using this
 have hrow : ∀ q, q < t.rs.length → ∃ x, x ∈ xs ∧ (t.rs.getD q sr0).l = x.l := fun q hq => by
  refine ⟨xs[q]'(by omega), List.getElem_mem _, ?_⟩
  have := congrArg (fun l => l[q]?) hrs
  simp only [List.getElem?_map] at this
  rw [List.getElem?_eq_getElem hq, List.getElem?_eq_getElem (show q < xs.length by omega)] at this
  simp only [Option.map_some, Option.some.injEq] at this
  rw [List.getD_eq_getElem?_getD, List.getElem?_eq_getElem hq]
  exact this
 have hcells : ∀ q, q < t.rs.length + 1 → ∀ k, k < 3 → TxOk (((t.h :: t.rs).getD q sr0).l.getD k ⟨#[]⟩) ∧ rcT (((t.h :: t.rs).getD q sr0).l.getD k ⟨#[]⟩).data.toList ≤ 50 ∧ (k = 0 ∨ k = 2 → rcT (((t.h :: t.rs).getD q sr0).l.getD k ⟨#[]⟩).data.toList ≤ 1) := fun q hq k hk => by
  have hst : ∀ l : List UInt8, (str l).data.toList = l := str_data
  cases q with
  | zero =>
   show TxOk (t.h.l.getD k ⟨#[]⟩) ∧ _ ∧ _
   rw [show ((t.h :: t.rs).getD 0 sr0) = t.h from rfl, hh]
   match k, hk with
   | 0, _ =>
    have := low_ok [110] (by decide) (by decide) (by decide)
    exact ⟨this.1, this.2, fun _ => by show rcT [110] ≤ 1; decide +kernel⟩
   | 1, _ =>
    have := low_ok r.nm hc.1 hc.2.1 hc.2.2.1
    refine ⟨this.1, ?_, fun h => by omega⟩
    show rcT (str r.nm).data.toList ≤ 50
    rw [hst]
    exact this.2
   | 2, _ =>
    have := low_ok [119] (by decide) (by decide) (by decide)
    exact ⟨this.1, this.2, fun _ => by show rcT [119] ≤ 1; decide +kernel⟩
  | succ q =>
   obtain ⟨x, hxm, e⟩ := hrow q (by omega)
   have ok := hx x hxm
   rw [show ((t.h :: t.rs).getD (q + 1) sr0) = t.rs.getD q sr0 from rfl, e]
   match k, hk with
   | 0, _ =>
    have := dig_ok x.i ok.1
    refine ⟨this.1, ?_, fun _ => ?_⟩
    ·show rcT (str (itoa (x.i : Int))).data.toList ≤ 50
     rw [hst, this.2]; omega
    ·show rcT (str (itoa (x.i : Int))).data.toList ≤ 1
     rw [hst, this.2]; omega
   | 1, _ =>
    refine ⟨ok.2.2.1, ?_, fun h => by omega⟩
    show rcT (str x.s).data.toList ≤ 50
    rw [hst]
    exact ok.2.2.2
   | 2, _ =>
    have := dig_ok x.k ok.2.1
    refine ⟨this.1, ?_, fun _ => ?_⟩
    ·show rcT (str (itoa (x.k : Int))).data.toList ≤ 50
     rw [hst, this.2]; omega
    ·show rcT (str (itoa (x.k : Int))).data.toList ≤ 1
     rw [hst, this.2]; omega
 have h3 : t.h.l.length = 3 := by rw [hh]; rfl
 have hl3 : ∀ q, q < t.rs.length + 1 → ((t.h :: t.rs).getD q sr0).l.length = 3 := fun q hq => by
  cases q with
  | zero => exact h3
  | succ q =>
   obtain ⟨x, hxm, e⟩ := hrow q (by omega)
   rw [show ((t.h :: t.rs).getD (q + 1) sr0) = t.rs.getD q sr0 from rfl, e]
   rfl
 refine ⟨⟨by omega, by omega, fun q hq => ?_, fun q hq k hk => ?_, fun q hq => ?_⟩, ?_⟩
 ·rw [h3]
  exact hl3 (q + 1) (by omega)
 ·rw [hl3 q hq] at hk
  exact (hcells q hq k hk).1
 ·have hnc : ∀ (zs : List ByteArray) (x : ByteArray), x ∉ zs → containsS zs x = false := fun zs x h => by
   rw [Bool.eq_false_iff]
   exact fun h2 => h ((containsS_iff zs x).1 h2)
  have hs1 : str r.nm ≠ ⟨#[110]⟩ := fun e => hc.2.2.2.1 (by have := congrArg (fun z => z.data.toList) e; simpa [str] using this)
  have hs2 : str r.nm ≠ ⟨#[119]⟩ := fun e => hc.2.2.2.2 (by have := congrArg (fun z => z.data.toList) e; simpa [str] using this)
  rw [hh]
  rw [h3] at hq
  match q, hq with
  | 0, _ => exact ⟨by show (⟨#[110]⟩ : ByteArray).size ≠ 0; decide, hnc _ _ (by simp)⟩
  | 1, _ =>
   refine ⟨?_, hnc _ _ (by simp [hs1])⟩
   show (str r.nm).size ≠ 0
   rw [str_size]
   exact fun e => hc.2.2.1 (List.eq_nil_of_length_eq_zero e)
  | 2, _ => exact ⟨by show (⟨#[119]⟩ : ByteArray).size ≠ 0; decide, hnc _ _ (by
    show (⟨#[119]⟩ : ByteArray) ∉ [⟨#[110]⟩, str r.nm]
    simp only [List.mem_cons, List.not_mem_nil, or_false, not_or]
    exact ⟨by decide, Ne.symm hs2⟩)⟩
 ·have hw3 : ∀ i, i < 3 → (wsT t).getD i 0 ≤ 50 ∧ (i = 0 ∨ i = 2 → (wsT t).getD i 0 ≤ 1) := fun i hi => by
   have hcol : ∀ z ∈ ((t.h :: t.rs).map SR.tx).map (fun r => rcT (colT r i)), z ≤ 50 ∧ (i = 0 ∨ i = 2 → z ≤ 1) := fun z hz => by
    obtain ⟨y, hy, rfl⟩ := List.mem_map.1 hz
    obtain ⟨s, hs, rfl⟩ := List.mem_map.1 hy
    obtain ⟨q, hq, e⟩ := List.getElem_of_mem hs
    have hq' : q < t.rs.length + 1 := by simpa using hq
    have e' : (t.h :: t.rs).getD q sr0 = s := by rw [List.getD_eq_getElem?_getD, List.getElem?_eq_getElem hq]; exact e
    have := hcells q hq' i hi
    rw [e'] at this
    have hl := hl3 q hq'
    rw [e'] at hl
    have ec : colT (SR.tx s) i = (s.l.getD i ⟨#[]⟩).data.toList := by
     unfold colT SR.tx
     rw [List.getD_eq_getElem?_getD, List.getElem?_map, List.getD_eq_getElem?_getD, List.getElem?_eq_getElem (by omega)]
     rfl
    rw [ec]
    exact ⟨this.2.1, this.2.2⟩
   unfold wsT widR
   rw [h3, List.getD_eq_getElem?_getD, List.getElem?_map, List.getElem?_range hi]
   simp only [Option.map_some, Option.getD_some]
   exact ⟨max_le 50 _ 0 (by omega) fun z hz => (hcol z hz).1, fun h => max_le 1 _ 0 (by omega) fun z hz => (hcol z hz).2 h⟩
  unfold groupsR
  have q0 := (hw3 0 (by omega)).2 (.inl rfl)
  rw [if_neg (by omega)]
  have hl : (wsT t).length = 3 := by rw [wsT_len, h3]
  rw [hl]
  refine gGo_some _ _ _ _ _ _ fun i hi => ?_
  have hi3 : i < 3 := by
   have := List.mem_range'.1 hi
   omega
  have := (hw3 i hi3).1
  omega
end Go.Proofs.YtoemghiejfkpbaaGreatDoor
/- The table of TopPage in memory. -/
namespace Go.Proofs.YtoemghiejfkpbaaGreatDoor
open Go Go.Shelf Go.RowKit Go.Lib
set_option linter.unusedVariables false
theorem Box.ty_ne {w : World} {g g' : Nat} {t t' : TypeId} {cs cs' : Array Value} (h : Box w g t cs) (h' : Box w g' t' cs') (hne : t ≠ t') : g ≠ g' := fun e => by
 subst e
 unfold Box at h h'
 rw [h] at h'
 injection h' with h'
 injection h' with _ h' _
 exact hne h'
theorem own_types {w : World} {b1 b2 : Nat} {e1 e2 : TypeId} {s1 s2 : Nat} {v1 v2 : Value} {n1 n2 : Nat} {x1 x2 : List Value} (h1 : w.ownsRow b1 e1 s1 v1 n1 x1) (h2 : w.ownsRow b2 e2 s2 v2 n2 x2) (hne : e1 ≠ e2) (b : Nat) (hb : v1.ownBlock = some b) : v2.ownBlock ≠ some b := fun e => by
 rcases h1.2 with ⟨rfl, _⟩ | ⟨g, cap, cur, rfl, _, hg, _⟩
 ·simp [Value.ownBlock] at hb
 ·rcases h2.2 with ⟨rfl, _⟩ | ⟨g', cap', cur', rfl, _, hg', _⟩
  ·simp [Value.ownBlock] at e
  ·have e1 : g = b := by simpa [Value.ownBlock] using hb
   have e2 : g' = b := by simpa [Value.ownBlock] using e
   subst e1
   subst e2
   rw [hg] at hg'
   injection hg' with hg'
   injection hg' with _ hg' _
   exact hne hg'
structure TpE where
 b : Nat
 x : TpRow
 day : Int
def TpE.c (p : TpE) : Array Value := #[.string (str (itoa (p.x.i : Int))), .string (str p.x.s), .string (str (itoa (p.x.k : Int)))]
def tpR (es : List TpE) : List Value := es.map fun p => .slice (some ⟨p.b, 0, none⟩) 3 3
structure TpSt (w0 w : World) (gT gh B : Nat) (hdr : Array Value) (vR vD : Value) (es : List TpE) (ds : List Int) : Prop where
 bx : Box w gT 30 #[.slice (some ⟨gh, 0, none⟩) 3 3, vR]
 hd : Box w gh 9 hdr
 o1 : w.ownsRow B 27 1 vR es.length (tpR es)
 o2 : w.ownsRow B 3 1 vD ds.length (ints ds)
 each : ∀ p ∈ es, Box w p.b 9 p.c
 lt : gT < B ∧ gh < B ∧ w0.heap.size ≤ gT
 be : Below w0.heap.size w0 w
 sz : B ≤ w.heap.size
section
variable {w0 w w' : World} {gT gh B : Nat} {hdr : Array Value} {vR vD : Value} {es : List TpE} {ds : List Int}
theorem TpSt.next (h : TpSt w0 w gT gh B hdr vR vD es ds) (hb : Below w.heap.size w w') : TpSt w0 w' gT gh B hdr vR vD es ds :=
 ⟨h.bx.below hb, h.hd.below hb, own_next h.o1 hb, own_next h.o2 hb, fun p hp => (h.each p hp).below hb, h.lt, below_then h.be hb, Nat.le_trans h.sz hb.size⟩
theorem TpSt.row (h : TpSt w0 w gT gh B hdr vR vD es ds) (p : TpE) (v' : Value) (hg : w.grownBy w' vR.ownBlock) (ho : w'.ownsRow B 27 1 v' (es.length + 1) (tpR es ++ [.slice (some ⟨p.b, 0, none⟩) 3 3])) (hp : Box w' p.b 9 p.c) :
  TpSt w0 (w'.setCell ⟨gT, 1, none⟩ v') gT gh B hdr v' vD (es ++ [p]) ds := by
 have nT : some gT ≠ vR.ownBlock := fun e => ownApart h.o1 h.bx (by decide) gT e.symm rfl
 have nh : some gh ≠ vR.ownBlock := fun e => ownApart h.o1 h.hd (by decide) gh e.symm rfl
 have bx' := h.bx.grown hg nT
 have hd' := h.hd.grown hg nh
 have far : ∀ {g : Nat} {t : TypeId} {cs : Array Value}, Box w' g t cs → t ≠ 30 → Box (w'.setCell ⟨gT, 1, none⟩ v') g t cs := fun hb hne => hb.far (p := ⟨gT, 1, none⟩) (Box.ty_ne hb bx' hne) v'
 refine ⟨bx'.set_ 1 v', far hd' (by decide), ?_, ?_, fun q hq => ?_, h.lt, ?_, ?_⟩
 ·unfold tpR
  rw [List.length_append, List.map_append]
  exact own_set ho _ _ (by have := h.lt.1; show gT < B; omega)
 ·refine own_set (own_heap h.o2 fun b hb => ?_) _ _ (by have := h.lt.1; show gT < B; omega)
  exact hg.block b (own_lt h.o2 b hb).2 fun e => own_types h.o1 h.o2 (by decide) b e.symm hb
 ·rcases List.mem_append.1 hq with hq | hq
  ·refine far ((h.each q hq).grown hg fun e => ?_) (by decide)
   exact ownApart h.o1 (h.each q hq) (by decide) _ e.symm rfl
  ·rw [List.mem_singleton.1 hq]
   exact far hp (by decide)
 ·refine (h.be.grown hg h.be.size fun k hk => ?_).setCell (p := ⟨gT, 1, none⟩) h.lt.2.2 v'
  have := (own_lt h.o1 k hk).1
  have := h.lt
  omega
 ·rw [World.size_setCell]
  exact Nat.le_trans h.sz hg.size
theorem TpSt.day (h : TpSt w0 w gT gh B hdr vR vD es ds) (d : Int) (v' : Value) (hg : w.grownBy w' vD.ownBlock) (ho : w'.ownsRow B 3 1 v' (ds.length + 1) (ints ds ++ [.int .i64 d])) :
  TpSt w0 w' gT gh B hdr vR v' es (ds ++ [d]) := by
 have nT : some gT ≠ vD.ownBlock := fun e => ownApart h.o2 h.bx (by decide) gT e.symm rfl
 have nh : some gh ≠ vD.ownBlock := fun e => ownApart h.o2 h.hd (by decide) gh e.symm rfl
 refine ⟨h.bx.grown hg nT, h.hd.grown hg nh, ?_, ?_, fun q hq => ?_, h.lt, ?_, Nat.le_trans h.sz hg.size⟩
 ·refine own_heap h.o1 fun b hb => ?_
  exact hg.block b (own_lt h.o1 b hb).2 fun e => own_types h.o2 h.o1 (by decide) b e.symm hb
 ·unfold ints at *
  rw [List.length_append, List.map_append]
  exact ho
 ·exact (h.each q hq).grown hg fun e => ownApart h.o2 (h.each q hq) (by decide) _ e.symm rfl
 ·refine h.be.grown hg h.be.size fun k hk => ?_
  have := (own_lt h.o2 k hk).1
  have := h.lt
  omega
end
def tpT (gh : Nat) (NK : ByteArray) (A : Option Addr) (c : Nat) (es : List TpE) : Tb := ⟨⟨some ⟨gh, 0, none⟩, 3, [⟨#[110]⟩, NK, ⟨#[119]⟩]⟩, A, c, es.map fun p => ⟨some ⟨p.b, 0, none⟩, 3, p.x.l⟩⟩
theorem tpT_in {w0 w : World} {gT gh B : Nat} {NK : ByteArray} {A : Option Addr} {c : Nat} {vD : Value} {es : List TpE} {ds : List Int} (h : TpSt w0 w gT gh B #[.string ⟨#[110]⟩, .string NK, .string ⟨#[119]⟩] (.slice A es.length c) vD es ds) (hc : es.length ≤ c ∧ c ≤ maxLen) (hk : NK.size ≤ maxLen) (hx : ∀ p ∈ es, p.x.ok) : TbIn w w.heap.size (tpT gh NK A c es) := by
 refine ⟨⟨Row.of_box h.hd, by show 3 ≤ 3; omega, by show 3 ≤ maxLen; unfold maxLen; omega, fun s hs => ?_⟩, ?_, ?_, hc.2, fun r hr => ?_⟩
 ·have hs : s = ⟨#[110]⟩ ∨ s = NK ∨ s = ⟨#[119]⟩ := by simpa [tpT] using hs
  rcases hs with rfl | rfl | rfl
  ·unfold maxLen; decide
  ·exact hk
  ·unfold maxLen; decide
 ·have := Row.of_own h.o1
  unfold tpT
  rw [List.map_map]
  exact this
 ·show (es.map _).length ≤ c
  rw [List.length_map]
  exact hc.1
 ·obtain ⟨p, hp, rfl⟩ := List.mem_map.1 (show r ∈ es.map _ from hr)
  have ok := hx p hp
  refine ⟨Row.of_box (h.each p hp), by show 3 ≤ 3; omega, by show 3 ≤ maxLen; unfold maxLen; omega, fun s hs => ?_⟩
  have hs : s = str (itoa (p.x.i : Int)) ∨ s = str p.x.s ∨ s = str (itoa (p.x.k : Int)) := by simpa [TpRow.l] using hs
  have big : ∀ z : ByteArray, z.size ≤ 120 → z.size ≤ maxLen := fun z h => by unfold maxLen; omega
  rcases hs with rfl | rfl | rfl
  ·exact big _ (dig_ok _ ok.1).1.sz
  ·exact big _ ok.2.2.1.sz
  ·exact big _ (dig_ok _ ok.2.1).1.sz
end Go.Proofs.YtoemghiejfkpbaaGreatDoor
