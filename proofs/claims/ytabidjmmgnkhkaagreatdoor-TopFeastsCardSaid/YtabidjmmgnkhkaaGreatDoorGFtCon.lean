/- FtCon, FeArg -/
import Derived.Test.YtabidjmmgnkhkaaGreatDoorGFShow1
/- The constants of the laws on feasts (plain). -/
namespace Go.Proofs.YtabidjmmgnkhkaaGreatDoor
open Go Go.RowKit
set_option linter.unusedVariables false
def fc5 : FE := .node 5 5 0 noB none 0 []
def fc7 (g : Nat) : FE := .node 7 (-2) 0 noB (some ⟨g, 0, none⟩) 1 [fc5]
def fc3 : FE := .node 3 3 0 noB none 0 []
theorem fc5_ok : FeOk fc5 := .mk ⟨by omega, by omega, rfl, fun h => (by cases h), fun _ => rfl, fun _ => rfl, fun _ => (by show -4000000 ≤ (5 : Int) ∧ (5 : Int) ≤ 4000000; omega), fun h => (by cases h)⟩ (fun x hx => by cases hx)
theorem fc3_ok : FeOk fc3 := .mk ⟨by omega, by omega, rfl, fun h => (by cases h), fun _ => rfl, fun _ => rfl, fun _ => (by show (0 : Int) ≤ 3 ∧ (3 : Int) ≤ 6; omega), fun h => (by cases h)⟩ (fun x hx => by cases hx)
theorem fc7_ok (g : Nat) : FeOk (fc7 g) := .mk ⟨by omega, by omega, rfl, fun h => (by cases h), fun _ => rfl, fun _ => rfl, fun _ => (by show -400 ≤ (-2 : Int) ∧ (-2 : Int) ≤ 400; omega), fun h => (by cases h)⟩ (fun x hx => by rw [List.mem_singleton] at hx; rw [hx]; exact fc5_ok)
theorem fc7_good (g : Nat) : FeGood (fc7 g) := ⟨fc7_ok g, by simp [fc7, fc5, fsz, fszL], by simp [fc7, fc5, fht, fhtL], by simp [fc7, fc5, fdh, fdhL, isDp]⟩
theorem fc3_good : FeGood fc3 := ⟨fc3_ok, by simp [fc3, fsz, fszL], by simp [fc3, fht, fhtL], by simp [fc3, fdh, fdhL, isDp]⟩
theorem fc5_in (w : World) (B : Nat) : FeIn w B fc5 := .mk ⟨by decide, by decide⟩ ⟨by decide, by decide⟩ ⟨by decide, by decide⟩ (by decide) (by decide) (.inl rfl) (fun x hx => by cases hx)
theorem fc7_in {W : World} {g : Nat} (h : Box W g 57 #[.int .i64 5, .int .i64 5, .int .i64 0, .string ⟨#[]⟩, .slice none 0 0]) : FeIn W W.heap.size (fc7 g) := .mk ⟨by decide, by decide⟩ ⟨by decide, by decide⟩ ⟨by decide, by decide⟩ (by decide) (by decide) (Row.of_box h) (fun x hx => by rw [List.mem_singleton] at hx; rw [hx]; exact fc5_in _ _)
theorem fc7_text (g : Nat) : fsh (fc7 g) = [100, 97, 121, 32, 53, 32, 45, 32, 50] := by
 unfold fc7
 rw [fsh_7, fshT_own 3 fc5 (by decide)]
 unfold fc5
 rw [fsh]
 decide +kernel
theorem rd_con : rd 20 (.ex 0) 0 (sk [32, 40, 32, 119, 101, 101, 107, 100, 97, 121, 32, 32, 32, 51, 32, 41, 32]) = some (.yes fc3 []) := by kernel_rfl
theorem shp_fc3 {t : FE} (h : shp t = fc3) : ∃ A c, t = .node 3 3 0 noB A c [] := by
 obtain ⟨k, a, b, nm, A, c, ks⟩ := t
 rw [shp_node] at h
 unfold fc3 at h
 injection h with h1 h2 h3 h4 _ _ h5
 have : ks = [] := by cases ks with
  | nil => rfl
  | cons x r => cases h5
 subst h1 h2 h3 h4 this
 exact ⟨A, c, rfl⟩
theorem fparse_con (W : World) (hv : Env W) : Calls Tryz.prog 16 #[.string ⟨#[32, 40, 32, 119, 101, 101, 107, 100, 97, 121, 32, 32, 32, 51, 32, 41, 32]⟩] W fun e w' => ∃ A c, e = .returned (.tuple #[.agg #[.int .i64 3, .int .i64 3, .int .i64 0, .string ⟨#[]⟩, .slice A 0 c], .int .i64 0, .int .i64 0]) ∧ Below W.heap.size W w' := by
 refine (fparse_any _ W hv (by decide) 20 _ rd_con).mono ?_
 intro e w' h
 obtain ⟨u, E, hu, hE, h⟩ := fparse_yes h
 have hgu : FeGood u := fc3_good.same (by rw [hu]; rfl)
 obtain ⟨A, c, rfl⟩ := shp_fc3 hu
 rcases h with ⟨_, he, _, hb⟩ | ⟨_, _, hne, _⟩
 ·exact ⟨A, c, he, hb⟩
 ·exact absurd (hE.2 hgu) hne
end Go.Proofs.YtabidjmmgnkhkaaGreatDoor
/- An expression for days that came in as an argument, read as a tree. -/
namespace Go.Proofs.YtabidjmmgnkhkaaGreatDoor
open Go.RowKit Go.Joins Go.ChangeShapes Go.WideShapes Go.Deep
set_option linter.unusedVariables false
section
variable {H : Type} {enc : TypeId × Value → H} {W : World}
set_option maxRecDepth 100000 in
theorem fe_of_trod : ∀ (N n : Nat) (cs : List Value) (y : DataW H × List MemPlace), n < N → DataW.trod enc Tryz.prog W 0 (fun _ => true) true n 57 cs = some y → ∃ t : FE, cs = feF t ∧ FeIn W W.heap.size t := by
 intro N
 induction N with
 | zero => intro n cs y h; omega
 | succ N ih =>
  intro n cs y hn h
  obtain ⟨xs, m, hm, _, hlen, hxl, hf⟩ := DataW.trod_struct Tryz.underlying57 h
  have hC : Tryz.prog.cellsOf 57 = 5 := by kernel_rfl
  rw [hC] at hlen
  match cs, hlen with
  | [c0, c1, c2, c3, c4], _ =>
   have e0 : Tryz.prog.cellsOf 3 = 1 := by kernel_rfl
   have e1 : Tryz.prog.cellsOf 9 = 1 := by kernel_rfl
   have e2 : Tryz.prog.cellsOf 55 = 1 := by kernel_rfl
   have h0 := hf 0 _ rfl
   have h1 := hf 1 _ rfl
   have h2 := hf 2 _ rfl
   have h3 := hf 3 _ rfl
   have h4 := hf 4 _ rfl
   match xs, hxl with
   | [x0, x1, x2, x3, x4], _ =>
    simp [e0, e1, e2] at h0 h1 h2 h3 h4
    obtain ⟨k, ek, _, wk⟩ := DataW.trod_int Tryz.underlying3 h0
    obtain ⟨a, ea, _, wa⟩ := DataW.trod_int Tryz.underlying3 h1
    obtain ⟨b, eb, _, wb⟩ := DataW.trod_int Tryz.underlying3 h2
    obtain ⟨nm, en, _, wn⟩ := DataW.trod_string Tryz.underlying9 h3
    simp at ek ea eb en
    subst ek ea eb en
    obtain ⟨A, ks, c, e, k1, k2, row, kids⟩ := list_trodN fe0 feF_len (by omega) Tryz.underlying55 hC (fun m' cs y hm' hh => ih m' cs y (by omega) hh) h4
    subst e
    exact ⟨.node k a b nm A c ks, rfl, .mk (bounds_i64 wk) (bounds_i64 wa) (bounds_i64 wb) wn (by omega) row kids⟩
set_option maxRecDepth 100000 in
theorem fe_open {base : Nat} {v : Value} {d : DataW H} {p : List MemPlace} (hv : Value.okWide Tryz.prog W .any base 57 v) (h : DataW.Trod enc Tryz.prog W 0 (fun _ => true) true 57 v d p) :
  ∃ t : FE, v = feV t ∧ FeIn W W.heap.size t := by
 have hC : Tryz.prog.cellsOf 57 = 5 := by kernel_rfl
 obtain ⟨cs, rfl, hsz⟩ := okWide_struct Tryz.underlying57 hv
 obtain ⟨l⟩ := cs
 match l, hsz.trans hC with
 | [c0, c1, c2, c3, c4], _ =>
  obtain ⟨m', hm'⟩ := h
  obtain ⟨t, e, ht⟩ := fe_of_trod _ m' _ _ (Nat.lt_succ_self _) hm'
  refine ⟨t, ?_, ht⟩
  obtain ⟨k, a, b, nm, A, c, ks⟩ := t
  have hc : (Value.agg ⟨[c0, c1, c2, c3, c4]⟩).cells.toList = [c0, c1, c2, c3, c4] := rfl
  rw [hc] at e
  simp only [feF, List.cons.injEq, and_true] at e
  obtain ⟨rfl, rfl, rfl, rfl, rfl⟩ := e
  rfl
end
end Go.Proofs.YtabidjmmgnkhkaaGreatDoor
