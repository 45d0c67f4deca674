/- TopCut, TopName -/
import Derived.Test.YtoemghiejfkpbaaGreatDoorGCat1
/- Contracts of the great laws' own mod and cut. -/
namespace Go.Proofs.YtoemghiejfkpbaaGreatDoor
open Go.RowKit
set_option linter.unusedVariables false
theorem amod_any (a n : Int) (w : World) (h1 : 1 ≤ n) (h2 : n ≤ 1000000000000000) :
  Calls Tryz.prog 17 #[.int .i64 a, .int .i64 n] w fun e w' => e = .returned (.int .i64 (a % n)) ∧ w = w' := by
 have ht := (tmod_facts a n (by omega)).2.2.2
 have e1 := tmod_add_emod a n h1
 have E := Lib.hid e1
 clear e1
 have b1 : 0 ≤ a.tmod n + n := by omega
 have b2 : a.tmod n + n ≤ 9223372036854775807 := by omega
 have b3 : ¬ n = 0 := by omega
 go_enter Tryz.func17, Tryz.ntmps17
 go_wp2
 go_ret
 exact ⟨ret_int E.out, rfl⟩
theorem acut_any (x low n : Int) (w : World) (h1 : 1 ≤ n) (h2 : n ≤ 1000000000000000) (h3 : -1000000000000000 ≤ low) (h4 : low ≤ 1000000000000000) :
  Calls Tryz.prog 5 #[.int .i64 x, .int .i64 low, .int .i64 n] w fun e w' => e = .returned (.int .i64 (low + x % n)) ∧ w = w' := by
 have b1 := Int.emod_nonneg x (show n ≠ 0 by omega)
 have b2 := Int.emod_lt_of_pos x (show 0 < n by omega)
 go_enter Tryz.func5, Tryz.ntmps5
 go_wp2_with (go_at_call 17; refine (amod_any _ _ _ (by omega) (by omega)).mono ?_; rintro e w' ⟨rfl, rfl⟩)
 go_ret
 exact ⟨rfl, rfl⟩
end Go.Proofs.YtoemghiejfkpbaaGreatDoor
/- Contract of the great laws' own name. -/
namespace Go.Proofs.YtoemghiejfkpbaaGreatDoor
open Go Go.RowKit
set_option linter.unusedVariables false
set_option maxRecDepth 100000 in
set_option maxHeartbeats 4000000 in
theorem aname_any (k : Int) (w : World) (hk1 : -9223372036854775808 ≤ k) (hk2 : k ≤ 9223372036854775807) (h : Shp w) : Calls Tryz.prog 6 #[.int .i64 k] w fun e w' => e = .returned (.string (str (rowK k).nm)) ∧ Below w.heap.size w w' := by
 have HN := Lib.hid (names_any w h)
 have HM := Lib.hid (fun W => amod_any k 40 W (by omega) (by omega))
 have b1 := Int.emod_nonneg k (show (40 : Int) ≠ 0 by omega)
 have b2 := Int.emod_lt_of_pos k (show (0 : Int) < 40 by omega)
 have hI := Lib.hid (names_at (k % 40).toNat (by omega))
 have hR : Hid (rowK k = catR.getD (k % 40).toNat row0) := rfl
 have hi : (((k % 40).toNat : Nat) : Int) = k % 40 := by omega
 obtain ⟨i, hie⟩ : ∃ i : Nat, i = (k % 40).toNat := ⟨_, rfl⟩
 rw [← hie] at hi hI hR
 rw [← hi] at HM
 have hi2 : (i : Int) < 40 := by omega
 clear h b1 b2 hi hie
 go_enter Tryz.func6, Tryz.ntmps6
 go_wp2_with fail
 refine HN.out.mono ?_
 rintro e w1 ⟨v, rfl, hown, hb⟩
 obtain ⟨g, cap, rfl⟩ := ownsRow_succ (k := 39) hown
 have HB := Lib.hid hb
 have hc : w1.cell? ⟨g, i, none⟩ = some (.string (str (catR.getD i row0).nm)) := by
  have h := hown.cells (g := g) rfl i _ hI.out
  rw [addPlain, Nat.zero_add] at h
  exact h
 clear hown hb HN hI
 go_wp2_with (go_at_call 17; refine (HM.out _).mono ?_; rintro e w' ⟨rfl, rfl⟩)
 go_ret
 exact ⟨by rw [hR.out, List.getD_eq_getElem?_getD]; rfl, HB.out⟩
end Go.Proofs.YtoemghiejfkpbaaGreatDoor
