/- slices.SortFunc on ints of the call's own; slices.Index and slices.Contains at ints. -/
import Derived.Test.YtgidepnlflmclaaSort
namespace Go.Proofs.Ytgidepnlflmclaa
open Go.RowKit Go.Sort Go.Shelf Go.Lib
set_option linter.unusedVariables false
set_option linter.unusedSimpArgs false
set_option maxHeartbeats 1000000 in
theorem indexI (l0 h0 : Nat) (A : Option Addr) (n c : Nat) (xs : List Int) (x : Int) (w : World) (hx : RInts w l0 h0 A n c xs) :
    Calls Try.prog 84 #[.slice A n c, .int .i64 x] w fun e w' => (∃ r : Int, e = .returned (.int .i64 r) ∧ ((-1 ≤ r ∧ r ≤ n) ∧ (0 ≤ r ↔ x ∈ xs))) ∧ w = w' := by
  have hnc := hx.le; have hcm := hx.cap
  have HX := hid hx
  clear hx
  go_enter Try.func84, Try.ntmps84
  go_wp2
  go_loop [8] (fun i => ∃ k : Nat, k ≤ n ∧ i = .int .i64 k ∧ Hid (∀ (j : Nat) (y : Int), j < k → xs[j]? = some y → y ≠ x)) (fun i => n - (intOf i).toNat)
  case atStart => exact ⟨0, Nat.zero_le _, rfl, fun j y hj => absurd hj (by omega)⟩
  case round =>
    obtain ⟨k, hk, rfl, HN⟩ := hrel
    by_cases hlt : k < n
    · obtain ⟨b, o, y, rfl, _, _, hyk, hE⟩ := HX.out.at_ hlt
      have hE1 : w.cell? ⟨b, o + k, none⟩ = some (.int .i64 y) := by simpa [EInt] using hE
      have Hyk := hid hyk
      clear hyk hE
      by_cases he : y = x
      · have e1 : (x == y) = true := by simp [he]
        have HM := hid (show x ∈ xs from by rw [← he]; exact List.mem_of_getElem? Hyk.out)
        clear he
        go_wp2
        go_ret
        exact ⟨⟨k, rfl, ⟨by omega, by omega⟩, ⟨fun _ => HM.out, fun _ => by omega⟩⟩, rfl⟩
      · have e1 : (x == y) = false := by
          rw [beq_eq_false_iff_ne]; exact fun h => he h.symm
        have HN2 : Hid (∀ (j : Nat) (z : Int), j < k + 1 → xs[j]? = some z → z ≠ x) := fun j z hj hz => by
          by_cases hjk : j < k
          · exact HN.out j z hjk hz
          · obtain rfl : j = k := by omega
            rw [Hyk.out] at hz; injection hz with hz; subst hz; exact he
        clear he
        go_wp2
        go_round
        case rel => exact ⟨k + 1, by omega, by go_num, HN2⟩
        case measure => simp [intOf]; omega
    · have HM := hid (show x ∉ xs from fun hm => by
        obtain ⟨j, hj⟩ := List.getElem?_of_mem hm
        exact HN.out j x (by have := (List.getElem?_eq_some_iff.1 hj).1; have := HX.out.len; omega) hj rfl)
      go_wp2
      go_ret
      exact ⟨⟨-1, rfl, ⟨by omega, by omega⟩, ⟨fun h => by omega, fun h => absurd h HM.out⟩⟩, rfl⟩
theorem containsI (l0 h0 : Nat) (A : Option Addr) (n c : Nat) (xs : List Int) (x : Int) (w : World) (hx : RInts w l0 h0 A n c xs) :
    Calls Try.prog 65 #[.slice A n c, .int .i64 x] w fun e w' => e = .returned (.bool (decide (x ∈ xs))) ∧ w = w' := by
  have HX := hid hx
  have HR := hid (show ∀ r : Int, (0 ≤ r ↔ x ∈ xs) → decide (x ∈ xs) = decide (0 ≤ r) from fun r h => by rw [Bool.eq_iff_iff, decide_eq_true_eq, decide_eq_true_eq]; exact h.symm)
  clear hx
  go_enter Try.func65, Try.ntmps65
  (go_wp2_with fail; (with_reducible refine (indexI _ _ _ _ _ xs x _ HX.out).mono ?_); rintro e w1 ⟨⟨r, rfl, hb, hr⟩, rfl⟩)
  have HR2 := hid (HR.out r hr)
  clear hr
  go_wp2
  go_ret
  exact ⟨by rw [HR2.out]; rfl, rfl⟩
end Go.Proofs.Ytgidepnlflmclaa
