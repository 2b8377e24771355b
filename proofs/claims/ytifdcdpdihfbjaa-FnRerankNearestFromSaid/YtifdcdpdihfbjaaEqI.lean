/- The laws' equalInts, equalItem, equalItems on slices that read as the same list. -/
import Derived.Test.YtifdcdpdihfbjaaQuiet
import Derived.Test.YtifdcdpdihfbjaaTypes
import Derived.Deep.RegionWith
namespace Go.Proofs.Ytifdcdpdihfbjaa
open Go.RowKit
set_option linter.unusedVariables false
set_option linter.unusedSimpArgs false
set_option maxHeartbeats 1000000 in
theorem isInL (l0 h0 : Nat) (A : Option Addr) (n c : Nat) (xs : List Int) (x : Int) (w : World) (hx : RInts w l0 h0 A n c xs) :
    Calls Try.prog 20 #[.slice A n c, .int .i64 x] w fun e w' => e = .returned (.bool (decide (x ∈ xs))) ∧ w = w' := by
  have hnc := hx.le; have hcm := hx.cap
  have HX := hid hx
  have HM := hid (show ∀ b, decide (x ∈ xs) = b → decide (x ∈ xs) = b from fun _ h => h)
  generalize hr : decide (x ∈ xs) = r at *
  have HR := hid hr
  clear hx hr HM
  go_enter Try.func20, Try.ntmps20
  go_wp2
  go_loop [5] (fun i => ∃ k : Nat, k ≤ n ∧ i = .int .i64 k ∧ Hid (∀ (j : Nat) (y : Int), j < k → xs[j]? = some y → y ≠ x)) (fun i => n - (intOf i).toNat)
  case atStart => exact ⟨0, Nat.zero_le _, rfl, fun j y hj => absurd hj (by omega)⟩
  case round =>
    obtain ⟨k, hk, rfl, HN⟩ := hrel
    by_cases hlt : k < n
    · obtain ⟨b, o, y, rfl, _, _, hyk, hE⟩ := HX.out.at_ hlt
      have hE1 : w.cell? ⟨b, o + k, none⟩ = some (.int .i64 y) := by simpa [EInt] using hE
      have Hyk := hid hyk
      clear hyk hE
      by_cases he : y = x
      · have e1 : (y == x) = true := by simp [he]
        have HF := hid (show r = true from by rw [← HR.out, decide_eq_true_iff]; rw [← he]; exact List.mem_of_getElem? Hyk.out)
        clear he
        go_wp2
        go_ret
        exact ⟨by rw [HF.out]; rfl, rfl⟩
      · have e1 : (y == x) = false := by simp [he]
        have HN2 : Hid (∀ (j : Nat) (z : Int), j < k + 1 → xs[j]? = some z → z ≠ x) := fun j z hj hz => by
          by_cases hjk : j < k
          · exact HN.out j z hjk hz
          · obtain rfl : j = k := by omega
            rw [Hyk.out] at hz; injection hz with hz; subst hz; exact he
        clear he
        go_wp2
        go_round
        case rel => exact ⟨k + 1, by omega, by go_num, HN2⟩
        case measure => simp [intOf]; omega
    · have HF := hid (show r = false from by
        rw [← HR.out, decide_eq_false_iff_not]
        intro hm
        obtain ⟨j, hj⟩ := List.getElem?_of_mem hm
        exact HN.out j x (by have := (List.getElem?_eq_some_iff.1 hj).1; have := HX.out.len; omega) hj rfl)
      go_wp2
      go_ret
      exact ⟨by rw [HF.out]; rfl, rfl⟩
end Go.Proofs.Ytifdcdpdihfbjaa
