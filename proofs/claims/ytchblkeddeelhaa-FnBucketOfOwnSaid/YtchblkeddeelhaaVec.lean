/- Vectors: allIn, isVector, size, dist of the reference; isVector, distance of the program. -/
import Derived.Test.YtchblkeddeelhaaBase
import Derived.Test.YtchblkeddeelhaaMem2
namespace Go.Proofs.Ytchblkeddeelhaa
open Go.RowKit
set_option linter.unusedVariables false
set_option linter.unusedSimpArgs false
set_option maxHeartbeats 1000000 in
theorem allIn (l0 h0 : Nat) (A : Option Addr) (n c : Nat) (xs : List Int) (lo hi : Int) (w : World) (hx : RInts w l0 h0 A n c xs) :
    Calls Try.prog 88 #[.slice A n c, .int .i64 lo, .int .i64 hi] w fun e w' => e = .returned (.bool (allB xs lo hi)) ∧ w = w' := by
  have hnc := hx.le; have hcm := hx.cap
  have HX := hid hx
  clear hx
  go_enter Try.func88, Try.ntmps88
  go_wp2
  go_loop [7] (fun i => ∃ k : Nat, k ≤ n ∧ i = .int .i64 k ∧ Hid (allB (xs.take k) lo hi = true)) (fun i => n - (intOf i).toNat)
  case atStart => exact ⟨0, Nat.zero_le _, rfl, rfl⟩
  case round =>
    obtain ⟨k, hk, rfl, HA⟩ := hrel
    by_cases hlt : k < n
    · obtain ⟨b, o, x, rfl, _, _, hxk, hE⟩ := HX.out.at_ hlt
      have hE1 : w.cell? ⟨b, o + k, none⟩ = some (.int .i64 x) := by simpa [EInt] using hE
      have Hxk := hid hxk
      clear hxk hE
      (go_wp2_with fail; refine (inRange _ _ _ _).mono ?_; rintro e w1 ⟨rfl, rfl⟩)
      cases hb : inB x lo hi with
      | false =>
        go_wp2
        go_ret
        exact ⟨by rw [allB_of Hxk.out hb]; rfl, rfl⟩
      | true =>
        go_wp2
        go_round
        case rel => exact ⟨k + 1, by omega, by go_num, by show allB _ _ _ = true; rw [allB_snoc Hxk.out, HA.out, hb]; rfl⟩
        case measure => simp [intOf]; omega
    · have hkn : k = n := by omega
      have hA := HA.out
      rw [List.take_of_length_le (by have := HX.out.len; omega)] at hA
      clear HA
      go_wp2
      go_ret
      exact ⟨rfl, rfl⟩
set_option maxHeartbeats 1000000 in
theorem sIsVector (l0 h0 : Nat) (A : Option Addr) (n c : Nat) (xs : List Int) (w : World) (hx : RInts w l0 h0 A n c xs) :
    Calls Try.prog 67 #[.slice A n c] w fun e w' => e = .returned (.bool (vecB xs)) ∧ w = w' := by
  have hl := hid hx.len
  have hnc := hx.le; have hcm := hx.cap
  have hv : Hid (vecB xs = (decide (n = 4) && allB xs (-100) 100)) := by show vecB xs = _; unfold vecB; rw [hl.out]
  by_cases h4 : n = 4
  · subst h4
    go_enter Try.func67, Try.ntmps67
    (go_wp2_with fail; (with_reducible refine (allIn l0 h0 A 4 c xs _ _ _ hx).mono ?_); rintro e w1 ⟨rfl, rfl⟩)
    go_wp2
    go_ret
    exact ⟨by rw [hv.out]; rfl, rfl⟩
  · have h4b : ((n : Int) == 4) = false := by simp; omega
    have hf : vecB xs = false := by rw [hv.out, decide_eq_false h4]; rfl
    clear hv hl hx h4
    go_enter Try.func67, Try.ntmps67
    go_wp2
    go_ret
    exact ⟨by rw [hf]; rfl, rfl⟩
set_option maxHeartbeats 1000000 in
theorem isVecN (m : Nat) (l0 h0 : Nat) (A : Option Addr) (n c : Nat) (xs : List Int) (w : World) (hx : RInts w l0 h0 A n c xs) (hm : m ≤ 100) :
    Calls Try.prog 64 #[.slice A n c, .int .i64 m] w fun e w' => e = .returned (.bool (vecN m xs)) ∧ w = w' := by
  have hnc := hx.le; have hcm := hx.cap
  have HX := hid hx
  clear hx
  go_enter Try.func64, Try.ntmps64
  go_wp2
  go_loop [9] (fun i => ∃ k : Nat, k ≤ n ∧ i = .int .i64 k ∧ Hid (allB (xs.take k) (-100) 100 = true)) (fun i => n - (intOf i).toNat)
  case atStart => exact ⟨0, Nat.zero_le _, rfl, rfl⟩
  case round =>
    obtain ⟨k, hk, rfl, HA⟩ := hrel
    by_cases hlt : k < n
    · obtain ⟨b, o, x, rfl, _, _, hxk, hE⟩ := HX.out.at_ hlt
      have hE1 : w.cell? ⟨b, o + k, none⟩ = some (.int .i64 x) := by simpa [EInt] using hE
      have Hxk := hid hxk
      clear hxk hE
      by_cases h1 : x < -100
      · have hf : inB x (-100) 100 = false := by unfold inB; simp; omega
        have hF := hid (show vecN m xs = false from by unfold vecN; rw [allB_of Hxk.out hf]; simp)
        clear hf
        go_wp2
        go_ret
        exact ⟨by rw [hF.out]; rfl, rfl⟩
      · by_cases h2 : 100 < x
        · have hf : inB x (-100) 100 = false := by unfold inB; simp; omega
          have hF := hid (show vecN m xs = false from by unfold vecN; rw [allB_of Hxk.out hf]; simp)
          clear hf
          go_wp2
          go_ret
          exact ⟨by rw [hF.out]; rfl, rfl⟩
        · have hf : inB x (-100) 100 = true := by unfold inB; simp; omega
          have Hf := hid hf
          clear hf
          go_wp2
          go_round
          case rel => exact ⟨k + 1, by omega, by go_num, by show allB _ _ _ = true; rw [allB_snoc Hxk.out, HA.out, Hf.out]; rfl⟩
          case measure => simp [intOf]; omega
    · have hkn : k = n := by omega
      have hA := HA.out
      rw [List.take_of_length_le (by have := HX.out.len; omega)] at hA
      have hF := hid (show vecN m xs = decide (n = m) from by unfold vecN; rw [hA, HX.out.len]; simp)
      clear HA hA
      by_cases hnm : n = m
      · have e1 : ((n : Int) == m) = true := by simp; omega
        go_wp2
        go_ret
        exact ⟨by rw [hF.out, decide_eq_true hnm]; simp, rfl⟩
      · have e1 : ((n : Int) == m) = false := by simp; omega
        go_wp2
        go_ret
        exact ⟨by rw [hF.out, decide_eq_false hnm]; simp, rfl⟩
end Go.Proofs.Ytchblkeddeelhaa
