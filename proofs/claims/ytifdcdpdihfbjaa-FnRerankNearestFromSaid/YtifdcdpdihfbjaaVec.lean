/- Vectors: allIn, isVector, size, dist of the reference; isVector, distance of the program. -/
import Derived.Test.YtifdcdpdihfbjaaBase
import Derived.Test.YtifdcdpdihfbjaaMem2
namespace Go.Proofs.Ytifdcdpdihfbjaa
open Go.RowKit
set_option linter.unusedVariables false
set_option linter.unusedSimpArgs false
set_option maxHeartbeats 1000000 in
theorem allIn (l0 h0 : Nat) (A : Option Addr) (n c : Nat) (xs : List Int) (lo hi : Int) (w : World) (hx : RInts w l0 h0 A n c xs) :
    Calls Try.prog 116 #[.slice A n c, .int .i64 lo, .int .i64 hi] w fun e w' => e = .returned (.bool (allB xs lo hi)) ∧ w = w' := by
  have hnc := hx.le; have hcm := hx.cap
  have HX := hid hx
  clear hx
  go_enter Try.func116, Try.ntmps116
  go_wp2
  go_loop [7] (fun i => ∃ k : Nat, k ≤ n ∧ i = .int .i64 k ∧ Hid (allB (xs.take k) lo hi = true)) (fun i => n - (intOf i).toNat)
  case atStart => exact ⟨0, Nat.zero_le _, rfl, rfl⟩
  case round =>
    obtain ⟨k, hk, rfl, HA⟩ := hrel
    by_cases hlt : k < n
    · obtain ⟨b, o, x, rfl, _, _, hxk, hE⟩ := HX.out.at_ hlt
      have hE1 : w.cell? ⟨b, o + k, none⟩ = some (.int .i64 x) := by simpa [EInt] using hE
      have Hxk := hid hxk
      clear hxk hE
      (go_wp2_with fail; refine (inRange _ _ _ _).mono ?_; rintro e w1 ⟨rfl, rfl⟩)
      cases hb : inB x lo hi with
      | false =>
        go_wp2
        go_ret
        exact ⟨by rw [allB_of Hxk.out hb]; rfl, rfl⟩
      | true =>
        go_wp2
        go_round
        case rel => exact ⟨k + 1, by omega, by go_num, by show allB _ _ _ = true; rw [allB_snoc Hxk.out, HA.out, hb]; rfl⟩
        case measure => simp [intOf]; omega
    · have hkn : k = n := by omega
      have hA := HA.out
      rw [List.take_of_length_le (by have := HX.out.len; omega)] at hA
      clear HA
      go_wp2
      go_ret
      exact ⟨rfl, rfl⟩
set_option maxHeartbeats 1000000 in
theorem sIsVector (l0 h0 : Nat) (A : Option Addr) (n c : Nat) (xs : List Int) (w : World) (hx : RInts w l0 h0 A n c xs) :
    Calls Try.prog 92 #[.slice A n c] w fun e w' => e = .returned (.bool (vecB xs)) ∧ w = w' := by
  have hl := hid hx.len
  have hnc := hx.le; have hcm := hx.cap
  have hv : Hid (vecB xs = (decide (n = 4) && allB xs (-100) 100)) := by show vecB xs = _; unfold vecB; rw [hl.out]
  by_cases h4 : n = 4
  · subst h4
    go_enter Try.func92, Try.ntmps92
    (go_wp2_with fail; (with_reducible refine (allIn l0 h0 A 4 c xs _ _ _ hx).mono ?_); rintro e w1 ⟨rfl, rfl⟩)
    go_wp2
    go_ret
    exact ⟨by rw [hv.out]; rfl, rfl⟩
  · have h4b : ((n : Int) == 4) = false := by simp; omega
    have hf : vecB xs = false := by rw [hv.out, decide_eq_false h4]; rfl
    clear hv hl hx h4
    go_enter Try.func92, Try.ntmps92
    go_wp2
    go_ret
    exact ⟨by rw [hf]; rfl, rfl⟩
theorem sSize (x : Int) (w : World) (h1 : -1000000 ≤ x) (h2 : x ≤ 1000000) : Calls Try.prog 94 #[.int .i64 x] w fun e w' => e = .returned (.int .i64 (absI x)) ∧ w = w' := by
  go_enter Try.func94, Try.ntmps94
  go_wp2
  all_goals go_ret
  all_goals exact ⟨ret_int (by unfold absI; omega), rfl⟩
theorem sSizeV {x d : Int} (hd : absI x = d) (h1 : -1000000 ≤ x) (h2 : x ≤ 1000000) (w : World) : Calls Try.prog 94 #[.int .i64 x] w fun e w' => e = .returned (.int .i64 d) ∧ w' = w :=
  (sSize x w h1 h2).mono fun e w' hh => by rw [hd] at hh; exact ⟨hh.1, hh.2.symm⟩
set_option maxHeartbeats 1000000 in
theorem sDist (l0 h0 l1 h1 : Nat) (A A' : Option Addr) (n c n' c' : Nat) (a b : List Int) (kind : Int) (w : World) (ha : RInts w l0 h0 A n c a) (hb : RInts w l1 h1 A' n' c' b) (hn : n ≤ n') (hn1 : n ≤ 100000) (sa : Small a) (sb : Small b) (hk1 : 1 ≤ kind) (hk4 : kind ≤ 4) :
    Calls Try.prog 54 #[.int .i64 kind, .slice A n c, .slice A' n' c'] w fun e w' => e = .returned (.int .i64 (distF kind a b)) ∧ Chg No w w' := by
  have hnc := ha.le; have hcm := ha.cap; have hnc' := hb.le; have hcm' := hb.cap
  have HA := hid ha; have HB := hid hb; have SA := hid sa; have SB := hid sb
  clear ha hb sa sb
  go_enter Try.func54, Try.ntmps54
  go_wp2
  go_loopw [7, 8] (fun s i wr => ∃ k : Nat, k ≤ n ∧ i = .int .i64 k ∧ s = .int .i64 (distF kind (a.take k) (b.take k)) ∧ Chg No w wr) (fun _ i _ => n - (intOf i).toNat)
  case atStart => exact ⟨0, Nat.zero_le _, rfl, rfl, Chg.refl _ _⟩
  case round =>
    obtain ⟨k, hk, rfl, rfl, hc⟩ := hrel
    by_cases hlt : k < n
    · obtain ⟨bb, o, x, rfl, _, _, hxk, hE⟩ := (HA.out.no hc).at_ hlt
      obtain ⟨bb', o', y, rfl, _, _, hyk, hE'⟩ := (HB.out.no hc).at_ (k := k) (by omega)
      have hlt' : k < n' := by omega
      have hE1 : wr.cell? ⟨bb, o + k, none⟩ = some (.int .i64 x) := by simpa [EInt] using hE
      have hE2 : wr.cell? ⟨bb', o' + k, none⟩ = some (.int .i64 y) := by simpa [EInt] using hE'
      have HS := hid (distF_snoc (kind := kind) hxk hyk)
      have bx := SA.out x (List.mem_of_getElem? hxk)
      have by_ := SB.out y (List.mem_of_getElem? hyk)
      have bd := distF_bd (kind := kind) (SA.out.take k) (SB.out.take k)
      have hl : ((a.take k).length : Int) ≤ 100000 := by rw [List.length_take]; omega
      clear hxk hyk hE hE'
      generalize distF kind (a.take k) (b.take k) = s at *
      obtain ⟨d, hd⟩ : ∃ d, absI (x - y) = d := ⟨_, rfl⟩
      have hd0 : 0 ≤ d ∧ d ≤ 200 := by rw [← hd]; unfold absI; omega
      have hdd : d * d ≤ 200 * 200 := Int.mul_le_mul hd0.2 hd0.2 hd0.1 (by omega)
      have hdd' : 0 ≤ d * d := Int.mul_nonneg hd0.1 hd0.1
      rw [hd] at HS
      have K := hid (fun W => sSizeV hd (by omega) (by omega) W)
      clear hd
      have hkk : kind = 1 ∨ kind = 2 ∨ kind = 3 ∨ kind = 4 := by omega
      rcases hkk with rfl | rfl | rfl | rfl
      · go_wp2_with fail
        first | (go_quiet ((go_at_call 94; exact Calls.quiet_of_same (K.out _)))) | fail
        go_wp2
        go_roundw
        case rel => exact ⟨k + 1, by omega, by go_num, by rw [HS.out]; rfl, by (repeat (first | (with_reducible exact Chg.refl _ _) | ((with_reducible refine Chg.setNew ?_ _ ?_); rotate_left; first | (dsimp only; omega) | (simp; done) | (simp; omega)) | (with_reducible refine Chg.alloc ?_ _) | (with_reducible refine Chg.drew ?_) | (with_reducible refine Chg.drewN ?_ _) | (with_reducible refine Chg.no ?_ (by assumption)) | (with_reducible refine Chg.and_ ?_ (by assumption)) | ((with_reducible refine Chg.at_ ?_ (by assumption) ?_); rotate_left; (try simp only [World.size_alloc]); omega)))⟩
        case measure => simp [intOf]; omega
      · go_wp2_with fail
        first | (go_quiet ((go_at_call 94; exact Calls.quiet_of_same (K.out _)))) | fail
        go_wp2
        all_goals
          go_roundw
          case rel => exact ⟨k + 1, by omega, by go_num, by rw [HS.out]; first | rfl | (simp [dStep]; omega), by (repeat (first | (with_reducible exact Chg.refl _ _) | ((with_reducible refine Chg.setNew ?_ _ ?_); rotate_left; first | (dsimp only; omega) | (simp; done) | (simp; omega)) | (with_reducible refine Chg.alloc ?_ _) | (with_reducible refine Chg.drew ?_) | (with_reducible refine Chg.drewN ?_ _) | (with_reducible refine Chg.no ?_ (by assumption)) | (with_reducible refine Chg.and_ ?_ (by assumption)) | ((with_reducible refine Chg.at_ ?_ (by assumption) ?_); rotate_left; (try simp only [World.size_alloc]); omega)))⟩
          case measure => simp [intOf]; omega
      · go_wp2_with fail
        first | (go_quiet ((go_at_call 94; exact Calls.quiet_of_same (K.out _)))) | fail
        go_wp2
        go_roundw
        case rel => exact ⟨k + 1, by omega, by go_num, by rw [HS.out]; rfl, by (repeat (first | (with_reducible exact Chg.refl _ _) | ((with_reducible refine Chg.setNew ?_ _ ?_); rotate_left; first | (dsimp only; omega) | (simp; done) | (simp; omega)) | (with_reducible refine Chg.alloc ?_ _) | (with_reducible refine Chg.drew ?_) | (with_reducible refine Chg.drewN ?_ _) | (with_reducible refine Chg.no ?_ (by assumption)) | (with_reducible refine Chg.and_ ?_ (by assumption)) | ((with_reducible refine Chg.at_ ?_ (by assumption) ?_); rotate_left; (try simp only [World.size_alloc]); omega)))⟩
        case measure => simp [intOf]; omega
      · go_wp2_with fail
        first | (go_quiet ((go_at_call 94; exact Calls.quiet_of_same (K.out _)))) | fail
        by_cases hp : 0 < d
        · have e4 := hid (show dStep 4 s d = s + 1 from by simp [dStep, hp])
          (go_wp2_with (go_at_call 95; refine (toInt _ _).mono ?_; rintro e w1 ⟨rfl, rfl⟩))
          go_roundw
          case rel => exact ⟨k + 1, by omega, by go_num, by rw [HS.out, e4.out], by (repeat (first | (with_reducible exact Chg.refl _ _) | ((with_reducible refine Chg.setNew ?_ _ ?_); rotate_left; first | (dsimp only; omega) | (simp; done) | (simp; omega)) | (with_reducible refine Chg.alloc ?_ _) | (with_reducible refine Chg.drew ?_) | (with_reducible refine Chg.drewN ?_ _) | (with_reducible refine Chg.no ?_ (by assumption)) | (with_reducible refine Chg.and_ ?_ (by assumption)) | ((with_reducible refine Chg.at_ ?_ (by assumption) ?_); rotate_left; (try simp only [World.size_alloc]); omega)))⟩
          case measure => simp [intOf]; omega
        · have e4 := hid (show dStep 4 s d = s from by simp [dStep, hp])
          (go_wp2_with (go_at_call 95; refine (toInt _ _).mono ?_; rintro e w1 ⟨rfl, rfl⟩))
          go_roundw
          case rel => exact ⟨k + 1, by omega, by go_num, by rw [HS.out, e4.out], by (repeat (first | (with_reducible exact Chg.refl _ _) | ((with_reducible refine Chg.setNew ?_ _ ?_); rotate_left; first | (dsimp only; omega) | (simp; done) | (simp; omega)) | (with_reducible refine Chg.alloc ?_ _) | (with_reducible refine Chg.drew ?_) | (with_reducible refine Chg.drewN ?_ _) | (with_reducible refine Chg.no ?_ (by assumption)) | (with_reducible refine Chg.and_ ?_ (by assumption)) | ((with_reducible refine Chg.at_ ?_ (by assumption) ?_); rotate_left; (try simp only [World.size_alloc]); omega)))⟩
          case measure => simp [intOf]; omega
    · have hkn : k = n := by omega
      subst hkn
      have e2 : distF kind (a.take k) (b.take k) = distF kind a b := by
        have hm : min a.length b.length = k := by have := HA.out.len; have := HB.out.len; omega
        have hz := List.zip_eq_zip_take_min (l₁ := a) (l₂ := b)
        rw [hm] at hz
        unfold distF
        rw [hz]
      rw [e2]
      clear e2
      go_wp2
      go_ret
      exact ⟨rfl, by (repeat (first | (with_reducible exact Chg.refl _ _) | ((with_reducible refine Chg.setNew ?_ _ ?_); rotate_left; first | (dsimp only; omega) | (simp; done) | (simp; omega)) | (with_reducible refine Chg.alloc ?_ _) | (with_reducible refine Chg.drew ?_) | (with_reducible refine Chg.drewN ?_ _) | (with_reducible refine Chg.no ?_ (by assumption)) | (with_reducible refine Chg.and_ ?_ (by assumption)) | ((with_reducible refine Chg.at_ ?_ (by assumption) ?_); rotate_left; (try simp only [World.size_alloc]); omega)))⟩
set_option maxHeartbeats 1000000 in
theorem isVecN (m : Nat) (l0 h0 : Nat) (A : Option Addr) (n c : Nat) (xs : List Int) (w : World) (hx : RInts w l0 h0 A n c xs) (hm : m ≤ 100) :
    Calls Try.prog 57 #[.slice A n c, .int .i64 m] w fun e w' => e = .returned (.bool (vecN m xs)) ∧ w = w' := by
  have hnc := hx.le; have hcm := hx.cap
  have HX := hid hx
  clear hx
  go_enter Try.func57, Try.ntmps57
  go_wp2
  go_loop [9] (fun i => ∃ k : Nat, k ≤ n ∧ i = .int .i64 k ∧ Hid (allB (xs.take k) (-100) 100 = true)) (fun i => n - (intOf i).toNat)
  case atStart => exact ⟨0, Nat.zero_le _, rfl, rfl⟩
  case round =>
    obtain ⟨k, hk, rfl, HA⟩ := hrel
    by_cases hlt : k < n
    · obtain ⟨b, o, x, rfl, _, _, hxk, hE⟩ := HX.out.at_ hlt
      have hE1 : w.cell? ⟨b, o + k, none⟩ = some (.int .i64 x) := by simpa [EInt] using hE
      have Hxk := hid hxk
      clear hxk hE
      by_cases h1 : x < -100
      · have hf : inB x (-100) 100 = false := by unfold inB; simp; omega
        have hF := hid (show vecN m xs = false from by unfold vecN; rw [allB_of Hxk.out hf]; simp)
        clear hf
        go_wp2
        go_ret
        exact ⟨by rw [hF.out]; rfl, rfl⟩
      · by_cases h2 : 100 < x
        · have hf : inB x (-100) 100 = false := by unfold inB; simp; omega
          have hF := hid (show vecN m xs = false from by unfold vecN; rw [allB_of Hxk.out hf]; simp)
          clear hf
          go_wp2
          go_ret
          exact ⟨by rw [hF.out]; rfl, rfl⟩
        · have hf : inB x (-100) 100 = true := by unfold inB; simp; omega
          have Hf := hid hf
          clear hf
          go_wp2
          go_round
          case rel => exact ⟨k + 1, by omega, by go_num, by show allB _ _ _ = true; rw [allB_snoc Hxk.out, HA.out, Hf.out]; rfl⟩
          case measure => simp [intOf]; omega
    · have hkn : k = n := by omega
      have hA := HA.out
      rw [List.take_of_length_le (by have := HX.out.len; omega)] at hA
      have hF := hid (show vecN m xs = decide (n = m) from by unfold vecN; rw [hA, HX.out.len]; simp)
      clear HA hA
      by_cases hnm : n = m
      · have e1 : ((n : Int) == m) = true := by simp; omega
        go_wp2
        go_ret
        exact ⟨by rw [hF.out, decide_eq_true hnm]; simp, rfl⟩
      · have e1 : ((n : Int) == m) = false := by simp; omega
        go_wp2
        go_ret
        exact ⟨by rw [hF.out, decide_eq_false hnm]; simp, rfl⟩
set_option maxHeartbeats 2000000 in
theorem iDistance (l0 h0 l1 h1 : Nat) (A A' : Option Addr) (n c n' c' : Nat) (a b : List Int) (kind : Int) (w : World) (ha : RInts w l0 h0 A n c a) (hb : RInts w l1 h1 A' n' c' b) (hn : n ≤ n') (hn1 : n ≤ 100000) (sa : Small a) (sb : Small b) (hk1 : 1 ≤ kind) (hk4 : kind ≤ 4) :
    Calls Try.prog 58 #[.int .i64 kind, .slice A n c, .slice A' n' c'] w fun e w' => e = .returned (.int .i64 (distF kind a b)) ∧ Chg No w w' := by
  have hnc := ha.le; have hcm := ha.cap; have hnc' := hb.le; have hcm' := hb.cap
  have HA := hid ha; have HB := hid hb; have SA := hid sa; have SB := hid sb
  clear ha hb sa sb
  go_enter Try.func58, Try.ntmps58
  go_wp2
  go_loopw [7, 8, 9, 10, 16] (fun s1 s2 s3 s4 i wr => ∃ k : Nat, k ≤ n ∧ i = .int .i64 k ∧ s1 = .int .i64 (distF 1 (a.take k) (b.take k)) ∧ s2 = .int .i64 (distF 2 (a.take k) (b.take k)) ∧ s3 = .int .i64 (distF 3 (a.take k) (b.take k)) ∧ s4 = .int .i64 (distF 4 (a.take k) (b.take k)) ∧ Chg No w wr) (fun _ _ _ _ i _ => n - (intOf i).toNat)
  case atStart => exact ⟨0, Nat.zero_le _, rfl, rfl, rfl, rfl, rfl, Chg.refl _ _⟩
  case round =>
    obtain ⟨k, hk, rfl, rfl, rfl, rfl, rfl, hc⟩ := hrel
    by_cases hlt : k < n
    · obtain ⟨bb, o, x, rfl, _, _, hxk, hE⟩ := (HA.out.no hc).at_ hlt
      obtain ⟨bb', o', y, rfl, _, _, hyk, hE'⟩ := (HB.out.no hc).at_ (k := k) (by omega)
      have hlt' : k < n' := by omega
      have hE1 : wr.cell? ⟨bb, o + k, none⟩ = some (.int .i64 x) := by simpa [EInt] using hE
      have hE2 : wr.cell? ⟨bb', o' + k, none⟩ = some (.int .i64 y) := by simpa [EInt] using hE'
      have H1 := hid (distF_snoc (kind := 1) hxk hyk)
      have H2 := hid (distF_snoc (kind := 2) hxk hyk)
      have H3 := hid (distF_snoc (kind := 3) hxk hyk)
      have H4 := hid (distF_snoc (kind := 4) hxk hyk)
      have bx := SA.out x (List.mem_of_getElem? hxk)
      have by_ := SB.out y (List.mem_of_getElem? hyk)
      have bd1 := distF_bd (kind := 1) (SA.out.take k) (SB.out.take k)
      have bd2 := distF_bd (kind := 2) (SA.out.take k) (SB.out.take k)
      have bd3 := distF_bd (kind := 3) (SA.out.take k) (SB.out.take k)
      have bd4 := distF_bd (kind := 4) (SA.out.take k) (SB.out.take k)
      have hl : ((a.take k).length : Int) ≤ 100000 := by rw [List.length_take]; omega
      clear hxk hyk hE hE'
      generalize distF 1 (a.take k) (b.take k) = t1 at *
      generalize distF 2 (a.take k) (b.take k) = t2 at *
      generalize distF 3 (a.take k) (b.take k) = t3 at *
      generalize distF 4 (a.take k) (b.take k) = t4 at *
      by_cases hxy : x - y < y - x
      · have ha : y - x = absI (x - y) := by unfold absI; omega
        have HD := hid ha
        have hp : 0 < absI (x - y) := by rw [← ha]; omega
        have HP := hid hp
        clear ha hp
        have hmm : (y - x) * (y - x) ≤ 200 * 200 := Int.mul_le_mul (by omega) (by omega) (by omega) (by omega)
        have hmm' : 0 ≤ (y - x) * (y - x) := Int.mul_nonneg (by omega) (by omega)
        go_wp2_with fail
        first | (go_quiet (fail)) | fail
        go_wp2
        go_roundw
        case rel => exact ⟨k + 1, by omega, by go_num, by rw [H1.out, ← dSum _ _ _ HD.out], by rw [H2.out, ← dMost _ _ _ HD.out], by rw [H3.out, ← dSq _ _ _ HD.out], by rw [H4.out, ← dCnt _ _ HP.out], by (repeat (first | (with_reducible exact Chg.refl _ _) | ((with_reducible refine Chg.setNew ?_ _ ?_); rotate_left; first | (dsimp only; omega) | (simp; done) | (simp; omega)) | (with_reducible refine Chg.alloc ?_ _) | (with_reducible refine Chg.drew ?_) | (with_reducible refine Chg.drewN ?_ _) | (with_reducible refine Chg.no ?_ (by assumption)) | (with_reducible refine Chg.and_ ?_ (by assumption)) | ((with_reducible refine Chg.at_ ?_ (by assumption) ?_); rotate_left; (try simp only [World.size_alloc]); omega)))⟩
        case measure => simp [intOf]; omega
      · have ha : x - y = absI (x - y) := by unfold absI; omega
        have HD := hid ha
        have hmm : (x - y) * (x - y) ≤ 200 * 200 := Int.mul_le_mul (by omega) (by omega) (by omega) (by omega)
        have hmm' : 0 ≤ (x - y) * (x - y) := Int.mul_nonneg (by omega) (by omega)
        by_cases hp0 : 0 < x - y
        · have hp : 0 < absI (x - y) := by rw [← ha]; omega
          have HP := hid hp
          clear ha hp
          go_wp2_with fail
          first | (go_quiet (fail)) | fail
          go_wp2
          go_roundw
          case rel => exact ⟨k + 1, by omega, by go_num, by rw [H1.out, ← dSum _ _ _ HD.out], by rw [H2.out, ← dMost _ _ _ HD.out], by rw [H3.out, ← dSq _ _ _ HD.out], by rw [H4.out, ← dCnt _ _ HP.out], by (repeat (first | (with_reducible exact Chg.refl _ _) | ((with_reducible refine Chg.setNew ?_ _ ?_); rotate_left; first | (dsimp only; omega) | (simp; done) | (simp; omega)) | (with_reducible refine Chg.alloc ?_ _) | (with_reducible refine Chg.drew ?_) | (with_reducible refine Chg.drewN ?_ _) | (with_reducible refine Chg.no ?_ (by assumption)) | (with_reducible refine Chg.and_ ?_ (by assumption)) | ((with_reducible refine Chg.at_ ?_ (by assumption) ?_); rotate_left; (try simp only [World.size_alloc]); omega)))⟩
          case measure => simp [intOf]; omega
        · have hp : absI (x - y) ≤ 0 := by rw [← ha]; omega
          have HP := hid hp
          clear ha hp
          go_wp2_with fail
          first | (go_quiet (fail)) | fail
          go_wp2
          go_roundw
          case rel => exact ⟨k + 1, by omega, by go_num, by rw [H1.out, ← dSum _ _ _ HD.out], by rw [H2.out, ← dMost _ _ _ HD.out], by rw [H3.out, ← dSq _ _ _ HD.out], by rw [H4.out, ← dCnt0 _ _ HP.out], by (repeat (first | (with_reducible exact Chg.refl _ _) | ((with_reducible refine Chg.setNew ?_ _ ?_); rotate_left; first | (dsimp only; omega) | (simp; done) | (simp; omega)) | (with_reducible refine Chg.alloc ?_ _) | (with_reducible refine Chg.drew ?_) | (with_reducible refine Chg.drewN ?_ _) | (with_reducible refine Chg.no ?_ (by assumption)) | (with_reducible refine Chg.and_ ?_ (by assumption)) | ((with_reducible refine Chg.at_ ?_ (by assumption) ?_); rotate_left; (try simp only [World.size_alloc]); omega)))⟩
          case measure => simp [intOf]; omega
    · have hkn : k = n := by omega
      subst hkn
      have e2 : ∀ kd, distF kd (a.take k) (b.take k) = distF kd a b := fun kd => by
        have hm : min a.length b.length = k := by have := HA.out.len; have := HB.out.len; omega
        have hz := List.zip_eq_zip_take_min (l₁ := a) (l₂ := b)
        rw [hm] at hz
        unfold distF
        rw [hz]
      rw [e2, e2, e2, e2]
      clear e2
      have hkk : kind = 1 ∨ kind = 2 ∨ kind = 3 ∨ kind = 4 := by omega
      rcases hkk with rfl | rfl | rfl | rfl
      all_goals
        go_wp2
        go_ret
        exact ⟨rfl, by (repeat (first | (with_reducible exact Chg.refl _ _) | ((with_reducible refine Chg.setNew ?_ _ ?_); rotate_left; first | (dsimp only; omega) | (simp; done) | (simp; omega)) | (with_reducible refine Chg.alloc ?_ _) | (with_reducible refine Chg.drew ?_) | (with_reducible refine Chg.drewN ?_ _) | (with_reducible refine Chg.no ?_ (by assumption)) | (with_reducible refine Chg.and_ ?_ (by assumption)) | ((with_reducible refine Chg.at_ ?_ (by assumption) ?_); rotate_left; (try simp only [World.size_alloc]); omega)))⟩
end Go.Proofs.Ytifdcdpdihfbjaa
