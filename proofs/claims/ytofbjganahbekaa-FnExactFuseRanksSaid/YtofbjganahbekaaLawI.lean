/- What the exact laws ask of ints, items, rows: their size, copies, equality, marks. -/
import Derived.Test.YtofbjganahbekaaMark
import Derived.Test.YtofbjganahbekaaStoreS
namespace Go.Proofs.Ytofbjganahbekaa
open Go.RowKit
set_option linter.unusedVariables false
set_option linter.unusedSimpArgs false
set_option maxHeartbeats 1000000 in
theorem eqIntS (l0 h0 l1 h1 : Nat) (A B : Option Addr) (n c d : Nat) (xs : List Int) (w : World) (hx : RInts w l0 h0 A n c xs) (hy : RInts w l1 h1 B n d xs) :
    Calls Try.prog 19 #[.slice A n c, .slice B n d] w fun e w' => e = .returned (.bool true) ∧ Chg No w w' := by
  have hnc := hx.le; have hcm := hx.cap; have hnd := hy.le; have hdm := hy.cap
  have HX := hid hx; have HY := hid hy
  have e0 : ((n : Int) != n) = false := by simp
  clear hx hy
  go_enter Try.func19, Try.ntmps19
  go_wp2
  go_loopw [5] (fun i wr => ∃ k : Nat, k ≤ n ∧ i = .int .i64 k ∧ Chg No w wr) (fun i _ => n - (intOf i).toNat)
  case atStart => exact ⟨0, Nat.zero_le _, rfl, Chg.refl _ _⟩
  case round =>
    obtain ⟨k, hk, rfl, hc⟩ := hrel
    by_cases hlt : k < n
    · obtain ⟨b, o, x, rfl, _, _, hxk, hE⟩ := (HX.out.no hc).at_ hlt
      obtain ⟨b', o', x', rfl, _, _, hxk', hE'⟩ := (HY.out.no hc).at_ hlt
      obtain rfl : x = x' := by rw [hxk] at hxk'; injection hxk'
      have f1 : ∀ p : NB wr, p.wd.cell? ⟨b, o + k, none⟩ = some (.int .i64 x) := nb_cell (by simpa [EInt] using hE)
      have f2 : ∀ p : NB wr, p.wd.cell? ⟨b', o' + k, none⟩ = some (.int .i64 x) := nb_cell (by simpa [EInt] using hE')
      have e1 : (x != x) = false := by simp
      clear hxk hxk' hE hE'
      go_wp2_with fail
      (refine wp_region_nb (by kernel_rfl) (by kernel_rfl) ?_; (repeat (first | go_big_quiet_step (fail) | quiet_step (fail))); (with_reducible refine wpQuiet_nil ?_); intro wq hw1; have hq := nb_out hw1; clear hw1)
      go_wp2
      go_roundw
      case rel => exact ⟨k + 1, by omega, by go_num, by (repeat (first | (with_reducible exact Chg.refl _ _) | ((with_reducible refine Chg.setNew ?_ _ ?_); rotate_left; first | (dsimp only; omega) | (simp; done) | (simp; omega)) | (with_reducible refine Chg.alloc ?_ _) | (with_reducible refine Chg.drew ?_) | (with_reducible refine Chg.drewN ?_ _) | (with_reducible refine Chg.no ?_ (by assumption)) | (with_reducible refine Chg.and_ ?_ (by assumption)) | ((with_reducible refine Chg.at_ ?_ (by assumption) ?_); rotate_left; (try simp only [World.size_alloc]); omega)))⟩
      case measure => simp [intOf]; omega
    · go_wp2
      go_ret
      exact ⟨rfl, by (repeat (first | (with_reducible exact Chg.refl _ _) | ((with_reducible refine Chg.setNew ?_ _ ?_); rotate_left; first | (dsimp only; omega) | (simp; done) | (simp; omega)) | (with_reducible refine Chg.alloc ?_ _) | (with_reducible refine Chg.drew ?_) | (with_reducible refine Chg.drewN ?_ _) | (with_reducible refine Chg.no ?_ (by assumption)) | (with_reducible refine Chg.and_ ?_ (by assumption)) | ((with_reducible refine Chg.at_ ?_ (by assumption) ?_); rotate_left; (try simp only [World.size_alloc]); omega)))⟩
set_option maxHeartbeats 1000000 in
theorem markIntS (lo hi : Nat) (A : Option Addr) (n c : Nat) (xs : List Int) (k : Int) (w : World) (h : TInts w lo hi A n c xs) (h0 : 0 ≤ k) (h1 : k + n ≤ 1000000000000000) :
    Calls Try.prog 20 #[.slice A n c, .int .i64 k] w fun e w' => e = .returned (.int .i64 (k + n)) ∧ TInts w' lo hi A n c (cntL k n) ∧ Chg (Blk n A) w w' := by
  have hnc := h.1.le; have hcm := h.1.cap
  have HT := hid h
  have HL := hid (show xs.length = n from h.1.len)
  clear h
  go_enter Try.func20, Try.ntmps20
  go_wp2
  go_loopw [1, 5] (fun q i wr => ∃ j : Nat, j ≤ n ∧ i = .int .i64 j ∧ q = .int .i64 (k + j) ∧ Chg (Blk n A) w wr ∧ Hid (TInts wr lo hi A n c (cntL k j ++ xs.drop j))) (fun _ i _ => n - (intOf i).toNat)
  case atStart => exact ⟨0, Nat.zero_le _, rfl, by simp, Chg.refl _ _, by show TInts _ _ _ _ _ _ _; simpa [cntL] using HT.out⟩
  case round =>
    clear HT
    obtain ⟨j, hj, rfl, rfl, hc, HT⟩ := hrel
    by_cases hlt : j < n
    · obtain ⟨b, o, rfl, hl, hh, hcs, hfz, hx⟩ := HT.out.hd (by omega)
      have hlx : j < xs.length := by have := HL.out; omega
      obtain ⟨y, hy⟩ : ∃ y, xs[j]'hlx = y := ⟨_, rfl⟩
      have c1 : wr.cell? ⟨b, o + j, none⟩ = some (.int .i64 y) := by rw [← hy]; exact hx j _ (cnt_next hlx)
      have f1 : wr.frozen? ⟨b, o + j, none⟩ = false := hfz _
      have HT3 : Hid (TInts (wr.setCell ⟨b, o + j, none⟩ (.int .i64 (k + j))) lo hi (some ⟨b, o, none⟩) n c (cntL k (j + 1) ++ xs.drop (j + 1))) := by
        have := HT.out.set hlt (k + j)
        rw [cnt_set hlx] at this
        exact this
      have hc2 : Chg (Blk n (some ⟨b, o, none⟩)) w (wr.setCell ⟨b, o + j, none⟩ (.int .i64 (k + j))) := hc.setCell _ (fun _ => ⟨by omega, o, rfl⟩)
      clear hx hfz hcs hy hl hh hlx
      go_wp2
      go_roundw
      case rel => exact ⟨j + 1, by omega, by go_num, by go_num, hc2, HT3⟩
      case measure => simp [intOf]; omega
    · have hjn : j = n := by omega
      have HE := hid (show TInts wr lo hi A n c (cntL k n) from by
        have := HT.out
        rw [hjn, List.drop_of_length_le (by rw [HL.out]; exact Nat.le_refl _), List.append_nil] at this
        exact this)
      clear HT
      subst hjn
      go_wp2
      go_ret
      exact ⟨rfl, HE.out, hc⟩
set_option maxHeartbeats 1000000 in
theorem heldIntS (lo hi : Nat) (A : Option Addr) (n c : Nat) (k : Int) (w : World) (h : RInts w lo hi A n c (cntL k n)) (h0 : 0 ≤ k) (h1 : k + n ≤ 1000000000000000) :
    Calls Try.prog 21 #[.slice A n c, .int .i64 k] w fun e w' => e = .returned (.int .i64 (k + n)) ∧ w = w' := by
  have hnc := h.le; have hcm := h.cap
  have HT := hid h
  clear h
  go_enter Try.func21, Try.ntmps21
  go_wp2
  go_loop [1, 5] (fun q i => ∃ j : Nat, j ≤ n ∧ i = .int .i64 j ∧ q = .int .i64 (k + j)) (fun _ i => n - (intOf i).toNat)
  case atStart => exact ⟨0, Nat.zero_le _, rfl, by simp⟩
  case round =>
    obtain ⟨j, hj, rfl, rfl⟩ := hrel
    by_cases hlt : j < n
    · obtain ⟨b, o, x, rfl, _, _, hxk, hE⟩ := HT.out.at_ hlt
      obtain rfl : k + (j : Int) = x := by rw [cntL_at hlt] at hxk; injection hxk
      have hE1 : w.cell? ⟨b, o + j, none⟩ = some (.int .i64 (k + j)) := by simpa [EInt] using hE
      have e1 : ((k + (j : Int)) != (k + (j : Int))) = false := by simp
      clear hxk hE
      go_wp2
      go_round
      case rel => exact ⟨j + 1, by omega, by go_num, by go_num⟩
      case measure => simp [intOf]; omega
    · have hjn : j = n := by omega
      subst hjn
      go_wp2
      go_ret
      exact ⟨rfl, rfl⟩
set_option maxHeartbeats 1000000 in
theorem markHitS (base hi : Nat) (A : Option Addr) (n c : Nat) (xs : List (Int × Int)) (k : Int) (w : World) (h : OHits w base (.slice A n c) xs) (hh : ∀ g, (Value.slice A n c).ownBlock = some g → g < hi) (h0 : 0 ≤ k) (h1 : k + 2 * (n : Int) ≤ 1000000000000000) :
    Calls Try.prog 15 #[.slice A n c, .int .i64 k] w fun e w' => e = .returned (.int .i64 (k + 2 * (n : Int))) ∧ OHits w' base (.slice A n c) (cntH k n) ∧ Chg (fun b => base ≤ b ∧ b < hi) w w' := by
  obtain ⟨A', c', hv, hnc, hcm, _⟩ := OSl.form h
  injection hv with e1 e2 e3
  subst e1 e3
  unfold maxLen at hcm
  have HT := hid h
  have HL := hid (show xs.length = n from e2.symm)
  have hnc' : n ≤ c := by omega
  have HH9 := hid hh
  clear h e2 hnc hh
  go_enter Try.func15, Try.ntmps15
  go_wp2
  go_loopw [1, 5] (fun q i wr => ∃ j : Nat, j ≤ n ∧ i = .int .i64 j ∧ q = .int .i64 (k + 2 * (j : Int)) ∧ Chg (fun b => base ≤ b ∧ b < hi) w wr ∧ Hid (OHits wr base (.slice A n c) (cntH k j ++ xs.drop j))) (fun _ i _ => n - (intOf i).toNat)
  case atStart => exact ⟨0, Nat.zero_le _, rfl, by simp, Chg.refl _ _, by show OHits _ _ _ _; simpa [cntH] using HT.out⟩
  case round =>
    clear HT
    obtain ⟨j, hj, rfl, rfl, hc, HT⟩ := hrel
    by_cases hlt : j < n
    · have hlx : j < xs.length := by have := HL.out; omega
      obtain ⟨A9, c9, hv9, _, _, hA9⟩ := OSl.form HT.out
      injection hv9 with v1 v2 v3
      obtain ⟨g, hAg, hgb, hgl⟩ := hA9 (by omega)
      have hgh : base ≤ g ∧ g < hi := ⟨hgb, HH9.out g (by rw [v1, hAg]; rfl)⟩
      rw [hAg] at v1
      subst v1
      have hnx := cntH_next (k := k) hlx
      obtain ⟨y, hy⟩ : ∃ y, xs[j]'hlx = y := ⟨_, rfl⟩
      rw [hy] at hnx
      have c1 : wr.cell? ⟨g, j * 2, none⟩ = some (.int .i64 y.1) := HT.out.cell (fun _ => rfl) (i := 0) hnx rfl
      have c2 : wr.cell? ⟨g, j * 2 + 1, none⟩ = some (.int .i64 y.2) := HT.out.cell (fun _ => rfl) (i := 1) hnx rfl
      have z1 : wr.frozen? ⟨g, j * 2, none⟩ = false := HT.out.free _
      have z2 : wr.frozen? ⟨g, j * 2 + 1, none⟩ = false := HT.out.free _
      have HT3 : Hid (OHits ((wr.setCell ⟨g, j * 2, none⟩ (.int .i64 (k + 2 * (j : Int)))).setCell ⟨g, j * 2 + 1, none⟩ (.int .i64 (k + 2 * (j : Int) + 1))) base (.slice (some ⟨g, 0, none⟩) n c) (cntH k (j + 1) ++ xs.drop (j + 1))) := by
        have := OSl.set2 HT.out (fun _ => rfl) j (k + 2 * (j : Int), k + 2 * (j : Int) + 1) _ _ rfl
        rw [cntH_set hlx] at this
        exact this
      have hc2 : Chg (fun b => base ≤ b ∧ b < hi) w ((wr.setCell ⟨g, j * 2, none⟩ (.int .i64 (k + 2 * (j : Int)))).setCell ⟨g, j * 2 + 1, none⟩ (.int .i64 (k + 2 * (j : Int) + 1))) := Chg.setCell (Chg.setCell hc _ (fun _ => hgh)) _ (fun _ => hgh)
      clear hA9 v2 v3 hAg hnx hy
      go_wp2
      go_roundw
      case rel => exact ⟨j + 1, by omega, by go_num, by congr 1; omega, hc2, HT3⟩
      case measure => simp [intOf]; omega
    · have hjn : j = n := by omega
      have HE := hid (show OHits wr base (.slice A n c) (cntH k n) from by
        have := HT.out
        rw [hjn, List.drop_of_length_le (by rw [HL.out]; exact Nat.le_refl _), List.append_nil] at this
        exact this)
      clear HT
      subst hjn
      go_wp2
      go_ret
      exact ⟨rfl, HE.out, hc⟩
set_option maxHeartbeats 1000000 in
theorem heldHitS (l0 h0 : Nat) (A : Option Addr) (n c : Nat) (k : Int) (w : World) (h : RHits w l0 h0 A n c (cntH k n)) (hk0 : 0 ≤ k) (h1 : k + 2 * (n : Int) ≤ 1000000000000000) :
    Calls Try.prog 16 #[.slice A n c, .int .i64 k] w fun e w' => e = .returned (.int .i64 (k + 2 * (n : Int))) ∧ w = w' := by
  have hnc := h.le; have hcm := h.cap
  have HX := hid h
  clear h
  go_enter Try.func16, Try.ntmps16
  go_wp2
  go_loop [1, 5] (fun q i => ∃ j : Nat, j ≤ n ∧ i = .int .i64 j ∧ q = .int .i64 (k + 2 * (j : Int))) (fun _ i => n - (intOf i).toNat)
  case atStart => exact ⟨0, Nat.zero_le _, rfl, by simp⟩
  case round =>
    obtain ⟨j, hj, rfl, rfl⟩ := hrel
    by_cases hlt : j < n
    · obtain ⟨b, o, z, rfl, _, _, hzk, hE⟩ := HX.out.at_ hlt
      obtain rfl : (k + 2 * (j : Int), k + 2 * (j : Int) + 1) = z := by rw [cntH_at hlt] at hzk; injection hzk
      have hE1 : w.cell? ⟨b, o + j * 2, none⟩ = some (.int .i64 (k + 2 * (j : Int))) := hE.1
      have hE2 : w.cell? ⟨b, o + j * 2 + 1, none⟩ = some (.int .i64 (k + 2 * (j : Int) + 1)) := hE.2
      have e1 : ((k + 2 * (j : Int)) != (k + 2 * (j : Int))) = false := by simp
      have e2 : ((k + 2 * (j : Int) + 1) != (k + 2 * (j : Int) + 1)) = false := by simp
      clear hzk hE
      go_wp2
      go_round
      case rel => exact ⟨j + 1, by omega, by go_num, by congr 1; omega⟩
      case measure => simp [intOf]; omega
    · have hjn : j = n := by omega
      subst hjn
      go_wp2
      go_ret
      exact ⟨rfl, rfl⟩
end Go.Proofs.Ytofbjganahbekaa
