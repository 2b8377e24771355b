/- The reference's nearest. -/
import Derived.Test.YtifdcdpdihfbjaaAdd
import Derived.Test.YtifdcdpdihfbjaaVec
import Derived.Test.YtifdcdpdihfbjaaPStore
import Derived.Deep.RegionWith
namespace Go.Proofs.Ytifdcdpdihfbjaa
open Go.RowKit
set_option linter.unusedVariables false
set_option linter.unusedSimpArgs false
set_option maxHeartbeats 2000000 in
theorem sNearest (l0 h0 : Nat) (A : Option Addr) (n c : Nat) (xs : List It) (l1 h1 : Nat) (A' : Option Addr) (n' c' : Nat) (at_ : List Int) (kind kk : Int) (w : World) (hx : RItems w l0 h0 A n c xs) (hy : RInts w l1 h1 A' n' c' at_) (hn : n ≤ 1000)
    (hs : ∀ x ∈ xs, vecB x.vec = true) (ha : vecB at_ = true) (hk1 : 1 ≤ kind) (hk4 : kind ≤ 4) (hkk0 : 0 ≤ kk) (hkk1 : kk ≤ 1000000) :
    Calls Try.prog 65 #[.slice A n c, .int .i64 kind, .slice A' n' c', .int .i64 kk] w (RetHits (nearestF xs kind at_ kk) w) := by
  have hnc := hx.le; have hcm := hx.cap
  have HX := hid hx
  have HY := hid hy
  have HS := hid hs
  have HA := hid ha
  have hn4 : n' = 4 := by have h9 : at_.length = n' := hy.len; have := vecB_len ha; omega
  subst hn4
  have HO0 := hid (show OHits (w.alloc (.cells #[] 39)) w.heap.size (.slice (some ⟨w.heap.size, 0, none⟩) 0 0) [] from OSl.lit (enc := cHit) (n := 0) [] [] (fun _ => rfl) rfl rfl (by omega) (Nat.le_refl _) (heap_top rfl))
  clear hx hy hs ha
  go_enter Try.func65, Try.ntmps65
  go_wp2
  go_loopw [9, 10] (fun v i wr => ∃ k : Nat, k ≤ n ∧ i = .int .i64 k ∧ Chg No w wr ∧ Hid (OHits wr w.heap.size v (addAll kk (hitsOf kind at_ (xs.take k))))) (fun _ i _ => n - (intOf i).toNat)
  case atStart => exact ⟨0, Nat.zero_le _, rfl, by (repeat (first | (with_reducible exact Chg.refl _ _) | ((with_reducible refine Chg.setNew ?_ _ ?_); rotate_left; first | (dsimp only; omega) | (simp; done) | (simp; omega)) | (with_reducible refine Chg.alloc ?_ _) | (with_reducible refine Chg.drew ?_) | (with_reducible refine Chg.drewN ?_ _) | (with_reducible refine Chg.no ?_ (by assumption)) | (with_reducible refine Chg.and_ ?_ (by assumption)) | ((with_reducible refine Chg.at_ ?_ (by assumption) ?_); rotate_left; (try simp only [World.size_alloc]); omega))), HO0⟩
  case round =>
    obtain ⟨k, hk, rfl, hc, HO⟩ := hrel
    obtain ⟨wo, rfl⟩ : ∃ W : World, W = wr := ⟨_, rfl⟩
    by_cases hlt : k < n
    · obtain ⟨b, o, z, rfl, _, _, hzk, hE⟩ := (HX.out.no hc).at_ hlt
      obtain ⟨zk, zv, zt⟩ := z
      obtain ⟨hE1, ⟨A1, n1, c1, hE2, hv⟩, hE3⟩ := hE
      have f1 : wo.cell? ⟨b, o + k * 3, none⟩ = some (.int .i64 zk) := hE1
      have f2 : wo.cell? ⟨b, o + k * 3 + 1, none⟩ = some (.slice A1 n1 c1) := hE2
      have hzv := HS.out _ (List.mem_of_getElem? hzk)
      have hn1 : n1 = 4 := by have h9 : zv.length = n1 := hv.len; have := vecB_len hzv; simp only [] at this; omega
      subst hn1
      have HV := hid hv
      have HD := hid (hitsOf_snoc (kind := kind) (at_ := at_) hzk)
      have HSM := hid (vecB_small hzv)
      obtain ⟨A9, c9, hv9, hr9⟩ := OHits.read HO.out
      have hlen9 : (addAll kk (hitsOf kind at_ (xs.take k))).length ≤ 1000 := by
        have h1 := addAll_length kk (hitsOf kind at_ (xs.take k))
        rw [hitsOf_length] at h1
        have := List.length_take_le k xs
        omega
      subst hv9
      have HR := hid hr9
      clear hzk hE1 hE2 hE3 hv hzv hr9
      generalize hacc : addAll kk (hitsOf kind at_ (xs.take k)) = acc at *
      have HAC := hid hacc
      clear hacc
      go_wp2_with fail
      first | (go_region_with (first | (go_at_call 54; (with_reducible refine (sDist _ _ _ _ _ _ _ _ _ _ zv at_ _ _ (HV.out.no (by (repeat (first | (with_reducible exact Chg.refl _ _) | ((with_reducible refine Chg.setNew ?_ _ ?_); rotate_left; first | (dsimp only; omega) | (simp; done) | (simp; omega)) | (with_reducible refine Chg.alloc ?_ _) | (with_reducible refine Chg.drew ?_) | (with_reducible refine Chg.drewN ?_ _) | (with_reducible refine Chg.no ?_ (by assumption)) | (with_reducible refine Chg.and_ ?_ (by assumption)) | ((with_reducible refine Chg.at_ ?_ (by assumption) ?_); rotate_left; (try simp only [World.size_alloc]); omega))))) (HY.out.no (by (repeat (first | (with_reducible exact Chg.refl _ _) | ((with_reducible refine Chg.setNew ?_ _ ?_); rotate_left; first | (dsimp only; omega) | (simp; done) | (simp; omega)) | (with_reducible refine Chg.alloc ?_ _) | (with_reducible refine Chg.drew ?_) | (with_reducible refine Chg.drewN ?_ _) | (with_reducible refine Chg.no ?_ (by assumption)) | (with_reducible refine Chg.and_ ?_ (by assumption)) | ((with_reducible refine Chg.at_ ?_ (by assumption) ?_); rotate_left; (try simp only [World.size_alloc]); omega))))) (by omega) (by omega) HSM.out (vecB_small HA.out) hk1 hk4).mono ?_); rintro e w1 ⟨rfl, hcA⟩; have g1 := cell_keep (S := No) (w := wo) (w' := w1) (by (repeat (first | (with_reducible exact Chg.refl _ _) | ((with_reducible refine Chg.setNew ?_ _ ?_); rotate_left; first | (dsimp only; omega) | (simp; done) | (simp; omega)) | (with_reducible refine Chg.alloc ?_ _) | (with_reducible refine Chg.drew ?_) | (with_reducible refine Chg.drewN ?_ _) | (with_reducible refine Chg.no ?_ (by assumption)) | (with_reducible refine Chg.and_ ?_ (by assumption)) | ((with_reducible refine Chg.at_ ?_ (by assumption) ?_); rotate_left; (try simp only [World.size_alloc]); omega)))) f1 (fun e => e); have g2 := cell_keep (S := No) (w := wo) (w' := w1) (by (repeat (first | (with_reducible exact Chg.refl _ _) | ((with_reducible refine Chg.setNew ?_ _ ?_); rotate_left; first | (dsimp only; omega) | (simp; done) | (simp; omega)) | (with_reducible refine Chg.alloc ?_ _) | (with_reducible refine Chg.drew ?_) | (with_reducible refine Chg.drewN ?_ _) | (with_reducible refine Chg.no ?_ (by assumption)) | (with_reducible refine Chg.and_ ?_ (by assumption)) | ((with_reducible refine Chg.at_ ?_ (by assumption) ?_); rotate_left; (try simp only [World.size_alloc]); omega)))) f2 (fun e => e)) | (go_at_call 53; (with_reducible refine (sAddHit _ _ _ _ _ acc zk (distF kind zv at_) kk _ (HR.out.no (by (repeat (first | (with_reducible exact Chg.refl _ _) | ((with_reducible refine Chg.setNew ?_ _ ?_); rotate_left; first | (dsimp only; omega) | (simp; done) | (simp; omega)) | (with_reducible refine Chg.alloc ?_ _) | (with_reducible refine Chg.drew ?_) | (with_reducible refine Chg.drewN ?_ _) | (with_reducible refine Chg.no ?_ (by assumption)) | (with_reducible refine Chg.and_ ?_ (by assumption)) | ((with_reducible refine Chg.at_ ?_ (by assumption) ?_); rotate_left; (try simp only [World.size_alloc]); omega))))) (by omega) hkk0 hkk1).mono ?_); rintro e w2 ⟨v2, rfl, hoB, hcB⟩))) | fail
      all_goals
        have hsz := (Chg.no (S := No) (a := wo) (b := w1) (by (repeat (first | (with_reducible exact Chg.refl _ _) | ((with_reducible refine Chg.setNew ?_ _ ?_); rotate_left; first | (dsimp only; omega) | (simp; done) | (simp; omega)) | (with_reducible refine Chg.alloc ?_ _) | (with_reducible refine Chg.drew ?_) | (with_reducible refine Chg.drewN ?_ _) | (with_reducible refine Chg.no ?_ (by assumption)) | (with_reducible refine Chg.and_ ?_ (by assumption)) | ((with_reducible refine Chg.at_ ?_ (by assumption) ?_); rotate_left; (try simp only [World.size_alloc]); omega)))) hcB).size
        have hc2 : Chg No w w2 := by (repeat (first | (with_reducible exact Chg.refl _ _) | ((with_reducible refine Chg.setNew ?_ _ ?_); rotate_left; first | (dsimp only; omega) | (simp; done) | (simp; omega)) | (with_reducible refine Chg.alloc ?_ _) | (with_reducible refine Chg.drew ?_) | (with_reducible refine Chg.drewN ?_ _) | (with_reducible refine Chg.no ?_ (by assumption)) | (with_reducible refine Chg.and_ ?_ (by assumption)) | ((with_reducible refine Chg.at_ ?_ (by assumption) ?_); rotate_left; (try simp only [World.size_alloc]); omega)))
        have hs2 := hc.size
        have hs3 := (show Chg No wo w1 from by (repeat (first | (with_reducible exact Chg.refl _ _) | ((with_reducible refine Chg.setNew ?_ _ ?_); rotate_left; first | (dsimp only; omega) | (simp; done) | (simp; omega)) | (with_reducible refine Chg.alloc ?_ _) | (with_reducible refine Chg.drew ?_) | (with_reducible refine Chg.drewN ?_ _) | (with_reducible refine Chg.no ?_ (by assumption)) | (with_reducible refine Chg.and_ ?_ (by assumption)) | ((with_reducible refine Chg.at_ ?_ (by assumption) ?_); rotate_left; (try simp only [World.size_alloc]); omega)))).size
        have HB := hid (show OHits w2 w.heap.size v2 (addAll kk (hitsOf kind at_ (xs.take (k + 1)))) from by
          have h8 := OSl.down hoB (base' := w.heap.size) (by omega)
          rw [HD.out, addAll_snoc, HAC.out]
          exact h8)
        clear hoB hcB
        go_wp2
        go_roundw
        case rel => exact ⟨k + 1, by omega, by go_num, hc2, HB⟩
        case measure => simp [intOf]; omega
    · have h9 := HO.out
      rw [List.take_of_length_le (by have := HX.out.len; omega), nearest_add] at h9
      have HO8 := hid h9
      clear h9
      go_wp2
      go_ret
      exact ⟨_, rfl, HO8.out, hc⟩
end Go.Proofs.Ytifdcdpdihfbjaa
