/- The place of an item by its key, the program's; an item left out. -/
import Derived.Test.YtifdcdpdihfbjaaStoreJ
import Derived.Test.YtifdcdpdihfbjaaPReach
import Derived.Deep.RegionWith
import Derived.OwnWalk
import Derived.Shelf.Abstract
namespace Go.Proofs.Ytifdcdpdihfbjaa
open Go.RowKit Go.Shelf
set_option linter.unusedVariables false
set_option linter.unusedSimpArgs false
theorem indexOf1 (zk zt key : Int) (A1 : Option Addr) (n1 c1 B : Nat) (w : World) (hB : B < w.heap.size) (hc : w.cell? ⟨B, 0, none⟩ = some (.int .i64 key)) :
    Calls Try.prog 101 (#[.agg #[.int .i64 zk, .slice A1 n1 c1, .int .i64 zt]] ++ #[.pointer (some ⟨B, 0, none⟩)]) w fun e w' => e = .returned (.bool (decide (zk = key))) ∧ Chg No w w' := by
  have hne : B ≠ w.heap.size := by omega
  show Calls Try.prog 101 #[.agg #[.int .i64 zk, .slice A1 n1 c1, .int .i64 zt], .pointer (some ⟨B, 0, none⟩)] w _
  go_enter Try.func101, Try.ntmps101
  go_wp2
  go_ret
  exact ⟨ret_bool (by rw [Bool.eq_iff_iff]; simp), by (repeat (first | (with_reducible exact Chg.refl _ _) | ((with_reducible refine Chg.setNew ?_ _ ?_); rotate_left; first | (dsimp only; omega) | (simp; done) | (simp; omega)) | (with_reducible refine Chg.alloc ?_ _) | (with_reducible refine Chg.drew ?_) | (with_reducible refine Chg.drewN ?_ _) | (with_reducible refine Chg.no ?_ (by assumption)) | (with_reducible refine Chg.and_ ?_ (by assumption)) | ((with_reducible refine Chg.at_ ?_ (by assumption) ?_); rotate_left; (try simp only [World.size_alloc]); omega)))⟩
set_option maxHeartbeats 1000000 in
theorem indexFuncI (l0 h0 : Nat) (A : Option Addr) (n c : Nat) (xs : List It) (key : Int) (g : Nat) (lb : Array Value) (w : World) (hx : RItems w l0 h0 A n c xs) (eg : ∀ args w, (callFunc g args).run Try.prog w = .ok (.enter g args) w)
    (hp : ∀ (W : World) (zk zt : Int) (A1 : Option Addr) (n1 c1 : Nat), Chg No w W → Calls Try.prog g (#[.agg #[.int .i64 zk, .slice A1 n1 c1, .int .i64 zt]] ++ lb) W fun e w' => e = .returned (.bool (decide (zk = key))) ∧ Chg No W w') :
    Calls Try.prog 100 #[.slice A n c, .func (.func g) #[] lb] w fun e w' => e = .returned (.int .i64 (keyAtF xs key)) ∧ Chg No w w' := by
  have hnc := hx.le; have hcm := hx.cap
  have HX := hid hx
  have HP := hid hp
  clear hx hp
  go_enter Try.func100, Try.ntmps100
  go_wp2
  go_loopw [8] (fun i wr => ∃ k : Nat, k ≤ n ∧ i = .int .i64 k ∧ Chg No w wr ∧ Hid (∀ (j : Nat) (y : It), j < k → xs[j]? = some y → y.key ≠ key)) (fun i _ => n - (intOf i).toNat)
  case atStart => exact ⟨0, Nat.zero_le _, rfl, Chg.refl _ _, fun j x hj => absurd hj (by omega)⟩
  case round =>
    obtain ⟨k, hk, rfl, hc, HN⟩ := hrel
    obtain ⟨wo, rfl⟩ : ∃ W : World, W = wr := ⟨_, rfl⟩
    have so := hc.size
    by_cases hlt : k < n
    · obtain ⟨b, o, z, rfl, _, _, hzk, hE⟩ := (HX.out.no hc).at_ hlt
      obtain ⟨zk, zv, zt⟩ := z
      obtain ⟨hE1, ⟨A1, n1, c1, hE2, hv⟩, hE3⟩ := hE
      have f1 : wo.cell? ⟨b, o + k * 3, none⟩ = some (.int .i64 zk) := hE1
      have f2 : wo.cell? ⟨b, o + k * 3 + 1, none⟩ = some (.slice A1 n1 c1) := hE2
      have f3 : wo.cell? ⟨b, o + k * 3 + 2, none⟩ = some (.int .i64 zt) := hE3
      have Hzk := hid hzk
      have hcall := HP.out wo zk zt A1 n1 c1 hc
      clear hzk hE1 hE2 hE3 hv
      by_cases he : zk = key
      · rw [decide_eq_true he] at hcall
        have HC := hid hcall
        have HF := hid (show keyAtF xs key = k from by rw [← he]; exact keyAt_at Hzk.out (fun j y hj hy => by have := HN.out j y hj hy; rw [← he] at this; exact this))
        clear hcall he
        go_wp2_with (go_at_fn g; refine (HC.out).mono ?_; rintro e w' ⟨rfl, hc'⟩)
        go_ret
        exact ⟨by rw [HF.out]; rfl, by (repeat (first | (with_reducible exact Chg.refl _ _) | ((with_reducible refine Chg.setNew ?_ _ ?_); rotate_left; first | (dsimp only; omega) | (simp; done) | (simp; omega)) | (with_reducible refine Chg.alloc ?_ _) | (with_reducible refine Chg.drew ?_) | (with_reducible refine Chg.drewN ?_ _) | (with_reducible refine Chg.no ?_ (by assumption)) | (with_reducible refine Chg.and_ ?_ (by assumption)) | ((with_reducible refine Chg.at_ ?_ (by assumption) ?_); rotate_left; (try simp only [World.size_alloc]); omega)))⟩
      · rw [decide_eq_false he] at hcall
        have HC := hid hcall
        have HN2 : Hid (∀ (j : Nat) (y : It), j < k + 1 → xs[j]? = some y → y.key ≠ key) := fun j y hj hy => by
          by_cases hjk : j < k
          · exact HN.out j y hjk hy
          · obtain rfl : j = k := by omega
            rw [Hzk.out] at hy; injection hy with hy; subst hy; exact he
        clear hcall he
        go_wp2_with (go_at_fn g; refine (HC.out).mono ?_; rintro e w' ⟨rfl, hc'⟩)
        go_roundw
        case rel => exact ⟨k + 1, by omega, by go_num, by (repeat (first | (with_reducible exact Chg.refl _ _) | ((with_reducible refine Chg.setNew ?_ _ ?_); rotate_left; first | (dsimp only; omega) | (simp; done) | (simp; omega)) | (with_reducible refine Chg.alloc ?_ _) | (with_reducible refine Chg.drew ?_) | (with_reducible refine Chg.drewN ?_ _) | (with_reducible refine Chg.no ?_ (by assumption)) | (with_reducible refine Chg.and_ ?_ (by assumption)) | ((with_reducible refine Chg.at_ ?_ (by assumption) ?_); rotate_left; (try simp only [World.size_alloc]); omega))), HN2⟩
        case measure => simp [intOf]; omega
    · have HF := hid (show keyAtF xs key = -1 from keyAt_no (fun j y hy => HN.out j y (by have := (List.getElem?_eq_some_iff.1 hy).1; have := HX.out.len; omega) hy))
      go_wp2
      go_ret
      exact ⟨by rw [HF.out]; rfl, by (repeat (first | (with_reducible exact Chg.refl _ _) | ((with_reducible refine Chg.setNew ?_ _ ?_); rotate_left; first | (dsimp only; omega) | (simp; done) | (simp; omega)) | (with_reducible refine Chg.alloc ?_ _) | (with_reducible refine Chg.drew ?_) | (with_reducible refine Chg.drewN ?_ _) | (with_reducible refine Chg.no ?_ (by assumption)) | (with_reducible refine Chg.and_ ?_ (by assumption)) | ((with_reducible refine Chg.at_ ?_ (by assumption) ?_); rotate_left; (try simp only [World.size_alloc]); omega)))⟩
theorem indexOf (l0 h0 : Nat) (A : Option Addr) (n c : Nat) (xs : List It) (key : Int) (w : World) (hx : RItems w l0 h0 A n c xs) :
    Calls Try.prog 62 #[.slice A n c, .int .i64 key] w fun e w' => e = .returned (.int .i64 (keyAtF xs key)) ∧ Chg No w w' := by
  have HX := hid hx
  have B1 := hid (Box.new (w := w) [.int .i64 key] 3 rfl)
  have hcall := indexFuncI l0 h0 A n c xs key 101 #[.pointer (some ⟨w.heap.size, 0, none⟩)] (w.alloc (.cells #[.int .i64 key] 3)) (hx.no ((Chg.refl No w).alloc _)) (enters_of (P := Try.prog) Try.func101 (by kernel_rfl) rfl)
    (fun W zk zt A1 n1 c1 hW => indexOf1 zk zt key A1 n1 c1 w.heap.size W (by have := hW.size; simp only [World.size_alloc] at this; omega) ((B1.out.no hW).cell 0))
  generalize keyAtF xs key = r at *
  have HC := hid hcall
  clear hcall hx
  go_enter Try.func62, Try.ntmps62
  go_wp2_with ((go_at_call 100; (with_reducible refine HC.out.mono ?_); rintro e w' ⟨rfl, hc⟩))
  go_ret
  exact ⟨rfl, by (repeat (first | (with_reducible exact Chg.refl _ _) | ((with_reducible refine Chg.setNew ?_ _ ?_); rotate_left; first | (dsimp only; omega) | (simp; done) | (simp; omega)) | (with_reducible refine Chg.alloc ?_ _) | (with_reducible refine Chg.drew ?_) | (with_reducible refine Chg.drewN ?_ _) | (with_reducible refine Chg.no ?_ (by assumption)) | (with_reducible refine Chg.and_ ?_ (by assumption)) | ((with_reducible refine Chg.at_ ?_ (by assumption) ?_); rotate_left; (try simp only [World.size_alloc]); omega)))⟩
theorem sKeyAt (l0 h0 : Nat) (A : Option Addr) (n c : Nat) (xs : List It) (key : Int) (w : World) (hx : RItems w l0 h0 A n c xs) :
    Calls Try.prog 64 #[.slice A n c, .int .i64 key] w fun e w' => e = .returned (.int .i64 (keyAtF xs key)) ∧ w = w' := by
  have hnc := hx.le; have hcm := hx.cap
  have HX := hid hx
  clear hx
  go_enter Try.func64, Try.ntmps64
  go_wp2
  go_loop [5] (fun i => ∃ k : Nat, k ≤ n ∧ i = .int .i64 k ∧ Hid (∀ (j : Nat) (y : It), j < k → xs[j]? = some y → y.key ≠ key)) (fun i => n - (intOf i).toNat)
  case atStart => exact ⟨0, Nat.zero_le _, rfl, fun j x hj => absurd hj (by omega)⟩
  case round =>
    obtain ⟨k, hk, rfl, HN⟩ := hrel
    by_cases hlt : k < n
    · obtain ⟨b, o, z, rfl, _, _, hzk, hE⟩ := HX.out.at_ hlt
      obtain ⟨zk, zv, zt⟩ := z
      have f1 : w.cell? ⟨b, o + k * 3, none⟩ = some (.int .i64 zk) := hE.1
      have Hzk := hid hzk
      clear hzk hE
      by_cases he : zk = key
      · have e1 : (zk == key) = true := by simp [he]
        have HF := hid (show keyAtF xs key = k from by rw [← he]; exact keyAt_at Hzk.out (fun j y hj hy => by have := HN.out j y hj hy; rw [← he] at this; exact this))
        clear he
        go_wp2
        go_ret
        exact ⟨by rw [HF.out]; rfl, rfl⟩
      · have e1 : (zk == key) = false := by simp [he]
        have HN2 : Hid (∀ (j : Nat) (y : It), j < k + 1 → xs[j]? = some y → y.key ≠ key) := fun j y hj hy => by
          by_cases hjk : j < k
          · exact HN.out j y hjk hy
          · obtain rfl : j = k := by omega
            rw [Hzk.out] at hy; injection hy with hy; subst hy; exact he
        clear he
        go_wp2
        go_round
        case rel => exact ⟨k + 1, by omega, by go_num, HN2⟩
        case measure => simp [intOf]; omega
    · have HF := hid (show keyAtF xs key = -1 from keyAt_no (fun j y hy => HN.out j y (by have := (List.getElem?_eq_some_iff.1 hy).1; have := HX.out.len; omega) hy))
      go_wp2
      go_ret
      exact ⟨by rw [HF.out]; rfl, rfl⟩
end Go.Proofs.Ytifdcdpdihfbjaa
