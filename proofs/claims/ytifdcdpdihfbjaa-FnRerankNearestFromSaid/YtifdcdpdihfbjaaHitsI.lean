/- Hits: the program's functions on lists of hits, and the library's that they call. -/
import Derived.Test.YtifdcdpdihfbjaaHits
import Derived.Test.YtifdcdpdihfbjaaCmp
import Derived.Deep.RegionWith
import Derived.Shelf.Abstract
namespace Go.Proofs.Ytifdcdpdihfbjaa
open Go.RowKit
set_option linter.unusedVariables false
set_option linter.unusedSimpArgs false
theorem areHits1 (x1 x2 key : Int) (B : Nat) (w : World) (hB : B < w.heap.size) (hc : w.cell? ⟨B, 0, none⟩ = some (.int .i64 key)) :
    Calls Try.prog 99 (#[.agg #[.int .i64 x1, .int .i64 x2]] ++ #[.pointer (some ⟨B, 0, none⟩)]) w fun e w' => e = .returned (.bool (decide (x1 = key))) ∧ Chg No w w' := by
  have hne : B ≠ w.heap.size := by omega
  show Calls Try.prog 99 #[.agg #[.int .i64 x1, .int .i64 x2], .pointer (some ⟨B, 0, none⟩)] w _
  go_enter Try.func99, Try.ntmps99
  go_wp2
  go_ret
  exact ⟨ret_bool (by rw [Bool.eq_iff_iff]; simp), by (repeat (first | (with_reducible exact Chg.refl _ _) | ((with_reducible refine Chg.setNew ?_ _ ?_); rotate_left; first | (dsimp only; omega) | (simp; done) | (simp; omega)) | (with_reducible refine Chg.alloc ?_ _) | (with_reducible refine Chg.drew ?_) | (with_reducible refine Chg.drewN ?_ _) | (with_reducible refine Chg.no ?_ (by assumption)) | (with_reducible refine Chg.and_ ?_ (by assumption)) | ((with_reducible refine Chg.at_ ?_ (by assumption) ?_); rotate_left; (try simp only [World.size_alloc]); omega)))⟩
theorem recallOf1 (x1 x2 key : Int) (B : Nat) (w : World) (hB : B < w.heap.size) (hc : w.cell? ⟨B, 0, none⟩ = some (.int .i64 key)) :
    Calls Try.prog 78 (#[.agg #[.int .i64 x1, .int .i64 x2]] ++ #[.pointer (some ⟨B, 0, none⟩)]) w fun e w' => e = .returned (.bool (decide (x1 = key))) ∧ Chg No w w' := by
  have hne : B ≠ w.heap.size := by omega
  show Calls Try.prog 78 #[.agg #[.int .i64 x1, .int .i64 x2], .pointer (some ⟨B, 0, none⟩)] w _
  go_enter Try.func78, Try.ntmps78
  go_wp2
  go_ret
  exact ⟨ret_bool (by rw [Bool.eq_iff_iff]; simp), by (repeat (first | (with_reducible exact Chg.refl _ _) | ((with_reducible refine Chg.setNew ?_ _ ?_); rotate_left; first | (dsimp only; omega) | (simp; done) | (simp; omega)) | (with_reducible refine Chg.alloc ?_ _) | (with_reducible refine Chg.drew ?_) | (with_reducible refine Chg.drewN ?_ _) | (with_reducible refine Chg.no ?_ (by assumption)) | (with_reducible refine Chg.and_ ?_ (by assumption)) | ((with_reducible refine Chg.at_ ?_ (by assumption) ?_); rotate_left; (try simp only [World.size_alloc]); omega)))⟩
/-- what is asked of a predicate on hits -/
def PredH (g : Nat) (lb : Array Value) (p : Int × Int → Bool) (w : World) : Prop := ∀ (W : World) (x1 x2 : Int), Chg No w W → Calls Try.prog g (#[.agg #[.int .i64 x1, .int .i64 x2]] ++ lb) W fun e w' => e = .returned (.bool (p (x1, x2))) ∧ Chg No W w'
set_option maxHeartbeats 1000000 in
theorem indexFunc (l0 h0 : Nat) (A : Option Addr) (n c : Nat) (xs : List (Int × Int)) (g : Nat) (lb : Array Value) (p : Int × Int → Bool) (w : World) (hx : RHits w l0 h0 A n c xs)
    (eg : ∀ args w, (callFunc g args).run Try.prog w = .ok (.enter g args) w) (hp : PredH g lb p w) :
    Calls Try.prog 109 #[.slice A n c, .func (.func g) #[] lb] w fun e w' => e = .returned (.int .i64 (Lib.idxBy (fun _ y => p y) xs default)) ∧ Chg No w w' := by
  have hnc := hx.le; have hcm := hx.cap
  have HX := hid hx
  have HP := hid hp
  clear hx hp
  go_enter Try.func109, Try.ntmps109
  go_wp2
  go_loopw [8] (fun i wr => ∃ k : Nat, k ≤ n ∧ i = .int .i64 k ∧ Chg No w wr ∧ Hid (∀ (j : Nat) (y : Int × Int), j < k → xs[j]? = some y → p y = false)) (fun i _ => n - (intOf i).toNat)
  case atStart => exact ⟨0, Nat.zero_le _, rfl, Chg.refl _ _, fun j x hj => absurd hj (by omega)⟩
  case round =>
    obtain ⟨k, hk, rfl, hc, HN⟩ := hrel
    by_cases hlt : k < n
    · obtain ⟨b, o, x, rfl, _, _, hxk, hE⟩ := (HX.out.no hc).at_ hlt
      obtain ⟨x1, x2⟩ := x
      have hE1 : wr.cell? ⟨b, o + k * 2, none⟩ = some (.int .i64 x1) := hE.1
      have hE2 : wr.cell? ⟨b, o + k * 2 + 1, none⟩ = some (.int .i64 x2) := hE.2
      have Hxk := hid hxk
      have hcall := HP.out wr x1 x2 hc
      clear hxk hE
      cases hq : p (x1, x2) with
      | true =>
        rw [hq] at hcall
        have HC := hid hcall
        have HF := hid (show Lib.idxBy (fun _ y => p y) xs default = (k : Int) from by
          have hkl := (List.getElem?_eq_some_iff.1 Hxk.out).1
          have := Lib.idxBy_hit (fun (_ : Int × Int) y => p y) xs xs.length k default hkl (Nat.le_refl _) (by simp [List.getElem!_eq_getElem?_getD, Hxk.out, hq]) (fun j hj => by
            have hj' : xs[j]? = some (xs[j]'(by omega)) := List.getElem?_eq_getElem (by omega)
            have := HN.out j _ hj hj'
            simp [List.getElem!_eq_getElem?_getD, hj', this])
          rw [List.take_of_length_le (Nat.le_refl _)] at this
          exact this)
        clear hcall hq
        go_wp2_with (go_at_fn g; refine (HC.out).mono ?_; rintro e w' ⟨rfl, hc'⟩)
        go_ret
        exact ⟨by rw [HF.out]; rfl, by (repeat (first | (with_reducible exact Chg.refl _ _) | ((with_reducible refine Chg.setNew ?_ _ ?_); rotate_left; first | (dsimp only; omega) | (simp; done) | (simp; omega)) | (with_reducible refine Chg.alloc ?_ _) | (with_reducible refine Chg.drew ?_) | (with_reducible refine Chg.drewN ?_ _) | (with_reducible refine Chg.no ?_ (by assumption)) | (with_reducible refine Chg.and_ ?_ (by assumption)) | ((with_reducible refine Chg.at_ ?_ (by assumption) ?_); rotate_left; (try simp only [World.size_alloc]); omega)))⟩
      | false =>
        rw [hq] at hcall
        have HC := hid hcall
        have HN2 : Hid (∀ (j : Nat) (y : Int × Int), j < k + 1 → xs[j]? = some y → p y = false) := fun j y hj hy => by
          by_cases hjk : j < k
          · exact HN.out j y hjk hy
          · obtain rfl : j = k := by omega
            rw [Hxk.out] at hy; injection hy with hy; subst hy; exact hq
        clear hcall hq
        go_wp2_with (go_at_fn g; refine (HC.out).mono ?_; rintro e w' ⟨rfl, hc'⟩)
        go_roundw
        case rel => exact ⟨k + 1, by omega, by go_num, by (repeat (first | (with_reducible exact Chg.refl _ _) | ((with_reducible refine Chg.setNew ?_ _ ?_); rotate_left; first | (dsimp only; omega) | (simp; done) | (simp; omega)) | (with_reducible refine Chg.alloc ?_ _) | (with_reducible refine Chg.drew ?_) | (with_reducible refine Chg.drewN ?_ _) | (with_reducible refine Chg.no ?_ (by assumption)) | (with_reducible refine Chg.and_ ?_ (by assumption)) | ((with_reducible refine Chg.at_ ?_ (by assumption) ?_); rotate_left; (try simp only [World.size_alloc]); omega))), HN2⟩
        case measure => simp [intOf]; omega
    · have HF := hid (show Lib.idxBy (fun _ y => p y) xs default = -1 from by
        have := Lib.idxBy_miss (fun (_ : Int × Int) y => p y) xs xs.length default (fun j hj => by
          have hj' : xs[j]? = some (xs[j]'hj) := List.getElem?_eq_getElem hj
          have := HN.out j _ (by have := HX.out.len; omega) hj'
          simp [List.getElem!_eq_getElem?_getD, hj', this])
        rw [List.take_of_length_le (Nat.le_refl _)] at this
        exact this)
      go_wp2
      go_ret
      exact ⟨by rw [HF.out]; rfl, by (repeat (first | (with_reducible exact Chg.refl _ _) | ((with_reducible refine Chg.setNew ?_ _ ?_); rotate_left; first | (dsimp only; omega) | (simp; done) | (simp; omega)) | (with_reducible refine Chg.alloc ?_ _) | (with_reducible refine Chg.drew ?_) | (with_reducible refine Chg.drewN ?_ _) | (with_reducible refine Chg.no ?_ (by assumption)) | (with_reducible refine Chg.and_ ?_ (by assumption)) | ((with_reducible refine Chg.at_ ?_ (by assumption) ?_); rotate_left; (try simp only [World.size_alloc]); omega)))⟩
set_option maxHeartbeats 1000000 in
theorem containsFunc (l0 h0 : Nat) (A : Option Addr) (n c : Nat) (xs : List (Int × Int)) (g : Nat) (lb : Array Value) (p : Int × Int → Bool) (w : World) (hx : RHits w l0 h0 A n c xs)
    (eg : ∀ args w, (callFunc g args).run Try.prog w = .ok (.enter g args) w) (hp : PredH g lb p w) :
    Calls Try.prog 77 #[.slice A n c, .func (.func g) #[] lb] w fun e w' => e = .returned (.bool (xs.any p)) ∧ Chg No w w' := by
  have hcall := indexFunc l0 h0 A n c xs g lb p w hx eg hp
  have HF := hid (Lib.idxBy_nonneg_iff (fun (_ : Int × Int) y => p y) xs default)
  clear hx hp
  generalize Lib.idxBy (fun (_ : Int × Int) y => p y) xs default = r at hcall HF
  generalize (xs.any fun y => p y) = q at HF ⊢
  have HC := hid hcall
  clear hcall eg
  go_enter Try.func77, Try.ntmps77
  go_wp2_with ((go_at_call 109; (with_reducible refine HC.out.mono ?_); rintro e w' ⟨rfl, hc⟩))
  go_ret
  exact ⟨by rw [← HF.out]; rfl, by (repeat (first | (with_reducible exact Chg.refl _ _) | ((with_reducible refine Chg.setNew ?_ _ ?_); rotate_left; first | (dsimp only; omega) | (simp; done) | (simp; omega)) | (with_reducible refine Chg.alloc ?_ _) | (with_reducible refine Chg.drew ?_) | (with_reducible refine Chg.drewN ?_ _) | (with_reducible refine Chg.no ?_ (by assumption)) | (with_reducible refine Chg.and_ ?_ (by assumption)) | ((with_reducible refine Chg.at_ ?_ (by assumption) ?_); rotate_left; (try simp only [World.size_alloc]); omega)))⟩
end Go.Proofs.Ytifdcdpdihfbjaa
