/- Fused ranks: rankScore, with the draws counted. Written by wip/gen/fuse1.py. -/
import Derived.Test.YtofbjganahbekaaHitsJ
namespace Go.Proofs.Ytofbjganahbekaa
open Go.RowKit
set_option linter.unusedVariables false
set_option linter.unusedSimpArgs false
theorem rankScore1D (x1 x2 key : Int) (B : Nat) (w : World) (hB : B < w.heap.size) (hc : w.cell? ⟨B, 0, none⟩ = some (.int .i64 key)) :
    Calls Try.prog 58 (#[.agg #[.int .i64 x1, .int .i64 x2]] ++ #[.pointer (some ⟨B, 0, none⟩)]) w fun e w' => e = .returned (.bool (decide (x1 = key))) ∧ (Chg No w w' ∧ w.drawn ≤ w'.drawn) := by
  have hne : B ≠ w.heap.size := by omega
  show Calls Try.prog 58 #[.agg #[.int .i64 x1, .int .i64 x2], .pointer (some ⟨B, 0, none⟩)] w _
  go_enter Try.func58, Try.ntmps58
  go_wp2
  go_ret
  exact ⟨ret_bool (by rw [Bool.eq_iff_iff]; simp), by (repeat (first | (with_reducible exact Chg.refl _ _) | ((with_reducible refine Chg.setNew ?_ _ ?_); rotate_left; first | (dsimp only; omega) | (simp; done) | (simp; omega)) | (with_reducible refine Chg.alloc ?_ _) | (with_reducible refine Chg.drew ?_) | (with_reducible refine Chg.drewN ?_ _) | (with_reducible refine Chg.no ?_ (by assumption)) | (with_reducible refine Chg.and_ ?_ (by assumption)) | ((with_reducible refine Chg.at_ ?_ (by assumption) ?_); rotate_left; (try simp only [World.size_alloc]); omega))), (by (try simp only [World.drawn_setCell, World.drawn_alloc, World.drawn_drew] at *); first | done | omega)⟩
/-- what is asked of a predicate on hits -/
def PredHD (g : Nat) (lb : Array Value) (p : Int × Int → Bool) (w : World) : Prop := ∀ (W : World) (x1 x2 : Int), Chg No w W → Calls Try.prog g (#[.agg #[.int .i64 x1, .int .i64 x2]] ++ lb) W fun e w' => e = .returned (.bool (p (x1, x2))) ∧ (Chg No W w' ∧ W.drawn ≤ w'.drawn)
set_option maxHeartbeats 1000000 in
theorem indexFuncD (l0 h0 : Nat) (A : Option Addr) (n c : Nat) (xs : List (Int × Int)) (g : Nat) (lb : Array Value) (p : Int × Int → Bool) (w : World) (hx : RHits w l0 h0 A n c xs)
    (eg : ∀ args w, (callFunc g args).run Try.prog w = .ok (.enter g args) w) (hp : PredHD g lb p w) :
    Calls Try.prog 57 #[.slice A n c, .func (.func g) #[] lb] w fun e w' => e = .returned (.int .i64 (Lib.idxBy (fun _ y => p y) xs default)) ∧ (Chg No w w' ∧ w.drawn ≤ w'.drawn) := by
  have hnc := hx.le; have hcm := hx.cap
  have HX := hid hx
  have HP := hid hp
  clear hx hp
  go_enter Try.func57, Try.ntmps57
  go_wp2
  go_loopw [8] (fun i wr => ∃ k : Nat, k ≤ n ∧ i = .int .i64 k ∧ (Chg No w wr ∧ w.drawn ≤ wr.drawn) ∧ Hid (∀ (j : Nat) (y : Int × Int), j < k → xs[j]? = some y → p y = false)) (fun i _ => n - (intOf i).toNat)
  case atStart => exact ⟨0, Nat.zero_le _, rfl, ⟨Chg.refl _ _, Nat.le_refl _⟩, fun j x hj => absurd hj (by omega)⟩
  case round =>
    obtain ⟨k, hk, rfl, ⟨hc, hd⟩, HN⟩ := hrel
    by_cases hlt : k < n
    · obtain ⟨b, o, x, rfl, _, _, hxk, hE⟩ := (HX.out.no hc).at_ hlt
      obtain ⟨x1, x2⟩ := x
      have hE1 : wr.cell? ⟨b, o + k * 2, none⟩ = some (.int .i64 x1) := hE.1
      have hE2 : wr.cell? ⟨b, o + k * 2 + 1, none⟩ = some (.int .i64 x2) := hE.2
      have Hxk := hid hxk
      have hcall := HP.out wr x1 x2 hc
      clear hxk hE
      cases hq : p (x1, x2) with
      | true =>
        rw [hq] at hcall
        have HC := hid hcall
        have HF := hid (show Lib.idxBy (fun _ y => p y) xs default = (k : Int) from by
          have hkl := (List.getElem?_eq_some_iff.1 Hxk.out).1
          have := Lib.idxBy_hit (fun (_ : Int × Int) y => p y) xs xs.length k default hkl (Nat.le_refl _) (by simp [List.getElem!_eq_getElem?_getD, Hxk.out, hq]) (fun j hj => by
            have hj' : xs[j]? = some (xs[j]'(by omega)) := List.getElem?_eq_getElem (by omega)
            have := HN.out j _ hj hj'
            simp [List.getElem!_eq_getElem?_getD, hj', this])
          rw [List.take_of_length_le (Nat.le_refl _)] at this
          exact this)
        clear hcall hq
        go_wp2_with (go_at_fn g; refine (HC.out).mono ?_; rintro e w' ⟨rfl, hc', hd'⟩)
        go_ret
        exact ⟨by rw [HF.out]; rfl, by (repeat (first | (with_reducible exact Chg.refl _ _) | ((with_reducible refine Chg.setNew ?_ _ ?_); rotate_left; first | (dsimp only; omega) | (simp; done) | (simp; omega)) | (with_reducible refine Chg.alloc ?_ _) | (with_reducible refine Chg.drew ?_) | (with_reducible refine Chg.drewN ?_ _) | (with_reducible refine Chg.no ?_ (by assumption)) | (with_reducible refine Chg.and_ ?_ (by assumption)) | ((with_reducible refine Chg.at_ ?_ (by assumption) ?_); rotate_left; (try simp only [World.size_alloc]); omega))), (by (try simp only [World.drawn_setCell, World.drawn_alloc, World.drawn_drew] at *); first | done | omega)⟩
      | false =>
        rw [hq] at hcall
        have HC := hid hcall
        have HN2 : Hid (∀ (j : Nat) (y : Int × Int), j < k + 1 → xs[j]? = some y → p y = false) := fun j y hj hy => by
          by_cases hjk : j < k
          · exact HN.out j y hjk hy
          · obtain rfl : j = k := by omega
            rw [Hxk.out] at hy; injection hy with hy; subst hy; exact hq
        clear hcall hq
        go_wp2_with (go_at_fn g; refine (HC.out).mono ?_; rintro e w' ⟨rfl, hc', hd'⟩)
        go_roundw
        case rel => exact ⟨k + 1, by omega, by go_num, ⟨by (repeat (first | (with_reducible exact Chg.refl _ _) | ((with_reducible refine Chg.setNew ?_ _ ?_); rotate_left; first | (dsimp only; omega) | (simp; done) | (simp; omega)) | (with_reducible refine Chg.alloc ?_ _) | (with_reducible refine Chg.drew ?_) | (with_reducible refine Chg.drewN ?_ _) | (with_reducible refine Chg.no ?_ (by assumption)) | (with_reducible refine Chg.and_ ?_ (by assumption)) | ((with_reducible refine Chg.at_ ?_ (by assumption) ?_); rotate_left; (try simp only [World.size_alloc]); omega))), (by (try simp only [World.drawn_setCell, World.drawn_alloc, World.drawn_drew] at *); first | done | omega)⟩, HN2⟩
        case measure => simp [intOf]; omega
    · have HF := hid (show Lib.idxBy (fun _ y => p y) xs default = -1 from by
        have := Lib.idxBy_miss (fun (_ : Int × Int) y => p y) xs xs.length default (fun j hj => by
          have hj' : xs[j]? = some (xs[j]'hj) := List.getElem?_eq_getElem hj
          have := HN.out j _ (by have := HX.out.len; omega) hj'
          simp [List.getElem!_eq_getElem?_getD, hj', this])
        rw [List.take_of_length_le (Nat.le_refl _)] at this
        exact this)
      go_wp2
      go_ret
      exact ⟨by rw [HF.out]; rfl, by (repeat (first | (with_reducible exact Chg.refl _ _) | ((with_reducible refine Chg.setNew ?_ _ ?_); rotate_left; first | (dsimp only; omega) | (simp; done) | (simp; omega)) | (with_reducible refine Chg.alloc ?_ _) | (with_reducible refine Chg.drew ?_) | (with_reducible refine Chg.drewN ?_ _) | (with_reducible refine Chg.no ?_ (by assumption)) | (with_reducible refine Chg.and_ ?_ (by assumption)) | ((with_reducible refine Chg.at_ ?_ (by assumption) ?_); rotate_left; (try simp only [World.size_alloc]); omega))), (by (try simp only [World.drawn_setCell, World.drawn_alloc, World.drawn_drew] at *); first | done | omega)⟩
set_option maxHeartbeats 1000000 in
theorem iRankScoreD (l0 h0 : Nat) (A : Option Addr) (n c : Nat) (xs : List (Int × Int)) (key : Int) (w : World) (hx : RHits w l0 h0 A n c xs) (hn : n ≤ 1000000) :
    Calls Try.prog 41 #[.slice A n c, .int .i64 key] w fun e w' => e = .returned (.int .i64 (rankF xs key)) ∧ (Chg No w w' ∧ w.drawn ≤ w'.drawn) := by
  have hb := hitAtF_lt xs key
  rw [hx.len] at hb
  have EG := hid (enters_of (P := Try.prog) Try.func58 (by kernel_rfl) rfl)
  have B1 := hid (Box.new (w := w) [.int .i64 key] 3 rfl)
  have hcall := indexFuncD l0 h0 A n c xs 58 #[.pointer (some ⟨w.heap.size, 0, none⟩)] (fun y => decide (y.1 = key)) (w.alloc (.cells #[.int .i64 key] 3)) (RHits.no hx ((Chg.refl _ _).alloc _)) EG.out (fun W y1 y2 hW => rankScore1D y1 y2 key w.heap.size W (by have := hW.size; simp only [World.size_alloc] at this; omega) (cell_keep hW (B1.out.cell 0) (fun e => e)))
  have HF : Hid (rankF xs key = if hitAtF xs key < 0 then 0 else 100000 / (60 + hitAtF xs key + 1)) := rfl
  change Calls _ _ _ _ (fun e w' => e = .returned (.int .i64 (hitAtF xs key)) ∧ (Chg No _ w' ∧ _ ≤ w'.drawn)) at hcall
  generalize hitAtF xs key = r at *
  have HC := hid hcall
  clear hcall hx B1 EG
  by_cases h0' : r < 0
  · have HF2 := HF.out
    rw [if_pos h0'] at HF2
    have HF3 := hid HF2
    clear HF2 HF
    go_enter Try.func41, Try.ntmps41
    go_wp2_with ((go_at_call 57; (with_reducible refine (HC.out).mono ?_); rintro e w' ⟨rfl, hc, hd⟩))
    go_ret
    exact ⟨by rw [HF3.out]; rfl, by (repeat (first | (with_reducible exact Chg.refl _ _) | ((with_reducible refine Chg.setNew ?_ _ ?_); rotate_left; first | (dsimp only; omega) | (simp; done) | (simp; omega)) | (with_reducible refine Chg.alloc ?_ _) | (with_reducible refine Chg.drew ?_) | (with_reducible refine Chg.drewN ?_ _) | (with_reducible refine Chg.no ?_ (by assumption)) | (with_reducible refine Chg.and_ ?_ (by assumption)) | ((with_reducible refine Chg.at_ ?_ (by assumption) ?_); rotate_left; (try simp only [World.size_alloc]); omega))), (by (try simp only [World.drawn_setCell, World.drawn_alloc, World.drawn_drew] at *); first | done | omega)⟩
  · have HF2 := HF.out
    rw [if_neg h0'] at HF2
    have HF3 := hid HF2
    clear HF2 HF
    have h0'' : 0 ≤ r := by omega
    go_enter Try.func41, Try.ntmps41
    go_wp2_with ((go_at_call 57; (with_reducible refine (HC.out).mono ?_); rintro e w' ⟨rfl, hc, hd⟩))
    go_ret
    exact ⟨by rw [HF3.out]; rfl, by (repeat (first | (with_reducible exact Chg.refl _ _) | ((with_reducible refine Chg.setNew ?_ _ ?_); rotate_left; first | (dsimp only; omega) | (simp; done) | (simp; omega)) | (with_reducible refine Chg.alloc ?_ _) | (with_reducible refine Chg.drew ?_) | (with_reducible refine Chg.drewN ?_ _) | (with_reducible refine Chg.no ?_ (by assumption)) | (with_reducible refine Chg.and_ ?_ (by assumption)) | ((with_reducible refine Chg.at_ ?_ (by assumption) ?_); rotate_left; (try simp only [World.size_alloc]); omega))), (by (try simp only [World.drawn_setCell, World.drawn_alloc, World.drawn_drew] at *); first | done | omega)⟩
end Go.Proofs.Ytofbjganahbekaa
