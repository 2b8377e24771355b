/- The laws' itemOf: the item with a key (for seats without filters; else NearK has it). -/
import Derived.Test.YtifdcdpdihfbjaaStoreJ
import Derived.OwnWalk
namespace Go.Proofs.Ytifdcdpdihfbjaa
open Go.RowKit
set_option linter.unusedVariables false
set_option linter.unusedSimpArgs false
set_option maxHeartbeats 2000000 in
theorem itemOf (l0 h0 : Nat) (b o : Nat) (n c : Nat) (xs : List It) (q : Nat) (z : It) (A1 : Option Addr) (n1 c1 : Nat) (w : World) (hx : RItems w l0 h0 (some ⟨b, o, none⟩) n c xs) (hq : xs[q]? = some z) (hno : ∀ (j : Nat) (y : It), j < q → xs[j]? = some y → y.key ≠ z.key) (hcell : w.cell? ⟨b, o + q * 3 + 1, none⟩ = some (.slice A1 n1 c1)) :
    Calls Try.prog 14 #[.slice (some ⟨b, o, none⟩) n c, .int .i64 z.key] w fun e w' => e = .returned (.agg #[.int .i64 z.key, .slice A1 n1 c1, .int .i64 z.tags]) ∧ Chg No w w' := by
  have hnc := hx.le; have hcm := hx.cap
  have hxl : xs.length = n := hx.len
  have hqn : q < n := by have := (List.getElem?_eq_some_iff.1 hq).1; omega
  have HX := hid hx; have HQ := hid hq; have HN := hid hno; have HC := hid hcell
  have BZ := hid (Box.new (w := w) [.int .i64 0, .slice none 0 0, .int .i64 0] 36 rfl)
  clear hx hq hno hxl hcell
  go_enter Try.func14, Try.ntmps14
  go_wp2
  go_loopw [5] (fun i wr => ∃ k : Nat, k ≤ q ∧ i = .int .i64 k ∧ Chg No (w.alloc (.cells #[.int .i64 0, .slice none 0 0, .int .i64 0] 36)) wr) (fun i _ => n - (intOf i).toNat)
  case atStart => exact ⟨0, Nat.zero_le _, rfl, Chg.refl _ _⟩
  case round =>
    obtain ⟨k, hk, rfl, hc⟩ := hrel
    obtain ⟨wo, rfl⟩ : ∃ W : World, W = wr := ⟨_, rfl⟩
    have hcw : Chg No w wo := ((Chg.refl No w).alloc _).no hc
    have hlt : k < n := by omega
    obtain ⟨b', o', y, hA', _, _, hyk, hE⟩ := (HX.out.no hcw).at_ hlt
    injection hA' with hA'
    injection hA' with e1 e2 _
    subst e1 e2
    obtain ⟨yk, yv, yt⟩ := y
    obtain ⟨hE1, ⟨A2, n2, c2, hE2, hv⟩, hE3⟩ := hE
    have f1 : wo.cell? ⟨b, o + k * 3, none⟩ = some (.int .i64 yk) := hE1
    have f2 : wo.cell? ⟨b, o + k * 3 + 1, none⟩ = some (.slice A2 n2 c2) := hE2
    have f3 : wo.cell? ⟨b, o + k * 3 + 2, none⟩ = some (.int .i64 yt) := hE3
    have q1 := (BZ.out.no hc).f3
    have q2 := (BZ.out.no hc).lt
    clear hE1 hE2 hE3 hv
    by_cases hkq : k = q
    · subst hkq
      rw [HQ.out] at hyk
      injection hyk with hyk
      subst hyk
      have h9 := cell_keep hcw HC.out (fun e => e)
      rw [f2] at h9
      injection h9 with h9
      injection h9 with e1 e2 e3
      subst e1 e2 e3
      have e1 : (yk == yk) = true := by simp
      go_wp2
      (refine bodyPost_ret (by simp [results, Try.results14, go_sem, *]; rfl) rfl ?_)
      exact ⟨rfl, by (repeat (first | (with_reducible exact Chg.refl _ _) | ((with_reducible refine Chg.setNew ?_ _ ?_); rotate_left; first | (dsimp only; omega) | (simp; done) | (simp; omega)) | (with_reducible refine Chg.alloc ?_ _) | (with_reducible refine Chg.drew ?_) | (with_reducible refine Chg.drewN ?_ _) | (with_reducible refine Chg.no ?_ (by assumption)) | (with_reducible refine Chg.and_ ?_ (by assumption)) | ((with_reducible refine Chg.at_ ?_ (by assumption) ?_); rotate_left; (try simp only [World.size_alloc]); omega)))⟩
    · have e1 : (yk == z.key) = false := by
        have := HN.out k _ (by omega) hyk
        simpa using this
      clear hyk
      go_wp2
      go_roundw
      case rel => exact ⟨k + 1, by omega, by go_num, hc⟩
      case measure => simp [intOf]; omega
end Go.Proofs.Ytifdcdpdihfbjaa
