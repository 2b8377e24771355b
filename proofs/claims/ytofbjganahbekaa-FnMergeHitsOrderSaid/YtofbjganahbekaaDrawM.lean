/- The drawn arguments: two lists of hits and a count. -/
import Derived.Test.YtofbjganahbekaaDraw3
import Derived.OwnWalk
namespace Go.Proofs.Ytofbjganahbekaa
open Go.RowKit
set_option linter.unusedVariables false
set_option linter.unusedSimpArgs false
set_option maxHeartbeats 1000000 in
theorem someK {B : Nat} (g m : Nat) (w : World) (hR : Rd w B g m) (hm : m < 700000) : Calls Try.prog 48 #[.pointer (some ⟨g, 0, none⟩)] w (DrawnOf B g m [1, 2, 3, 5, 16, 4, 0, 17] w) := by
  have hg := hR.lt
  go_enter Try.func48, Try.ntmps48
  (go_wp2_with fail; (refine (oneLit g m [1, 2, 3, 5, 16, 4, 0, 17] 8 _ _ (hR.no ((Chg.refl _ _).alloc _)) (by omega) (heap_top rfl) rfl rfl (by omega) (by omega) (by omega)).mono ?_); rintro e w1 ⟨x, rfl, hx, hR1, hc1⟩)
  go_wp2
  go_ret
  exact ⟨x, rfl, hx, hR1, ((Chg.refl (At g) w).alloc _).trans hc1 (fun _ _ h => h)⟩
/-- two lists of hits and a count have been drawn -/
def DrawnHHK (w : World) (e : Ending) (w' : World) : Prop := ∃ (v1 v2 : Value) (xs ys : List (Int × Int)) (k : Int), e = .returned (.tuple #[v1, v2, .int .i64 k]) ∧ OHits w' w.heap.size v1 xs ∧ OHits w' w.heap.size v2 ys ∧ xs.length ≤ 17 ∧ ys.length ≤ 17 ∧ (0 ≤ k ∧ k ≤ 17) ∧ Chg No w w'
set_option maxHeartbeats 2000000 in
theorem drawMergeHits (A : Option Addr) (n c : Nat) (w : World) (hC : Code w w.heap.size A n c) : Calls Try.prog 22 #[.slice A n c] w (DrawnHHK w) := by
  go_enter Try.func22, Try.ntmps22
  (go_wp2_with fail; (with_reducible refine (newReader w.heap.size A n c _ hC (Nat.le_refl _)).mono ?_); rintro e w1 ⟨rfl, hR1, hc1⟩)
  have s1 := hR1.lt
  (go_wp2_with fail; (with_reducible refine (anyHits _ 0 _ hR1 (by omega)).mono ?_); rintro e w2 ⟨v2, xs, rfl, ho2, hl2, hR2, hc2⟩)
  have s2 := hc2.size
  have HO2 := hid ho2
  have hc02 : Chg No w w2 := hc1.trans hc2 (fun i hi (e : i = _) => by omega)
  clear ho2 hR1
  (go_wp2_with fail; (with_reducible refine (anyHits _ 300 _ hR2 (by omega)).mono ?_); rintro e w3 ⟨v3, ys, rfl, ho3, hl3, hR3, hc3⟩)
  have s3 := hc3.size
  have HO3 := hid ho3
  have HO2' := hid (chg_at_keep HO2.out hc3 (by omega))
  have hc03 : Chg No w w3 := hc02.trans hc3 (fun i hi (e : i = _) => by omega)
  clear ho3 hR2
  (go_wp2_with fail; (with_reducible refine (someK _ 600 _ hR3 (by omega)).mono ?_); rintro e w4 ⟨k, rfl, hk, hR4, hc4⟩)
  have s4 := hc4.size
  have hk2 : 0 ≤ k ∧ k ≤ 17 := by
    simp only [List.mem_cons, List.not_mem_nil, or_false] at hk
    omega
  clear hk
  have HO2'' := hid (OSl.down (chg_at_keep HO2'.out hc4 (by omega)) (base' := w.heap.size) (by omega))
  have HO3' := hid (OSl.down (chg_at_keep HO3.out hc4 (by omega)) (base' := w.heap.size) (by omega))
  have hc04 : Chg No w w4 := hc03.trans hc4 (fun i hi (e : i = _) => by omega)
  go_wp2
  go_ret3
  exact ⟨_, _, xs, ys, k, rfl, HO2''.out, HO3'.out, hl2, hl3, hk2, hc04⟩
end Go.Proofs.Ytofbjganahbekaa
