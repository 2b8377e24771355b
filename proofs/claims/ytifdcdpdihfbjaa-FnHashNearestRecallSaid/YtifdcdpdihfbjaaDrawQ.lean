/- The drawn arguments: planes, a store, a vector, a number of bits and a count. -/
import Derived.Test.YtifdcdpdihfbjaaDrawP
import Derived.Test.YtifdcdpdihfbjaaDrawN
import Derived.OwnWalk
namespace Go.Proofs.Ytifdcdpdihfbjaa
open Go.RowKit
set_option linter.unusedVariables false
set_option linter.unusedSimpArgs false
/-- planes, a store, a vector, a number of bits and a count have been drawn -/
def DrawnPSVK (w : World) (e : Ending) (w' : World) : Prop := ∃ (v : Value) (ps : List (List Int)) (v2 : Value) (xs : List It) (A : Option Addr) (n c : Nat) (at_ : List Int) (bt k : Int), e = .returned (.tuple #[v, v2, .slice A n c, .int .i64 bt, .int .i64 k]) ∧ ORows w' w.heap.size v ps ∧ ps.length ≤ 7 ∧ OItems w' w.heap.size v2 xs ∧ xs.length ≤ 17 ∧ TInts w' w.heap.size w'.heap.size A n c at_ ∧ n ≤ 101 ∧ (-1 ≤ bt ∧ bt ≤ 7) ∧ (0 ≤ k ∧ k ≤ 17) ∧ Chg No w w'
set_option maxHeartbeats 2000000 in
theorem drawHashNearest (A : Option Addr) (n c : Nat) (w : World) (hC : Code w w.heap.size A n c) : Calls Try.prog 37 #[.slice A n c] w (DrawnPSVK w) := by
  go_enter Try.func37, Try.ntmps37
  (go_wp2_with fail; (with_reducible refine (newReader w.heap.size A n c _ hC (Nat.le_refl _)).mono ?_); rintro e w1 ⟨rfl, hR1, hc1⟩)
  have s1 := hc1.size
  have l1 := hR1.lt
  (go_wp2_with fail; (with_reducible refine (drawBucketOf A n c _ ((hC.no hc1).up (by omega))).mono ?_); rintro e w2 ⟨v2, ps, u2, xs, A2, n2, c2, zs, bt, rfl, ho2, hl2, hi2, hm2, ht2, hn2, hb2, hc2⟩)
  have s2 := hc2.size
  have HO2 := hid ho2
  have HI2 := hid hi2
  have HT2 := hid ht2
  obtain ⟨A3, c3, hv3, hr3⟩ := ORows.read ho2
  subst hv3
  obtain ⟨A4, c4, hv4, hr4⟩ := OItems.read hi2
  subst hv4
  have h02 : Chg No w w2 := hc1.no hc2
  have hR2 := hR1.no hc2
  clear hr3 hr4 ho2 hi2 ht2
  (go_wp2_with fail; (with_reducible refine (someK _ 0 _ hR2 (by omega)).mono ?_); rintro e w3 ⟨k, rfl, hx, hR3, hc3⟩)
  have hk := k_of hx
  have s3 := hc3.size
  have HO9 := hid ((HO2.out.keep hc3 (fun k h1 h2 (h3 : k = _) => by omega)).down (base' := w.heap.size) (by omega))
  have HI9 := hid ((HI2.out.keep hc3 (fun k h1 h2 (h3 : k = _) => by omega)).down (base' := w.heap.size) (by omega))
  have HT9 := hid ((HT2.out.keep hc3 (fun k h1 h2 (h3 : k = _) => by omega)).wide (lo' := w.heap.size) (hi' := w3.heap.size) (by omega) (by omega))
  have h09 : Chg No w w3 := h02.trans hc3 (fun i hi (h : i = _) => by omega)
  clear hx
  go_wp2
  (refine bodyPost_ret (by simp [results, Try.results37, go_sem, *]; rfl) rfl ?_)
  exact ⟨_, ps, _, xs, _, _, _, zs, _, _, rfl, HO9.out, hl2, HI9.out, hm2, HT9.out, hn2, hb2, hk, h09⟩
end Go.Proofs.Ytifdcdpdihfbjaa
