/- The drawn arguments: a store, a kind, a number of neighbours, a key and a vector. -/
import Derived.Test.YtgidepnlflmclaaLinksJ
import Derived.OwnWalk
namespace Go.Proofs.Ytgidepnlflmclaa
open Go.RowKit
set_option linter.unusedVariables false
set_option linter.unusedSimpArgs false
/-- a key has been drawn -/
def DrKey (B g m : Nat) (w : World) (e : Ending) (w' : World) : Prop := ∃ x : Int, e = .returned (.int .i64 x) ∧ Rd w' B g (m + 3) ∧ Chg (At g) w w'
set_option maxHeartbeats 2000000 in
theorem someKey {B : Nat} (g m : Nat) (l0 h0 : Nat) (A : Option Addr) (n c : Nat) (xs : List It) (w : World) (hR : Rd w B g m) (hm : m < 700000) (hx : RItems w l0 h0 A n c xs) (hgl : g < l0) (hn : n ≤ 100) : Calls Try.prog 57 #[.pointer (some ⟨g, 0, none⟩), .slice A n c] w (DrKey B g m w) := by
  have hg := hR.lt
  have hnc := hx.le; have hcm := hx.cap
  have HX := hid hx
  clear hx
  by_cases h00 : 0 < n
  · have j1 : decide (0 < n) = true := decide_eq_true h00
    go_enter Try.func57, Try.ntmps57
    (go_wp2_with fail; (with_reducible refine (pick g m _ _ hR (by omega) (by omega)).mono ?_); rintro e w1 ⟨y1, rfl, hy1, hR1, hc1⟩)
    by_cases a0 : 0 < y1
    · have j2 : decide (0 < y1) = true := decide_eq_true a0
      (go_wp2_with fail; (with_reducible refine (pick g (m + 1) _ _ hR1 (by omega) (by omega)).mono ?_); rintro e w2 ⟨y2, rfl, hy2, hR2, hc2⟩)
      have b2 := picked_lt hy2 (by omega)
      obtain ⟨q, rfl⟩ := Int.eq_ofNat_of_zero_le b2.1
      have hq : q < n := by omega
      have hc02 : Chg (At g) w w2 := hc1.and_ hc2
      obtain ⟨b, o, z, rfl, _, _, hzk, hE⟩ := (HX.out.keep hc02 (fun k h1 h2 (h3 : k = g) => by omega)).at_ hq
      have f1 : w2.cell? ⟨b, o + q * 3, none⟩ = some (.int .i64 z.key) := hE.1
      have hR3 := hR2.mono (m' := m + 3) (by omega)
      clear hy1 hy2 hzk hE
      go_wp2
      go_ret
      exact ⟨_, rfl, hR3, hc02⟩
    · have j2 : decide (0 < y1) = false := decide_eq_false a0
      (go_wp2_with fail; (refine (oneLit g (m + 1) [5, 99, 0, 31, -1] 5 _ _ (hR1.no ((Chg.refl _ _).alloc _)) (by omega) (heap_top rfl) rfl rfl (by omega) (by omega) (by have := hc1.size; omega)).mono ?_); rintro e w2 ⟨x, rfl, hx, hR2, hc2⟩)
      have hR3 := hR2.mono (m' := m + 3) (by omega)
      have hc02 : Chg (At g) w w2 := (hc1.alloc _).and_ hc2
      clear hy1 hx
      go_wp2
      go_ret
      exact ⟨_, rfl, hR3, hc02⟩
  · have j1 : decide (0 < n) = false := decide_eq_false h00
    go_enter Try.func57, Try.ntmps57
    (go_wp2_with fail; (refine (oneLit g m [5, 99, 0, 31, -1] 5 _ _ (hR.no ((Chg.refl _ _).alloc _)) (by omega) (heap_top rfl) rfl rfl (by omega) (by omega) (by omega)).mono ?_); rintro e w2 ⟨x, rfl, hx, hR2, hc2⟩)
    have hR3 := hR2.mono (m' := m + 3) (by omega)
    have hc02 : Chg (At g) w w2 := ((Chg.refl _ w).alloc _).and_ hc2
    clear hx
    go_wp2
    go_ret
    exact ⟨_, rfl, hR3, hc02⟩
/-- a store, a kind, a number of neighbours, a key and a vector have been drawn -/
def DrawnWk (w : World) (e : Ending) (w' : World) : Prop := ∃ (v : Value) (xs : List It) (kind many key : Int) (A : Option Addr) (n c : Nat) (at_ : List Int), e = .returned (.tuple #[v, .int .i64 kind, .int .i64 many, .int .i64 key, .slice A n c]) ∧ OItems w' w.heap.size v xs ∧ xs.length ≤ 17 ∧ RInts w' w.heap.size w'.heap.size A n c at_ ∧ n ≤ 101 ∧ (0 ≤ kind ∧ kind ≤ 5) ∧ (0 ≤ many ∧ many ≤ 6) ∧ Chg No w w'
set_option maxHeartbeats 2000000 in
theorem drawWalkTo (A : Option Addr) (n c : Nat) (w : World) (hC : Code w w.heap.size A n c) : Calls Try.prog 22 #[.slice A n c] w (DrawnWk w) := by
  go_enter Try.func22, Try.ntmps22
  (go_wp2_with fail; (with_reducible refine (newReader w.heap.size A n c _ hC (Nat.le_refl _)).mono ?_); rintro e w1 ⟨rfl, hR1, hc1⟩)
  have s1 := hc1.size
  have l1 := hR1.lt
  (go_wp2_with fail; (with_reducible refine (anyStore _ 0 _ hR1 (by omega)).mono ?_); rintro e w2 ⟨v2, xs, rfl, ho2, hl2, _, hR2, hc2⟩)
  have s2 := hc2.size
  have HI2 := hid ho2
  obtain ⟨A2, c2, hv2, hr2⟩ := OItems.read ho2
  subst hv2
  have hm2 := hr2.cap; have hk2 := hr2.le
  have h02 : Chg No w w2 := hc1.trans hc2 (fun i hi (h : i = _) => by omega)
  have HRI := hid hr2
  clear hr2 ho2
  (go_wp2_with fail; (with_reducible refine (anyKind _ 320 _ hR2 (by omega)).mono ?_); rintro e w3 ⟨kind, rfl, hx3, hR3, hc3⟩)
  have s3 := hc3.size
  have hkd := kind_ofL hx3
  have HI3 := hid (HI2.out.keep hc3 (fun k h1 h2 (h3 : k = _) => by omega))
  have h03 : Chg No w w3 := h02.trans hc3 (fun i hi (h : i = _) => by omega)
  clear hx3 HI2
  (go_wp2_with fail; (with_reducible refine (someMany _ 321 _ hR3 (by omega)).mono ?_); rintro e w4 ⟨many, rfl, hx4, hR4, hc4⟩)
  have s4 := hc4.size
  have hmd := many_of hx4
  have HI4 := hid (HI3.out.keep hc4 (fun k h1 h2 (h3 : k = _) => by omega))
  have h04 : Chg No w w4 := h03.trans hc4 (fun i hi (h : i = _) => by omega)
  have hc24 : Chg (At w.heap.size) w2 w4 := hc3.and_ hc4
  have HRI4 := hid (HRI.out.keep hc24 (fun k h1 h2 (h3 : k = _) => by omega))
  clear hx4 HI3
  (go_wp2_with fail; (with_reducible refine (someKey _ 322 _ _ _ _ _ xs _ hR4 (by omega) HRI4.out (by omega) (by omega)).mono ?_); rintro e w5 ⟨key, rfl, hR5, hc5⟩)
  have s5 := hc5.size
  have HI5 := hid (HI4.out.keep hc5 (fun k h1 h2 (h3 : k = _) => by omega))
  have h05 : Chg No w w5 := h04.trans hc5 (fun i hi (h : i = _) => by omega)
  clear HI4
  (go_wp2_with fail; (with_reducible refine (anyVector _ 325 _ hR5 (by omega)).mono ?_); rintro e w6 ⟨A6, n6, c6, zs, rfl, ht6, hn6, hR6, hc6⟩)
  have s6 := hc6.size
  have HI6 := hid ((HI5.out.keep hc6 (fun k h1 h2 (h3 : k = _) => by omega)).down (base' := w.heap.size) (by omega))
  have h06 : Chg No w w6 := h05.trans hc6 (fun i hi (h : i = _) => by omega)
  have HT6 := hid (ht6.1.wide (lo' := w.heap.size) (by omega) (Nat.le_refl _))
  clear ht6 HI5
  go_wp2
  (refine bodyPost_ret (by simp [results, Try.results22, go_sem, *]; rfl) rfl ?_)
  exact ⟨_, xs, _, _, _, _, _, _, zs, rfl, HI6.out, hl2, HT6.out, hn6, hkd, hmd, h06⟩
end Go.Proofs.Ytgidepnlflmclaa
