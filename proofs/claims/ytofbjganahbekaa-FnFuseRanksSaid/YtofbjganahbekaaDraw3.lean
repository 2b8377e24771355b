/- The drawn arguments: hits. -/
import Derived.Test.YtofbjganahbekaaDraw2
import Derived.Test.YtofbjganahbekaaNear
namespace Go.Proofs.Ytofbjganahbekaa
open Go.RowKit
set_option linter.unusedVariables false
set_option linter.unusedSimpArgs false
theorem chg_at_keep {g : Nat} {w w' : World} {base : Nat} {v : Value} {xs : List (Int × Int)} (h : OHits w base v xs) (hc : Chg (At g) w w') (hg : g < base) : OHits w' base v xs := OSl.keep h hc (fun k h1 _ (h3 : k = g) => by omega)
/-- hits have been drawn -/
def DrHits (B g m : Nat) (w : World) (e : Ending) (w' : World) : Prop := ∃ (v : Value) (xs : List (Int × Int)), e = .returned v ∧ OHits w' w.heap.size v xs ∧ xs.length ≤ 17 ∧ Rd w' B g (m + 300) ∧ Chg (At g) w w'
set_option maxHeartbeats 2000000 in
theorem anyHits {B : Nat} (g m : Nat) (w : World) (hR : Rd w B g m) (hm : m < 500000) : Calls Try.prog 47 #[.pointer (some ⟨g, 0, none⟩)] w (DrHits B g m w) := by
  have hg := hR.lt
  go_enter Try.func47, Try.ntmps47
  (go_wp2_with fail; (with_reducible refine (someStore g m _ hR (by omega)).mono ?_); rintro e w1 ⟨v1, xs, rfl, ho1, hsb, hR1, hc1⟩)
  obtain ⟨A1, c1, rfl, hr1⟩ := OItems.read ho1
  have HSB := hid hsb
  have hxl := storeB_len hsb
  have s1 := hc1.size
  clear ho1 hsb
  (go_wp2_with fail; (with_reducible refine (pick g (m + 281) _ _ hR1 (by omega) (by omega)).mono ?_); rintro e w2 ⟨y2, rfl, hy2, hR2, hc2⟩)
  have by2 := picked_lt hy2 (by omega)
  have by2a := by2.1
  have by2b := by2.2
  have s2 := hc2.size
  (go_wp2_with fail; (with_reducible refine (someVector g (m + 282) _ hR2 (by omega)).mono ?_); rintro e w3 ⟨v3, at_, rfl, ho3, hvb, hR3, hc3⟩)
  obtain ⟨A3, c3, rfl, hr3⟩ := OInts.read ho3
  have HVB := hid hvb
  have s3 := hc3.size
  clear ho3 hvb
  (go_wp2_with fail; (refine (oneLit g (m + 294) [3, 5, 16, 1, 8] 5 _ _ (hR3.no ((Chg.refl _ _).alloc _)) (by omega) (heap_top rfl) rfl rfl (by omega) (by omega) (by omega)).mono ?_); rintro e w4 ⟨k4, rfl, hx4, hR4, hc4⟩)
  have hk4 : 0 ≤ k4 ∧ k4 ≤ 16 := by
    simp only [List.mem_cons, List.not_mem_nil, or_false] at hx4
    omega
  have s4 := hc4.size
  simp only [World.size_alloc] at s4
  clear hx4
  have HX1 := hid (((hr1.keep hc2 (fun j h1 h2 (h3 : j = g) => by omega)).keep hc3 (fun j h1 h2 (h3 : j = g) => by omega)).keep (Chg.alloc (Chg.refl No w3) (.cells #[.int .i64 3, .int .i64 5, .int .i64 16, .int .i64 1, .int .i64 8] 3)) (fun _ _ _ e => e))
  have HX2 := hid (hr3.no (Chg.alloc (Chg.refl No w3) (.cells #[.int .i64 3, .int .i64 5, .int .i64 16, .int .i64 1, .int .i64 8] 3)))
  have HX3 := hid (HX1.out.keep hc4 (fun j h1 h2 (h3 : j = g) => by omega))
  have HX4 := hid (HX2.out.keep hc4 (fun j h1 h2 (h3 : j = g) => by omega))
  clear hr1 hr3 HX1 HX2
  have hl4 := hid (vecB_len HVB.out)
  (go_wp2_with fail; (with_reducible refine (sNearest _ _ _ _ _ xs _ _ _ _ _ at_ _ k4 _ HX3.out HX4.out (by omega) ?_ HVB.out (by omega) (by omega) hk4.1 (by omega)).mono ?_))
  · intro x hx
    obtain ⟨i, hi⟩ := List.getElem?_of_mem hx
    exact ((itemB_iff _).1 (storeB_item HSB.out hi)).2.1
  rintro e w5 ⟨v5, rfl, ho5, hc5⟩
  have hnl := nearestF_length xs (1 + y2) at_ k4
  generalize nearestF xs (1 + y2) at_ k4 = hs at *
  have hhl : hs.length ≤ 16 := by omega
  have s5 := hc5.size
  have hc05 : Chg (At g) w w5 := by (repeat (first | (with_reducible exact Chg.refl _ _) | ((with_reducible refine Chg.setNew ?_ _ ?_); rotate_left; first | (dsimp only; omega) | (simp; done) | (simp; omega)) | (with_reducible refine Chg.alloc ?_ _) | (with_reducible refine Chg.drew ?_) | (with_reducible refine Chg.drewN ?_ _) | (with_reducible refine Chg.no ?_ (by assumption)) | (with_reducible refine Chg.and_ ?_ (by assumption)) | ((with_reducible refine Chg.at_ ?_ (by assumption) ?_); rotate_left; (try simp only [World.size_alloc]); omega)))
  have hR5 := hR4.no hc5
  have HO5 := hid (OSl.down ho5 (base' := w.heap.size) (by omega))
  clear ho5 HX3 HX4 hR1 hR2 hR3 hR4 hc1 hc2 hc3 hc4 hc5 hR hnl
  (go_wp2_with fail; (with_reducible refine (pick g (m + 295) _ _ hR5 (by omega) (by omega)).mono ?_); rintro e w6 ⟨y6, rfl, hy6, hR6, hc6⟩)
  have by6 := picked_lt hy6 (by omega)
  have by6a := by6.1
  have by6b := by6.2
  have s6 := hc6.size
  have HO6 := hid (chg_at_keep HO5.out hc6 hg)
  have hc06 : Chg (At g) w w6 := by (repeat (first | (with_reducible exact Chg.refl _ _) | ((with_reducible refine Chg.setNew ?_ _ ?_); rotate_left; first | (dsimp only; omega) | (simp; done) | (simp; omega)) | (with_reducible refine Chg.alloc ?_ _) | (with_reducible refine Chg.drew ?_) | (with_reducible refine Chg.drewN ?_ _) | (with_reducible refine Chg.no ?_ (by assumption)) | (with_reducible refine Chg.and_ ?_ (by assumption)) | ((with_reducible refine Chg.at_ ?_ (by assumption) ?_); rotate_left; (try simp only [World.size_alloc]); omega)))
  clear HO5 hc05 hc6
  by_cases h0 : y6 = 0
  · have e0 : (y6 == 0) = true := by simp [h0]
    clear h0 by6 hy6
    go_wp2_with fail
    (refine (oneLit g (m + 296) [0, 5, 100] 3 _ _ (hR6.no ((Chg.refl _ _).alloc _)) (by omega) (heap_top rfl) rfl rfl (by omega) (by omega) (by omega)).mono ?_); rintro e w7 ⟨k7, rfl, hx7, hR7, hc7⟩
    have s7 := hc7.size
    simp only [World.size_alloc] at s7
    (go_wp2_with fail; (refine (oneLit g (m + 297) [0, 1000000, 1000001] 3 _ _ (hR7.no ((Chg.refl _ _).alloc _)) (by omega) (heap_top rfl) rfl rfl (by omega) (by omega) (by omega)).mono ?_); rintro e w8 ⟨k8, rfl, hx8, hR8, hc8⟩)
    have s8 := hc8.size
    simp only [World.size_alloc] at s8
    have hc08 : Chg (At g) w w8 := by (repeat (first | (with_reducible exact Chg.refl _ _) | ((with_reducible refine Chg.setNew ?_ _ ?_); rotate_left; first | (dsimp only; omega) | (simp; done) | (simp; omega)) | (with_reducible refine Chg.alloc ?_ _) | (with_reducible refine Chg.drew ?_) | (with_reducible refine Chg.drewN ?_ _) | (with_reducible refine Chg.no ?_ (by assumption)) | (with_reducible refine Chg.and_ ?_ (by assumption)) | ((with_reducible refine Chg.at_ ?_ (by assumption) ?_); rotate_left; (try simp only [World.size_alloc]); omega)))
    have HO8 := hid (OSl.alloc (chg_at_keep ((chg_at_keep (HO6.out.no ((Chg.refl No _).alloc (.cells #[.int .i64 0, .int .i64 5, .int .i64 100] 3))) hc7 hg).no ((Chg.refl No _).alloc (.cells #[.int .i64 0, .int .i64 1000000, .int .i64 1000001] 3))) hc8 hg) (.cells #[.int .i64 k7, .int .i64 k8] 39))
    have HS := hid (Src.one (sz := 2) (enc := cHit) (y := (k7, k8)) (Box.new (w := w8) [.int .i64 k7, .int .i64 k8] 39 rfl) rfl)
    clear hx7 hx8 HO6 hc06 hc7 hc8
    go_wp2_with (at_builtin; refine wpList_push _ rfl _ _ 24 rfl 39 2 16 (.agg #[.int .i64 0, .int .i64 0]) cHit Try.underlying24 infoHit rfl (by omega) (by omega) (fun _ => rfl) oneHit w.heap.size _ hs rfl HO8.out _ 1 1 [(k7, k8)] rfl HS.out (by omega) (by simp; omega) ?_; intro v9 w9 ho9 hg9 hb9)
    have hc09 : Chg (At g) w w9 := Chg.pushed (hc08.alloc _) hg9 HO8.out (Nat.le_refl _)
    have hR9 : Rd w9 B g (m + 298) := (hR8.no ((Chg.refl No w8).alloc (.cells #[.int .i64 k7, .int .i64 k8] 39))).keep (S := fun j => w.heap.size ≤ j) ((Chg.refl _ _).grown hg9 (fun j hj _ => (World.ownsRow.lt HO8.out j hj).1)) (fun j h1 h2 => by have := hR8.base; omega) (fun h => by omega)
    have HO9 := hid ho9
    have hRe := hR9.mono (m' := m + 300) (by omega)
    clear ho9 hg9 hb9 HO8 HS hc08
    go_ret
    exact ⟨_, _, rfl, HO9.out, by rw [List.length_append, List.length_singleton]; omega, hRe, hc09⟩
  · have e0 : (y6 == 0) = false := by simp [h0]
    by_cases h1 : y6 = 1
    · have e1 : (y6 == 1) = true := by simp [h1]
      clear h0 h1 by6 hy6
      by_cases hl : 0 < hs.length
      · obtain ⟨x, hx⟩ : ∃ x, hs[0]? = some x := ⟨_, List.getElem?_eq_getElem hl⟩
        obtain ⟨x1, x2⟩ := x
        obtain ⟨A9, c9, hv9, _, _, hA9⟩ := OSl.form HO6.out
        obtain ⟨gg, rfl, hgg1, hgg2⟩ := hA9 hl
        subst hv9
        have f1 : w6.cell? ⟨gg, 0, none⟩ = some (.int .i64 x1) := by have h9 := OSl.cell HO6.out (fun _ => rfl) (i := 0) hx rfl; simpa using h9
        have f2 : w6.cell? ⟨gg, 1, none⟩ = some (.int .i64 x2) := by have h9 := OSl.cell HO6.out (fun _ => rfl) (i := 1) hx rfl; simpa using h9
        have HO8 := hid (OSl.alloc HO6.out (.cells #[.int .i64 x1, .int .i64 x2] 39))
        have HS := hid (Src.one (sz := 2) (enc := cHit) (y := (x1, x2)) (Box.new (w := w6) [.int .i64 x1, .int .i64 x2] 39 rfl) rfl)
        clear hx hA9 HO6
        go_wp2_with (at_builtin; refine wpList_push _ rfl _ _ 24 rfl 39 2 16 (.agg #[.int .i64 0, .int .i64 0]) cHit Try.underlying24 infoHit rfl (by omega) (by omega) (fun _ => rfl) oneHit w.heap.size _ hs rfl HO8.out _ 1 1 [(x1, x2)] rfl HS.out (by omega) (by simp; omega) ?_; intro v9 w9 ho9 hg9 hb9)
        have hc09 : Chg (At g) w w9 := Chg.pushed (hc06.alloc _) hg9 HO8.out (Nat.le_refl _)
        have hR9 : Rd w9 B g (m + 296) := (hR6.no ((Chg.refl No w6).alloc (.cells #[.int .i64 x1, .int .i64 x2] 39))).keep (S := fun j => w.heap.size ≤ j) ((Chg.refl _ _).grown hg9 (fun j hj _ => (World.ownsRow.lt HO8.out j hj).1)) (fun j h1 h2 => by have := hR6.base; omega) (fun h => by omega)
        have HO9 := hid ho9
        have hRe := hR9.mono (m' := m + 300) (by omega)
        clear ho9 hg9 hb9 HO8 HS hc06
        go_ret
        exact ⟨_, _, rfl, HO9.out, by rw [List.length_append, List.length_singleton]; omega, hRe, hc09⟩
      · obtain ⟨A9, c9, hv9, _, _, _⟩ := OSl.form HO6.out
        subst hv9
        have hRe := hR6.mono (m' := m + 300) (by omega)
        have hl' : decide (0 < hs.length) = false := decide_eq_false hl
        go_wp2
        go_ret
        exact ⟨_, hs, rfl, HO6.out, by omega, hRe, hc06⟩
    · have e1 : (y6 == 1) = false := by simp [h1]
      have hRe := hR6.mono (m' := m + 300) (by omega)
      clear h0 h1 by6 hy6
      go_wp2
      go_ret
      exact ⟨_, hs, rfl, HO6.out, by omega, hRe, hc06⟩
/-- two lists of hits have been drawn -/
def DrawnTwo (w : World) (e : Ending) (w' : World) : Prop := ∃ (v1 v2 : Value) (xs ys : List (Int × Int)), e = .returned (.tuple #[v1, v2]) ∧ OHits w' w.heap.size v1 xs ∧ OHits w' w.heap.size v2 ys ∧ xs.length ≤ 17 ∧ ys.length ≤ 17 ∧ Chg No w w'
set_option maxHeartbeats 1000000 in
theorem drawFuseRanks (A : Option Addr) (n c : Nat) (w : World) (hC : Code w w.heap.size A n c) : Calls Try.prog 25 #[.slice A n c] w (DrawnTwo w) := by
  go_enter Try.func25, Try.ntmps25
  (go_wp2_with fail; (with_reducible refine (newReader w.heap.size A n c _ hC (Nat.le_refl _)).mono ?_); rintro e w1 ⟨rfl, hR1, hc1⟩)
  have s1 := hR1.lt
  (go_wp2_with fail; (with_reducible refine (anyHits _ 0 _ hR1 (by omega)).mono ?_); rintro e w2 ⟨v1, xs, rfl, ho1, hl1, hR2, hc2⟩)
  have s2 := hc2.size
  (go_wp2_with fail; (with_reducible refine (anyHits _ 300 _ hR2 (by omega)).mono ?_); rintro e w3 ⟨v2, ys, rfl, ho2, hl2, hR3, hc3⟩)
  have hc0 : Chg No w w3 := hc1.trans (hc2.and_ hc3) (fun i hi (e : i = _) => by omega)
  have HO1 := hid (OSl.down (chg_at_keep ho1 hc3 (by omega)) (base' := w.heap.size) (by omega))
  have HO2 := hid (OSl.down ho2 (base' := w.heap.size) (by omega))
  clear ho1 ho2
  go_wp2
  go_ret2
  exact ⟨_, _, xs, ys, rfl, HO1.out, HO2.out, hl1, hl2, hc0⟩
end Go.Proofs.Ytofbjganahbekaa
