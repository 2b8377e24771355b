/- The drawn arguments: vectors that may be spoilt. -/
import Derived.Test.YtifdcdpdihfbjaaDraw1
import Derived.Test.YtifdcdpdihfbjaaStoreS
namespace Go.Proofs.Ytifdcdpdihfbjaa
open Go.RowKit
set_option linter.unusedVariables false
set_option linter.unusedSimpArgs false
/-- a vector of the call's own has been drawn -/
def DrAny (B g m : Nat) (w : World) (e : Ending) (w' : World) : Prop := ∃ (A : Option Addr) (n c : Nat) (xs : List Int), e = .returned (.slice A n c) ∧ TInts w' w.heap.size w'.heap.size A n c xs ∧ n ≤ 101 ∧ Rd w' B g m ∧ Chg (At g) w w'
theorem tints_of {w : World} {base : Nat} {A : Option Addr} {n c : Nat} {xs : List Int} (h : OInts w base (.slice A n c) xs) : TInts w base w.heap.size A n c xs := by
  obtain ⟨A', c', hv, ht⟩ := h.typed
  injection hv with h1 h2 h3
  subst h1 h2 h3
  exact ht
theorem TInts.drop1 {w : World} {lo hi g n c : Nat} {xs : List Int} (h : TInts w lo hi (some ⟨g, 0, none⟩) n c xs) (hn : 1 ≤ n) (hc : ¬ c = 1) : TInts w lo hi (some ⟨g, 1, none⟩) (n - 1) (c - 1) (xs.drop 1) := by
  have h9 := RSl.drop h.1 (k := 1) hn
  rw [if_neg hc] at h9
  refine ⟨h9, fun h0 => ?_⟩
  obtain ⟨b, o, cs, hA, hb⟩ := h.2 (by omega)
  injection hA with hA
  injection hA with e1 e2 _
  subst e1
  exact ⟨_, 1, cs, rfl, hb⟩
set_option maxHeartbeats 2000000 in
theorem spoil {B : Nat} (g m : Nat) (l0 h0 : Nat) (A : Option Addr) (n c : Nat) (xs : List Int) (nn : Int) (w : World) (hR : Rd w B g m) (hm : m < 800000) (hx : RInts w l0 h0 A n c xs) (h2 : 2 ≤ n) (hn : n ≤ 100) :
    Calls Try.prog 82 #[.pointer (some ⟨g, 0, none⟩), .slice A n c, .int .i64 nn] w (DrAny B g (m + 3) w) := by
  have hl : xs.length = n := hx.len
  subst hl
  have hg := hR.lt
  have HX := hid hx
  clear hx
  go_enter Try.func82, Try.ntmps82
  (go_wp2_with fail; (with_reducible refine (sCopyInts l0 h0 A xs.length c xs _ HX.out (by omega)).mono ?_); rintro e w1 ⟨v1, rfl, ho1, hc1⟩)
  obtain ⟨A1, c1, rfl, hn1, hm1, hA1⟩ := OSl.form ho1
  obtain ⟨g1, rfl, hg1, hg1b⟩ := hA1 (by omega)
  have HO1 := hid ho1
  have hcm : c1 ≤ 9223372036854775807 := by unfold maxLen at hm1; omega
  clear ho1 hA1 hm1
  (go_wp2_with fail; (with_reducible refine (pick g m _ _ (hR.no hc1) (by omega) (by omega)).mono ?_); rintro e w2 ⟨y2, rfl, hy2, hR2, hc2⟩)
  have s1 := hc1.size
  have s2 := hc2.size
  have hcA : Chg (At g) w w2 := by (repeat (first | (with_reducible exact Chg.refl _ _) | ((with_reducible refine Chg.setNew ?_ _ ?_); rotate_left; first | (dsimp only; omega) | (simp; done) | (simp; omega)) | (with_reducible refine Chg.alloc ?_ _) | (with_reducible refine Chg.drew ?_) | (with_reducible refine Chg.drewN ?_ _) | (with_reducible refine Chg.no ?_ (by assumption)) | (with_reducible refine Chg.and_ ?_ (by assumption)) | ((with_reducible refine Chg.at_ ?_ (by assumption) ?_); rotate_left; (try simp only [World.size_alloc]); omega)))
  have HO2 := hid (OSl.keep HO1.out hc2 (fun j h1 _ (e : j = g) => by omega))
  clear hR HO1 HX
  by_cases a0 : y2 = 0
  · subst a0
    have HB := hid (Src.one (sz := 1) (enc := cInt) (y := nn) (Box.new (w := w2) [.int .i64 nn] 3 rfl) rfl)
    have HO3 := hid (HO2.out.alloc (.cells #[.int .i64 nn] 3))
    go_wp2_with (at_builtin; refine wpList_push _ rfl _ _ 27 rfl 3 1 8 (.int .i64 0) cInt Try.underlying27 infoInt rfl (by omega) (by omega) (fun _ => rfl) oneInt w.heap.size _ xs rfl HO3.out _ 1 1 [nn] rfl HB.out (by omega) (by simp; omega) ?_; intro v' w3 ho hg2 hb2)
    have hc3 : Chg (At g) w w3 := Chg.pushed (a := w) (by (repeat (first | (with_reducible exact Chg.refl _ _) | ((with_reducible refine Chg.setNew ?_ _ ?_); rotate_left; first | (dsimp only; omega) | (simp; done) | (simp; omega)) | (with_reducible refine Chg.alloc ?_ _) | (with_reducible refine Chg.drew ?_) | (with_reducible refine Chg.drewN ?_ _) | (with_reducible refine Chg.no ?_ (by assumption)) | (with_reducible refine Chg.and_ ?_ (by assumption)) | ((with_reducible refine Chg.at_ ?_ (by assumption) ?_); rotate_left; (try simp only [World.size_alloc]); omega)))) hg2 HO3.out (Nat.le_refl _)
    have hR3 : Rd w3 B g (m + 1) := by
      refine (hR2.no ((Chg.refl No w2).alloc (.cells #[.int .i64 nn] 3))).keep (S := fun j => w.heap.size ≤ j) ((Chg.refl _ _).grown hg2 (fun j hj _ => (World.ownsRow.lt HO3.out j hj).1)) (fun j h1 h2 => ?_) (fun h => ?_)
      · have := hR2.base; omega
      · omega
    obtain ⟨A3, c3, rfl, ht3⟩ := (show OInts w3 w.heap.size v' (xs ++ [nn]) from ho).typed
    have HT := hid ht3
    clear ho ht3 hg2 hb2 HB HO3
    go_ret
    exact ⟨_, _, _, _, rfl, HT.out, by rw [List.length_append, List.length_singleton]; omega, hR3.mono (by omega), hc3⟩
  · have n0 : (y2 == 0) = false := by simp; omega
    by_cases a1 : y2 = 1
    · subst a1
      have j1 : decide (0 < xs.length) = true := decide_eq_true (by omega)
      have j2 : (1 : Int) ≤ xs.length := by omega
      have j3 : (1 : Int) ≤ c1 := by omega
      have j4 : ¬ c1 = 1 := by omega
      have j5 : 1 ≤ xs.length := by omega
      have j6 : 1 ≤ c1 := by omega
      have HT := hid (TInts.drop1 (tints_of HO2.out) j5 j4)
      have hR3 := hR2.mono (m' := m + 3) (by omega)
      go_wp2
      go_ret
      exact ⟨_, _, _, _, rfl, HT.out, by omega, hR3, hcA⟩
    · have n1 : (y2 == 1) = false := by simp; omega
      by_cases a2 : y2 = 2
      · subst a2
        have j1 : decide (0 < xs.length) = true := decide_eq_true (by omega)
        (go_wp2_with fail; (with_reducible refine (pick g (m + 1) _ _ hR2 (by omega) (by omega)).mono ?_); rintro e w3 ⟨y3, rfl, hy3, hR3, hc3⟩)
        have b3 := picked_lt hy3 (by omega)
        obtain ⟨q, rfl⟩ := Int.eq_ofNat_of_zero_le b3.1
        have hq : q < xs.length := by omega
        have s3 := hc3.size
        clear hy3
        (go_wp2_with fail; (refine (oneLit g (m + 2) [-1, nn, 0, 1] 4 _ _ (hR3.no ((Chg.refl _ _).alloc _)) (by omega) (heap_top rfl) rfl rfl (by omega) (by omega) (by omega)).mono ?_); rintro e w4 ⟨x, rfl, hx, hR4, hc4⟩)
        have s4 := hc4.size
        simp only [World.size_alloc] at s4
        have HO4 := hid (OSl.keep ((OSl.keep HO2.out hc3 (fun j h1 _ (e : j = g) => by omega)).alloc (.cells #[.int .i64 (-1), .int .i64 nn, .int .i64 0, .int .i64 1] 3)) hc4 (fun j h1 _ (e : j = g) => by omega))
        obtain ⟨u, hu⟩ : ∃ u, xs[q]? = some u := ⟨_, List.getElem?_eq_getElem hq⟩
        have k1 := HO4.out.cell (fun _ => rfl) (i := 0) hu rfl
        have k1' : w4.cell? ⟨g1, q, none⟩ = some (.int .i64 u) := by simpa using k1
        have k2 : w4.frozen? ⟨g1, q, none⟩ = false := HO4.out.free q
        have HO5 := hid (show OInts (w4.setCell ⟨g1, q, none⟩ (.int .i64 x)) w.heap.size (.slice (some ⟨g1, 0, none⟩) xs.length c1) (xs.set q x) from HO4.out.set1 (fun _ => rfl) q x (.int .i64 x) rfl)
        have HT := hid (tints_of HO5.out)
        have hR5 : Rd (w4.setCell ⟨g1, q, none⟩ (.int .i64 x)) B g (m + 3) := hR4.keep (S := fun j => j = g1) ((Chg.refl _ _).setCell _ (fun _ => rfl)) (fun j h1 h2 => by have := hR4.base; omega) (fun h => by omega)
        have hcE : Chg (At g) w (w4.setCell ⟨g1, q, none⟩ (.int .i64 x)) := by (repeat (first | (with_reducible exact Chg.refl _ _) | ((with_reducible refine Chg.setNew ?_ _ ?_); rotate_left; first | (dsimp only; omega) | (simp; done) | (simp; omega)) | (with_reducible refine Chg.alloc ?_ _) | (with_reducible refine Chg.drew ?_) | (with_reducible refine Chg.drewN ?_ _) | (with_reducible refine Chg.no ?_ (by assumption)) | (with_reducible refine Chg.and_ ?_ (by assumption)) | ((with_reducible refine Chg.at_ ?_ (by assumption) ?_); rotate_left; (try simp only [World.size_alloc]); omega)))
        clear k1 hx hu
        go_wp2
        go_ret
        exact ⟨_, _, _, _, rfl, HT.out, by omega, hR5, hcE⟩
      · have n2 : (y2 == 2) = false := by simp; omega
        have HT := hid (tints_of HO2.out)
        have hR3 := hR2.mono (m' := m + 3) (by omega)
        go_wp2
        go_ret
        exact ⟨_, _, _, _, rfl, HT.out, by omega, hR3, hcA⟩
set_option maxHeartbeats 1000000 in
theorem anyVector {B : Nat} (g m : Nat) (w : World) (hR : Rd w B g m) (hm : m < 700000) : Calls Try.prog 45 #[.pointer (some ⟨g, 0, none⟩)] w (DrAny B g (m + 16) w) := by
  have hg := hR.lt
  go_enter Try.func45, Try.ntmps45
  (go_wp2_with fail; (with_reducible refine (pick g m _ _ hR (by omega) (by omega)).mono ?_); rintro e w1 ⟨y1, rfl, hy1, hR1, hc1⟩)
  have s1 := hc1.size
  by_cases a0 : y1 = 0
  · subst a0
    (go_wp2_with fail; (with_reducible refine (someVector g (m + 1) _ hR1 (by omega)).mono ?_); rintro e w2 ⟨v, xs, rfl, ho, hvb, hR2, hc2⟩)
    have s2 := hc2.size
    have hl4 : 2 ≤ xs.length ∧ xs.length ≤ 100 := by have := vecB_len hvb; omega
    clear hvb
    obtain ⟨A2, c2, rfl, hr2⟩ := OInts.read ho
    have HR := hid hr2
    clear ho hr2
    (go_wp2_with fail; (with_reducible refine (spoil g (m + 1 + 12) _ _ _ _ _ xs 101 _ hR2 (by omega) HR.out (by omega) (by omega)).mono ?_); rintro e w3 ⟨A3, n3, c3, zs, rfl, ht3, hn3, hR3, hc3⟩)
    have HT := hid (ht3.wide (lo' := w.heap.size) (by omega) (Nat.le_refl _))
    clear ht3
    go_wp2
    go_ret
    exact ⟨_, _, _, _, rfl, HT.out, hn3, hR3, by (repeat (first | (with_reducible exact Chg.refl _ _) | ((with_reducible refine Chg.setNew ?_ _ ?_); rotate_left; first | (dsimp only; omega) | (simp; done) | (simp; omega)) | (with_reducible refine Chg.alloc ?_ _) | (with_reducible refine Chg.drew ?_) | (with_reducible refine Chg.drewN ?_ _) | (with_reducible refine Chg.no ?_ (by assumption)) | (with_reducible refine Chg.and_ ?_ (by assumption)) | ((with_reducible refine Chg.at_ ?_ (by assumption) ?_); rotate_left; (try simp only [World.size_alloc]); omega)))⟩
  · have n0 : (y1 == 0) = false := by simp; omega
    (go_wp2_with fail; (with_reducible refine (someVector g (m + 1) _ hR1 (by omega)).mono ?_); rintro e w2 ⟨v, xs, rfl, ho, hvb, hR2, hc2⟩)
    have hl4 : 2 ≤ xs.length ∧ xs.length ≤ 100 := by have := vecB_len hvb; omega
    clear hvb
    obtain ⟨A2, c2, rfl, ht2⟩ := OInts.typed ho
    have HT := hid (ht2.wide (lo' := w.heap.size) (by omega) (Nat.le_refl _))
    have hR3 := hR2.mono (m' := m + 16) (by omega)
    clear ho ht2
    go_wp2
    go_ret
    exact ⟨_, _, _, _, rfl, HT.out, by omega, hR3, by (repeat (first | (with_reducible exact Chg.refl _ _) | ((with_reducible refine Chg.setNew ?_ _ ?_); rotate_left; first | (dsimp only; omega) | (simp; done) | (simp; omega)) | (with_reducible refine Chg.alloc ?_ _) | (with_reducible refine Chg.drew ?_) | (with_reducible refine Chg.drewN ?_ _) | (with_reducible refine Chg.no ?_ (by assumption)) | (with_reducible refine Chg.and_ ?_ (by assumption)) | ((with_reducible refine Chg.at_ ?_ (by assumption) ?_); rotate_left; (try simp only [World.size_alloc]); omega)))⟩
end Go.Proofs.Ytifdcdpdihfbjaa
