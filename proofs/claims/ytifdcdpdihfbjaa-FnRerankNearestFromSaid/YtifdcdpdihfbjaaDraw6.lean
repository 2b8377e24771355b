/- The drawn arguments: items and stores that may not be valid. -/
import Derived.Test.YtifdcdpdihfbjaaDraw2
import Derived.Test.YtifdcdpdihfbjaaDraw5
namespace Go.Proofs.Ytifdcdpdihfbjaa
open Go.RowKit
set_option linter.unusedVariables false
set_option linter.unusedSimpArgs false
/-- an item has been drawn -/
def DrItemA (B g m : Nat) (w : World) (e : Ending) (w' : World) : Prop := ∃ (A : Option Addr) (n c : Nat) (key tags : Int) (xs : List Int), e = .returned (.agg #[.int .i64 key, .slice A n c, .int .i64 tags]) ∧ TInts w' w.heap.size w'.heap.size A n c xs ∧ n ≤ 101 ∧ Rd w' B g m ∧ Chg (At g) w w'
set_option maxHeartbeats 2000000 in
theorem anyItem {B : Nat} (g m : Nat) (w : World) (hR : Rd w B g m) (hm : m < 600000) : Calls Try.prog 84 #[.pointer (some ⟨g, 0, none⟩)] w (DrItemA B g (m + 31) w) := by
  have hg := hR.lt
  have BX := hid (Box.new (w := w) [.int .i64 0, .slice none 0 0, .int .i64 0] 36 rfl)
  have hR0 := hR.no ((Chg.refl No w).alloc (.cells #[.int .i64 0, .slice none 0 0, .int .i64 0] 36))
  clear hR
  go_enter Try.func84, Try.ntmps84
  (go_wp2_with fail; (with_reducible refine (someItem g m _ hR0 (by omega)).mono ?_); rintro e w1 ⟨A1, n1, c1, key, tags, xs, rfl, ht1, hib, hR1, hc1⟩)
  have hn1 : n1 ≤ 101 := by have h9 : xs.length = n1 := ht1.1.len; have h8 := vecB_len ((itemB_iff _).1 hib).2.1; simp only [] at h8; omega
  have s1 := hc1.size
  simp only [World.size_alloc] at s1
  have HT1 := hid (ht1.wide (lo' := w.heap.size + 1) (by simp) (Nat.le_refl _))
  have B1 := hid (Box.new (w := w1) [.int .i64 key, .slice A1 n1 c1, .int .i64 tags] 36 rfl)
  clear ht1 hib
  (go_wp2_with fail; (with_reducible refine (pick g (m + 14) _ _ (hR1.no (by (repeat (first | (with_reducible exact Chg.refl _ _) | ((with_reducible refine Chg.setNew ?_ _ ?_); rotate_left; first | (dsimp only; omega) | (simp; done) | (simp; omega)) | (with_reducible refine Chg.alloc ?_ _) | (with_reducible refine Chg.drew ?_) | (with_reducible refine Chg.drewN ?_ _) | (with_reducible refine Chg.no ?_ (by assumption)) | (with_reducible refine Chg.and_ ?_ (by assumption)) | ((with_reducible refine Chg.at_ ?_ (by assumption) ?_); rotate_left; (try simp only [World.size_alloc]); omega))))) (by omega) (by omega)).mono ?_); rintro e w2 ⟨y2, rfl, hy2, hR2, hc2⟩)
  have s2 := hc2.size
  simp only [World.size_alloc] at s2
  have hcA : Chg (At g) w w2 := by (repeat (first | (with_reducible exact Chg.refl _ _) | ((with_reducible refine Chg.setNew ?_ _ ?_); rotate_left; first | (dsimp only; omega) | (simp; done) | (simp; omega)) | (with_reducible refine Chg.alloc ?_ _) | (with_reducible refine Chg.drew ?_) | (with_reducible refine Chg.drewN ?_ _) | (with_reducible refine Chg.no ?_ (by assumption)) | (with_reducible refine Chg.and_ ?_ (by assumption)) | ((with_reducible refine Chg.at_ ?_ (by assumption) ?_); rotate_left; (try simp only [World.size_alloc]); omega)))
  have BX2 := hid ((((BX.out.keep hc1 (fun (h : _ = _) => by omega)).no ((Chg.refl No w1).alloc (.cells #[.int .i64 key, .slice A1 n1 c1, .int .i64 tags] 36))).keep hc2 (fun (h : _ = _) => by omega)))
  have B2 := hid (B1.out.keep hc2 (fun (h : _ = _) => by omega))
  have HT2 := hid ((HT1.out.keep ((Chg.refl No w1).alloc (.cells #[.int .i64 key, .slice A1 n1 c1, .int .i64 tags] 36)) (fun _ _ _ e => e)).keep hc2 (fun k h1 h2 (h3 : k = g) => by omega))
  clear BX B1 HT1 hR0 hR1
  by_cases a0 : y2 = 0
  · subst a0
    (go_wp2_with fail; (refine (oneLit g (m + 15) [0, 99, 100] 3 _ _ (hR2.no ((Chg.refl _ _).alloc _)) (by omega) (heap_top rfl) rfl rfl (by omega) (by omega) (by omega)).mono ?_); rintro e w3 ⟨x, rfl, hx, hR3, hc3⟩)
    have s3 := hc3.size
    simp only [World.size_alloc] at s3
    have BX5 := hid ((BX2.out.no ((Chg.refl No w2).alloc (.cells #[.int .i64 0, .int .i64 99, .int .i64 100] 3))).keep hc3 (fun (h : _ = _) => by omega))
    have B5 := hid ((B2.out.no ((Chg.refl No w2).alloc (.cells #[.int .i64 0, .int .i64 99, .int .i64 100] 3))).keep hc3 (fun (h : _ = _) => by omega))
    have HT5 := hid ((HT2.out.keep ((Chg.refl No w2).alloc (.cells #[.int .i64 0, .int .i64 99, .int .i64 100] 3)) (fun _ _ _ e => e)).keep hc3 (fun k h1 h2 (h3 : k = g) => by omega))
    have hR5 := hR3.mono (m' := m + 31) (by omega)
    clear hx hR3 hR2 BX2 B2 HT2
    have q5 := BX5.out.f3
    have q6 := B5.out.f3
    have q7 := BX5.out.lt
    have q8 := B5.out.lt
    go_wp2
    (refine bodyPost_ret (by simp [results, Try.results84, go_sem, *]; rfl) rfl ?_)
    refine ⟨_, _, _, _, _, xs, rfl, ?_, ?_, ?_, ?_⟩
    · refine TInts.wide (TInts.keep (w := w3) (S := fun k => k = w.heap.size ∨ k = w1.heap.size) HT5.out ?_ (fun k h1 h2 h3 => by rcases h3 with h3 | h3 <;> omega)) (by omega) ?_
      · (repeat (first | (with_reducible exact Chg.refl _ _) | (with_reducible refine Chg.drew ?_) | ((with_reducible refine Chg.setCell ?_ _ ?_); rotate_left; (intro _; first | exact .inl rfl | exact .inr rfl))))
      · first | (simp; done) | (simp; omega)
    · omega
    · refine Rd.keep (S := fun k => k = w.heap.size ∨ k = w1.heap.size) (w := w3) hR5 ?_ (fun k h1 h2 => by have := hR5.base; rcases h2 with h2 | h2 <;> omega) (fun h => by rcases h with h | h <;> omega)
      (repeat (first | (with_reducible exact Chg.refl _ _) | (with_reducible refine Chg.drew ?_) | ((with_reducible refine Chg.setCell ?_ _ ?_); rotate_left; (intro _; first | exact .inl rfl | exact .inr rfl))))
    · (repeat (first | (with_reducible exact Chg.refl _ _) | ((with_reducible refine Chg.setNew ?_ _ ?_); rotate_left; first | (dsimp only; omega) | (simp; done) | (simp; omega)) | (with_reducible refine Chg.alloc ?_ _) | (with_reducible refine Chg.drew ?_) | (with_reducible refine Chg.drewN ?_ _) | (with_reducible refine Chg.no ?_ (by assumption)) | (with_reducible refine Chg.and_ ?_ (by assumption)) | ((with_reducible refine Chg.at_ ?_ (by assumption) ?_); rotate_left; (try simp only [World.size_alloc]); omega)))
  · have n0 : (y2 == 0) = false := by simp; omega
    by_cases a1 : y2 = 1
    · subst a1
      (go_wp2_with fail; (with_reducible refine (anyVector g (m + 15) _ hR2 (by omega)).mono ?_); rintro e w3 ⟨A3, n3, c3, zs, rfl, ht3, hn3, hR3, hc3⟩)
      have s3 := hc3.size
      have BX5 := hid (BX2.out.keep hc3 (fun (h : _ = _) => by omega))
      have B5 := hid (B2.out.keep hc3 (fun (h : _ = _) => by omega))
      have HT5 := hid ht3
      have hR5 := hR3.mono (m' := m + 31) (by omega)
      clear ht3 hR3 hR2 BX2 B2 HT2
      have q5 := BX5.out.f3
      have q6 := B5.out.f3
      have q7 := BX5.out.lt
      have q8 := B5.out.lt
      go_wp2
      (refine bodyPost_ret (by simp [results, Try.results84, go_sem, *]; rfl) rfl ?_)
      refine ⟨_, _, _, _, _, zs, rfl, ?_, ?_, ?_, ?_⟩
      · refine TInts.wide (TInts.keep (w := w3) (S := fun k => k = w.heap.size ∨ k = w1.heap.size) HT5.out ?_ (fun k h1 h2 h3 => by rcases h3 with h3 | h3 <;> omega)) (by omega) ?_
        · (repeat (first | (with_reducible exact Chg.refl _ _) | (with_reducible refine Chg.drew ?_) | ((with_reducible refine Chg.setCell ?_ _ ?_); rotate_left; (intro _; first | exact .inl rfl | exact .inr rfl))))
        · first | (simp; done) | (simp; omega)
      · omega
      · refine Rd.keep (S := fun k => k = w.heap.size ∨ k = w1.heap.size) (w := w3) hR5 ?_ (fun k h1 h2 => by have := hR5.base; rcases h2 with h2 | h2 <;> omega) (fun h => by rcases h with h | h <;> omega)
        (repeat (first | (with_reducible exact Chg.refl _ _) | (with_reducible refine Chg.drew ?_) | ((with_reducible refine Chg.setCell ?_ _ ?_); rotate_left; (intro _; first | exact .inl rfl | exact .inr rfl))))
      · (repeat (first | (with_reducible exact Chg.refl _ _) | ((with_reducible refine Chg.setNew ?_ _ ?_); rotate_left; first | (dsimp only; omega) | (simp; done) | (simp; omega)) | (with_reducible refine Chg.alloc ?_ _) | (with_reducible refine Chg.drew ?_) | (with_reducible refine Chg.drewN ?_ _) | (with_reducible refine Chg.no ?_ (by assumption)) | (with_reducible refine Chg.and_ ?_ (by assumption)) | ((with_reducible refine Chg.at_ ?_ (by assumption) ?_); rotate_left; (try simp only [World.size_alloc]); omega)))
    · have n1' : (y2 == 1) = false := by simp; omega
      by_cases a2 : y2 = 2
      · subst a2
        (go_wp2_with fail; (refine (oneLit g (m + 15) [-1, 16] 2 _ _ (hR2.no ((Chg.refl _ _).alloc _)) (by omega) (heap_top rfl) rfl rfl (by omega) (by omega) (by omega)).mono ?_); rintro e w3 ⟨x, rfl, hx, hR3, hc3⟩)
        have s3 := hc3.size
        simp only [World.size_alloc] at s3
        have BX5 := hid ((BX2.out.no ((Chg.refl No w2).alloc (.cells #[.int .i64 (-1), .int .i64 16] 3))).keep hc3 (fun (h : _ = _) => by omega))
        have B5 := hid ((B2.out.no ((Chg.refl No w2).alloc (.cells #[.int .i64 (-1), .int .i64 16] 3))).keep hc3 (fun (h : _ = _) => by omega))
        have HT5 := hid ((HT2.out.keep ((Chg.refl No w2).alloc (.cells #[.int .i64 (-1), .int .i64 16] 3)) (fun _ _ _ e => e)).keep hc3 (fun k h1 h2 (h3 : k = g) => by omega))
        have hR5 := hR3.mono (m' := m + 31) (by omega)
        clear hx hR3 hR2 BX2 B2 HT2
        have q5 := BX5.out.f3
        have q6 := B5.out.f3
        have q7 := BX5.out.lt
        have q8 := B5.out.lt
        go_wp2
        (refine bodyPost_ret (by simp [results, Try.results84, go_sem, *]; rfl) rfl ?_)
        refine ⟨_, _, _, _, _, xs, rfl, ?_, ?_, ?_, ?_⟩
        · refine TInts.wide (TInts.keep (w := w3) (S := fun k => k = w.heap.size ∨ k = w1.heap.size) HT5.out ?_ (fun k h1 h2 h3 => by rcases h3 with h3 | h3 <;> omega)) (by omega) ?_
          · (repeat (first | (with_reducible exact Chg.refl _ _) | (with_reducible refine Chg.drew ?_) | ((with_reducible refine Chg.setCell ?_ _ ?_); rotate_left; (intro _; first | exact .inl rfl | exact .inr rfl))))
          · first | (simp; done) | (simp; omega)
        · omega
        · refine Rd.keep (S := fun k => k = w.heap.size ∨ k = w1.heap.size) (w := w3) hR5 ?_ (fun k h1 h2 => by have := hR5.base; rcases h2 with h2 | h2 <;> omega) (fun h => by rcases h with h | h <;> omega)
          (repeat (first | (with_reducible exact Chg.refl _ _) | (with_reducible refine Chg.drew ?_) | ((with_reducible refine Chg.setCell ?_ _ ?_); rotate_left; (intro _; first | exact .inl rfl | exact .inr rfl))))
        · (repeat (first | (with_reducible exact Chg.refl _ _) | ((with_reducible refine Chg.setNew ?_ _ ?_); rotate_left; first | (dsimp only; omega) | (simp; done) | (simp; omega)) | (with_reducible refine Chg.alloc ?_ _) | (with_reducible refine Chg.drew ?_) | (with_reducible refine Chg.drewN ?_ _) | (with_reducible refine Chg.no ?_ (by assumption)) | (with_reducible refine Chg.and_ ?_ (by assumption)) | ((with_reducible refine Chg.at_ ?_ (by assumption) ?_); rotate_left; (try simp only [World.size_alloc]); omega)))
      · have n2 : (y2 == 2) = false := by simp; omega
        have BX5 := BX2
        have B5 := B2
        have HT5 := HT2
        have hR5 := hR2.mono (m' := m + 31) (by omega)
        clear BX2 B2 HT2 hR2
        have q5 := BX5.out.f3
        have q6 := B5.out.f3
        have q7 := BX5.out.lt
        have q8 := B5.out.lt
        go_wp2
        (refine bodyPost_ret (by simp [results, Try.results84, go_sem, *]; rfl) rfl ?_)
        refine ⟨_, _, _, _, _, xs, rfl, ?_, ?_, ?_, ?_⟩
        · refine TInts.wide (TInts.keep (w := w2) (S := fun k => k = w.heap.size ∨ k = w1.heap.size) HT5.out ?_ (fun k h1 h2 h3 => by rcases h3 with h3 | h3 <;> omega)) (by omega) ?_
          · (repeat (first | (with_reducible exact Chg.refl _ _) | (with_reducible refine Chg.drew ?_) | ((with_reducible refine Chg.setCell ?_ _ ?_); rotate_left; (intro _; first | exact .inl rfl | exact .inr rfl))))
          · first | (simp; done) | (simp; omega)
        · omega
        · refine Rd.keep (S := fun k => k = w.heap.size ∨ k = w1.heap.size) (w := w2) hR5 ?_ (fun k h1 h2 => by have := hR5.base; rcases h2 with h2 | h2 <;> omega) (fun h => by rcases h with h | h <;> omega)
          (repeat (first | (with_reducible exact Chg.refl _ _) | (with_reducible refine Chg.drew ?_) | ((with_reducible refine Chg.setCell ?_ _ ?_); rotate_left; (intro _; first | exact .inl rfl | exact .inr rfl))))
        · (repeat (first | (with_reducible exact Chg.refl _ _) | ((with_reducible refine Chg.setNew ?_ _ ?_); rotate_left; first | (dsimp only; omega) | (simp; done) | (simp; omega)) | (with_reducible refine Chg.alloc ?_ _) | (with_reducible refine Chg.drew ?_) | (with_reducible refine Chg.drewN ?_ _) | (with_reducible refine Chg.no ?_ (by assumption)) | (with_reducible refine Chg.and_ ?_ (by assumption)) | ((with_reducible refine Chg.at_ ?_ (by assumption) ?_); rotate_left; (try simp only [World.size_alloc]); omega)))
end Go.Proofs.Ytifdcdpdihfbjaa
