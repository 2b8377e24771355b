/- The drawn arguments: items and stores. -/
import Derived.Test.YtifdcdpdihfbjaaDraw1
import Derived.Test.YtifdcdpdihfbjaaPut
namespace Go.Proofs.Ytifdcdpdihfbjaa
open Go.RowKit
set_option linter.unusedVariables false
set_option linter.unusedSimpArgs false
/-- a valid item has been drawn -/
def DrItem (B g m : Nat) (w : World) (e : Ending) (w' : World) : Prop := ∃ (A : Option Addr) (n c : Nat) (key tags : Int) (xs : List Int), e = .returned (.agg #[.int .i64 key, .slice A n c, .int .i64 tags]) ∧ TInts w' w.heap.size w'.heap.size A n c xs ∧ itemB ⟨key, xs, tags⟩ = true ∧ Rd w' B g (m + 14) ∧ Chg (At g) w w'
set_option maxHeartbeats 1000000 in
theorem someItem {B : Nat} (g m : Nat) (w : World) (hR : Rd w B g m) (hm : m < 700000) : Calls Try.prog 113 #[.pointer (some ⟨g, 0, none⟩)] w (DrItem B g m w) := by
  have hg := hR.lt
  have BX := hid (Box.new (w := w) [.int .i64 0, .slice none 0 0, .int .i64 0] 36 rfl)
  have hR0 := hR.no ((Chg.refl No w).alloc (.cells #[.int .i64 0, .slice none 0 0, .int .i64 0] 36))
  clear hR
  go_enter Try.func113, Try.ntmps113
  (go_wp2_with fail; (with_reducible refine (pick g m _ _ hR0 (by omega) (by omega)).mono ?_); rintro e w1 ⟨y1, rfl, hy1, hR1, hc1⟩)
  have by1 := picked_lt hy1 (by omega)
  have by1a := by1.1
  have by1b := by1.2
  (go_wp2_with fail; (with_reducible refine (someVector g (m + 1) _ hR1 (by omega)).mono ?_); rintro e w2 ⟨v, xs, rfl, ho, hvb, hR2, hc2⟩)
  have HO := hid ho
  have Hvb := hid hvb
  obtain ⟨A, c, rfl, ht⟩ := OInts.typed HO.out
  have HT := hid ht
  clear ho hvb ht
  (go_wp2_with fail; (with_reducible refine (pick g (m + 13) _ _ hR2 (by omega) (by omega)).mono ?_); rintro e w3 ⟨y3, rfl, hy3, hR3, hc3⟩)
  have by3 := picked_lt hy3 (by omega)
  have by3a := by3.1
  have by3b := by3.2
  have s1 := hc1.size
  have s2 := hc2.size
  have s3 := hc3.size
  simp only [World.size_alloc] at s1
  have B3 := (((BX.out.keep hc1 (fun (h : _ = _) => by omega)).keep hc2 (fun (h : _ = _) => by omega)).keep hc3 (fun (h : _ = _) => by omega))
  have q3 := B3.f3
  go_wp2
  (refine bodyPost_ret (by simp [results, Try.results113, go_sem, *]; rfl) rfl ?_)
  refine ⟨_, _, _, _, _, xs, rfl, ?_, ?_, ?_, ?_⟩
  · refine TInts.wide (TInts.keep (w := w3) (S := fun k => k = w.heap.size) (TInts.keep HT.out hc3 (fun k h1 h2 (h3 : k = g) => by omega)) ?_ (fun k h1 h2 h3 => by omega)) (by omega) ?_
    · (repeat (first | (with_reducible exact Chg.refl _ _) | (with_reducible refine Chg.drew ?_) | ((with_reducible refine Chg.setCell ?_ _ ?_); rotate_left; (intro _; rfl))))
    · simp; omega
  · rw [itemB_iff]
    exact ⟨⟨by simp only []; omega, by simp only []; omega⟩, Hvb.out, ⟨by simp only []; omega, by simp only []; omega⟩⟩
  · refine Rd.keep (S := fun k => k = w.heap.size) (w := w3) hR3 ?_ (fun k h1 h2 => by have := hR3.base; omega) (fun h => by omega)
    (repeat (first | (with_reducible exact Chg.refl _ _) | (with_reducible refine Chg.drew ?_) | ((with_reducible refine Chg.setCell ?_ _ ?_); rotate_left; (intro _; rfl))))
  · (repeat (first | (with_reducible exact Chg.refl _ _) | ((with_reducible refine Chg.setNew ?_ _ ?_); rotate_left; first | (dsimp only; omega) | (simp; done) | (simp; omega)) | (with_reducible refine Chg.alloc ?_ _) | (with_reducible refine Chg.drew ?_) | (with_reducible refine Chg.drewN ?_ _) | (with_reducible refine Chg.no ?_ (by assumption)) | (with_reducible refine Chg.and_ ?_ (by assumption)) | ((with_reducible refine Chg.at_ ?_ (by assumption) ?_); rotate_left; (try simp only [World.size_alloc]); omega)))
/-- a valid store has been drawn -/
def DrStore (B g m : Nat) (w : World) (e : Ending) (w' : World) : Prop := ∃ (v : Value) (xs : List It), e = .returned v ∧ OItems w' w.heap.size v xs ∧ storeB xs = true ∧ Rd w' B g (m + 281) ∧ Chg (At g) w w'
theorem storeB_nil : storeB [] = true := rfl
set_option maxHeartbeats 2000000 in
theorem someStore {B : Nat} (g m : Nat) (w : World) (hR : Rd w B g m) (hm : m < 600000) : Calls Try.prog 83 #[.pointer (some ⟨g, 0, none⟩)] w (DrStore B g m w) := by
  have hg := hR.lt
  have hR0 := hR.no ((Chg.refl No w).alloc (.cells #[] 36))
  have HO0 := hid (show OItems (w.alloc (.cells #[] 36)) w.heap.size (.slice (some ⟨w.heap.size, 0, none⟩) 0 0) [] from
    ⟨[], rfl, OSl.lit (enc := cItem) (n := 0) [] [] (fun _ => rfl) rfl rfl (by omega) (Nat.le_refl _) (heap_top rfl), fun p hp => by cases hp⟩)
  clear hR
  go_enter Try.func83, Try.ntmps83
  (go_wp2_with fail; (refine (oneLit g m [4, 6, 8, 3, 1, 0, 20, 12] 8 _ _ (hR0.no ((Chg.refl _ _).alloc _)) (by omega) (heap_top (by simp)) rfl rfl (by omega) (by omega) (by omega)).mono ?_); rintro e w1 ⟨x, rfl, hx, hR1, hc1⟩)
  have hxb : 0 ≤ x ∧ x ≤ 20 := by
    simp only [List.mem_cons, List.not_mem_nil, or_false] at hx
    omega
  have hc01 : Chg (At g) w w1 := by (repeat (first | (with_reducible exact Chg.refl _ _) | ((with_reducible refine Chg.setNew ?_ _ ?_); rotate_left; first | (dsimp only; omega) | (simp; done) | (simp; omega)) | (with_reducible refine Chg.alloc ?_ _) | (with_reducible refine Chg.drew ?_) | (with_reducible refine Chg.drewN ?_ _) | (with_reducible refine Chg.no ?_ (by assumption)) | (with_reducible refine Chg.and_ ?_ (by assumption)) | ((with_reducible refine Chg.at_ ?_ (by assumption) ?_); rotate_left; (try simp only [World.size_alloc]); omega)))
  have s1 := hc1.size
  simp only [World.size_alloc] at s1
  have HO1 := hid (OItems.keep (HO0.out.no ((Chg.refl No _).alloc (.cells #[.int .i64 4, .int .i64 6, .int .i64 8, .int .i64 3, .int .i64 1, .int .i64 0, .int .i64 20, .int .i64 12] 3))) hc1 (fun k h1 _ (h2 : k = g) => by omega))
  clear hx HO0 hR0
  obtain ⟨q, rfl⟩ := Int.eq_ofNat_of_zero_le hxb.1
  have hq : q ≤ 20 := by omega
  clear hxb
  go_wp2
  go_loopw [3, 4] (fun v i wr => ∃ k : Nat, k ≤ q ∧ i = .int .i64 k ∧ (∃ xs : List It, Hid (storeB xs = true) ∧ Hid (OItems wr w.heap.size v xs)) ∧ Rd wr B g (m + 1 + 14 * (q - k)) ∧ Chg (At g) w wr) (fun _ i _ => (intOf i).toNat)
  case atStart => exact ⟨q, Nat.le_refl _, rfl, ⟨[], storeB_nil, HO1⟩, by rw [Nat.sub_self]; exact hR1, hc01⟩
  case round =>
    obtain ⟨k, hk, rfl, ⟨xs, HS, HO⟩, hR, hc⟩ := hrel
    obtain ⟨wo, rfl⟩ : ∃ W : World, W = wr := ⟨_, rfl⟩
    have s2 := hc.size
    by_cases h0 : 0 < k
    · obtain ⟨A9, c9, hv9, hr9⟩ := OItems.read HO.out
      subst hv9
      have hl16 := storeB_len HS.out
      (go_wp2_with fail; (with_reducible refine (someItem g (m + 1 + 14 * (q - k)) _ hR (by omega)).mono ?_); rintro e w2 ⟨A, n', c', key, tags, xv, rfl, ht, hib, hR2, hc2⟩)
      have HR := hid (hr9.keep hc2 (fun j h1 h2 (h3 : j = g) => by omega))
      have HT := hid ht.1
      have s3 := hc2.size
      clear hr9 ht hib
      (go_wp2_with fail; (with_reducible refine (sPutItem _ _ _ _ _ xs _ _ _ _ _ key tags xv _ HR.out HT.out (by omega)).mono ?_); rintro e w3 ⟨v3, rfl, hc3, hy, hn⟩)
      have hc03 : Chg (At g) w w3 := by (repeat (first | (with_reducible exact Chg.refl _ _) | ((with_reducible refine Chg.setNew ?_ _ ?_); rotate_left; first | (dsimp only; omega) | (simp; done) | (simp; omega)) | (with_reducible refine Chg.alloc ?_ _) | (with_reducible refine Chg.drew ?_) | (with_reducible refine Chg.drewN ?_ _) | (with_reducible refine Chg.no ?_ (by assumption)) | (with_reducible refine Chg.and_ ?_ (by assumption)) | ((with_reducible refine Chg.at_ ?_ (by assumption) ?_); rotate_left; (try simp only [World.size_alloc]); omega)))
      have hR3 : Rd w3 B g (m + 1 + 14 * (q - (k - 1))) := by
        have h9 := hR2.no hc3
        rw [show m + 1 + 14 * (q - (k - 1)) = m + 1 + 14 * (q - k) + 14 from by omega]
        exact h9
      cases hb : putB xs ⟨key, xv, tags⟩ with
      | true =>
        have hOn := hy hb
        have HP := hid (show storeB (putF xs ⟨key, xv, tags⟩) = true from by
          unfold putB at hb
          simp only [Bool.and_eq_true] at hb
          exact hb.2.2)
        have HO3 := hid (OItems.down hOn (base' := w.heap.size) (by omega))
        clear hOn hy hn hb
        go_wp2
        go_roundw
        case rel => exact ⟨k - 1, by omega, by congr 1; omega, ⟨_, HP, HO3⟩, hR3, hc03⟩
        case measure => simp [intOf]; omega
      | false =>
        have HO3 := hid ((OItems.keep HO.out hc2 (fun j h1 h2 (h3 : j = g) => by omega)).no hc3)
        clear hy hn hb
        go_wp2
        go_roundw
        case rel => exact ⟨k - 1, by omega, by congr 1; omega, ⟨_, HS, HO3⟩, hR3, hc03⟩
        case measure => simp [intOf]; omega
    · have hk0 : k = 0 := by omega
      subst hk0
      have hRe := hR.mono (m' := m + 281) (by omega)
      go_wp2
      go_ret
      exact ⟨_, xs, rfl, HO.out, HS.out, hRe, hc⟩
end Go.Proofs.Ytifdcdpdihfbjaa
