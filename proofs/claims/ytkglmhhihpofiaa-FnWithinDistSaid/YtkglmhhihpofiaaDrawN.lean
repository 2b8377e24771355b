/- The drawn arguments: a store, a kind of distances, a vector and a count; .. and a filter; .. and a distance. -/
import Derived.Test.YtkglmhhihpofiaaDraw7
import Derived.Test.YtkglmhhihpofiaaDrawK
import Derived.OwnWalk
namespace Go.Proofs.Ytkglmhhihpofiaa
open Go.RowKit
set_option linter.unusedVariables false
set_option linter.unusedSimpArgs false
theorem Code.up {w : World} {B B' : Nat} {A : Option Addr} {n c : Nat} (h : Code w B A n c) (hB : B ≤ B') : Code w B' A n c :=
  ⟨h.1, h.2.1, fun hn => by
    obtain ⟨b, o, hA, hb, hx⟩ := h.2.2 hn
    exact ⟨b, o, hA, Nat.lt_of_lt_of_le hb hB, hx⟩⟩
theorem nil_pos {xs : List It} (h : ¬ 0 < xs.length) : decide (0 < xs.length) = false := decide_eq_false h
theorem k_of {x : Int} (h : x ∈ [1, 2, 3, 5, 16, 4, 0, 17]) : 0 ≤ x ∧ x ≤ 17 := by
  simp only [List.mem_cons, List.not_mem_nil, or_false] at h
  omega
theorem kind_of {x : Int} (h : x ∈ [1, 2, 3, 4, 1, 2, 3, 4, 1, 2, 0, 5]) : 0 ≤ x ∧ x ≤ 5 := by
  simp only [List.mem_cons, List.not_mem_nil, or_false] at h
  omega
/-- a store, a kind, a vector and a count have been drawn -/
def DrawnN (w : World) (e : Ending) (w' : World) : Prop := ∃ (v : Value) (xs : List It) (kind : Int) (A : Option Addr) (n c : Nat) (at_ : List Int) (k : Int), e = .returned (.tuple #[v, .int .i64 kind, .slice A n c, .int .i64 k]) ∧ OItems w' w.heap.size v xs ∧ xs.length ≤ 17 ∧ RInts w' w.heap.size w'.heap.size A n c at_ ∧ n ≤ 101 ∧ (0 ≤ kind ∧ kind ≤ 5) ∧ (0 ≤ k ∧ k ≤ 17) ∧ Chg No w w'
set_option maxHeartbeats 2000000 in
theorem drawNearest (A : Option Addr) (n c : Nat) (w : World) (hC : Code w w.heap.size A n c) : Calls Try.prog 11 #[.slice A n c] w (DrawnN w) := by
  go_enter Try.func11, Try.ntmps11
  (go_wp2_with fail; (with_reducible refine (newReader w.heap.size A n c _ hC (Nat.le_refl _)).mono ?_); rintro e w1 ⟨rfl, hR1, hc1⟩)
  have s1 := hc1.size
  have l1 := hR1.lt
  (go_wp2_with fail; (with_reducible refine (anyStore _ 0 _ hR1 (by omega)).mono ?_); rintro e w2 ⟨v2, xs, rfl, ho2, hl2, hb2, hR2, hc2⟩)
  have s2 := hc2.size
  have HB2 := hid hb2
  have HI2 := hid ho2
  obtain ⟨A2, c2, hv2, hr2⟩ := OItems.read ho2
  subst hv2
  have hm2 := hr2.cap; have hk2 := hr2.le
  have h02 : Chg No w w2 := hc1.trans hc2 (fun i hi (h : i = _) => by omega)
  clear hr2 ho2 hb2 hR1 hc1
  (go_wp2_with fail; (with_reducible refine (anyKind _ 320 _ hR2 (by omega)).mono ?_); rintro e w3 ⟨kind, rfl, hx3, hR3, hc3⟩)
  have s3 := hc3.size
  have hkd := kind_of hx3
  have HI3 := hid (HI2.out.keep hc3 (fun k h1 h2 (h3 : k = _) => by omega))
  have h03 : Chg No w w3 := h02.trans hc3 (fun i hi (h : i = _) => by omega)
  clear hx3
  (go_wp2_with fail; (with_reducible refine (anyVector _ 321 _ hR3 (by omega)).mono ?_); rintro e w4 ⟨A4, n4, c4, zs, rfl, ht4, hn4, hR4, hc4⟩)
  have s4 := hc4.size
  have HI4 := hid (HI3.out.keep hc4 (fun k h1 h2 (h3 : k = _) => by omega))
  have h04 : Chg No w w4 := h03.trans hc4 (fun i hi (h : i = _) => by omega)
  have HT4 := hid (ht4.1.wide (lo' := w.heap.size + 1) (by omega) (Nat.le_refl _))
  have hp4 := ht4.1.cap; have hq4 := ht4.1.le
  clear ht4 HI2 HI3
  by_cases h0 : 0 < xs.length
  · have j1 : decide (0 < xs.length) = true := decide_eq_true h0
    (go_wp2_with fail; (with_reducible refine (pick _ (321 + 16) _ _ hR4 (by omega) (by omega)).mono ?_); rintro e w5 ⟨y5, rfl, hy5, hR5, hc5⟩)
    have s5 := hc5.size
    have HI5 := hid (HI4.out.keep hc5 (fun k h1 h2 (h3 : k = _) => by omega))
    have HT5 := hid ((HT4.out.keep hc5 (fun k h1 h2 (h3 : k = _) => by omega)).wide (lo' := w.heap.size + 1) (hi' := w5.heap.size) (Nat.le_refl _) s5)
    have h05 : Chg No w w5 := h04.trans hc5 (fun i hi (h : i = _) => by omega)
    by_cases a0 : y5 = 0
    · subst a0
      clear hy5
      (go_wp2_with fail; (with_reducible refine (pick _ (321 + 17) _ _ hR5 (by omega) (by omega)).mono ?_); rintro e w6 ⟨y6, rfl, hy6, hR6, hc6⟩)
      have s6 := hc6.size
      have b6 := picked_lt hy6 (by omega)
      obtain ⟨q, rfl⟩ := Int.eq_ofNat_of_zero_le b6.1
      have hq : q < xs.length := by omega
      have HI6 := hid (HI5.out.keep hc6 (fun k h1 h2 (h3 : k = _) => by omega))
      have h06 : Chg No w w6 := h05.trans hc6 (fun i hi (h : i = _) => by omega)
      obtain ⟨A6, c6, hv6, hr6⟩ := OItems.read HI6.out
      injection hv6 with e1 _ e3
      subst e1 e3
      obtain ⟨b, o, z, rfl, _, _, hzk, hE⟩ := hr6.at_ hq
      obtain ⟨zk, zv, zt⟩ := z
      obtain ⟨hE1, ⟨A7, n7, c7, hE2, hv⟩, hE3⟩ := hE
      have f2 : w6.cell? ⟨b, o + q * 3 + 1, none⟩ = some (.slice A7 n7 c7) := hE2
      have hn7 : n7 ≤ 101 := by
        have h9 : zv.length = n7 := hv.len
        have h8 := HB2.out _ (List.mem_of_getElem? hzk)
        simp only [] at h8
        omega
      have HV := hid hv
      clear hy6 hE1 hE2 hE3 hv hzk hr6 HI5 HI4
      (go_wp2_with fail; (with_reducible refine (sCopyInts _ _ _ _ _ zv _ HV.out (by omega)).mono ?_); rintro e w7 ⟨v7, rfl, ho7, hc7⟩)
      have s7 := hc7.size
      obtain ⟨A8, c8, rfl, hr8⟩ := OInts.read ho7
      have hn8 : zv.length ≤ 101 := by have h9 : zv.length = n7 := HV.out.len; omega
      have HI7 := hid (HI6.out.no hc7)
      have HT7 := hid hr8
      have h07 : Chg No w w7 := h06.no hc7
      have hR7 := hR6.no hc7
      clear ho7 hr8
      (go_wp2_with fail; (with_reducible refine (someK _ (321 + 18) _ hR7 (by omega)).mono ?_); rintro e w9 ⟨k9, rfl, hx9, hR9, hc9⟩)
      have s9 := hc9.size
      have hk9 := k_of hx9
      have HI9 := hid ((HI7.out.keep hc9 (fun k h1 h2 (h3 : k = _) => by omega)).down (base' := w.heap.size) (by omega))
      have HT9 := hid ((HT7.out.keep hc9 (fun k h1 h2 (h3 : k = _) => by omega)).wide (lo' := w.heap.size) (hi' := w9.heap.size) (by omega) (by omega))
      have h09 : Chg No w w9 := h07.trans hc9 (fun i hi (h : i = _) => by omega)
      clear hx9
      go_wp2
      (refine bodyPost_ret (by simp [results, Try.results11, go_sem, *]; rfl) rfl ?_)
      exact ⟨_, xs, _, _, _, _, _, _, rfl, HI9.out, hl2, HT9.out, hn8, hkd, hk9, h09⟩
    · have n0 : (y5 == 0) = false := by simp; omega
      clear hy5
      (go_wp2_with fail; (with_reducible refine (someK _ (321 + 17) _ hR5 (by omega)).mono ?_); rintro e w9 ⟨k9, rfl, hx9, hR9, hc9⟩)
      have s9 := hc9.size
      have hk9 := k_of hx9
      have HI9 := hid ((HI5.out.keep hc9 (fun k h1 h2 (h3 : k = _) => by omega)).down (base' := w.heap.size) (by omega))
      have HT9 := hid ((HT5.out.keep hc9 (fun k h1 h2 (h3 : k = _) => by omega)).wide (lo' := w.heap.size) (hi' := w9.heap.size) (by omega) (by omega))
      have h09 : Chg No w w9 := h05.trans hc9 (fun i hi (h : i = _) => by omega)
      clear hx9
      go_wp2
      (refine bodyPost_ret (by simp [results, Try.results11, go_sem, *]; rfl) rfl ?_)
      exact ⟨_, xs, _, _, _, _, _, _, rfl, HI9.out, hl2, HT9.out, hn4, hkd, hk9, h09⟩
  · have j1 : decide (0 < xs.length) = false := decide_eq_false h0
    (go_wp2_with fail; (with_reducible refine (someK _ (321 + 16) _ hR4 (by omega)).mono ?_); rintro e w9 ⟨k9, rfl, hx9, hR9, hc9⟩)
    have s9 := hc9.size
    have hk9 := k_of hx9
    have HI9 := hid ((HI4.out.keep hc9 (fun k h1 h2 (h3 : k = _) => by omega)).down (base' := w.heap.size) (by omega))
    have HT9 := hid ((HT4.out.keep hc9 (fun k h1 h2 (h3 : k = _) => by omega)).wide (lo' := w.heap.size) (hi' := w9.heap.size) (by omega) (by omega))
    have h09 : Chg No w w9 := h04.trans hc9 (fun i hi (h : i = _) => by omega)
    clear hx9
    go_wp2
    (refine bodyPost_ret (by simp [results, Try.results11, go_sem, *]; rfl) rfl ?_)
    exact ⟨_, xs, _, _, _, _, _, _, rfl, HI9.out, hl2, HT9.out, hn4, hkd, hk9, h09⟩
/-- a store, a filter, a kind, a vector and a count have been drawn -/
def DrawnFN (w : World) (e : Ending) (w' : World) : Prop := ∃ (v : Value) (xs : List It) (fa fb fc : Int) (kind : Int) (A : Option Addr) (n c : Nat) (at_ : List Int) (k : Int), e = .returned (.tuple #[v, .agg #[.int .i64 fa, .int .i64 fb, .int .i64 fc], .int .i64 kind, .slice A n c, .int .i64 k]) ∧ OItems w' w.heap.size v xs ∧ xs.length ≤ 17 ∧ RInts w' w.heap.size w'.heap.size A n c at_ ∧ n ≤ 101 ∧ (0 ≤ kind ∧ kind ≤ 5) ∧ (0 ≤ k ∧ k ≤ 17) ∧ Chg No w w'
set_option maxHeartbeats 2000000 in
theorem drawFilterNearest (A : Option Addr) (n c : Nat) (w : World) (hC : Code w w.heap.size A n c) : Calls Try.prog 30 #[.slice A n c] w (DrawnFN w) := by
  go_enter Try.func30, Try.ntmps30
  go_wp2_with fail
  refine (newReader w.heap.size A n c _ (hC.no ((Chg.refl _ _).alloc _)) (by simp only [World.size_alloc]; omega)).mono ?_
  rintro e w1 ⟨rfl, hR1, hc1⟩
  have s1 := hc1.size
  have l1 := hR1.lt
  simp only [World.size_alloc] at s1 hR1 l1
  (go_wp2_with fail; (with_reducible refine (anyStore _ 0 _ hR1 (by omega)).mono ?_); rintro e w2 ⟨v2, xs, rfl, ho2, hl2, _, hR2, hc2⟩)
  have s2 := hc2.size
  have HI2 := hid ho2
  obtain ⟨A2, c2, hv2, hr2⟩ := OItems.read ho2
  subst hv2
  clear hr2 ho2
  (go_wp2_with fail; (with_reducible refine (anyFilter _ 320 _ hR2 (by omega)).mono ?_); rintro e w3 ⟨x1, x2, x3, rfl, hR3, hc3⟩)
  have s3 := hc3.size
  have hb3 := hid ((((Box.new (w := w) [.int .i64 0, .int .i64 0, .int .i64 0] 38 rfl).no hc1).keep hc2 (fun h : _ = _ => by omega)).keep hc3 (fun h : _ = _ => by omega))
  have HI3 := hid (HI2.out.keep hc3 (fun k h1 h2 (h3 : k = _) => by omega))
  have h03 : Chg No w w3 := ((((Chg.refl No w).alloc _).no hc1).trans hc2 (fun i hi (h : i = _) => by omega)).trans hc3 (fun i hi (h : i = _) => by omega)
  have hbS := hid (Box.new (w := w3) [.int .i64 x1, .int .i64 x2, .int .i64 x3] 38 rfl)
  obtain ⟨W3, hW3⟩ : ∃ W, w3.alloc (.cells #[.int .i64 x1, .int .i64 x2, .int .i64 x3] 38) = W := ⟨_, rfl⟩
  have hcS : Chg No w3 W3 := by rw [← hW3]; exact (Chg.refl No w3).alloc _
  have sS := hcS.size
  have HIS := hid (HI3.out.no hcS)
  have hbR := hid (hb3.out.no hcS)
  have h0S : Chg No w W3 := h03.no hcS
  have hRS := hR3.no hcS
  have hbT : Hid (Box W3 w3.heap.size [.int .i64 x1, .int .i64 x2, .int .i64 x3]) := by show Box _ _ _; rw [← hW3]; exact hbS.out
  go_wp2_with fail
  clear hW3 hcS hb3 HI3 HI2 h03 hbS
  ((with_reducible refine (anyKind _ 325 _ hRS (by omega)).mono ?_); rintro e w4 ⟨kind, rfl, hx4, hR4, hc4⟩)
  have s4 := hc4.size
  have hkd := kind_of hx4
  have HI4 := hid (HIS.out.keep hc4 (fun k h1 h2 (h3 : k = _) => by omega))
  have hb4 := hid (hbT.out.keep hc4 (fun h : _ = _ => by omega))
  have hd4 := hid (hbR.out.keep hc4 (fun h : _ = _ => by omega))
  have h04 : Chg No w w4 := h0S.trans hc4 (fun i hi (h : i = _) => by omega)
  clear hx4
  (go_wp2_with fail; (with_reducible refine (anyVector _ 326 _ hR4 (by omega)).mono ?_); rintro e w5 ⟨A5, n5, c5, zs, rfl, ht5, hn5, hR5, hc5⟩)
  have s5 := hc5.size
  have HI5 := hid (HI4.out.keep hc5 (fun k h1 h2 (h3 : k = _) => by omega))
  have hb5 := hid (hb4.out.keep hc5 (fun h : _ = _ => by omega))
  have hd5 := hid (hd4.out.keep hc5 (fun h : _ = _ => by omega))
  have h05 : Chg No w w5 := h04.trans hc5 (fun i hi (h : i = _) => by omega)
  have HT5 := hid ht5.1
  clear ht5
  have g5 := hb5.out.f3
  have l5 := hb5.out.lt
  have d5 := hd5.out.f3
  have e5 := hd5.out.lt
  go_wp2_with fail
  first | (go_region_with (go_at_call 49; (with_reducible refine (someK _ (326 + 16) _ (hR5.no (by (repeat (first | (with_reducible exact Chg.refl _ _) | ((with_reducible refine Chg.setNew ?_ _ ?_); rotate_left; first | (dsimp only; omega) | (simp; done) | (simp; omega)) | (with_reducible refine Chg.alloc ?_ _) | (with_reducible refine Chg.drew ?_) | (with_reducible refine Chg.drewN ?_ _) | (with_reducible refine Chg.no ?_ (by assumption)) | (with_reducible refine Chg.and_ ?_ (by assumption)) | ((with_reducible refine Chg.at_ ?_ (by assumption) ?_); rotate_left; (try simp only [World.size_alloc]); omega))))) (by omega)).mono ?_); rintro e w9 ⟨k9, rfl, hx9, hR9, hc9⟩; have hc9' : Chg (At (w.heap.size + 1)) w5 w9 := (by (repeat (first | (with_reducible exact Chg.refl _ _) | ((with_reducible refine Chg.setNew ?_ _ ?_); rotate_left; first | (dsimp only; omega) | (simp; done) | (simp; omega)) | (with_reducible refine Chg.alloc ?_ _) | (with_reducible refine Chg.drew ?_) | (with_reducible refine Chg.drewN ?_ _) | (with_reducible refine Chg.no ?_ (by assumption)) | (with_reducible refine Chg.and_ ?_ (by assumption)) | ((with_reducible refine Chg.at_ ?_ (by assumption) ?_); rotate_left; (try simp only [World.size_alloc]); omega))) : Chg (At (w.heap.size + 1)) w5 w9); have g9 := (hb5.out.keep hc9' (fun h : _ = _ => by omega)).f3; have l9 := (hb5.out.keep hc9' (fun h : _ = _ => by omega)).lt; have d9 := (hd5.out.keep hc9' (fun h : _ = _ => by omega)).f3; have e9 := (hd5.out.keep hc9' (fun h : _ = _ => by omega)).lt)) | fail
  all_goals
    have s9 := hc9'.size
    have hk9 := k_of hx9
    have HI9 := hid (HI5.out.keep hc9' (fun k h1 h2 (h3 : k = _) => by omega))
    have HT9 := hid (HT5.out.keep hc9' (fun k h1 h2 (h3 : k = _) => by omega))
    have h09 : Chg No w w9 := h05.trans hc9' (fun i hi (h : i = _) => by omega)
    clear hx9
    go_wp2
    (refine bodyPost_ret (by simp [results, Try.results30, go_sem, *]; rfl) rfl ?_)
    refine ⟨_, xs, _, _, _, _, _, _, _, zs, _, rfl, ?_, hl2, ?_, hn5, hkd, hk9, ?_⟩
    · refine (HI9.out.keep (S := fun k => k = w.heap.size) ?_ (fun k h1 h2 h3 => by omega)).down (by omega)
      (repeat (first | (with_reducible exact Chg.refl _ _) | (with_reducible refine Chg.drew ?_) | ((with_reducible refine Chg.setCell ?_ _ ?_); rotate_left; (intro _; rfl))))
    · refine (HT9.out.keep (S := fun k => k = w.heap.size) ?_ (fun k h1 h2 h3 => by omega)).wide (by omega) (by simp; omega)
      (repeat (first | (with_reducible exact Chg.refl _ _) | (with_reducible refine Chg.drew ?_) | ((with_reducible refine Chg.setCell ?_ _ ?_); rotate_left; (intro _; rfl))))
    · (repeat (first | (with_reducible exact Chg.refl _ _) | ((with_reducible refine Chg.setNew ?_ _ ?_); rotate_left; first | (dsimp only; omega) | (simp; done) | (simp; omega)) | (with_reducible refine Chg.alloc ?_ _) | (with_reducible refine Chg.drew ?_) | (with_reducible refine Chg.drewN ?_ _) | (with_reducible refine Chg.no ?_ (by assumption)) | (with_reducible refine Chg.and_ ?_ (by assumption)) | ((with_reducible refine Chg.at_ ?_ (by assumption) ?_); rotate_left; (try simp only [World.size_alloc]); omega)))
/-- a store, a kind, a vector and a distance have been drawn -/
def DrawnW (w : World) (e : Ending) (w' : World) : Prop := ∃ (v : Value) (xs : List It) (kind : Int) (A : Option Addr) (n c : Nat) (at_ : List Int) (k : Int), e = .returned (.tuple #[v, .int .i64 kind, .slice A n c, .int .i64 k]) ∧ OItems w' w.heap.size v xs ∧ xs.length ≤ 17 ∧ RInts w' w.heap.size w'.heap.size A n c at_ ∧ n ≤ 101 ∧ (0 ≤ kind ∧ kind ≤ 5) ∧ (-1 ≤ k ∧ k ≤ 10000) ∧ Chg No w w'
set_option maxHeartbeats 2000000 in
theorem drawWithinDist (A : Option Addr) (n c : Nat) (w : World) (hC : Code w w.heap.size A n c) : Calls Try.prog 35 #[.slice A n c] w (DrawnW w) := by
  go_enter Try.func35, Try.ntmps35
  (go_wp2_with fail; (with_reducible refine (newReader w.heap.size A n c _ hC (Nat.le_refl _)).mono ?_); rintro e w1 ⟨rfl, hR1, hc1⟩)
  have s1 := hc1.size
  have l1 := hR1.lt
  (go_wp2_with fail; (with_reducible refine (drawNearest A n c _ ((hC.no hc1).up (by omega))).mono ?_); rintro e w2 ⟨v2, xs, kind, A2, n2, c2, zs, k2, rfl, ho2, hl2, hr2, hn2, hkd, hk2, hc2⟩)
  have s2 := hc2.size
  have HI2 := hid ho2
  have HT2 := hid hr2
  obtain ⟨A3, c3, hv3, hr3⟩ := OItems.read ho2
  subst hv3
  have h02 : Chg No w w2 := hc1.no hc2
  have hR2 := hR1.no hc2
  clear hr3 ho2 hr2
  (go_wp2_with fail; (refine (oneLit _ 0 [0, 3, 20, 100, 500, 10000, -1] 7 _ _ (hR2.no ((Chg.refl _ _).alloc _)) (by omega) (heap_top rfl) rfl rfl (by omega) (by omega) (by omega)).mono ?_); rintro e w3 ⟨x, rfl, hx, hR3, hc3⟩)
  have hx7 : -1 ≤ x ∧ x ≤ 10000 := by
    simp only [List.mem_cons, List.not_mem_nil, or_false] at hx
    omega
  have s3 := hc3.size
  simp only [World.size_alloc] at s3
  have hcA : Chg (At w.heap.size) w2 w3 := ((Chg.refl _ w2).alloc _).and_ hc3
  have HI9 := hid ((HI2.out.keep hcA (fun k h1 h2 (h3 : k = _) => by omega)).down (base' := w.heap.size) (by omega))
  have HT9 := hid ((HT2.out.keep hcA (fun k h1 h2 (h3 : k = _) => by omega)).wide (lo' := w.heap.size) (hi' := w3.heap.size) (by omega) (by omega))
  have h09 : Chg No w w3 := h02.trans hcA (fun i hi (h : i = _) => by omega)
  clear hx
  go_wp2
  (refine bodyPost_ret (by simp [results, Try.results35, go_sem, *]; rfl) rfl ?_)
  exact ⟨_, xs, _, _, _, _, _, _, rfl, HI9.out, hl2, HT9.out, hn2, hkd, hx7, h09⟩
end Go.Proofs.Ytkglmhhihpofiaa
