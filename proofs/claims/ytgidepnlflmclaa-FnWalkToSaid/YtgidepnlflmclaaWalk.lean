/- WalkTo: the program's. -/
import Derived.Test.YtgidepnlflmclaaWalk0
import Derived.Deep.RegionWith
import Derived.Deep.RegionHeld3
import Derived.Deep.DeepCutAuto
import Derived.Test.YtgidepnlflmclaaIndex
namespace Go.Proofs.Ytgidepnlflmclaa
open Go.RowKit Go.Sort Go.Shelf
set_option linter.unusedVariables false
set_option linter.unusedSimpArgs false
theorem cell_far2 {w : World} {b o g i j : Nat} {u v v' : Value} (h : w.cell? ⟨b, o, none⟩ = some u) (hne : b ≠ g) : ((w.setCell ⟨g, i, none⟩ v).setCell ⟨g, j, none⟩ v').cell? ⟨b, o, none⟩ = some u :=
  cell_keep (((Chg.refl (At g) w).setCell (p := ⟨g, i, none⟩) v (fun _ => rfl)).setCell (p := ⟨g, j, none⟩) v' (fun _ => rfl)) h (fun e => hne e)
set_option maxHeartbeats 8000000 in
theorem walkTo1 (l0 h0 l1 h1 : Nat) (A A' : Option Addr) (n c n' c' : Nat) (xs : List It) (at_ : List Int) (kind : Int) (q : Nat) (x : It) (g0 g1 g2 : Nat) (w : World) (hx : RItems w l0 h0 A n c xs) (hy : RInts w l1 h1 A' n' c' at_) (hq : xs[q]? = some x) (hva : vecB x.vec = true) (hvb : vecB at_ = true) (hk1 : 1 ≤ kind) (hk4 : kind ≤ 4) (b0 : Box w g0 [.slice A n c]) (b1 : Box w g1 [.int .i64 kind]) (b2 : Box w g2 [.slice A' n' c']) :
    Calls Try.prog 49 #[.int .i64 (q : Int), .pointer (some ⟨g0, 0, none⟩), .pointer (some ⟨g1, 0, none⟩), .pointer (some ⟨g2, 0, none⟩)] w fun e w' => e = .returned (.agg #[.int .i64 x.key, .int .i64 (distF kind x.vec at_)]) ∧ Chg No w w' := by
  have hqn : q < n := by have := (List.getElem?_eq_some_iff.1 hq).1; have := hx.len; omega
  have hnc := hx.le; have hcm := hx.cap
  obtain ⟨b, o, z, rfl, _, _, hz, hE⟩ := hx.at_ hqn
  have hzx : z = x := by rw [hz] at hq; injection hq
  subst hzx
  obtain ⟨zk, zv, zt⟩ := z
  obtain ⟨hE1, ⟨A1, n1, c1, hE2, hv⟩, hE3⟩ := hE
  have f1 : w.cell? ⟨b, o + q * 3, none⟩ = some (.int .i64 zk) := hE1
  have f2 : w.cell? ⟨b, o + q * 3 + 1, none⟩ = some (.slice A1 n1 c1) := hE2
  have f3 : w.cell? ⟨g0, 0, none⟩ = some (.slice (some ⟨b, o, none⟩) n c) := b0.cell 0
  have f4 : w.cell? ⟨g1, 0, none⟩ = some (.int .i64 kind) := b1.cell 0
  have f5 : w.cell? ⟨g2, 0, none⟩ = some (.slice A' n' c') := b2.cell 0
  have t1 := cell_lt f1; have t3 := cell_lt f3; have t4 := cell_lt f4; have t5 := cell_lt f5
  have F1 := hid f1; have F2 := hid f2; have F3 := hid f3; have F4 := hid f4; have F5 := hid f5
  simp only [] at hva
  have HA := hid hv; have HB := hid hy
  have hn : zv.length = n1 := hv.len
  have hn' : at_.length = n' := hy.len
  have h4 := vecB_len hva
  have h4' := vecB_len hvb
  have K4 := hid (fun W (h : RInts W l0 h0 A1 n1 c1 zv) (h2 : RInts W l1 h1 A' n' c' at_) => iDistance l0 h0 l1 h1 A1 A' n1 c1 n' c' zv at_ kind W h h2 (by omega) (by omega) (vecB_small hva) (vecB_small hvb) hk1 hk4)
  have BY := hid (Box.new (w := w) (g := w.heap.size) [.int .i64 0, .int .i64 0] 43 rfl)
  clear hx hy hq hz hE1 hE2 hE3 hv b0 b1 b2 hva hvb h4 h4' hn hn'
  go_enter Try.func49, Try.ntmps49
  go_wp2_with fail
  have n1' : b ≠ w.heap.size := by omega
  have n2' : g0 ≠ w.heap.size := by omega
  have n3' : g1 ≠ w.heap.size := by omega
  have n4' : g2 ≠ w.heap.size := by omega
  go_region_held3 (fun w' => w'.cell? ⟨b, o + q * 3, none⟩ = some (.int .i64 zk) ∧ w'.cell? ⟨b, o + q * 3 + 1, none⟩ = some (.slice A1 n1 c1) ∧ w'.cell? ⟨g0, 0, none⟩ = some (.slice (some ⟨b, o, none⟩) n c) ∧ w'.cell? ⟨g1, 0, none⟩ = some (.int .i64 kind) ∧ w'.cell? ⟨g2, 0, none⟩ = some (.slice A' n' c'))
      (first | go_keep | (go_split_ands; refine ⟨?_, ?_, ?_, ?_, ?_⟩ <;> exact cell_keep (by assumption) (by assumption) (fun e => e)) | (go_split_ands; refine ⟨?_, ?_, ?_, ?_, ?_⟩ <;> exact cell_far2 (by assumption) (by assumption)))
      (first | (go_at_call 50; (with_reducible refine (K4.out _ (HA.out.no (by (repeat (first | (with_reducible exact Chg.refl _ _) | ((with_reducible refine Chg.setNew ?_ _ ?_); rotate_left; first | (dsimp only; omega) | (simp; done) | (simp; omega)) | (with_reducible refine Chg.alloc ?_ _) | (with_reducible refine Chg.drew ?_) | (with_reducible refine Chg.drewN ?_ _) | (with_reducible refine Chg.no ?_ (by assumption)) | (with_reducible refine Chg.and_ ?_ (by assumption)) | ((with_reducible refine Chg.at_ ?_ (by assumption) ?_); rotate_left; (try simp only [World.size_alloc]); omega))))) (HB.out.no (by (repeat (first | (with_reducible exact Chg.refl _ _) | ((with_reducible refine Chg.setNew ?_ _ ?_); rotate_left; first | (dsimp only; omega) | (simp; done) | (simp; omega)) | (with_reducible refine Chg.alloc ?_ _) | (with_reducible refine Chg.drew ?_) | (with_reducible refine Chg.drewN ?_ _) | (with_reducible refine Chg.no ?_ (by assumption)) | (with_reducible refine Chg.and_ ?_ (by assumption)) | ((with_reducible refine Chg.at_ ?_ (by assumption) ?_); rotate_left; (try simp only [World.size_alloc]); omega)))))).mono ?_); rintro e w3 ⟨rfl, hc3⟩; have q6 := (BY.out.no (Chg.no (by (repeat (first | (with_reducible exact Chg.refl _ _) | ((with_reducible refine Chg.setNew ?_ _ ?_); rotate_left; first | (dsimp only; omega) | (simp; done) | (simp; omega)) | (with_reducible refine Chg.alloc ?_ _) | (with_reducible refine Chg.drew ?_) | (with_reducible refine Chg.drewN ?_ _) | (with_reducible refine Chg.no ?_ (by assumption)) | (with_reducible refine Chg.and_ ?_ (by assumption)) | ((with_reducible refine Chg.at_ ?_ (by assumption) ?_); rotate_left; (try simp only [World.size_alloc]); omega)))) hc3)).f2; have q7 := (BY.out.no (Chg.no (by (repeat (first | (with_reducible exact Chg.refl _ _) | ((with_reducible refine Chg.setNew ?_ _ ?_); rotate_left; first | (dsimp only; omega) | (simp; done) | (simp; omega)) | (with_reducible refine Chg.alloc ?_ _) | (with_reducible refine Chg.drew ?_) | (with_reducible refine Chg.drewN ?_ _) | (with_reducible refine Chg.no ?_ (by assumption)) | (with_reducible refine Chg.and_ ?_ (by assumption)) | ((with_reducible refine Chg.at_ ?_ (by assumption) ?_); rotate_left; (try simp only [World.size_alloc]); omega)))) hc3)).lt))
  all_goals go_wp2
  all_goals (refine bodyPost_ret (by simp [results, Try.results49, go_sem, *]; rfl) rfl ?_)
  all_goals exact ⟨rfl, by (repeat (first | (with_reducible exact Chg.refl _ _) | ((with_reducible refine Chg.setNew ?_ _ ?_); rotate_left; first | (dsimp only; omega) | (simp; done) | (simp; omega)) | (with_reducible refine Chg.alloc ?_ _) | (with_reducible refine Chg.drew ?_) | (with_reducible refine Chg.drewN ?_ _) | (with_reducible refine Chg.no ?_ (by assumption)) | (with_reducible refine Chg.and_ ?_ (by assumption)) | ((with_reducible refine Chg.at_ ?_ (by assumption) ?_); rotate_left; (try simp only [World.size_alloc]); omega)))⟩
set_option maxRecDepth 100000 in
set_option maxHeartbeats 8000000 in
theorem iWalkTo (l0 h0 : Nat) (A : Option Addr) (n c : Nat) (xs : List It) (l1 h1 : Nat) (A' : Option Addr) (n' c' : Nat) (at_ : List Int) (kind many key : Int) (w : World) (hx : RItems w l0 h0 A n c xs) (hy : RInts w l1 h1 A' n' c' at_) :
    Calls Try.prog 16 #[.slice A n c, .int .i64 kind, .int .i64 many, .int .i64 key, .slice A' n' c'] w (RetWalk (WalkF xs kind many key at_) (walkB xs kind many key at_) w) := by
  have hnc := hx.le; have hcm := hx.cap
  have hnc' := hy.le; have hcm' := hy.cap
  have HX := hid hx; have HY := hid hy
  have hwb : Chg No w (((w.alloc (.cells #[.slice A n c] 27)).alloc (.cells #[.int .i64 kind] 3)).alloc (.cells #[.slice A' n' c'] 23)) := (((Chg.refl _ w).alloc _).alloc _).alloc _
  have B0 := hid (show Box (((w.alloc (.cells #[.slice A n c] 27)).alloc (.cells #[.int .i64 kind] 3)).alloc (.cells #[.slice A' n' c'] 23)) w.heap.size [.slice A n c] from ((Box.new (w := w) [.slice A n c] 27 rfl).alloc _).alloc _)
  have B1 := hid (show Box (((w.alloc (.cells #[.slice A n c] 27)).alloc (.cells #[.int .i64 kind] 3)).alloc (.cells #[.slice A' n' c'] 23)) (w.heap.size + 1) [.int .i64 kind] from (Box.new [.int .i64 kind] 3 (by simp)).alloc _)
  have B2 := hid (show Box (((w.alloc (.cells #[.slice A n c] 27)).alloc (.cells #[.int .i64 kind] 3)).alloc (.cells #[.slice A' n' c'] 23)) (w.heap.size + 1 + 1) [.slice A' n' c'] from Box.new [.slice A' n' c'] 23 (by simp))
  have K1 := hid (fun W (h : RItems W l0 h0 A n c xs) => iCanLink l0 h0 A n c xs kind many W h)
  have K2 := hid (fun W (h : RInts W l1 h1 A' n' c' at_) => iIsVec4 l1 h1 A' n' c' at_ W h)
  have K3 := hid (fun W (h : RItems W l0 h0 A n c xs) => indexOf l0 h0 A n c xs key W h)
  obtain ⟨wb, hwbe⟩ : ∃ W, (((w.alloc (.cells #[.slice A n c] 27)).alloc (.cells #[.int .i64 kind] 3)).alloc (.cells #[.slice A' n' c'] 23)) = W := ⟨_, rfl⟩
  rw [hwbe] at hwb B0 B1 B2
  cases hq : linkB xs kind many with
  | false =>
    have hwq : walkB xs kind many key at_ = false := by unfold walkB; rw [hq]; rfl
    rw [hq] at K1
    have HF := hid (WalkF_no hwq)
    rw [hwq]
    clear hq hwq hx hy
    have fb0 : wb.cell? ⟨w.heap.size, 0, none⟩ = some (.slice A n c) := (B0.out.no (Chg.refl _ _)).cell 0
    have fb1 : wb.cell? ⟨w.heap.size + 1, 0, none⟩ = some (.int .i64 kind) := (B1.out.no (Chg.refl _ _)).cell 0
    have fb2 : wb.cell? ⟨w.heap.size + 1 + 1, 0, none⟩ = some (.slice A' n' c') := (B2.out.no (Chg.refl _ _)).cell 0
    go_enter Try.func16, Try.ntmps16
    (go_wp2_with fail; (with_reducible refine (K1.out _ (HX.out.no hwb)).mono ?_); rintro e w1 ⟨rfl, hc1⟩)
    go_wp2
    go_ret2
    exact ⟨_, rfl, by rw [HF.out]; exact OSl.nil_ _, by (repeat (first | (with_reducible exact Chg.refl _ _) | ((with_reducible refine Chg.setNew ?_ _ ?_); rotate_left; first | (dsimp only; omega) | (simp; done) | (simp; omega)) | (with_reducible refine Chg.alloc ?_ _) | (with_reducible refine Chg.drew ?_) | (with_reducible refine Chg.drewN ?_ _) | (with_reducible refine Chg.no ?_ (by assumption)) | (with_reducible refine Chg.and_ ?_ (by assumption)) | ((with_reducible refine Chg.at_ ?_ (by assumption) ?_); rotate_left; (try simp only [World.size_alloc]); omega)))⟩
  | true =>
    rw [hq] at K1
    cases hv : vecB at_ with
    | false =>
      have hwq : walkB xs kind many key at_ = false := by unfold walkB; rw [hq, hv]; rfl
      rw [hv] at K2
      have HF := hid (WalkF_no hwq)
      rw [hwq]
      clear hq hv hwq hx hy
      have fb0 : wb.cell? ⟨w.heap.size, 0, none⟩ = some (.slice A n c) := (B0.out.no (Chg.refl _ _)).cell 0
      have fb1 : wb.cell? ⟨w.heap.size + 1, 0, none⟩ = some (.int .i64 kind) := (B1.out.no (Chg.refl _ _)).cell 0
      have fb2 : wb.cell? ⟨w.heap.size + 1 + 1, 0, none⟩ = some (.slice A' n' c') := (B2.out.no (Chg.refl _ _)).cell 0
      go_enter Try.func16, Try.ntmps16
      (go_wp2_with fail; (with_reducible refine (K1.out _ (HX.out.no hwb)).mono ?_); rintro e w1 ⟨rfl, hc1⟩)
      have f10 : w1.cell? ⟨w.heap.size, 0, none⟩ = some (.slice A n c) := (B0.out.no hc1).cell 0
      have f11 : w1.cell? ⟨w.heap.size + 1, 0, none⟩ = some (.int .i64 kind) := (B1.out.no hc1).cell 0
      have f12 : w1.cell? ⟨w.heap.size + 1 + 1, 0, none⟩ = some (.slice A' n' c') := (B2.out.no hc1).cell 0
      (go_wp2_with fail; (with_reducible refine (K2.out _ (HY.out.no (hwb.no hc1))).mono ?_); rintro e w2 ⟨rfl, rfl⟩)
      go_wp2
      go_ret2
      exact ⟨_, rfl, by rw [HF.out]; exact OSl.nil_ _, by (repeat (first | (with_reducible exact Chg.refl _ _) | ((with_reducible refine Chg.setNew ?_ _ ?_); rotate_left; first | (dsimp only; omega) | (simp; done) | (simp; omega)) | (with_reducible refine Chg.alloc ?_ _) | (with_reducible refine Chg.drew ?_) | (with_reducible refine Chg.drewN ?_ _) | (with_reducible refine Chg.no ?_ (by assumption)) | (with_reducible refine Chg.and_ ?_ (by assumption)) | ((with_reducible refine Chg.at_ ?_ (by assumption) ?_); rotate_left; (try simp only [World.size_alloc]); omega)))⟩
    | true =>
      rw [hv] at K2
      by_cases hk0 : 0 ≤ keyAtF xs key
      · have hwq : walkB xs kind many key at_ = true := by unfold walkB; rw [hq, hv, decide_eq_true hk0]; rfl
        have HF := hid (WalkF_ok hwq)
        rw [hwq]
        have hok := linkB_ok hq
        have HKA := hid (keyAt_mem.1 hk0)
        have HOK := hid hok
        have HVB := hid hv
        have hxl : xs.length = n := hx.len
        have hn16 : n ≤ 16 := by have := storeB_len hok.store; omega
        have K5 := hid (fun W (h : RItems W l0 h0 A n c xs) => iLinksL l0 h0 A n c xs kind many W h hok)
        obtain ⟨L, hL⟩ : ∃ L, linksL xs kind many = L := ⟨_, rfl⟩
        have hLl : L.length = xs.length := by rw [← hL, linksL_len]
        rw [hL] at K5
        have HLL := hid hL
        obtain ⟨q0, x0, hx0, hxk, hkq⟩ := keyAt_some hok.store (keyAt_mem.1 hk0)
        rw [hkq] at K3
        have HX0 := hid hx0
        have HXK := hid hxk
        have hq0 : q0 < n := by have := (List.getElem?_eq_some_iff.1 hx0).1; omega
        have HXL := hid hxl
        have hLn : n ≤ L.length := by omega
        have hLn2 : L.length ≤ n := by omega
        have hxn : n ≤ xs.length := by omega
        have hxn2 : xs.length ≤ n := by omega
        clear hq hv hwq hx hy hok hL hLl hxl hk0 hkq hx0 hxk
        have fb0 : wb.cell? ⟨w.heap.size, 0, none⟩ = some (.slice A n c) := (B0.out.no (Chg.refl _ _)).cell 0
        have fb1 : wb.cell? ⟨w.heap.size + 1, 0, none⟩ = some (.int .i64 kind) := (B1.out.no (Chg.refl _ _)).cell 0
        have fb2 : wb.cell? ⟨w.heap.size + 1 + 1, 0, none⟩ = some (.slice A' n' c') := (B2.out.no (Chg.refl _ _)).cell 0
        go_enter Try.func16, Try.ntmps16
        (go_wp2_with fail; (with_reducible refine (K1.out _ (HX.out.no hwb)).mono ?_); rintro e w1 ⟨rfl, hc1⟩)
        have f10 : w1.cell? ⟨w.heap.size, 0, none⟩ = some (.slice A n c) := (B0.out.no hc1).cell 0
        have f11 : w1.cell? ⟨w.heap.size + 1, 0, none⟩ = some (.int .i64 kind) := (B1.out.no hc1).cell 0
        have f12 : w1.cell? ⟨w.heap.size + 1 + 1, 0, none⟩ = some (.slice A' n' c') := (B2.out.no hc1).cell 0
        (go_wp2_with fail; (with_reducible refine (K2.out _ (HY.out.no (hwb.no hc1))).mono ?_); rintro e w2 ⟨rfl, rfl⟩)
        (go_wp2_with fail; (with_reducible refine (K3.out _ (HX.out.no (hwb.no hc1))).mono ?_); rintro e w3 ⟨rfl, hc3⟩)
        have hc13 : Chg No wb w3 := hc1.no hc3
        have f30 : w3.cell? ⟨w.heap.size, 0, none⟩ = some (.slice A n c) := (B0.out.no hc13).cell 0
        have f31 : w3.cell? ⟨w.heap.size + 1, 0, none⟩ = some (.int .i64 kind) := (B1.out.no hc13).cell 0
        have f32 : w3.cell? ⟨w.heap.size + 1 + 1, 0, none⟩ = some (.slice A' n' c') := (B2.out.no hc13).cell 0
        (go_wp2_with fail; (with_reducible refine (K5.out _ (HX.out.no (hwb.no hc13))).mono ?_); rintro e w4 ⟨v4, rfl, ho4, hc4⟩)
        obtain ⟨A4, c4, rfl, hr4⟩ := ORows.read ho4
        have hp4 := hr4.cap; have hq4 := hr4.le
        have R4 := hid hr4
        have hc14 : Chg No wb w4 := hc13.no hc4
        have q4 : Chg No w w4 := hwb.no hc14
        have s4 := q4.size
        have X4 := hid (HX.out.no q4); have Y4 := hid (HY.out.no q4)
        have C0 := hid (B0.out.no hc14); have C1 := hid (B1.out.no hc14); have C2 := hid (B2.out.no hc14)
        clear ho4 hr4 hc1 hc3 hc4 hc13 hc14 K1 K2 K3 K5 B0 B1 B2 fb0 fb1 fb2 f10 f11 f12 f30 f31 f32 hwb hwbe
        have KI := hid (fun z W (h : Chg No w4 W) => indexOf l0 h0 A n c xs z W (X4.out.no h))
        have KC := hid (fun q x W (h : Chg No w4 W) (hq : xs[q]? = some x) => walkTo1 l0 h0 l1 h1 A A' n c n' c' xs at_ kind q x w.heap.size (w.heap.size + 1) (w.heap.size + 1 + 1) W (X4.out.no h) (Y4.out.no h) hq (storeB_vec HOK.out.store (List.mem_of_getElem? hq)) HVB.out HOK.out.kind1 HOK.out.kind4 (C0.out.no h) (C1.out.no h) (C2.out.no h))
        obtain ⟨w5, hw5⟩ : ∃ W, w4.alloc (.cells #[.int .i64 key] 3) = W := ⟨_, rfl⟩
        have h45 : Chg No w4 w5 := by rw [← hw5]; exact (Chg.refl No w4).alloc _
        have HO0 := hid (show OInts w5 w4.heap.size (.slice (some ⟨w4.heap.size, 0, none⟩) 1 1) [key] from by rw [← hw5]; exact OSl.lit (T := 3) (sz := 1) (enc := cInt) (w := w4.alloc (.cells #[.int .i64 key] 3)) (base := w4.heap.size) (n := 1) [key] [.int .i64 key] (fun _ => rfl) rfl rfl (by omega) (Nat.le_refl _) (heap_top rfl))
        have HW0 := hid (show walkL xs kind many at_ key = [key] ++ (walkL xs kind many at_ x0.key).tail from by rw [HXK.out]; exact walk_cons _ _ _ _ _)
        have HWL := hid (walk_len (kind := kind) (many := many) (at_ := at_) HKA.out).2
        go_wp2
        go_loopw [12, 15] (fun i v wr => ∃ (q : Nat) (x : It) (O : List Int), i = .int .i64 q ∧ Hid (xs[q]? = some x) ∧ Chg No w4 wr ∧ Hid (OInts wr w4.heap.size v O) ∧ Hid (walkL xs kind many at_ key = O ++ (walkL xs kind many at_ x.key).tail)) (fun i _ _ => cntAt xs kind at_ (intOf i).toNat)
        case atStart => exact ⟨q0, x0, [key], rfl, HX0, by first | exact h45 | (rw [hw5]; exact h45), by first | exact HO0 | (rw [hw5]; exact HO0), HW0⟩
        case round =>
          clear HO0 HW0 hw5 h45 HX0 HXK hq0
          obtain ⟨q, x, O, rfl, HXQ, hc, HO, HW⟩ := hrel
          obtain ⟨wo, rfl⟩ : ∃ W : World, W = wr := ⟨_, rfl⟩
          have so := hc.size
          have hqn : q < n := by have := (List.getElem?_eq_some_iff.1 HXQ.out).1; omega
          have hqL : q < L.length := by omega
          have hOl : O.length ≤ 16 := by
            have h9 := HWL.out
            rw [HW.out, List.length_append] at h9
            omega
          obtain ⟨A9, c9, hv9, hr9⟩ := OInts.read HO.out
          subst hv9
          have hp9 := hr9.cap; have hq9 := hr9.le
          obtain ⟨bL, oL, r, Ar, nr, cr, rfl, _, _, hr, fL, hvr⟩ := (R4.out.no hc).at_ hqL
          have hrr : r = gOf xs kind many x.key := by
            have h9 := linksL_at (l := xs) (kind := kind) (many := many) (i := q) (by omega)
            rw [HLL.out, hr] at h9
            injection h9 with h9
            rw [h9]; unfold gOf; rw [keyAt_store HOK.out.store HXQ.out]; rfl
          have hrl : r.length = nr := hvr.len
          have hr16 : nr ≤ 16 := by
            rw [← hrl, hrr]; unfold gOf; rw [keyAt_store HOK.out.store HXQ.out]; rw [show ((q : Int)).toNat = q from rfl, linkAt_len (by omega)]; omega
          have hlr := hvr.le; have hpr := hvr.cap
          have HRR := hid hrr
          have HVR := hid hvr
          have HRL := hid hrl
          have HFL := hid fL
          clear hr hvr hrr hr9 hrl
          by_cases h00 : 0 < nr
          · have d0 : decide (0 < nr) = true := decide_eq_true h00
            have d1 : decide ((0 : Int) < (nr : Int)) = true := decide_eq_true (by omega)
            obtain ⟨b7, o7, z0, rfl, _, _, hz0, hE0⟩ := HVR.out.at_ h00
            have e0 : wo.cell? ⟨b7, o7, none⟩ = some (.int .i64 z0) := by simpa [EInt] using hE0
            have hzr : z0 ∈ gOf xs kind many x.key := by rw [← HRR.out]; exact List.mem_of_getElem? hz0
            obtain ⟨qz, xz, hxz, hxzk, hkqz⟩ := keyAt_some HOK.out.store (gOf_keys hzr)
            have KX := hid (fun W (h : Chg No wo W) => KI.out z0 W (hc.no h))
            rw [hkqz] at KX
            have HZR := hid hzr
            have p0 : ∀ p : NB wo, p.wd.cell? ⟨w.heap.size, 0, none⟩ = some (.slice A n c) := nb_cell ((C0.out.no hc).cell 0)
            have p1 : ∀ p : NB wo, p.wd.cell? ⟨bL, oL + q, none⟩ = some (.slice (some ⟨b7, o7, none⟩) nr cr) := nb_cell fL
            have p2 : ∀ p : NB wo, p.wd.cell? ⟨b7, o7, none⟩ = some (.int .i64 z0) := nb_cell e0
            have HXZ := hid hxz
            have HB0 := hid (show (xz.key, distF kind xz.vec at_) = bestOf (hitK xs kind at_ z0) ((r.take 0).map (hitK xs kind at_)) from by rw [← hxzk, hitK_eq HOK.out.store kind at_ hxz]; simp [bestOf])
            clear hz0 hE0 e0 hzr hxz hxzk hkqz
            go_wp2_with fail
            (refine wp_region_nb (by kernel_rfl) (by kernel_rfl) ?_; (repeat (first | go_big_quiet_step ((go_at_call 47; exact nb_of (KX.out _ (NB.h _)))) | quiet_step ((go_at_call 47; exact nb_of (KX.out _ (NB.h _)))))); (with_reducible refine wpQuiet_nil ?_); intro wq hw1; have hq := nb_out hw1; clear hw1)
            have hcq : Chg No w4 wq := hc.no hq
            have fq : wq.cell? ⟨bL, oL + q, none⟩ = some (.slice (some ⟨b7, o7, none⟩) nr cr) := cell_keep hq HFL.out (fun e => e)
            go_wp2
            go_loopw [16, 61] (fun s i wr => ∃ (m qb : Nat) (xb : It), m ≤ nr ∧ i = .int .i64 m ∧ s = .int .i64 qb ∧ Hid (xs[qb]? = some xb) ∧ Hid ((xb.key, distF kind xb.vec at_) = bestOf (hitK xs kind at_ z0) ((r.take m).map (hitK xs kind at_))) ∧ Chg No wq wr) (fun _ i _ => nr - (intOf i).toNat)
            case atStart => exact ⟨0, qz, xz, Nat.zero_le _, rfl, rfl, HXZ, HB0, Chg.refl _ _⟩
            case round =>
              clear HXZ HB0 p0 p1 p2
              obtain ⟨m, qb, xb, hm, rfl, rfl, HXB, HBB, hcm⟩ := hrel
              obtain ⟨wi, rfl⟩ : ∃ W : World, W = wr := ⟨_, rfl⟩
              have hci : Chg No w4 wi := hcq.no hcm
              by_cases hlm : m < nr
              · obtain ⟨b8, o8, z, hA8, _, _, hzm, hE⟩ := (HVR.out.no (hq.no hcm)).at_ hlm
                injection hA8 with hA8
                injection hA8 with e1 e2 _
                subst e1 e2
                have g1 : wi.cell? ⟨b7, o7 + m, none⟩ = some (.int .i64 z) := by simpa [EInt] using hE
                have hzr : z ∈ gOf xs kind many x.key := by rw [← HRR.out]; exact List.mem_of_getElem? hzm
                obtain ⟨qm, xm, hxm, hxmk, hkqm⟩ := keyAt_some HOK.out.store (gOf_keys hzr)
                have g0 : wi.cell? ⟨w.heap.size, 0, none⟩ = some (.slice A n c) := (C0.out.no hci).cell 0
                have KX2 := hid (KI.out z wi hci)
                rw [hkqm] at KX2
                obtain ⟨cv, hcv⟩ : ∃ cv, cmpHitF (xm.key, distF kind xm.vec at_) (xb.key, distF kind xb.vec at_) = cv := ⟨_, rfl⟩
                have KK := hid (fun W => iCompareHits xm.key (distF kind xm.vec at_) xb.key (distF kind xb.vec at_) W)
                rw [hcv] at KK
                have HSN := hid (show bestOf (hitK xs kind at_ z0) ((r.take (m + 1)).map (hitK xs kind at_)) = if nearB (xm.key, distF kind xm.vec at_) (xb.key, distF kind xb.vec at_) = true then (xm.key, distF kind xm.vec at_) else (xb.key, distF kind xb.vec at_) from by
                  rw [take_snoc hzm, List.map_append, List.map_cons, List.map_nil, bestOf_snoc, ← HBB.out, ← hxmk, hitK_eq HOK.out.store kind at_ hxm])
                have hneg := cmpHitF_neg (xm.key, distF kind xm.vec at_) (xb.key, distF kind xb.vec at_)
                rw [hcv] at hneg
                have HXM := hid hxm
                have K6 := hid (fun W (h : Chg No wi W) => KC.out qm xm W (hci.no h) HXM.out)
                have K7 := hid (fun W (h : Chg No wi W) => KC.out qb xb W (hci.no h) HXB.out)
                clear hzm hE hzr hxm hxmk hkqm hcv
                by_cases hnn : nearB (xm.key, distF kind xm.vec at_) (xb.key, distF kind xb.vec at_) = true
                · have j1 : decide (cv < 0) = true := decide_eq_true (hneg.2 hnn)
                  have HB2 := hid (show (xm.key, distF kind xm.vec at_) = bestOf (hitK xs kind at_ z0) ((r.take (m + 1)).map (hitK xs kind at_)) from by rw [HSN.out, if_pos hnn])
                  clear hnn hneg HSN
                  (go_wp2_with fail; (with_reducible refine (KX2.out).mono ?_); rintro e wa ⟨rfl, hca⟩)
                  (go_wp2_with fail; (with_reducible refine (K6.out _ hca).mono ?_); rintro e wc ⟨rfl, hcc⟩)
                  (go_wp2_with fail; (with_reducible refine (K7.out _ (hca.no hcc)).mono ?_); rintro e wd ⟨rfl, hcd⟩)
                  (go_wp2_with fail; (with_reducible refine (KK.out _).mono ?_); rintro e we ⟨rfl, hce⟩)
                  go_wp2
                  go_roundw
                  case rel => exact ⟨m + 1, qm, xm, by omega, by go_num, rfl, HXM, HB2, hcm.no (((hca.no hcc).no hcd).no hce)⟩
                  case measure => simp [intOf]; omega
                · have j1 : decide (cv < 0) = false := decide_eq_false (fun h => hnn (hneg.1 h))
                  have HB2 := hid (show (xb.key, distF kind xb.vec at_) = bestOf (hitK xs kind at_ z0) ((r.take (m + 1)).map (hitK xs kind at_)) from by rw [HSN.out, if_neg hnn])
                  clear hnn hneg HSN
                  (go_wp2_with fail; (with_reducible refine (KX2.out).mono ?_); rintro e wa ⟨rfl, hca⟩)
                  (go_wp2_with fail; (with_reducible refine (K6.out _ hca).mono ?_); rintro e wc ⟨rfl, hcc⟩)
                  (go_wp2_with fail; (with_reducible refine (K7.out _ (hca.no hcc)).mono ?_); rintro e wd ⟨rfl, hcd⟩)
                  (go_wp2_with fail; (with_reducible refine (KK.out _).mono ?_); rintro e we ⟨rfl, hce⟩)
                  go_wp2
                  go_roundw
                  case rel => exact ⟨m + 1, qb, xb, by omega, by go_num, rfl, HXB, HB2, hcm.no (((hca.no hcc).no hcd).no hce)⟩
                  case measure => simp [intOf]; omega
              · have hmn : m = nr := by omega
                have HB3 := hid (show (xb.key, distF kind xb.vec at_) = bestOf (hitK xs kind at_ z0) ((gOf xs kind many x.key).map (hitK xs kind at_)) from by
                  have h9 := HBB.out
                  rw [List.take_of_length_le (by rw [HRL.out, hmn]; exact Nat.le_refl _), HRR.out] at h9
                  exact h9)
                have HHX := hid (hitK_eq HOK.out.store kind at_ HXQ.out)
                obtain ⟨cv, hcv⟩ : ∃ cv, cmpHitF (xb.key, distF kind xb.vec at_) (x.key, distF kind x.vec at_) = cv := ⟨_, rfl⟩
                have KK := hid (fun W => iCompareHits xb.key (distF kind xb.vec at_) x.key (distF kind x.vec at_) W)
                rw [hcv] at KK
                have hneg := cmpHitF_neg (xb.key, distF kind xb.vec at_) (x.key, distF kind x.vec at_)
                rw [hcv] at hneg
                have K6 := hid (fun W (h : Chg No wi W) => KC.out qb xb W (hci.no h) HXB.out)
                have K7 := hid (fun W (h : Chg No wi W) => KC.out q x W (hci.no h) HXQ.out)
                clear hcv hmn HBB
                by_cases hnn : nearB (xb.key, distF kind xb.vec at_) (x.key, distF kind x.vec at_) = true
                · have j1 : decide (0 ≤ cv) = false := decide_eq_false (by have := hneg.2 hnn; omega)
                  have hnx : nextF xs kind many at_ x.key = some xb.key := by
                    have h9 := next_near (at_ := at_) HZR.out (by rw [← HB3.out, HHX.out]; exact hnn)
                    rw [← HB3.out] at h9
                    exact h9
                  have HW2 := hid (show walkL xs kind many at_ key = (O ++ [xb.key]) ++ (walkL xs kind many at_ xb.key).tail from by
                    have h9 := HW.out
                    rw [walkL_some hnx, List.tail_cons, walk_cons xs kind many at_ xb.key] at h9
                    rw [h9, List.append_assoc]; rfl)
                  have HMS := hid (show cntAt xs kind at_ qb < cntAt xs kind at_ q from by rw [cntAt_eq HXB.out, cntAt_eq HXQ.out]; exact next_less hnx)
                  have hqb : qb < n := by have := (List.getElem?_eq_some_iff.1 HXB.out).1; omega
                  clear hnn hneg hnx HW HB3 HHX
                  (go_wp2_with fail; (with_reducible refine (K6.out _ (Chg.refl _ _)).mono ?_); rintro e wc ⟨rfl, hcc⟩)
                  (go_wp2_with fail; (with_reducible refine (K7.out _ hcc).mono ?_); rintro e wd ⟨rfl, hcd⟩)
                  (go_wp2_with fail; (with_reducible refine (KK.out _).mono ?_); rintro e we ⟨rfl, hce⟩)
                  have hci2 : Chg No wi we := (hcc.no hcd).no hce
                  have hc4e : Chg No w4 we := hci.no hci2
                  have se := hc4e.size
                  have g0 : we.cell? ⟨w.heap.size, 0, none⟩ = some (.slice A n c) := (C0.out.no hc4e).cell 0
                  obtain ⟨b8, o8, y8, rfl, _, _, hy8, hE8⟩ := (X4.out.no hc4e).at_ hqb
                  have e8 : y8 = xb := by have h9 := HXB.out; rw [hy8] at h9; injection h9
                  subst e8
                  have g2 : we.cell? ⟨b8, o8 + qb * 3, none⟩ = some (.int .i64 y8.key) := hE8.1
                  have HH := hid (OSl.alloc (OSl.no HO.out (hq.no (hcm.no hci2))) (.cells #[.int .i64 y8.key] 3))
                  have HX1 := hid (Src.one (sz := 1) (enc := cInt) (y := y8.key) (Box.new (w := we) (g := we.heap.size) [.int .i64 y8.key] 3 rfl) rfl)
                  clear hy8 hE8
                  go_wp2_with (at_builtin; refine wpList_push _ rfl _ _ 23 rfl 3 1 8 (.int .i64 0) cInt Try.underlying23 infoInt rfl (by omega) (by omega) (fun _ => rfl) oneInt w4.heap.size _ O rfl HH.out _ 1 1 [y8.key] rfl HX1.out (by omega) (by simp; omega) ?_; intro v' w8 ho hg2 hb2)
                  have hc8 : Chg No w4 w8 := Chg.pushed (hc4e.alloc _) hg2 HH.out (Nat.le_refl _)
                  have HO2 := hid ho
                  clear ho hg2 hb2 HX1 HH HO
                  go_wp2
                  go_roundw
                  case rel => exact ⟨qb, y8, O ++ [y8.key], rfl, HXB, hc8, HO2, HW2⟩
                  case measure => have h9 := HMS.out; simpa [intOf] using h9
                · have j1 : decide (0 ≤ cv) = true := decide_eq_true (by have h9 : ¬ cv < 0 := fun h => hnn (hneg.1 h); omega)
                  have hnx : nextF xs kind many at_ x.key = none := next_far (at_ := at_) HZR.out (by rw [← HB3.out, HHX.out]; simpa using hnn)
                  have HW2 := hid (show walkL xs kind many at_ key = O from by
                    have h9 := HW.out
                    rw [walkL_none hnx] at h9
                    rw [h9]; simp)
                  clear hnn hneg hnx HW HB3 HHX
                  (go_wp2_with fail; (with_reducible refine (K6.out _ (Chg.refl _ _)).mono ?_); rintro e wc ⟨rfl, hcc⟩)
                  (go_wp2_with fail; (with_reducible refine (K7.out _ hcc).mono ?_); rintro e wd ⟨rfl, hcd⟩)
                  (go_wp2_with fail; (with_reducible refine (KK.out _).mono ?_); rintro e we ⟨rfl, hce⟩)
                  have hci2 : Chg No wi we := (hcc.no hcd).no hce
                  have HO6 := hid (OSl.down (OSl.no HO.out (hq.no (hcm.no hci2))) (base' := w.heap.size) s4)
                  have h06 : Chg No w we := q4.no (hci.no hci2)
                  go_wp2
                  go_ret2
                  exact ⟨_, rfl, by rw [HF.out, HW2.out]; exact HO6.out, h06⟩
          · have d0 : decide (0 < nr) = false := decide_eq_false h00
            have d1 : decide ((0 : Int) < (nr : Int)) = false := decide_eq_false (by omega)
            have hnx : nextF xs kind many at_ x.key = none := next_empty (by rw [← HRR.out]; exact List.eq_nil_of_length_eq_zero (by rw [HRL.out]; omega))
            have HW2 := hid (show walkL xs kind many at_ key = O from by
              have h9 := HW.out
              rw [walkL_none hnx] at h9
              rw [h9]; simp)
            have HO6 := hid (OSl.down HO.out (base' := w.heap.size) s4)
            have h06 : Chg No w wo := q4.no hc
            clear hnx
            go_wp2
            go_ret2
            exact ⟨_, rfl, by rw [HF.out, HW2.out]; exact HO6.out, h06⟩
      · have hwq : walkB xs kind many key at_ = false := by unfold walkB; rw [hq, hv, decide_eq_false hk0]; rfl
        have hk0' : keyAtF xs key < 0 := by omega
        have HF := hid (WalkF_no hwq)
        rw [hwq]
        generalize keyAtF xs key = r at *
        clear hq hv hwq hx hy hk0
        have fb0 : wb.cell? ⟨w.heap.size, 0, none⟩ = some (.slice A n c) := (B0.out.no (Chg.refl _ _)).cell 0
        have fb1 : wb.cell? ⟨w.heap.size + 1, 0, none⟩ = some (.int .i64 kind) := (B1.out.no (Chg.refl _ _)).cell 0
        have fb2 : wb.cell? ⟨w.heap.size + 1 + 1, 0, none⟩ = some (.slice A' n' c') := (B2.out.no (Chg.refl _ _)).cell 0
        go_enter Try.func16, Try.ntmps16
        (go_wp2_with fail; (with_reducible refine (K1.out _ (HX.out.no hwb)).mono ?_); rintro e w1 ⟨rfl, hc1⟩)
        have f10 : w1.cell? ⟨w.heap.size, 0, none⟩ = some (.slice A n c) := (B0.out.no hc1).cell 0
        have f11 : w1.cell? ⟨w.heap.size + 1, 0, none⟩ = some (.int .i64 kind) := (B1.out.no hc1).cell 0
        have f12 : w1.cell? ⟨w.heap.size + 1 + 1, 0, none⟩ = some (.slice A' n' c') := (B2.out.no hc1).cell 0
        (go_wp2_with fail; (with_reducible refine (K2.out _ (HY.out.no (hwb.no hc1))).mono ?_); rintro e w2 ⟨rfl, rfl⟩)
        (go_wp2_with fail; (with_reducible refine (K3.out _ (HX.out.no (hwb.no hc1))).mono ?_); rintro e w3 ⟨rfl, hc3⟩)
        go_wp2
        go_ret2
        exact ⟨_, rfl, by rw [HF.out]; exact OSl.nil_ _, by (repeat (first | (with_reducible exact Chg.refl _ _) | ((with_reducible refine Chg.setNew ?_ _ ?_); rotate_left; first | (dsimp only; omega) | (simp; done) | (simp; omega)) | (with_reducible refine Chg.alloc ?_ _) | (with_reducible refine Chg.drew ?_) | (with_reducible refine Chg.drewN ?_ _) | (with_reducible refine Chg.no ?_ (by assumption)) | (with_reducible refine Chg.and_ ?_ (by assumption)) | ((with_reducible refine Chg.at_ ?_ (by assumption) ?_); rotate_left; (try simp only [World.size_alloc]); omega)))⟩
end Go.Proofs.Ytgidepnlflmclaa
