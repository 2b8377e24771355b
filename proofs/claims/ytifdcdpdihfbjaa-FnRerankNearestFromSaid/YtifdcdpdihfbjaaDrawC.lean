/- The drawn arguments: books of codes, with a store, a vector and counts. -/
import Derived.Test.YtifdcdpdihfbjaaDrawP
import Derived.Test.YtifdcdpdihfbjaaDrawN
import Derived.Deep.RegionWith
import Derived.OwnWalk
namespace Go.Proofs.Ytifdcdpdihfbjaa
open Go.RowKit
set_option linter.unusedVariables false
set_option linter.unusedSimpArgs false
theorem orows_form {w : World} {base : Nat} {v : Value} {xs : List (List Int)} (h : ORows w base v xs) (h0 : 0 < xs.length) : ∃ g c, v = .slice (some ⟨g, 0, none⟩) xs.length c ∧ base ≤ g ∧ g < w.heap.size ∧ xs.length ≤ c ∧ c ≤ 9223372036854775807 ∧ RRows w base w.heap.size (some ⟨g, 0, none⟩) xs.length c xs := by
  obtain ⟨A, c, rfl, hr⟩ := ORows.read h
  obtain ⟨ps, hps, hoo, _, _⟩ := h
  have hpl : ps.length = xs.length := by rw [← hps, List.length_map]
  obtain ⟨A', c', hv, hcl, hcm, hA⟩ := OSl.form hoo
  obtain ⟨g, hg, h1, h2⟩ := hA (by omega)
  injection hv with e1 e2 e3
  subst hg e1 e3
  exact ⟨g, c, rfl, h1, h2, hr.le, hr.cap, hr⟩
theorem RRows.drop1 {w : World} {lo hi g n c : Nat} {xs : List (List Int)} (h : RRows w lo hi (some ⟨g, 0, none⟩) n c xs) (hn : 1 ≤ n) (hc : ¬ c = 1) : RRows w lo hi (some ⟨g, 1, none⟩) (n - 1) (c - 1) (xs.drop 1) := by
  have h9 := RSl.drop h (k := 1) hn
  rw [if_neg hc] at h9
  exact h9
set_option maxHeartbeats 2000000 in
theorem someHalves {B : Nat} (g m : Nat) (w : World) (hR : Rd w B g m) (hm : m < 600000) : Calls Try.prog 80 #[.pointer (some ⟨g, 0, none⟩)] w (DrRows B g m 4 w) := by
  have hg := hR.lt
  have HO0 := hid (show ORows (w.alloc (.cells #[] 27)) w.heap.size (.slice (some ⟨w.heap.size, 0, none⟩) 0 0) [] from
    ⟨[], rfl, OSl.lit (enc := cRow) (n := 0) [] [] (fun _ => rfl) rfl rfl (by omega) (Nat.le_refl _) (heap_top rfl), (fun p hp => by cases hp), List.Pairwise.nil⟩)
  have HR0 := hid (hR.no ((Chg.refl No w).alloc (.cells #[] 27)))
  clear hR
  go_enter Try.func80, Try.ntmps80
  go_wp2
  go_loopw [3, 4] (fun v i wr => ∃ k : Nat, k ≤ 4 ∧ i = .int .i64 k ∧ (∃ xs : List (List Int), Hid (xs.length = k) ∧ Hid (ORows wr w.heap.size v xs)) ∧ Rd wr B g (m + 12 * k) ∧ Chg (At g) w wr) (fun _ i _ => 4 - (intOf i).toNat)
  case atStart => exact ⟨0, Nat.zero_le _, rfl, ⟨[], rfl, HO0⟩, HR0.out, by (repeat (first | (with_reducible exact Chg.refl _ _) | ((with_reducible refine Chg.setNew ?_ _ ?_); rotate_left; first | (dsimp only; omega) | (simp; done) | (simp; omega)) | (with_reducible refine Chg.alloc ?_ _) | (with_reducible refine Chg.drew ?_) | (with_reducible refine Chg.drewN ?_ _) | (with_reducible refine Chg.no ?_ (by assumption)) | (with_reducible refine Chg.and_ ?_ (by assumption)) | ((with_reducible refine Chg.at_ ?_ (by assumption) ?_); rotate_left; (try simp only [World.size_alloc]); omega)))⟩
  case round =>
    clear HO0 HR0
    obtain ⟨k, hk, rfl, ⟨xs, HL, HO⟩, hR, hc⟩ := hrel
    have hsz := hc.size
    by_cases hlt : k < 4
    · (go_wp2_with fail; (with_reducible refine (someCoord g (m + 12 * k) _ hR (by omega)).mono ?_); rintro e wa ⟨x, rfl, hxb, hRa, hca⟩)
      have hsa := hca.size
      (go_wp2_with fail; (with_reducible refine (someCoord g (m + 12 * k + 3) _ hRa (by omega)).mono ?_); rintro e w1 ⟨y, rfl, hyb, hR1, hcb⟩)
      have hc1 : Chg (At g) wr w1 := hca.and_ hcb
      have hsz1 := hc1.size
      obtain ⟨ps, hps, hoo, hii, haa⟩ := HO.out
      have hpl : ps.length = k := by have h9 := congrArg List.length hps; rw [List.length_map, HL.out] at h9; exact h9
      obtain ⟨wA, hwA⟩ : ∃ W, w1.alloc (.cells #[.int .i64 x, .int .i64 y] 3) = W := ⟨_, rfl⟩
      have h1A : Chg No w1 wA := by rw [← hwA]; exact (Chg.refl No w1).alloc _
      have hsA : wA.heap.size = w1.heap.size + 1 := by rw [← hwA]; simp
      obtain ⟨A1, c1, hv1, ht1⟩ := OInts.typed (show OInts wA w1.heap.size (.slice (some ⟨w1.heap.size, 0, none⟩) 2 2) [x, y] from by rw [← hwA]; exact OSl.lit (T := 3) (sz := 1) (enc := cInt) (n := 2) [x, y] [.int .i64 x, .int .i64 y] (fun _ => rfl) rfl rfl (by omega) (Nat.le_refl _) (heap_top rfl))
      injection hv1 with e1 _ e3
      subst e1 e3
      have HLT := hid (ORows.lt hii)
      have HGE := hid (tints_ge ht1)
      have h1B : Chg No w1 (wA.alloc (.cells #[.slice (some ⟨w1.heap.size, 0, none⟩) 2 2] 27)) := h1A.alloc _
      have HO1 := hid ((OSl.keep hoo hc1 (fun j h1 _ (e : j = g) => by omega)).no h1B)
      have HX := hid (Src.one (sz := 1) (enc := cRow) (y := ⟨[x, y], some ⟨w1.heap.size, 0, none⟩, 2, 2⟩) (Box.new (w := wA) (g := w1.heap.size + 1) [.slice (some ⟨w1.heap.size, 0, none⟩) 2 2] 27 hsA.symm) rfl)
      have HII := hid (show ∀ p ∈ ps, TInts (wA.alloc (.cells #[.slice (some ⟨w1.heap.size, 0, none⟩) 2 2] 27)) w.heap.size (wA.alloc (.cells #[.slice (some ⟨w1.heap.size, 0, none⟩) 2 2] 27)).heap.size p.A p.n p.c p.row from fun p hp => (((hii p hp).keep hc1 (fun j h1 _ (e : j = g) => by omega)).keep h1B (fun _ _ _ e => e)).wide (Nat.le_refl _) (by simp only [World.size_alloc]; omega))
      have HT1 := hid ((ht1.keep ((Chg.refl No wA).alloc (.cells #[.slice (some ⟨w1.heap.size, 0, none⟩) 2 2] 27)) (fun _ _ _ e => e)).wide (lo' := w.heap.size) (hi' := (wA.alloc (.cells #[.slice (some ⟨w1.heap.size, 0, none⟩) 2 2] 27)).heap.size) (by omega) (by simp))
      have hcw1 : Chg (At g) w w1 := hc.and_ hc1
      have HAA := hid haa
      have HPS := hid hps
      clear hoo hii haa hps ht1
      go_wp2_with (at_builtin; refine wpList_push _ rfl _ _ 23 rfl 27 1 24 (.slice none 0 0) cRow Try.underlying23 infoRow rfl (by omega) (by omega) (fun _ => rfl) oneRow w.heap.size _ ps rfl HO1.out _ 1 1 [⟨[x, y], some ⟨w1.heap.size, 0, none⟩, 2, 2⟩] rfl HX.out (by omega) (by simp; omega) ?_; intro v' w2 ho hg2 hb2)
      have hc2 : Chg (At g) w w2 := Chg.pushed (a := w) (hcw1.no h1B) hg2 HO1.out (Nat.le_refl _)
      have hR2 : Rd w2 B g (m + 12 * k + 6) := by
        refine (hR1.no h1B).keep (S := fun j => w.heap.size ≤ j) ((Chg.refl _ _).grown hg2 (fun j hj _ => (World.ownsRow.lt HO1.out j hj).1)) (fun j h1 h2 => ?_) (fun h => ?_)
        · have := hR1.base; omega
        · omega
      have HO3 := hid (ORows.push (B := wr.heap.size) HPS.out HO1.out HII.out HT1.out ho hg2 HAA.out HLT.out (fun h0 b o hA => by have := HGE.out h0 b o hA; omega))
      have HL3 : Hid ((xs ++ [[x, y]]).length = k + 1) := by show _ = _; rw [List.length_append, HL.out]; rfl
      have hR3 := hR2.mono (m' := m + 12 * (k + 1)) (by omega)
      clear ho hg2 hb2 HX HO1 HII HT1 HAA HPS HLT HGE HO HL hR hR1 hR2
      go_wp2
      go_roundw
      case rel => exact ⟨k + 1, by omega, by go_num, ⟨_, HL3, HO3⟩, hR3, hc2⟩
      case measure => simp [intOf]; omega
    · have hkn : k = 4 := by omega
      subst hkn
      go_wp2
      go_ret
      exact ⟨_, xs, rfl, HO.out, HL.out, hR, hc⟩
theorem set_cell {w : World} {base g n c q : Nat} {ps : List RwP} (h : OSl 27 1 cRow w base (.slice (some ⟨g, 0, none⟩) n c) ps) (hq : q < ps.length) : ∃ p, ps[q]? = some p ∧ w.cell? ⟨g, q, none⟩ = some (.slice p.A p.n p.c) := by
  refine ⟨_, List.getElem?_eq_getElem hq, ?_⟩
  have h9 := h.cell (fun _ => rfl) (i := 0) (List.getElem?_eq_getElem hq) rfl
  simpa using h9
/-- a book has been drawn -/
def DrBook (B g m : Nat) (w : World) (e : Ending) (w' : World) : Prop := ∃ (AL : Option Addr) (nL cL : Nat) (L : List (List Int)) (AR : Option Addr) (nR cR : Nat) (R : List (List Int)), e = .returned (.agg #[.slice AL nL cL, .slice AR nR cR]) ∧ RRows w' w.heap.size w'.heap.size AL nL cL L ∧ RRows w' w.heap.size w'.heap.size AR nR cR R ∧ Rd w' B g m ∧ Chg (At g) w w'
set_option maxHeartbeats 4000000 in
theorem anyBook {B : Nat} (g m : Nat) (w : World) (hR : Rd w B g m) (hm : m < 500000) : Calls Try.prog 43 #[.pointer (some ⟨g, 0, none⟩)] w (DrBook B g (m + 110) w) := by
  have hg := hR.lt
  have hBg := hR.base
  go_enter Try.func43, Try.ntmps43
  go_wp2_with fail
  (with_reducible refine (someHalves g m _ (hR.no ((Chg.refl No w).alloc _)) (by omega)).mono ?_); rintro e w1 ⟨v1, xs, rfl, ho1, hl1, hR1, hc1⟩
  have s1 := hc1.size
  simp only [World.size_alloc] at s1 ho1
  obtain ⟨gL, cL, hvL, hgL1, hgL2, hcL1, hcL2, hrL⟩ := orows_form ho1 (by omega)
  rw [hl1] at hvL hcL1 hrL
  subst hvL
  have hb1 := hid ((Box.new (w := w) [.slice none 0 0, .slice none 0 0] 25 rfl).keep hc1 (fun h : _ = _ => by omega))
  have hcw1 : Chg (At g) w w1 := ((Chg.refl _ w).alloc _).and_ hc1
  have HL1 := hid hrL
  clear ho1 hrL hc1
  (go_wp2_with fail; (with_reducible refine (someHalves g (m + 12 * 4) _ hR1 (by omega)).mono ?_); rintro e w2 ⟨v2, ys, rfl, ho2, hl2, hR2, hc2⟩)
  have s2 := hc2.size
  have HL2 := hid (HL1.out.keep hc2 (fun k h1 h2 (h3 : k = g) => by omega))
  have hb2 := hid (hb1.out.keep hc2 (fun h : _ = _ => by omega))
  have hcw2 : Chg (At g) w w2 := hcw1.and_ hc2
  have HR2 := hid ho2
  obtain ⟨gR, cR, hvR, hgR1, hgR2, hcR1, hcR2, hrR⟩ := orows_form ho2 (by omega)
  rw [hl2] at hvR hcR1 hrR
  subst hvR
  have HQ2 := hid hrR
  clear ho2 hc2 HL1 hb1 hrR
  have hbS := hid (Box.new (w := w2) [.slice (some ⟨gL, 0, none⟩) 4 cL, .slice (some ⟨gR, 0, none⟩) 4 cR] 25 rfl)
  obtain ⟨W3, hW3⟩ : ∃ W, w2.alloc (.cells #[.slice (some ⟨gL, 0, none⟩) 4 cL, .slice (some ⟨gR, 0, none⟩) 4 cR] 25) = W := ⟨_, rfl⟩
  have hcS : Chg No w2 W3 := by rw [← hW3]; exact (Chg.refl No w2).alloc _
  have sS : W3.heap.size = w2.heap.size + 1 := by rw [← hW3]; simp
  have hbT : Hid (Box W3 w2.heap.size [.slice (some ⟨gL, 0, none⟩) 4 cL, .slice (some ⟨gR, 0, none⟩) 4 cR]) := by show Box _ _ _; rw [← hW3]; exact hbS.out
  have HLS := hid (HL2.out.no hcS)
  have HRS := hid (HR2.out.no hcS)
  have HQS := hid (HQ2.out.no hcS)
  have hbR := hid (hb2.out.no hcS)
  have hcwS : Chg (At g) w W3 := hcw2.no hcS
  have hRS := hR2.no hcS
  go_wp2_with fail
  clear hW3 hcS hbS hb2 HL2 HR2 hcw2
  (with_reducible refine (pick g (m + 12 * 4 + 12 * 4) _ _ hRS (by omega) (by omega)).mono ?_); rintro e w3 ⟨y3, rfl, hy3, hR3, hc3⟩
  have s3 := hc3.size
  have HL3 := hid (HLS.out.keep hc3 (fun k h1 h2 (h3 : k = g) => by omega))
  have HR3 := hid (HRS.out.keep hc3 (fun k h1 h2 (h3 : k = g) => by omega))
  have HQ3 := hid (HQS.out.keep hc3 (fun k h1 h2 (h3 : k = g) => by omega))
  have hb3 := hid (hbT.out.keep hc3 (fun h : _ = _ => by omega))
  have hd3 := hid (hbR.out.keep hc3 (fun h : _ = _ => by omega))
  have hcw3 : Chg (At g) w w3 := hcwS.and_ hc3
  have g3 := hb3.out.f2
  have l3 := hb3.out.lt
  have d3 := hd3.out.f2
  have e3 := hd3.out.lt
  clear hc3 HLS HRS hbT hbR
  by_cases a0 : y3 = 0
  · subst a0
    have HL4 := hid (RRows.drop1 HL3.out (by omega) (by omega))
    have j4 : ¬ cL = 1 := by omega
    clear hy3 HR3 HL3
    go_wp2
    (refine bodyPost_ret (by simp [results, Try.results43, go_sem, *]; rfl) rfl ?_)
    refine ⟨_, _, _, xs.drop 1, _, _, _, ys, rfl, ?_, ?_, ?_, ?_⟩
    · refine (HL4.out.keep (S := fun k => k = w.heap.size ∨ k = w2.heap.size) ?_ (fun k h1 h2 h3 => by omega)).wide (by omega) (by simp; omega)
      (repeat (first | (with_reducible exact Chg.refl _ _) | (with_reducible refine Chg.drew ?_) | (with_reducible refine Chg.drewN ?_ _) | ((with_reducible refine Chg.setCell ?_ _ ?_); rotate_left; (intro _; first | exact Or.inl rfl | exact Or.inr rfl))))
    · refine (HQ3.out.keep (S := fun k => k = w.heap.size ∨ k = w2.heap.size) ?_ (fun k h1 h2 h3 => by omega)).wide (by omega) (by simp; omega)
      (repeat (first | (with_reducible exact Chg.refl _ _) | (with_reducible refine Chg.drew ?_) | (with_reducible refine Chg.drewN ?_ _) | ((with_reducible refine Chg.setCell ?_ _ ?_); rotate_left; (intro _; first | exact Or.inl rfl | exact Or.inr rfl))))
    · refine (hR3.mono (m' := m + 110) (by omega)).keep (S := fun k => k = w.heap.size ∨ k = w2.heap.size) ?_ (fun k h1 h2 => by omega) (fun h => by omega)
      (repeat (first | (with_reducible exact Chg.refl _ _) | (with_reducible refine Chg.drew ?_) | (with_reducible refine Chg.drewN ?_ _) | ((with_reducible refine Chg.setCell ?_ _ ?_); rotate_left; (intro _; first | exact Or.inl rfl | exact Or.inr rfl))))
    · (repeat (first | (with_reducible exact Chg.refl _ _) | ((with_reducible refine Chg.setNew ?_ _ ?_); rotate_left; first | (dsimp only; omega) | (simp; done) | (simp; omega)) | (with_reducible refine Chg.alloc ?_ _) | (with_reducible refine Chg.drew ?_) | (with_reducible refine Chg.drewN ?_ _) | (with_reducible refine Chg.no ?_ (by assumption)) | (with_reducible refine Chg.and_ ?_ (by assumption)) | ((with_reducible refine Chg.at_ ?_ (by assumption) ?_); rotate_left; (try simp only [World.size_alloc]); omega)))
  · have n0 : (y3 == 0) = false := by simp; omega
    by_cases a1 : y3 = 1
    · subst a1
      obtain ⟨ps, hps, hoo, hii, haa⟩ := HR3.out
      have hpl : ps.length = 4 := by have h9 := congrArg List.length hps; rw [List.length_map, hl2] at h9; exact h9
      have HO3 := hid hoo; have HI3 := hid hii; have HA3 := hid haa; have HPS := hid hps
      clear hy3 HR3 hoo hii haa hps
      go_wp2_with fail
      first | (go_region_with (first | (go_at_call 81; (with_reducible refine (pick g (m + 12 * 4 + 12 * 4 + 1) _ _ (hR3.no (by (repeat (first | (with_reducible exact Chg.refl _ _) | ((with_reducible refine Chg.setNew ?_ _ ?_); rotate_left; first | (dsimp only; omega) | (simp; done) | (simp; omega)) | (with_reducible refine Chg.alloc ?_ _) | (with_reducible refine Chg.drew ?_) | (with_reducible refine Chg.drewN ?_ _) | (with_reducible refine Chg.no ?_ (by assumption)) | (with_reducible refine Chg.and_ ?_ (by assumption)) | ((with_reducible refine Chg.at_ ?_ (by assumption) ?_); rotate_left; (try simp only [World.size_alloc]); omega))))) (by omega) (by omega)).mono ?_); rintro e wp ⟨yq, rfl, hyq, hRq, hcq⟩; have bq := picked_lt hyq (by omega); obtain ⟨q, rfl⟩ := Int.eq_ofNat_of_zero_le bq.1; have hq4 : q < 4 := (by omega); have hcp : Chg (At g) w3 wp := (by (repeat (first | (with_reducible exact Chg.refl _ _) | ((with_reducible refine Chg.setNew ?_ _ ?_); rotate_left; first | (dsimp only; omega) | (simp; done) | (simp; omega)) | (with_reducible refine Chg.alloc ?_ _) | (with_reducible refine Chg.drew ?_) | (with_reducible refine Chg.drewN ?_ _) | (with_reducible refine Chg.no ?_ (by assumption)) | (with_reducible refine Chg.and_ ?_ (by assumption)) | ((with_reducible refine Chg.at_ ?_ (by assumption) ?_); rotate_left; (try simp only [World.size_alloc]); omega))) : Chg (At g) w3 wp); have sp := hcp.size; have gp := (hb3.out.keep hcp (fun h : _ = _ => by omega)).f2; have lp := (hb3.out.keep hcp (fun h : _ = _ => by omega)).lt) | (go_at_call 82; (with_reducible refine (spoil g (m + 12 * 4 + 12 * 4 + 1 + 1) w3.heap.size (wp.heap.size + 1) _ 2 2 [1, 2] 101 _ (hRq.no (by (repeat (first | (with_reducible exact Chg.refl _ _) | ((with_reducible refine Chg.setNew ?_ _ ?_); rotate_left; first | (dsimp only; omega) | (simp; done) | (simp; omega)) | (with_reducible refine Chg.alloc ?_ _) | (with_reducible refine Chg.drew ?_) | (with_reducible refine Chg.drewN ?_ _) | (with_reducible refine Chg.no ?_ (by assumption)) | (with_reducible refine Chg.and_ ?_ (by assumption)) | ((with_reducible refine Chg.at_ ?_ (by assumption) ?_); rotate_left; (try simp only [World.size_alloc]); omega))))) (by omega) ?_ (by omega) (by omega)).mono ?_); (first | exact RInts.wide (RInts.lit (heap_top rfl) [1, 2] rfl rfl (by omega)) (by omega) (by omega) | exact RInts.wide (RInts.keep (RInts.lit (heap_top rfl) [1, 2] rfl rfl (by omega)) hcq (fun k h1 h2 (h3 : k = g) => by omega)) (by omega) (by omega) | exact RInts.wide (RInts.keep (RInts.lit (heap_top1 rfl) [1, 2] rfl rfl (by omega)) hcq (fun k h1 h2 (h3 : k = g) => by omega)) (by omega) (by omega)); (rintro e w5 ⟨A5, n5, c5, zs, rfl, ht5, hn5, hR5, hc5⟩; have hc35 : Chg (At g) w3 w5 := (by (repeat (first | (with_reducible exact Chg.refl _ _) | ((with_reducible refine Chg.setNew ?_ _ ?_); rotate_left; first | (dsimp only; omega) | (simp; done) | (simp; omega)) | (with_reducible refine Chg.alloc ?_ _) | (with_reducible refine Chg.drew ?_) | (with_reducible refine Chg.drewN ?_ _) | (with_reducible refine Chg.no ?_ (by assumption)) | (with_reducible refine Chg.and_ ?_ (by assumption)) | ((with_reducible refine Chg.at_ ?_ (by assumption) ?_); rotate_left; (try simp only [World.size_alloc]); omega))) : Chg (At g) w3 w5); have s5 := hc35.size; have hu5 := hid (ht5.wide (lo' := w3.heap.size) (Chg.size (S := At g) (by (repeat (first | (with_reducible exact Chg.refl _ _) | ((with_reducible refine Chg.setNew ?_ _ ?_); rotate_left; first | (dsimp only; omega) | (simp; done) | (simp; omega)) | (with_reducible refine Chg.alloc ?_ _) | (with_reducible refine Chg.drew ?_) | (with_reducible refine Chg.drewN ?_ _) | (with_reducible refine Chg.no ?_ (by assumption)) | (with_reducible refine Chg.and_ ?_ (by assumption)) | ((with_reducible refine Chg.at_ ?_ (by assumption) ?_); rotate_left; (try simp only [World.size_alloc]); omega))))) (Nat.le_refl _)); clear ht5; have HO5 := hid (OSl.keep HO3.out hc35 (fun j h1 _ (e : j = g) => by omega)); obtain ⟨p, hp, k1⟩ := set_cell (q := q) HO5.out (by omega); have k2 := HO5.out.free q; have g5 := (hb3.out.keep hc35 (fun h : _ = _ => by omega)).f2; have l5 := (hb3.out.keep hc35 (fun h : _ = _ => by omega)).lt)))) | fail
      all_goals
        have hkc : Chg (fun k => k = gR) w5 (w5.setCell ⟨gR, q, none⟩ (.slice A5 n5 c5)) := Chg.setCell (Chg.refl _ w5) _ (fun _ => rfl)
        obtain ⟨cs, fr, hcs⟩ := own_typed HO5.out gR rfl
        have hO6 := HO5.out.set1 (fun _ => rfl) q ⟨zs, A5, n5, c5⟩ (.slice A5 n5 c5) rfl
        obtain ⟨W6, hW6⟩ : ∃ W, w5.setCell ⟨gR, q, none⟩ (.slice A5 n5 c5) = W := ⟨_, rfl⟩
        rw [hW6] at hkc hO6
        have s6 := hkc.size
        have HF := hid (show ORows W6 w1.heap.size (.slice (some ⟨gR, 0, none⟩) 4 cR) ((ps.set q ⟨zs, A5, n5, c5⟩).map (·.row)) from by
          refine ⟨_, rfl, hO6, fun r hr => ?_, ?_⟩
          · rcases List.mem_or_eq_of_mem_set hr with hr | hr
            · exact (((HI3.out r hr).keep hc35 (fun j h1 _ (e : j = g) => by omega)).other hkc hcs (by decide)).wide (by omega) (by omega)
            · subst hr
              exact (hu5.out.other hkc hcs (by decide)).wide (by omega) (by omega)
          · rw [List.map_set]
            refine Apart.set (B := w3.heap.size) HA3.out (fun r hr => ?_) (fun h0 b o hA => by have := tints_ge hu5.out h0 b o hA; omega)
            obtain ⟨r', hr', rfl⟩ := List.mem_map.1 hr
            exact ORows.lt HI3.out r' hr')
        obtain ⟨A9, c9, hv9, hr9⟩ := ORows.read HF.out
        rw [List.length_map, List.length_set, hpl] at hv9 hr9
        injection hv9 with e1 _ e2
        subst e1 e2
        have HR6 := hid hr9
        have HL6 := hid ((HL3.out.keep hc35 (fun k h1 h2 (h3 : k = g) => by omega)).keep hkc (fun k h1 h2 (h3 : k = gR) => by omega))
        have hR6 : Rd W6 B g (m + 110) := (hR5.mono (by omega)).keep (S := fun j => j = gR) hkc (fun j h1 h2 => by omega) (fun h => by omega)
        have hcE : Chg (At g) w W6 := by rw [← hW6]; exact Chg.setCell (hcw3.and_ hc35) _ (fun h => by dsimp only at h; omega)
        have g6 := ((hb3.out.keep hc35 (fun h : _ = _ => by omega)).keep hkc (fun h : _ = _ => by omega)).f2
        have l6 := ((hb3.out.keep hc35 (fun h : _ = _ => by omega)).keep hkc (fun h : _ = _ => by omega)).lt
        have d6 := ((hd3.out.keep hc35 (fun h : _ = _ => by omega)).keep hkc (fun h : _ = _ => by omega)).f2
        have e6 := ((hd3.out.keep hc35 (fun h : _ = _ => by omega)).keep hkc (fun h : _ = _ => by omega)).lt
        clear hO6 hcs hp hu5 hkc hr9 HF k1 k2 g5 l5 gp lp
        go_wp2
        (refine bodyPost_ret (by simp [results, Try.results43, go_sem, *]; rfl) rfl ?_)
        refine ⟨_, _, _, xs, _, _, _, (ps.set q ⟨zs, A5, n5, c5⟩).map (·.row), rfl, ?_, ?_, ?_, ?_⟩
        rotate_left
        · refine (HR6.out.keep (S := fun k => k = w.heap.size) ?_ (fun k h1 h2 h3 => by omega)).wide (by omega) (by simp)
          (repeat (first | (with_reducible exact Chg.refl _ _) | (with_reducible refine Chg.drew ?_) | (with_reducible refine Chg.drewN ?_ _) | ((with_reducible refine Chg.setCell ?_ _ ?_); rotate_left; (intro _; rfl))))
        · refine hR6.keep (S := fun k => k = w.heap.size) ?_ (fun k h1 h2 => by omega) (fun h => by omega)
          (repeat (first | (with_reducible exact Chg.refl _ _) | (with_reducible refine Chg.drew ?_) | (with_reducible refine Chg.drewN ?_ _) | ((with_reducible refine Chg.setCell ?_ _ ?_); rotate_left; (intro _; rfl))))
        · (repeat (first | (with_reducible exact Chg.refl _ _) | ((with_reducible refine Chg.setNew ?_ _ ?_); rotate_left; first | (dsimp only; omega) | (simp; done) | (simp; omega)) | (with_reducible refine Chg.alloc ?_ _) | (with_reducible refine Chg.drew ?_) | (with_reducible refine Chg.drewN ?_ _) | (with_reducible refine Chg.no ?_ (by assumption)) | (with_reducible refine Chg.and_ ?_ (by assumption)) | ((with_reducible refine Chg.at_ ?_ (by assumption) ?_); rotate_left; (try simp only [World.size_alloc]); omega)))
        · refine (HL6.out.keep (S := fun k => k = w.heap.size) ?_ (fun k h1 h2 h3 => by omega)).wide (by omega) (by simp; omega)
          (repeat (first | (with_reducible exact Chg.refl _ _) | (with_reducible refine Chg.drew ?_) | (with_reducible refine Chg.drewN ?_ _) | ((with_reducible refine Chg.setCell ?_ _ ?_); rotate_left; (intro _; rfl))))
    · have n1 : (y3 == 1) = false := by simp; omega
      clear hy3 HR3
      go_wp2
      (refine bodyPost_ret (by simp [results, Try.results43, go_sem, *]; rfl) rfl ?_)
      refine ⟨_, _, _, xs, _, _, _, ys, rfl, ?_, ?_, ?_, ?_⟩
      · refine (HL3.out.keep (S := fun k => k = w.heap.size ∨ k = w2.heap.size) ?_ (fun k h1 h2 h3 => by omega)).wide (by omega) (by simp; omega)
        (repeat (first | (with_reducible exact Chg.refl _ _) | (with_reducible refine Chg.drew ?_) | (with_reducible refine Chg.drewN ?_ _) | ((with_reducible refine Chg.setCell ?_ _ ?_); rotate_left; (intro _; first | exact Or.inl rfl | exact Or.inr rfl))))
      · refine (HQ3.out.keep (S := fun k => k = w.heap.size ∨ k = w2.heap.size) ?_ (fun k h1 h2 h3 => by omega)).wide (by omega) (by simp; omega)
        (repeat (first | (with_reducible exact Chg.refl _ _) | (with_reducible refine Chg.drew ?_) | (with_reducible refine Chg.drewN ?_ _) | ((with_reducible refine Chg.setCell ?_ _ ?_); rotate_left; (intro _; first | exact Or.inl rfl | exact Or.inr rfl))))
      · refine (hR3.mono (m' := m + 110) (by omega)).keep (S := fun k => k = w.heap.size ∨ k = w2.heap.size) ?_ (fun k h1 h2 => by omega) (fun h => by omega)
        (repeat (first | (with_reducible exact Chg.refl _ _) | (with_reducible refine Chg.drew ?_) | (with_reducible refine Chg.drewN ?_ _) | ((with_reducible refine Chg.setCell ?_ _ ?_); rotate_left; (intro _; first | exact Or.inl rfl | exact Or.inr rfl))))
      · (repeat (first | (with_reducible exact Chg.refl _ _) | ((with_reducible refine Chg.setNew ?_ _ ?_); rotate_left; first | (dsimp only; omega) | (simp; done) | (simp; omega)) | (with_reducible refine Chg.alloc ?_ _) | (with_reducible refine Chg.drew ?_) | (with_reducible refine Chg.drewN ?_ _) | (with_reducible refine Chg.no ?_ (by assumption)) | (with_reducible refine Chg.and_ ?_ (by assumption)) | ((with_reducible refine Chg.at_ ?_ (by assumption) ?_); rotate_left; (try simp only [World.size_alloc]); omega)))
/-- a book, a store, a vector and a count have been drawn -/
def DrawnCN (w : World) (e : Ending) (w' : World) : Prop := ∃ (AL : Option Addr) (nL cL : Nat) (L : List (List Int)) (AR : Option Addr) (nR cR : Nat) (R : List (List Int)) (v : Value) (xs : List It) (A : Option Addr) (n c : Nat) (at_ : List Int) (k : Int), e = .returned (.tuple #[.agg #[.slice AL nL cL, .slice AR nR cR], v, .slice A n c, .int .i64 k]) ∧ RRows w' w.heap.size w'.heap.size AL nL cL L ∧ RRows w' w.heap.size w'.heap.size AR nR cR R ∧ OItems w' w.heap.size v xs ∧ xs.length ≤ 17 ∧ RInts w' w.heap.size w'.heap.size A n c at_ ∧ n ≤ 101 ∧ (0 ≤ k ∧ k ≤ 17) ∧ Chg No w w'
set_option maxHeartbeats 4000000 in
theorem drawCodeNearest (A : Option Addr) (n c : Nat) (w : World) (hC : Code w w.heap.size A n c) : Calls Try.prog 8 #[.slice A n c] w (DrawnCN w) := by
  go_enter Try.func8, Try.ntmps8
  go_wp2_with fail
  refine (newReader w.heap.size A n c _ (hC.no ((Chg.refl _ _).alloc _)) (by simp only [World.size_alloc]; omega)).mono ?_
  rintro e w1 ⟨rfl, hR1, hc1⟩
  have s1 := hc1.size
  have l1 := hR1.lt
  simp only [World.size_alloc] at s1 hR1 l1
  (go_wp2_with fail; (with_reducible refine (anyBook _ 0 _ hR1 (by omega)).mono ?_); rintro e w2 ⟨AL, nL, cL, L, AR, nR, cR, R, rfl, hrl2, hrr2, hR2, hc2⟩)
  have s2 := hc2.size
  have q1 := hrl2.cap; have q2 := hrl2.le; have q3 := hrr2.cap; have q4 := hrr2.le
  have hd2 := hid (((Box.new (w := w) [.slice none 0 0, .slice none 0 0] 25 rfl).no hc1).keep hc2 (fun h : _ = _ => by omega))
  have h02 : Chg No w w2 := ((((Chg.refl No w).alloc _).no hc1).trans hc2 (fun i hi (h : i = _) => by omega))
  have hbS := hid (Box.new (w := w2) [.slice AL nL cL, .slice AR nR cR] 25 rfl)
  obtain ⟨W3, hW3⟩ : ∃ W, w2.alloc (.cells #[.slice AL nL cL, .slice AR nR cR] 25) = W := ⟨_, rfl⟩
  have hcS : Chg No w2 W3 := by rw [← hW3]; exact (Chg.refl No w2).alloc _
  have sS := hcS.size
  have sS1 : W3.heap.size = w2.heap.size + 1 := by rw [← hW3]; simp
  have HLS := hid (RRows.no hrl2 hcS)
  have HRS := hid (RRows.no hrr2 hcS)
  have hbR := hid (hd2.out.no hcS)
  have h0S : Chg No w W3 := h02.no hcS
  have hRS := hR2.no hcS
  have hbT : Hid (Box W3 w2.heap.size [.slice AL nL cL, .slice AR nR cR]) := by show Box _ _ _; rw [← hW3]; exact hbS.out
  go_wp2_with fail
  clear hW3 hcS hbS h02 hrl2 hrr2 hd2
  ((with_reducible refine (anyStore _ 110 _ hRS (by omega)).mono ?_); rintro e w3 ⟨v3, xs, rfl, ho3, hl3, _, hR3, hc3⟩)
  have s3 := hc3.size
  have HI3 := hid ho3
  obtain ⟨A3, c3, hv3, hr3⟩ := OItems.read ho3
  subst hv3
  have HL3 := hid (HLS.out.keep hc3 (fun k h1 h2 (h3 : k = _) => by omega))
  have HR3 := hid (HRS.out.keep hc3 (fun k h1 h2 (h3 : k = _) => by omega))
  have hb3 := hid (hbT.out.keep hc3 (fun h : _ = _ => by omega))
  have hd3 := hid (hbR.out.keep hc3 (fun h : _ = _ => by omega))
  have h03 : Chg No w w3 := h0S.trans hc3 (fun i hi (h : i = _) => by omega)
  clear hr3 ho3 HLS HRS hbT hbR
  (go_wp2_with fail; (with_reducible refine (anyVector _ (110 + 320) _ hR3 (by omega)).mono ?_); rintro e w5 ⟨A5, n5, c5, zs, rfl, ht5, hn5, hR5, hc5⟩)
  have s5 := hc5.size
  have HI5 := hid (HI3.out.keep hc5 (fun k h1 h2 (h3 : k = _) => by omega))
  have HL5 := hid (HL3.out.keep hc5 (fun k h1 h2 (h3 : k = _) => by omega))
  have HR5 := hid (HR3.out.keep hc5 (fun k h1 h2 (h3 : k = _) => by omega))
  have hb5 := hid (hb3.out.keep hc5 (fun h : _ = _ => by omega))
  have hd5 := hid (hd3.out.keep hc5 (fun h : _ = _ => by omega))
  have h05 : Chg No w w5 := h03.trans hc5 (fun i hi (h : i = _) => by omega)
  have HT5 := hid ht5.1
  clear ht5 HL3 HR3 HI3 hb3 hd3
  have g5 := hb5.out.f2
  have l5 := hb5.out.lt
  have d5 := hd5.out.f2
  have e5 := hd5.out.lt
  go_wp2_with fail
  first | (go_region_with (go_at_call 46; (with_reducible refine (someK _ (110 + 320 + 16) _ (hR5.no (by (repeat (first | (with_reducible exact Chg.refl _ _) | ((with_reducible refine Chg.setNew ?_ _ ?_); rotate_left; first | (dsimp only; omega) | (simp; done) | (simp; omega)) | (with_reducible refine Chg.alloc ?_ _) | (with_reducible refine Chg.drew ?_) | (with_reducible refine Chg.drewN ?_ _) | (with_reducible refine Chg.no ?_ (by assumption)) | (with_reducible refine Chg.and_ ?_ (by assumption)) | ((with_reducible refine Chg.at_ ?_ (by assumption) ?_); rotate_left; (try simp only [World.size_alloc]); omega))))) (by omega)).mono ?_); rintro e w9 ⟨k9, rfl, hx9, hR9, hc9⟩; have hc9' : Chg (At (w.heap.size + 1)) w5 w9 := (by (repeat (first | (with_reducible exact Chg.refl _ _) | ((with_reducible refine Chg.setNew ?_ _ ?_); rotate_left; first | (dsimp only; omega) | (simp; done) | (simp; omega)) | (with_reducible refine Chg.alloc ?_ _) | (with_reducible refine Chg.drew ?_) | (with_reducible refine Chg.drewN ?_ _) | (with_reducible refine Chg.no ?_ (by assumption)) | (with_reducible refine Chg.and_ ?_ (by assumption)) | ((with_reducible refine Chg.at_ ?_ (by assumption) ?_); rotate_left; (try simp only [World.size_alloc]); omega))) : Chg (At (w.heap.size + 1)) w5 w9); have g9 := (hb5.out.keep hc9' (fun h : _ = _ => by omega)).f2; have l9 := (hb5.out.keep hc9' (fun h : _ = _ => by omega)).lt; have d9 := (hd5.out.keep hc9' (fun h : _ = _ => by omega)).f2; have e9 := (hd5.out.keep hc9' (fun h : _ = _ => by omega)).lt)) | fail
  all_goals
    have s9 := hc9'.size
    have hk9 := k_of hx9
    have HI9 := hid (HI5.out.keep hc9' (fun k h1 h2 (h3 : k = _) => by omega))
    have HL9 := hid (HL5.out.keep hc9' (fun k h1 h2 (h3 : k = _) => by omega))
    have HR9 := hid (HR5.out.keep hc9' (fun k h1 h2 (h3 : k = _) => by omega))
    have HT9 := hid (HT5.out.keep hc9' (fun k h1 h2 (h3 : k = _) => by omega))
    have h09 : Chg No w w9 := h05.trans hc9' (fun i hi (h : i = _) => by omega)
    clear hx9
    go_wp2
    (refine bodyPost_ret (by simp [results, Try.results8, go_sem, *]; rfl) rfl ?_)
    refine ⟨_, _, _, L, _, _, _, R, _, xs, _, _, _, zs,  _, rfl, ?_, ?_, ?_, hl3, ?_, hn5,  hk9, ?_⟩
    · refine (HL9.out.keep (S := fun k => k = w.heap.size) ?_ (fun k h1 h2 h3 => by omega)).wide (by omega) (by simp; omega)
      (repeat (first | (with_reducible exact Chg.refl _ _) | (with_reducible refine Chg.drew ?_) | ((with_reducible refine Chg.setCell ?_ _ ?_); rotate_left; (intro _; rfl))))
    · refine (HR9.out.keep (S := fun k => k = w.heap.size) ?_ (fun k h1 h2 h3 => by omega)).wide (by omega) (by simp; omega)
      (repeat (first | (with_reducible exact Chg.refl _ _) | (with_reducible refine Chg.drew ?_) | ((with_reducible refine Chg.setCell ?_ _ ?_); rotate_left; (intro _; rfl))))
    · refine (HI9.out.keep (S := fun k => k = w.heap.size) ?_ (fun k h1 h2 h3 => by omega)).down (by omega)
      (repeat (first | (with_reducible exact Chg.refl _ _) | (with_reducible refine Chg.drew ?_) | ((with_reducible refine Chg.setCell ?_ _ ?_); rotate_left; (intro _; rfl))))
    · refine (HT9.out.keep (S := fun k => k = w.heap.size) ?_ (fun k h1 h2 h3 => by omega)).wide (by omega) (by simp; omega)
      (repeat (first | (with_reducible exact Chg.refl _ _) | (with_reducible refine Chg.drew ?_) | ((with_reducible refine Chg.setCell ?_ _ ?_); rotate_left; (intro _; rfl))))
    · (repeat (first | (with_reducible exact Chg.refl _ _) | ((with_reducible refine Chg.setNew ?_ _ ?_); rotate_left; first | (dsimp only; omega) | (simp; done) | (simp; omega)) | (with_reducible refine Chg.alloc ?_ _) | (with_reducible refine Chg.drew ?_) | (with_reducible refine Chg.drewN ?_ _) | (with_reducible refine Chg.no ?_ (by assumption)) | (with_reducible refine Chg.and_ ?_ (by assumption)) | ((with_reducible refine Chg.at_ ?_ (by assumption) ?_); rotate_left; (try simp only [World.size_alloc]); omega)))
/-- a book, a store, a vector and two counts have been drawn -/
def DrawnRN (w : World) (e : Ending) (w' : World) : Prop := ∃ (AL : Option Addr) (nL cL : Nat) (L : List (List Int)) (AR : Option Addr) (nR cR : Nat) (R : List (List Int)) (v : Value) (xs : List It) (A : Option Addr) (n c : Nat) (at_ : List Int) (many k : Int), e = .returned (.tuple #[.agg #[.slice AL nL cL, .slice AR nR cR], v, .slice A n c, .int .i64 many, .int .i64 k]) ∧ RRows w' w.heap.size w'.heap.size AL nL cL L ∧ RRows w' w.heap.size w'.heap.size AR nR cR R ∧ OItems w' w.heap.size v xs ∧ xs.length ≤ 17 ∧ RInts w' w.heap.size w'.heap.size A n c at_ ∧ n ≤ 101 ∧ (0 ≤ many ∧ many ≤ 17) ∧ (0 ≤ k ∧ k ≤ 17) ∧ Chg No w w'
set_option maxHeartbeats 4000000 in
theorem drawRerankNearest (A : Option Addr) (n c : Nat) (w : World) (hC : Code w w.heap.size A n c) : Calls Try.prog 16 #[.slice A n c] w (DrawnRN w) := by
  go_enter Try.func16, Try.ntmps16
  go_wp2_with fail
  refine (newReader w.heap.size A n c _ (hC.no ((Chg.refl _ _).alloc _)) (by simp only [World.size_alloc]; omega)).mono ?_
  rintro e w1 ⟨rfl, hR1, hc1⟩
  have s1 := hc1.size
  have l1 := hR1.lt
  simp only [World.size_alloc] at s1 hR1 l1
  (go_wp2_with fail; (with_reducible refine (anyBook _ 0 _ hR1 (by omega)).mono ?_); rintro e w2 ⟨AL, nL, cL, L, AR, nR, cR, R, rfl, hrl2, hrr2, hR2, hc2⟩)
  have s2 := hc2.size
  have q1 := hrl2.cap; have q2 := hrl2.le; have q3 := hrr2.cap; have q4 := hrr2.le
  have hd2 := hid (((Box.new (w := w) [.slice none 0 0, .slice none 0 0] 25 rfl).no hc1).keep hc2 (fun h : _ = _ => by omega))
  have h02 : Chg No w w2 := ((((Chg.refl No w).alloc _).no hc1).trans hc2 (fun i hi (h : i = _) => by omega))
  have hbS := hid (Box.new (w := w2) [.slice AL nL cL, .slice AR nR cR] 25 rfl)
  obtain ⟨W3, hW3⟩ : ∃ W, w2.alloc (.cells #[.slice AL nL cL, .slice AR nR cR] 25) = W := ⟨_, rfl⟩
  have hcS : Chg No w2 W3 := by rw [← hW3]; exact (Chg.refl No w2).alloc _
  have sS := hcS.size
  have sS1 : W3.heap.size = w2.heap.size + 1 := by rw [← hW3]; simp
  have HLS := hid (RRows.no hrl2 hcS)
  have HRS := hid (RRows.no hrr2 hcS)
  have hbR := hid (hd2.out.no hcS)
  have h0S : Chg No w W3 := h02.no hcS
  have hRS := hR2.no hcS
  have hbT : Hid (Box W3 w2.heap.size [.slice AL nL cL, .slice AR nR cR]) := by show Box _ _ _; rw [← hW3]; exact hbS.out
  go_wp2_with fail
  clear hW3 hcS hbS h02 hrl2 hrr2 hd2
  ((with_reducible refine (anyStore _ 110 _ hRS (by omega)).mono ?_); rintro e w3 ⟨v3, xs, rfl, ho3, hl3, _, hR3, hc3⟩)
  have s3 := hc3.size
  have HI3 := hid ho3
  obtain ⟨A3, c3, hv3, hr3⟩ := OItems.read ho3
  subst hv3
  have HL3 := hid (HLS.out.keep hc3 (fun k h1 h2 (h3 : k = _) => by omega))
  have HR3 := hid (HRS.out.keep hc3 (fun k h1 h2 (h3 : k = _) => by omega))
  have hb3 := hid (hbT.out.keep hc3 (fun h : _ = _ => by omega))
  have hd3 := hid (hbR.out.keep hc3 (fun h : _ = _ => by omega))
  have h03 : Chg No w w3 := h0S.trans hc3 (fun i hi (h : i = _) => by omega)
  clear hr3 ho3 HLS HRS hbT hbR
  (go_wp2_with fail; (with_reducible refine (anyVector _ (110 + 320) _ hR3 (by omega)).mono ?_); rintro e w5 ⟨A5, n5, c5, zs, rfl, ht5, hn5, hR5, hc5⟩)
  have s5 := hc5.size
  have HI5 := hid (HI3.out.keep hc5 (fun k h1 h2 (h3 : k = _) => by omega))
  have HL5 := hid (HL3.out.keep hc5 (fun k h1 h2 (h3 : k = _) => by omega))
  have HR5 := hid (HR3.out.keep hc5 (fun k h1 h2 (h3 : k = _) => by omega))
  have hb5 := hid (hb3.out.keep hc5 (fun h : _ = _ => by omega))
  have hd5 := hid (hd3.out.keep hc5 (fun h : _ = _ => by omega))
  have h05 : Chg No w w5 := h03.trans hc5 (fun i hi (h : i = _) => by omega)
  have HT5 := hid ht5.1
  clear ht5 HL3 HR3 HI3 hb3 hd3
  have hbo := hid hb5.out
  clear hb5
  have hdo := hid hd5.out
  clear hd5
  have HIo := hid HI5.out
  have HLo := hid HL5.out
  have HRo := hid HR5.out
  have HTo := hid HT5.out
  clear HI5 HL5 HR5 HT5
  (go_wp2_with fail; (with_reducible refine (someK _ (110 + 320 + 16) _ hR5 (by omega)).mono ?_); rintro e w6 ⟨k6, rfl, hx6, hR6, hc6⟩)
  have s6 := hc6.size
  have hk6 := k_of hx6
  have HI5 := hid (HIo.out.keep hc6 (fun k h1 h2 (h3 : k = _) => by omega))
  have HL5 := hid (HLo.out.keep hc6 (fun k h1 h2 (h3 : k = _) => by omega))
  have HR5 := hid (HRo.out.keep hc6 (fun k h1 h2 (h3 : k = _) => by omega))
  have HT5 := hid (HTo.out.keep hc6 (fun k h1 h2 (h3 : k = _) => by omega))
  have hb5 := hid (hbo.out.keep hc6 (fun h : _ = _ => by omega))
  have hd5 := hid (hdo.out.keep hc6 (fun h : _ = _ => by omega))
  have h06 : Chg No w w6 := h05.trans hc6 (fun i hi (h : i = _) => by omega)
  clear HIo HLo HRo HTo hbo hdo hx6 hR5 h05
  have g5 := hb5.out.f2
  have l5 := hb5.out.lt
  have d5 := hd5.out.f2
  have e5 := hd5.out.lt
  go_wp2_with fail
  first | (go_region_with (go_at_call 46; (with_reducible refine (someK _ (110 + 320 + 16 + 1) _ (hR6.no (by (repeat (first | (with_reducible exact Chg.refl _ _) | ((with_reducible refine Chg.setNew ?_ _ ?_); rotate_left; first | (dsimp only; omega) | (simp; done) | (simp; omega)) | (with_reducible refine Chg.alloc ?_ _) | (with_reducible refine Chg.drew ?_) | (with_reducible refine Chg.drewN ?_ _) | (with_reducible refine Chg.no ?_ (by assumption)) | (with_reducible refine Chg.and_ ?_ (by assumption)) | ((with_reducible refine Chg.at_ ?_ (by assumption) ?_); rotate_left; (try simp only [World.size_alloc]); omega))))) (by omega)).mono ?_); rintro e w9 ⟨k9, rfl, hx9, hR9, hc9⟩; have hc9' : Chg (At (w.heap.size + 1)) w6 w9 := (by (repeat (first | (with_reducible exact Chg.refl _ _) | ((with_reducible refine Chg.setNew ?_ _ ?_); rotate_left; first | (dsimp only; omega) | (simp; done) | (simp; omega)) | (with_reducible refine Chg.alloc ?_ _) | (with_reducible refine Chg.drew ?_) | (with_reducible refine Chg.drewN ?_ _) | (with_reducible refine Chg.no ?_ (by assumption)) | (with_reducible refine Chg.and_ ?_ (by assumption)) | ((with_reducible refine Chg.at_ ?_ (by assumption) ?_); rotate_left; (try simp only [World.size_alloc]); omega))) : Chg (At (w.heap.size + 1)) w6 w9); have g9 := (hb5.out.keep hc9' (fun h : _ = _ => by omega)).f2; have l9 := (hb5.out.keep hc9' (fun h : _ = _ => by omega)).lt; have d9 := (hd5.out.keep hc9' (fun h : _ = _ => by omega)).f2; have e9 := (hd5.out.keep hc9' (fun h : _ = _ => by omega)).lt)) | fail
  all_goals
    have s9 := hc9'.size
    have hk9 := k_of hx9
    have HI9 := hid (HI5.out.keep hc9' (fun k h1 h2 (h3 : k = _) => by omega))
    have HL9 := hid (HL5.out.keep hc9' (fun k h1 h2 (h3 : k = _) => by omega))
    have HR9 := hid (HR5.out.keep hc9' (fun k h1 h2 (h3 : k = _) => by omega))
    have HT9 := hid (HT5.out.keep hc9' (fun k h1 h2 (h3 : k = _) => by omega))
    have h09 : Chg No w w9 := h06.trans hc9' (fun i hi (h : i = _) => by omega)
    clear hx9
    go_wp2
    (refine bodyPost_ret (by simp [results, Try.results16, go_sem, *]; rfl) rfl ?_)
    refine ⟨_, _, _, L, _, _, _, R, _, xs, _, _, _, zs, _, _, rfl, ?_, ?_, ?_, hl3, ?_, hn5, hk6, hk9, ?_⟩
    · refine (HL9.out.keep (S := fun k => k = w.heap.size) ?_ (fun k h1 h2 h3 => by omega)).wide (by omega) (by simp; omega)
      (repeat (first | (with_reducible exact Chg.refl _ _) | (with_reducible refine Chg.drew ?_) | ((with_reducible refine Chg.setCell ?_ _ ?_); rotate_left; (intro _; rfl))))
    · refine (HR9.out.keep (S := fun k => k = w.heap.size) ?_ (fun k h1 h2 h3 => by omega)).wide (by omega) (by simp; omega)
      (repeat (first | (with_reducible exact Chg.refl _ _) | (with_reducible refine Chg.drew ?_) | ((with_reducible refine Chg.setCell ?_ _ ?_); rotate_left; (intro _; rfl))))
    · refine (HI9.out.keep (S := fun k => k = w.heap.size) ?_ (fun k h1 h2 h3 => by omega)).down (by omega)
      (repeat (first | (with_reducible exact Chg.refl _ _) | (with_reducible refine Chg.drew ?_) | ((with_reducible refine Chg.setCell ?_ _ ?_); rotate_left; (intro _; rfl))))
    · refine (HT9.out.keep (S := fun k => k = w.heap.size) ?_ (fun k h1 h2 h3 => by omega)).wide (by omega) (by simp; omega)
      (repeat (first | (with_reducible exact Chg.refl _ _) | (with_reducible refine Chg.drew ?_) | ((with_reducible refine Chg.setCell ?_ _ ?_); rotate_left; (intro _; rfl))))
    · (repeat (first | (with_reducible exact Chg.refl _ _) | ((with_reducible refine Chg.setNew ?_ _ ?_); rotate_left; first | (dsimp only; omega) | (simp; done) | (simp; omega)) | (with_reducible refine Chg.alloc ?_ _) | (with_reducible refine Chg.drew ?_) | (with_reducible refine Chg.drewN ?_ _) | (with_reducible refine Chg.no ?_ (by assumption)) | (with_reducible refine Chg.and_ ?_ (by assumption)) | ((with_reducible refine Chg.at_ ?_ (by assumption) ?_); rotate_left; (try simp only [World.size_alloc]); omega)))
end Go.Proofs.Ytifdcdpdihfbjaa
