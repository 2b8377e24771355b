/- FnMergeHits: merged hits are of both lists. No condition. -/
import Derived.Test.YtofbjganahbekaaLift
import Derived.Test.YtofbjganahbekaaDrawM
import Derived.Test.YtofbjganahbekaaMerge
import Derived.Test.YtofbjganahbekaaEqH
import Derived.Test.YtofbjganahbekaaPMerge2
import Derived.Deep.RegionHeld3
import Derived.Deep.DeepCutAuto
namespace Go.Proofs.Ytofbjganahbekaa
open Go.ChangeShapes Go.WideShapes Go.ChangeAt Go.RowKit Go.Shelf
set_option linter.unusedVariables false
set_option linter.unusedSimpArgs false
namespace lawMergeHits
theorem mem_step {l ys : List (Int × Int)} {m : Nat} {y z : Int × Int} {r : Bool} (hy : ys[m]? = some y) (h : decide (z ∈ l ++ ys.take m) = r) : decide (z ∈ l ++ ys.take (m + 1)) = (r || (y.1 == z.1 && y.2 == z.2)) := by
  have hm := (List.getElem?_eq_some_iff.1 hy).1
  have e : ys.take (m + 1) = ys.take m ++ [y] := by rw [List.take_add_one, hy]; rfl
  rw [e, ← h, Bool.eq_iff_iff]
  simp only [decide_eq_true_eq, List.mem_append, List.mem_singleton, Bool.or_eq_true, Bool.and_eq_true, beq_iff_eq]
  constructor
  · rintro (h1 | h1 | h1)
    · exact Or.inl (Or.inl h1)
    · exact Or.inl (Or.inr h1)
    · exact Or.inr ⟨by rw [h1], by rw [h1]⟩
  · rintro ((h1 | h1) | ⟨h1, h2⟩)
    · exact Or.inl h1
    · exact Or.inr (Or.inl h1)
    · exact Or.inr (Or.inr (Prod.ext h1.symm h2.symm))
set_option maxHeartbeats 4000000 in
theorem walk (A : Option Addr) (n c : Nat) (w : World) (hC : Code w w.heap.size A n c) : Calls Try.prog 5 #[.slice A n c] w fun e w' => e = .returned (.bool true) ∧ Chg No w w' := by
  have hn1 := hC.1
  have hn2 := hC.2.1
  by_cases hbig : 1048576 < n
  · skip
    go_enter Try.func5, Try.ntmps5
    go_wp2
    go_ret
    exact ⟨rfl, Chg.refl _ _⟩
  · skip
    have hbig' : n ≤ 1048576 := by omega
    go_enter Try.func5, Try.ntmps5
    (go_wp2_with fail; (with_reducible refine (drawMergeHits A n c _ hC).mono ?_); rintro e w1 ⟨v1, v2, xs, ys, k, rfl, ho1, ho2, hl1, hl2, hk, hc1⟩)
    obtain ⟨A1, c1, rfl, hr1⟩ := OHits.read ho1
    obtain ⟨A2, c2, rfl, hr2⟩ := OHits.read ho2
    have hm1 := hr1.cap; have hm2 := hr2.cap; have hk1 := hr1.le; have hk2 := hr2.le
    have HX := hid hr1; have HY := hid hr2
    have hk0 := hk.1; have hk17 := hk.2
    clear ho1 ho2 hr1 hr2 hk
    obtain ⟨L, hL⟩ : ∃ L, MergeF xs ys k = L := ⟨_, rfl⟩
    have KS := hid (fun W (h1' : RHits W w.heap.size w1.heap.size A1 xs.length c1 xs) (h2' : RHits W w.heap.size w1.heap.size A2 ys.length c2 ys) => sMergeHits _ _ _ _ _ _ _ _ _ _ xs ys k W h1' h2')
    have KI := hid (fun W (h1' : RHits W w.heap.size w1.heap.size A1 xs.length c1 xs) (h2' : RHits W w.heap.size w1.heap.size A2 ys.length c2 ys) => iMergeHits _ _ _ _ _ _ _ _ _ _ xs ys k W h1' h2')
    have KV1 := hid (fun W (h1' : RHits W w.heap.size w1.heap.size A1 xs.length c1 xs) => iVALIDHits _ _ _ _ _ xs W h1')
    have KV2 := hid (fun W (h1' : RHits W w.heap.size w1.heap.size A2 ys.length c2 ys) => iVALIDHits _ _ _ _ _ ys W h1')
    rw [hL] at KS KI
    have HL := hid hL
    clear hL
    (go_wp2_with fail; (with_reducible refine (KI.out _ HX.out HY.out).mono ?_); rintro e w2 ⟨v2, rfl, ho2, hc2⟩)
    have q2 := hc2
    obtain ⟨A3, c3, rfl, hr3⟩ := OHits.read ho2
    have hm3 := hr3.cap; have hk3 := hr3.le
    have HO := hid hr3
    have s1 := hc1.size
    have s2 := hc2.size
    clear ho2 hr3
    (go_wp2_with fail; (with_reducible refine (KS.out _ (HX.out.no hc2) (HY.out.no hc2)).mono ?_); rintro e w3 ⟨v3, rfl, ho3, hc3⟩)
    have q3 : Chg No w1 w3 := hc2.no hc3
    obtain ⟨A4, c4, rfl, hr4⟩ := OHits.read ho3
    have hm4 := hr4.cap; have hk4 := hr4.le
    have HS := hid hr4
    have s3 := hc3.size
    clear ho3 hr4
    (go_wp2_with fail; (with_reducible refine (equalHits _ _ _ _ _ _ _ _ _ L _ (HO.out.no hc3) HS.out).mono ?_); rintro e w4 ⟨rfl, hc4⟩)
    have q4 : Chg No w1 w4 := q3.no hc4
    have r4 : Chg No w2 w4 := hc3.no hc4
    have s4 := hc4.size
    have HF := hid (show (∀ z ∈ L, z ∈ xs ∨ z ∈ ys) ∧ hitsB L = true ∧ (L.length : Int) ≤ k from by
      rw [← HL.out]
      cases hm : mergeOk xs ys k with
      | false => rw [MergeF_no hm]; exact ⟨fun z hz => (by cases hz), rfl, hk0⟩
      | true =>
        rw [MergeF_ok hm]
        unfold mergeOk at hm
        simp only [Bool.and_eq_true, decide_eq_true_eq] at hm
        refine ⟨fun z hz => mergeF_mem (hitsB_ok hm.1) (hitsB_ok hm.2.1) hz, (mergeF_ok (hitsB_ok hm.1) (hitsB_ok hm.2.1) hm.2.2.2).b, ?_⟩
        rw [mergeF_eq, List.length_take]
        omega)
    have HOx := hid HO.out
    have KV := hid (fun W (h1' : RHits W w1.heap.size w2.heap.size A3 L.length c3 L) => iVALIDHits _ _ _ _ _ L W h1')
    rw [HF.out.2.1] at KV
    have hLk := HF.out.2.2
    clear KS KI KV1 KV2 HL HS
    go_wp2
    go_loopw [7] (fun i wr => ∃ j : Nat, j ≤ L.length ∧ i = .int .i64 j ∧ Chg No w4 wr) (fun i _ => L.length - (intOf i).toNat)
    case atStart => exact ⟨0, Nat.zero_le _, rfl, Chg.refl _ _⟩
    case round =>
      obtain ⟨j, hj, rfl, hc⟩ := hrel
      obtain ⟨wp, rfl⟩ : ∃ W : World, W = wr := ⟨_, rfl⟩
      by_cases hlt : j < L.length
      · obtain ⟨bz, oz, z, rfl, _, _, hzk, _⟩ := (HO.out.no (r4.no hc)).at_ hlt
        obtain ⟨z1, z2⟩ := z
        have Hzk := hid hzk
        have HIN := hid (HF.out.1 _ (List.mem_of_getElem? hzk))
        clear hzk
        go_wp2
        go_loopw [8, 9] (fun s i wr => ∃ (m : Nat) (r : Bool), m ≤ xs.length ∧ i = .int .i64 m ∧ s = .bool r ∧ Hid (decide ((z1, z2) ∈ ([] : List (Int × Int)) ++ xs.take m) = r) ∧ Chg No w4 wr) (fun _ i _ => xs.length - (intOf i).toNat)
        case atStart => exact ⟨0, false, Nat.zero_le _, rfl, rfl, hid (by simp), hc⟩
        case round =>
          obtain ⟨m, r, hm, rfl, rfl, HR, hc⟩ := hrel
          obtain ⟨wo, rfl⟩ : ∃ W : World, W = wr := ⟨_, rfl⟩
          by_cases hlm : m < xs.length
          · obtain ⟨b2, o2, y, rfl, _, _, hyk, hE2⟩ := (HX.out.no (q4.no hc)).at_ hlm
            obtain ⟨b1, o1, z9, hA9, _, _, hz9, hE1⟩ := (HO.out.no (r4.no hc)).at_ hlt
            obtain rfl : (z1, z2) = z9 := by rw [Hzk.out] at hz9; injection hz9
            injection hA9 with hA9
            injection hA9 with hA91 hA92 _
            subst hA91 hA92
            obtain ⟨y1, y2⟩ := y
            have HN := hid (mem_step hyk HR.out)
            clear hyk hz9
            cases r with
            | true =>
              have HN2 : Hid (decide ((z1, z2) ∈ ([] : List (Int × Int)) ++ xs.take (m + 1)) = true) := hid (by rw [HN.out]; rfl)
              clear HN hE1 hE2
              go_wp2_with fail
              (refine wp_region_nb (by kernel_rfl) (by kernel_rfl) ?_; (repeat (first | go_big_quiet_step (fail) | quiet_step (fail))); (with_reducible refine wpQuiet_nil ?_); intro wq hw1; have hq := nb_out hw1; clear hw1)
              go_wp2
              go_roundw
              case rel => exact ⟨m + 1, true, by omega, by go_num, rfl, HN2, by (repeat (first | (with_reducible exact Chg.refl _ _) | ((with_reducible refine Chg.setNew ?_ _ ?_); rotate_left; first | (dsimp only; omega) | (simp; done) | (simp; omega)) | (with_reducible refine Chg.alloc ?_ _) | (with_reducible refine Chg.drew ?_) | (with_reducible refine Chg.drewN ?_ _) | (with_reducible refine Chg.no ?_ (by assumption)) | (with_reducible refine Chg.and_ ?_ (by assumption)) | ((with_reducible refine Chg.at_ ?_ (by assumption) ?_); rotate_left; (try simp only [World.size_alloc]); omega)))⟩
              case measure => simp [intOf]; omega
            | false =>
              have f1 : ∀ p : NB wo, p.wd.cell? ⟨b2, o2 + m * 2, none⟩ = some (.int .i64 y1) := nb_cell hE2.1
              have f2 : ∀ p : NB wo, p.wd.cell? ⟨b2, o2 + m * 2 + 1, none⟩ = some (.int .i64 y2) := nb_cell hE2.2
              have f3 := nb_cell hE1.1
              have f4 := nb_cell hE1.2
              simp only [] at f3 f4
              clear hE1 hE2
              cases g1 : (y1 == z1) with
              | true =>
                cases g2 : (y2 == z2) with
                | true =>
                  have HN2 : Hid (decide ((z1, z2) ∈ ([] : List (Int × Int)) ++ xs.take (m + 1)) = true) := hid (by rw [HN.out]; simp [g1, g2])
                  clear HN
                  go_wp2_with fail
                  (refine wp_region_nb (by kernel_rfl) (by kernel_rfl) ?_; (repeat (first | go_big_quiet_step (fail) | quiet_step (fail))); (with_reducible refine wpQuiet_nil ?_); intro wq hw1; have hq := nb_out hw1; clear hw1)
                  go_wp2
                  go_roundw
                  case rel => exact ⟨m + 1, true, by omega, by go_num, rfl, HN2, by (repeat (first | (with_reducible exact Chg.refl _ _) | ((with_reducible refine Chg.setNew ?_ _ ?_); rotate_left; first | (dsimp only; omega) | (simp; done) | (simp; omega)) | (with_reducible refine Chg.alloc ?_ _) | (with_reducible refine Chg.drew ?_) | (with_reducible refine Chg.drewN ?_ _) | (with_reducible refine Chg.no ?_ (by assumption)) | (with_reducible refine Chg.and_ ?_ (by assumption)) | ((with_reducible refine Chg.at_ ?_ (by assumption) ?_); rotate_left; (try simp only [World.size_alloc]); omega)))⟩
                  case measure => simp [intOf]; omega
                | false =>
                  have HN2 : Hid (decide ((z1, z2) ∈ ([] : List (Int × Int)) ++ xs.take (m + 1)) = false) := hid (by rw [HN.out]; simp [g1, g2])
                  clear HN
                  go_wp2_with fail
                  (refine wp_region_nb (by kernel_rfl) (by kernel_rfl) ?_; (repeat (first | go_big_quiet_step (fail) | quiet_step (fail))); (with_reducible refine wpQuiet_nil ?_); intro wq hw1; have hq := nb_out hw1; clear hw1)
                  go_wp2
                  go_roundw
                  case rel => exact ⟨m + 1, false, by omega, by go_num, rfl, HN2, by (repeat (first | (with_reducible exact Chg.refl _ _) | ((with_reducible refine Chg.setNew ?_ _ ?_); rotate_left; first | (dsimp only; omega) | (simp; done) | (simp; omega)) | (with_reducible refine Chg.alloc ?_ _) | (with_reducible refine Chg.drew ?_) | (with_reducible refine Chg.drewN ?_ _) | (with_reducible refine Chg.no ?_ (by assumption)) | (with_reducible refine Chg.and_ ?_ (by assumption)) | ((with_reducible refine Chg.at_ ?_ (by assumption) ?_); rotate_left; (try simp only [World.size_alloc]); omega)))⟩
                  case measure => simp [intOf]; omega
              | false =>
                cases g2 : (y2 == z2) with
                | true =>
                  have HN2 : Hid (decide ((z1, z2) ∈ ([] : List (Int × Int)) ++ xs.take (m + 1)) = false) := hid (by rw [HN.out]; simp [g1, g2])
                  clear HN
                  go_wp2_with fail
                  (refine wp_region_nb (by kernel_rfl) (by kernel_rfl) ?_; (repeat (first | go_big_quiet_step (fail) | quiet_step (fail))); (with_reducible refine wpQuiet_nil ?_); intro wq hw1; have hq := nb_out hw1; clear hw1)
                  go_wp2
                  go_roundw
                  case rel => exact ⟨m + 1, false, by omega, by go_num, rfl, HN2, by (repeat (first | (with_reducible exact Chg.refl _ _) | ((with_reducible refine Chg.setNew ?_ _ ?_); rotate_left; first | (dsimp only; omega) | (simp; done) | (simp; omega)) | (with_reducible refine Chg.alloc ?_ _) | (with_reducible refine Chg.drew ?_) | (with_reducible refine Chg.drewN ?_ _) | (with_reducible refine Chg.no ?_ (by assumption)) | (with_reducible refine Chg.and_ ?_ (by assumption)) | ((with_reducible refine Chg.at_ ?_ (by assumption) ?_); rotate_left; (try simp only [World.size_alloc]); omega)))⟩
                  case measure => simp [intOf]; omega
                | false =>
                  have HN2 : Hid (decide ((z1, z2) ∈ ([] : List (Int × Int)) ++ xs.take (m + 1)) = false) := hid (by rw [HN.out]; simp [g1, g2])
                  clear HN
                  go_wp2_with fail
                  (refine wp_region_nb (by kernel_rfl) (by kernel_rfl) ?_; (repeat (first | go_big_quiet_step (fail) | quiet_step (fail))); (with_reducible refine wpQuiet_nil ?_); intro wq hw1; have hq := nb_out hw1; clear hw1)
                  go_wp2
                  go_roundw
                  case rel => exact ⟨m + 1, false, by omega, by go_num, rfl, HN2, by (repeat (first | (with_reducible exact Chg.refl _ _) | ((with_reducible refine Chg.setNew ?_ _ ?_); rotate_left; first | (dsimp only; omega) | (simp; done) | (simp; omega)) | (with_reducible refine Chg.alloc ?_ _) | (with_reducible refine Chg.drew ?_) | (with_reducible refine Chg.drewN ?_ _) | (with_reducible refine Chg.no ?_ (by assumption)) | (with_reducible refine Chg.and_ ?_ (by assumption)) | ((with_reducible refine Chg.at_ ?_ (by assumption) ?_); rotate_left; (try simp only [World.size_alloc]); omega)))⟩
                  case measure => simp [intOf]; omega
          · skip
            have HR2 : Hid (decide ((z1, z2) ∈ xs ++ ys.take 0) = r) := hid (by have h9 := HR.out; rw [List.take_of_length_le (by omega)] at h9; rw [← h9]; simp)
            clear HR
            go_wp2
            go_loopw [8, 10] (fun s i wr => ∃ (m : Nat) (r : Bool), m ≤ ys.length ∧ i = .int .i64 m ∧ s = .bool r ∧ Hid (decide ((z1, z2) ∈ xs ++ ys.take m) = r) ∧ Chg No w4 wr) (fun _ i _ => ys.length - (intOf i).toNat)
            case atStart => exact ⟨0, r, Nat.zero_le _, rfl, rfl, HR2, hc⟩
            case round =>
              clear HR2 hc hm hlm
              obtain ⟨m, r, hm, rfl, rfl, HR, hc⟩ := hrel
              obtain ⟨wo, rfl⟩ : ∃ W : World, W = wr := ⟨_, rfl⟩
              by_cases hlm : m < ys.length
              · obtain ⟨b2, o2, y, rfl, _, _, hyk, hE2⟩ := (HY.out.no (q4.no hc)).at_ hlm
                obtain ⟨b1, o1, z9, hA9, _, _, hz9, hE1⟩ := (HO.out.no (r4.no hc)).at_ hlt
                obtain rfl : (z1, z2) = z9 := by rw [Hzk.out] at hz9; injection hz9
                injection hA9 with hA9
                injection hA9 with hA91 hA92 _
                subst hA91 hA92
                obtain ⟨y1, y2⟩ := y
                have HN := hid (mem_step hyk HR.out)
                clear hyk hz9
                cases r with
                | true =>
                  have HN2 : Hid (decide ((z1, z2) ∈ xs ++ ys.take (m + 1)) = true) := hid (by rw [HN.out]; rfl)
                  clear HN hE1 hE2
                  go_wp2_with fail
                  (refine wp_region_nb (by kernel_rfl) (by kernel_rfl) ?_; (repeat (first | go_big_quiet_step (fail) | quiet_step (fail))); (with_reducible refine wpQuiet_nil ?_); intro wq hw1; have hq := nb_out hw1; clear hw1)
                  go_wp2
                  go_roundw
                  case rel => exact ⟨m + 1, true, by omega, by go_num, rfl, HN2, by (repeat (first | (with_reducible exact Chg.refl _ _) | ((with_reducible refine Chg.setNew ?_ _ ?_); rotate_left; first | (dsimp only; omega) | (simp; done) | (simp; omega)) | (with_reducible refine Chg.alloc ?_ _) | (with_reducible refine Chg.drew ?_) | (with_reducible refine Chg.drewN ?_ _) | (with_reducible refine Chg.no ?_ (by assumption)) | (with_reducible refine Chg.and_ ?_ (by assumption)) | ((with_reducible refine Chg.at_ ?_ (by assumption) ?_); rotate_left; (try simp only [World.size_alloc]); omega)))⟩
                  case measure => simp [intOf]; omega
                | false =>
                  have f1 : ∀ p : NB wo, p.wd.cell? ⟨b2, o2 + m * 2, none⟩ = some (.int .i64 y1) := nb_cell hE2.1
                  have f2 : ∀ p : NB wo, p.wd.cell? ⟨b2, o2 + m * 2 + 1, none⟩ = some (.int .i64 y2) := nb_cell hE2.2
                  have f3 := nb_cell hE1.1
                  have f4 := nb_cell hE1.2
                  simp only [] at f3 f4
                  clear hE1 hE2
                  cases g1 : (y1 == z1) with
                  | true =>
                    cases g2 : (y2 == z2) with
                    | true =>
                      have HN2 : Hid (decide ((z1, z2) ∈ xs ++ ys.take (m + 1)) = true) := hid (by rw [HN.out]; simp [g1, g2])
                      clear HN
                      go_wp2_with fail
                      (refine wp_region_nb (by kernel_rfl) (by kernel_rfl) ?_; (repeat (first | go_big_quiet_step (fail) | quiet_step (fail))); (with_reducible refine wpQuiet_nil ?_); intro wq hw1; have hq := nb_out hw1; clear hw1)
                      go_wp2
                      go_roundw
                      case rel => exact ⟨m + 1, true, by omega, by go_num, rfl, HN2, by (repeat (first | (with_reducible exact Chg.refl _ _) | ((with_reducible refine Chg.setNew ?_ _ ?_); rotate_left; first | (dsimp only; omega) | (simp; done) | (simp; omega)) | (with_reducible refine Chg.alloc ?_ _) | (with_reducible refine Chg.drew ?_) | (with_reducible refine Chg.drewN ?_ _) | (with_reducible refine Chg.no ?_ (by assumption)) | (with_reducible refine Chg.and_ ?_ (by assumption)) | ((with_reducible refine Chg.at_ ?_ (by assumption) ?_); rotate_left; (try simp only [World.size_alloc]); omega)))⟩
                      case measure => simp [intOf]; omega
                    | false =>
                      have HN2 : Hid (decide ((z1, z2) ∈ xs ++ ys.take (m + 1)) = false) := hid (by rw [HN.out]; simp [g1, g2])
                      clear HN
                      go_wp2_with fail
                      (refine wp_region_nb (by kernel_rfl) (by kernel_rfl) ?_; (repeat (first | go_big_quiet_step (fail) | quiet_step (fail))); (with_reducible refine wpQuiet_nil ?_); intro wq hw1; have hq := nb_out hw1; clear hw1)
                      go_wp2
                      go_roundw
                      case rel => exact ⟨m + 1, false, by omega, by go_num, rfl, HN2, by (repeat (first | (with_reducible exact Chg.refl _ _) | ((with_reducible refine Chg.setNew ?_ _ ?_); rotate_left; first | (dsimp only; omega) | (simp; done) | (simp; omega)) | (with_reducible refine Chg.alloc ?_ _) | (with_reducible refine Chg.drew ?_) | (with_reducible refine Chg.drewN ?_ _) | (with_reducible refine Chg.no ?_ (by assumption)) | (with_reducible refine Chg.and_ ?_ (by assumption)) | ((with_reducible refine Chg.at_ ?_ (by assumption) ?_); rotate_left; (try simp only [World.size_alloc]); omega)))⟩
                      case measure => simp [intOf]; omega
                  | false =>
                    cases g2 : (y2 == z2) with
                    | true =>
                      have HN2 : Hid (decide ((z1, z2) ∈ xs ++ ys.take (m + 1)) = false) := hid (by rw [HN.out]; simp [g1, g2])
                      clear HN
                      go_wp2_with fail
                      (refine wp_region_nb (by kernel_rfl) (by kernel_rfl) ?_; (repeat (first | go_big_quiet_step (fail) | quiet_step (fail))); (with_reducible refine wpQuiet_nil ?_); intro wq hw1; have hq := nb_out hw1; clear hw1)
                      go_wp2
                      go_roundw
                      case rel => exact ⟨m + 1, false, by omega, by go_num, rfl, HN2, by (repeat (first | (with_reducible exact Chg.refl _ _) | ((with_reducible refine Chg.setNew ?_ _ ?_); rotate_left; first | (dsimp only; omega) | (simp; done) | (simp; omega)) | (with_reducible refine Chg.alloc ?_ _) | (with_reducible refine Chg.drew ?_) | (with_reducible refine Chg.drewN ?_ _) | (with_reducible refine Chg.no ?_ (by assumption)) | (with_reducible refine Chg.and_ ?_ (by assumption)) | ((with_reducible refine Chg.at_ ?_ (by assumption) ?_); rotate_left; (try simp only [World.size_alloc]); omega)))⟩
                      case measure => simp [intOf]; omega
                    | false =>
                      have HN2 : Hid (decide ((z1, z2) ∈ xs ++ ys.take (m + 1)) = false) := hid (by rw [HN.out]; simp [g1, g2])
                      clear HN
                      go_wp2_with fail
                      (refine wp_region_nb (by kernel_rfl) (by kernel_rfl) ?_; (repeat (first | go_big_quiet_step (fail) | quiet_step (fail))); (with_reducible refine wpQuiet_nil ?_); intro wq hw1; have hq := nb_out hw1; clear hw1)
                      go_wp2
                      go_roundw
                      case rel => exact ⟨m + 1, false, by omega, by go_num, rfl, HN2, by (repeat (first | (with_reducible exact Chg.refl _ _) | ((with_reducible refine Chg.setNew ?_ _ ?_); rotate_left; first | (dsimp only; omega) | (simp; done) | (simp; omega)) | (with_reducible refine Chg.alloc ?_ _) | (with_reducible refine Chg.drew ?_) | (with_reducible refine Chg.drewN ?_ _) | (with_reducible refine Chg.no ?_ (by assumption)) | (with_reducible refine Chg.and_ ?_ (by assumption)) | ((with_reducible refine Chg.at_ ?_ (by assumption) ?_); rotate_left; (try simp only [World.size_alloc]); omega)))⟩
                      case measure => simp [intOf]; omega
              · skip
                have HT := hid (show r = true from by
                  have h9 := HR.out
                  rw [List.take_of_length_le (by omega)] at h9
                  rw [← h9, decide_eq_true_iff, List.mem_append]
                  exact HIN.out)
                have ht := HT.out
                subst ht
                clear HR
                go_wp2
                go_roundw
                case rel => exact ⟨j + 1, by omega, by go_num, by (repeat (first | (with_reducible exact Chg.refl _ _) | ((with_reducible refine Chg.setNew ?_ _ ?_); rotate_left; first | (dsimp only; omega) | (simp; done) | (simp; omega)) | (with_reducible refine Chg.alloc ?_ _) | (with_reducible refine Chg.drew ?_) | (with_reducible refine Chg.drewN ?_ _) | (with_reducible refine Chg.no ?_ (by assumption)) | (with_reducible refine Chg.and_ ?_ (by assumption)) | ((with_reducible refine Chg.at_ ?_ (by assumption) ?_); rotate_left; (try simp only [World.size_alloc]); omega)))⟩
                case measure => simp [intOf]; omega
      · have e9 : decide ((L.length : Int) ≤ max k 0) = true := decide_eq_true (by omega)
        (go_wp2_with fail; (with_reducible refine (KV.out _ (HO.out.no (r4.no hc))).mono ?_); rintro e w8 ⟨rfl, hc8⟩)
        go_wp2
        go_ret
        exact ⟨rfl, hc1.no ((q4.no hc).no hc8)⟩

set_option maxRecDepth 100000 in
theorem lifted (os : Os) (started : os.Started) (H : Type) (enc : TypeId × Value → H) :
    ReturnsInHanded {} Try.checked os 5 .any (Rows.fnMergeHitsSpec.pre6 enc Try.prog Try.f5 Rows.fnMergeHitsRow.domain false) (Rows.fnMergeHitsSpec.post enc Try.prog Try.f5 false true false false) := by
  refine returnsInHanded_of_change (C := Try.checked) own started (by kernel_rfl) Try.func5
    (ChangeSpec.witness6 (enc := enc) (C := Try.checked) false ⟨#[], #[.slice none 0 0], []⟩ 8 (by kernel_rfl) (by kernel_rfl) (by kernel_rfl) (by kernel_rfl)) ?_
  intro W base args ds gs before hval0 hW hcnd _
  have hval : ∀ (j : Nat) t v, Try.f5.params[j]? = some t → args[j]? = some v → Value.okWide Try.prog W .any base t v := hval0
  have hW' := hW
  obtain ⟨p, q, hA0, hV, rfl, hfz, hnd⟩ := hW
  have hA : DataW.TrodAll enc Try.prog W 0 (fun _ => true) true Try.f5.params.toList args.toList ds p := hA0
  rw [Try.params5] at hA hval
  obtain ⟨v0, vs0, d0, ds0, p0, q0, hargs, rfl, rfl, h0, r0⟩ := trodAll_cons hA
  obtain ⟨rfl, rfl, rfl⟩ := trodAll_nil r0
  obtain rfl : args = #[v0] := by cases args; simp_all
  obtain ⟨rfl, rfl⟩ := trodVars_none hV
  obtain ⟨a0, len0, cap0, rfl⟩ := okWide_slice Try.underlying35 (hval 0 35 v0 rfl rfl)
  have k0 := h0
  have lt0 : ∀ x ∈ p0, x.block < W.heap.size := by obtain ⟨m, hm⟩ := k0; exact DataW.trod_lt m _ _ _ hm
  have w0 : Code W W.heap.size a0 len0 cap0 := by
    obtain ⟨fuel, hf⟩ := h0
    rcases open_ints Try.underlying35 Try.underlying5 (by kernel_rfl) hf with ⟨hcs, _⟩ | ⟨x, l, c, zs, hcs, _, hl, hm, hz, _, hcell, hwz⟩
    · simp [Value.cells] at hcs
      obtain ⟨rfl, rfl, rfl⟩ := hcs
      exact code_nil _
    · simp [Value.cells] at hcs
      obtain ⟨rfl, rfl, rfl⟩ := hcs
      exact code_row hl hm (by simpa using hz) hcell hwz
  clear hA0 hval0
  refine (walk a0 len0 cap0 W w0).mono fun e W' ⟨he, bel0⟩ => ?_
  have bel := bel0.below
  subst he
  exact ⟨_, rfl, _, _, _, [], _, [], hW', trodAll_mk1 (shut_bool Try.underlying4 _), (trodAll_cons_mk (Below.trod laidOut (by kernel_rfl) (of_decide_eq_true (by kernel_rfl)) k0 bel lt0) trodAll_mk0), rfl, bel.frame _, fun h => by cases h⟩

theorem over : Rows.fnMergeHitsRow.holds Try.pinned (OpenSpec.ofChange Rows.fnMergeHitsSpec) :=
  OpenClaim.holds_of_wide 5 Try.f5 rfl rfl rfl rfl rfl rfl rfl ⟨rfl, rfl, rfl, rfl, rfl⟩ rfl rfl rfl rfl rfl (by kernel_rfl) Try.func5 (by kernel_rfl)
    (of_decide_eq_true (by kernel_rfl)) (by unfold Func.isWrapper; first | (rw [if_pos (by decide +kernel)]; kernel_rfl) | (rw [if_neg (by decide +kernel)]; exact ⟨rfl, rfl⟩))
    (fun os started H enc _ => lifted os started H enc)

theorem proved : Rows.FnMergeHitsSaid := over
#print axioms proved

end lawMergeHits
end Go.Proofs.Ytofbjganahbekaa
