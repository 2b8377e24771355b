/- FnBothFilters: the filter for two passes exactly the tags that pass both. No condition. -/
import Derived.Test.YtmkfmefkbcfjnaaLift
import Derived.Test.YtmkfmefkbcfjnaaFilt4
import Derived.Test.YtmkfmefkbcfjnaaFilt2
import Derived.Test.YtmkfmefkbcfjnaaBits
import Derived.Deep.RegionHeld3
import Derived.Deep.RegionWith
namespace Go.Proofs.Ytmkfmefkbcfjnaa.lawBothFilters
open Go.ChangeShapes Go.WideShapes Go.ChangeAt Go.RowKit
set_option linter.unusedVariables false
set_option maxHeartbeats 2000000 in
theorem walk (A : Option Addr) (n c : Nat) (w : World) (hC : Code w w.heap.size A n c) : Calls Try.prog 10 #[.slice A n c] w fun e w' => e = .returned (.bool true) ∧ Chg No w w' := by
  have hn1 := hC.1
  have hn2 := hC.2.1
  by_cases hbig : 1048576 < n
  · go_enter Try.func10, Try.ntmps10
    go_wp2
    go_ret
    exact ⟨rfl, Chg.refl _ _⟩
  · go_enter Try.func10, Try.ntmps10
    (go_wp2_with fail; refine (drawBothFilters A n c _ hC).mono ?_; rintro e w1 ⟨x1, x2, x3, y1, y2, y3, rfl, hc1⟩)
    (go_wp2_with fail; refine (iBothFilters _ _ _ _ _ _ _).mono ?_; rintro e w2 ⟨he2, hc2⟩)
    have BF2 := ((Box.new (g := w1.heap.size) [.int .i64 x1, .int .i64 x2, .int .i64 x3] _ rfl).alloc _).no hc2; have bF2 := BF2.f3; have lF2 := BF2.lt
    have BG2 := (Box.new (g := w1.heap.size + 1) [.int .i64 y1, .int .i64 y2, .int .i64 y3] _ (by simp)).no hc2; have bG2 := BG2.f3; have lG2 := BG2.lt
    cases hf : bothOk x1 x2 x3 y1 y2 y3 with
    | false =>
      rw [hf] at he2
      simp only [Bool.false_eq_true, ↓reduceIte] at he2
      subst he2
      (go_wp2_with fail; refine (sBothFilters _ _ _ _ _ _ _).mono ?_; rintro e w3 ⟨he3, hc3⟩)
      rw [hf] at he3
      simp only [Bool.false_eq_true, ↓reduceIte] at he3
      subst he3
      have BH3 := (Box.new (g := w2.heap.size) [.int .i64 0, .int .i64 0, .int .i64 0] _ rfl).no hc3; have bH3 := BH3.f3; have lH3 := BH3.lt
      go_wp2
      go_ret
      exact ⟨by simp, by (repeat (first | (with_reducible exact Chg.refl _ _) | ((with_reducible refine Chg.setNew ?_ _ ?_); rotate_left; first | (dsimp only; omega) | (simp; done) | (simp; omega)) | (with_reducible refine Chg.alloc ?_ _) | (with_reducible refine Chg.drew ?_) | (with_reducible refine Chg.drewN ?_ _) | (with_reducible refine Chg.no ?_ (by assumption)) | (with_reducible refine Chg.and_ ?_ (by assumption)) | ((with_reducible refine Chg.at_ ?_ (by assumption) ?_); rotate_left; (try simp only [World.size_alloc]); omega)))⟩
    | true =>
      rw [hf] at he2
      simp only [↓reduceIte] at he2
      subst he2
      (go_wp2_with fail; refine (sBothFilters _ _ _ _ _ _ _).mono ?_; rintro e w3 ⟨he3, hc3⟩)
      rw [hf] at he3
      simp only [↓reduceIte] at he3
      subst he3
      have HP := hid (fun t ht => both_pass (t := t) hf ht)
      have HF := both_filter hf
      have BH3 := (Box.new (g := w2.heap.size) [.int .i64 (bits .or .i64 x1 y1), .int .i64 (bits .or .i64 x2 y2), .int .i64 (bits .or .i64 x3 y3)] _ rfl).no hc3
      have bH3 := BH3.f3; have lH3 := BH3.lt
      have BF3 := BF2.no (Chg.no (by (repeat (first | (with_reducible exact Chg.refl _ _) | ((with_reducible refine Chg.setNew ?_ _ ?_); rotate_left; first | (dsimp only; omega) | (simp; done) | (simp; omega)) | (with_reducible refine Chg.alloc ?_ _) | (with_reducible refine Chg.drew ?_) | (with_reducible refine Chg.drewN ?_ _) | (with_reducible refine Chg.no ?_ (by assumption)) | (with_reducible refine Chg.and_ ?_ (by assumption)) | ((with_reducible refine Chg.at_ ?_ (by assumption) ?_); rotate_left; (try simp only [World.size_alloc]); omega)))) hc3); have lF3 := BF3.lt
      have BG3 := BG2.no (Chg.no (by (repeat (first | (with_reducible exact Chg.refl _ _) | ((with_reducible refine Chg.setNew ?_ _ ?_); rotate_left; first | (dsimp only; omega) | (simp; done) | (simp; omega)) | (with_reducible refine Chg.alloc ?_ _) | (with_reducible refine Chg.drew ?_) | (with_reducible refine Chg.drewN ?_ _) | (with_reducible refine Chg.no ?_ (by assumption)) | (with_reducible refine Chg.and_ ?_ (by assumption)) | ((with_reducible refine Chg.at_ ?_ (by assumption) ?_); rotate_left; (try simp only [World.size_alloc]); omega)))) hc3); have lG3 := BG3.lt
      generalize bits .or .i64 x1 y1 = z1 at *
      generalize bits .or .i64 x2 y2 = z2 at *
      generalize bits .or .i64 x3 y3 = z3 at *
      go_wp2
      have BFa := BF3.alloc (.cells #[.int .i64 z1, .int .i64 z2, .int .i64 z3] 25)
      have BGa := BG3.alloc (.cells #[.int .i64 z1, .int .i64 z2, .int .i64 z3] 25)
      have BHa := BH3.alloc (.cells #[.int .i64 z1, .int .i64 z2, .int .i64 z3] 25)
      go_loopw [9] (fun i wr => ∃ k : Int, 0 ≤ k ∧ k ≤ 16 ∧ i = .int .i64 k ∧ Chg No (w3.alloc (.cells #[.int .i64 z1, .int .i64 z2, .int .i64 z3] 25)) wr) (fun i _ => (16 - intOf i).toNat)
      case atStart => exact ⟨0, by omega, by omega, rfl, Chg.refl _ _⟩
      case round =>
        obtain ⟨k, hk0, hk1, rfl, hcr⟩ := hrel
        have BFr := BFa.no hcr; have bFr := BFr.f3
        have BGr := BGa.no hcr; have bGr := BGr.f3
        have BHr := BHa.no hcr; have bHr := BHr.f3
        clear BFa BGa BHa bF2 bG2 bH3 BF2 BG2 BF3 BG3 BH3
        by_cases hlt : k ≤ 15
        · have ht : tagsB k = true := by unfold tagsB inB; simp; omega
          have hp := HP.out k ht
          clear ht
          cases g1 : PassB x1 x2 x3 k with
          | false =>
            rw [g1] at hp
            simp only [Bool.false_and] at hp
            go_wp2
            first | (go_region_with (first | (go_at_call 15; (with_reducible refine (iPassesV hp _).mono ?_); rintro e w' ⟨rfl, hcp⟩; have e1 := (BFr.no (Chg.no (by (repeat (first | (with_reducible exact Chg.refl _ _) | ((with_reducible refine Chg.setNew ?_ _ ?_); rotate_left; first | (dsimp only; omega) | (simp; done) | (simp; omega)) | (with_reducible refine Chg.alloc ?_ _) | (with_reducible refine Chg.drew ?_) | (with_reducible refine Chg.drewN ?_ _) | (with_reducible refine Chg.no ?_ (by assumption)) | (with_reducible refine Chg.and_ ?_ (by assumption)) | ((with_reducible refine Chg.at_ ?_ (by assumption) ?_); rotate_left; (try simp only [World.size_alloc]); omega)))) hcp)).f3; have e2 := (BGr.no (Chg.no (by (repeat (first | (with_reducible exact Chg.refl _ _) | ((with_reducible refine Chg.setNew ?_ _ ?_); rotate_left; first | (dsimp only; omega) | (simp; done) | (simp; omega)) | (with_reducible refine Chg.alloc ?_ _) | (with_reducible refine Chg.drew ?_) | (with_reducible refine Chg.drewN ?_ _) | (with_reducible refine Chg.no ?_ (by assumption)) | (with_reducible refine Chg.and_ ?_ (by assumption)) | ((with_reducible refine Chg.at_ ?_ (by assumption) ?_); rotate_left; (try simp only [World.size_alloc]); omega)))) hcp)).f3; have e3 := (BHr.no (Chg.no (by (repeat (first | (with_reducible exact Chg.refl _ _) | ((with_reducible refine Chg.setNew ?_ _ ?_); rotate_left; first | (dsimp only; omega) | (simp; done) | (simp; omega)) | (with_reducible refine Chg.alloc ?_ _) | (with_reducible refine Chg.drew ?_) | (with_reducible refine Chg.drewN ?_ _) | (with_reducible refine Chg.no ?_ (by assumption)) | (with_reducible refine Chg.and_ ?_ (by assumption)) | ((with_reducible refine Chg.at_ ?_ (by assumption) ?_); rotate_left; (try simp only [World.size_alloc]); omega)))) hcp)).f3) | (go_at_call 15; (with_reducible refine (iPassesV g1 _).mono ?_); rintro e w' ⟨rfl, hcp⟩; have e1 := (BFr.no (Chg.no (by (repeat (first | (with_reducible exact Chg.refl _ _) | ((with_reducible refine Chg.setNew ?_ _ ?_); rotate_left; first | (dsimp only; omega) | (simp; done) | (simp; omega)) | (with_reducible refine Chg.alloc ?_ _) | (with_reducible refine Chg.drew ?_) | (with_reducible refine Chg.drewN ?_ _) | (with_reducible refine Chg.no ?_ (by assumption)) | (with_reducible refine Chg.and_ ?_ (by assumption)) | ((with_reducible refine Chg.at_ ?_ (by assumption) ?_); rotate_left; (try simp only [World.size_alloc]); omega)))) hcp)).f3; have e2 := (BGr.no (Chg.no (by (repeat (first | (with_reducible exact Chg.refl _ _) | ((with_reducible refine Chg.setNew ?_ _ ?_); rotate_left; first | (dsimp only; omega) | (simp; done) | (simp; omega)) | (with_reducible refine Chg.alloc ?_ _) | (with_reducible refine Chg.drew ?_) | (with_reducible refine Chg.drewN ?_ _) | (with_reducible refine Chg.no ?_ (by assumption)) | (with_reducible refine Chg.and_ ?_ (by assumption)) | ((with_reducible refine Chg.at_ ?_ (by assumption) ?_); rotate_left; (try simp only [World.size_alloc]); omega)))) hcp)).f3; have e3 := (BHr.no (Chg.no (by (repeat (first | (with_reducible exact Chg.refl _ _) | ((with_reducible refine Chg.setNew ?_ _ ?_); rotate_left; first | (dsimp only; omega) | (simp; done) | (simp; omega)) | (with_reducible refine Chg.alloc ?_ _) | (with_reducible refine Chg.drew ?_) | (with_reducible refine Chg.drewN ?_ _) | (with_reducible refine Chg.no ?_ (by assumption)) | (with_reducible refine Chg.and_ ?_ (by assumption)) | ((with_reducible refine Chg.at_ ?_ (by assumption) ?_); rotate_left; (try simp only [World.size_alloc]); omega)))) hcp)).f3))) | fail
            all_goals
              go_wp2
              go_roundw
              case rel => exact ⟨k + 1, by omega, by omega, by go_num, by (repeat (first | (with_reducible exact Chg.refl _ _) | ((with_reducible refine Chg.setNew ?_ _ ?_); rotate_left; first | (dsimp only; omega) | (simp; done) | (simp; omega)) | (with_reducible refine Chg.alloc ?_ _) | (with_reducible refine Chg.drew ?_) | (with_reducible refine Chg.drewN ?_ _) | (with_reducible refine Chg.no ?_ (by assumption)) | (with_reducible refine Chg.and_ ?_ (by assumption)) | ((with_reducible refine Chg.at_ ?_ (by assumption) ?_); rotate_left; (try simp only [World.size_alloc]); omega)))⟩
              case measure => simp [intOf]; omega
          | true =>
            cases g2 : PassB y1 y2 y3 k with
            | false =>
              rw [g1, g2] at hp
              simp only [Bool.false_and, Bool.true_and] at hp
              go_wp2
              go_region_held3 (fun w' => (w'.cell? ⟨w1.heap.size, 0, none⟩ = some (.int .i64 x1) ∧ w'.cell? ⟨w1.heap.size, 1, none⟩ = some (.int .i64 x2) ∧ w'.cell? ⟨w1.heap.size, 2, none⟩ = some (.int .i64 x3)) ∧ (w'.cell? ⟨w1.heap.size + 1, 0, none⟩ = some (.int .i64 y1) ∧ w'.cell? ⟨w1.heap.size + 1, 1, none⟩ = some (.int .i64 y2) ∧ w'.cell? ⟨w1.heap.size + 1, 2, none⟩ = some (.int .i64 y3)) ∧ (w'.cell? ⟨w2.heap.size, 0, none⟩ = some (.int .i64 z1) ∧ w'.cell? ⟨w2.heap.size, 1, none⟩ = some (.int .i64 z2) ∧ w'.cell? ⟨w2.heap.size, 2, none⟩ = some (.int .i64 z3)))
                            (first | go_keep | (go_split_ands; refine ⟨⟨?_, ?_, ?_⟩, ⟨?_, ?_, ?_⟩, ⟨?_, ?_, ?_⟩⟩ <;> exact cell_keep (by assumption) (by assumption) (fun e => e)))
                (first | (go_at_call 15; (with_reducible refine (iPassesV hp _).mono ?_); rintro e w' ⟨rfl, hcp⟩) | (go_at_call 15; (with_reducible refine (iPassesV g1 _).mono ?_); rintro e w' ⟨rfl, hcp⟩) | (go_at_call 15; (with_reducible refine (iPassesV g2 _).mono ?_); rintro e w' ⟨rfl, hcp⟩))
              go_wp2
              go_roundw
              case rel => exact ⟨k + 1, by omega, by omega, by go_num, by (repeat (first | (with_reducible exact Chg.refl _ _) | ((with_reducible refine Chg.setNew ?_ _ ?_); rotate_left; first | (dsimp only; omega) | (simp; done) | (simp; omega)) | (with_reducible refine Chg.alloc ?_ _) | (with_reducible refine Chg.drew ?_) | (with_reducible refine Chg.drewN ?_ _) | (with_reducible refine Chg.no ?_ (by assumption)) | (with_reducible refine Chg.and_ ?_ (by assumption)) | ((with_reducible refine Chg.at_ ?_ (by assumption) ?_); rotate_left; (try simp only [World.size_alloc]); omega)))⟩
              case measure => simp [intOf]; omega
            | true =>
              rw [g1, g2] at hp
              simp only [Bool.false_and, Bool.true_and] at hp
              go_wp2
              go_region_held3 (fun w' => (w'.cell? ⟨w1.heap.size, 0, none⟩ = some (.int .i64 x1) ∧ w'.cell? ⟨w1.heap.size, 1, none⟩ = some (.int .i64 x2) ∧ w'.cell? ⟨w1.heap.size, 2, none⟩ = some (.int .i64 x3)) ∧ (w'.cell? ⟨w1.heap.size + 1, 0, none⟩ = some (.int .i64 y1) ∧ w'.cell? ⟨w1.heap.size + 1, 1, none⟩ = some (.int .i64 y2) ∧ w'.cell? ⟨w1.heap.size + 1, 2, none⟩ = some (.int .i64 y3)) ∧ (w'.cell? ⟨w2.heap.size, 0, none⟩ = some (.int .i64 z1) ∧ w'.cell? ⟨w2.heap.size, 1, none⟩ = some (.int .i64 z2) ∧ w'.cell? ⟨w2.heap.size, 2, none⟩ = some (.int .i64 z3)))
                            (first | go_keep | (go_split_ands; refine ⟨⟨?_, ?_, ?_⟩, ⟨?_, ?_, ?_⟩, ⟨?_, ?_, ?_⟩⟩ <;> exact cell_keep (by assumption) (by assumption) (fun e => e)))
                (first | (go_at_call 15; (with_reducible refine (iPassesV hp _).mono ?_); rintro e w' ⟨rfl, hcp⟩) | (go_at_call 15; (with_reducible refine (iPassesV g1 _).mono ?_); rintro e w' ⟨rfl, hcp⟩) | (go_at_call 15; (with_reducible refine (iPassesV g2 _).mono ?_); rintro e w' ⟨rfl, hcp⟩))
              go_wp2
              go_roundw
              case rel => exact ⟨k + 1, by omega, by omega, by go_num, by (repeat (first | (with_reducible exact Chg.refl _ _) | ((with_reducible refine Chg.setNew ?_ _ ?_); rotate_left; first | (dsimp only; omega) | (simp; done) | (simp; omega)) | (with_reducible refine Chg.alloc ?_ _) | (with_reducible refine Chg.drew ?_) | (with_reducible refine Chg.drewN ?_ _) | (with_reducible refine Chg.no ?_ (by assumption)) | (with_reducible refine Chg.and_ ?_ (by assumption)) | ((with_reducible refine Chg.at_ ?_ (by assumption) ?_); rotate_left; (try simp only [World.size_alloc]); omega)))⟩
              case measure => simp [intOf]; omega
        · have hk : k = 16 := by omega
          subst hk
          (go_wp2_with fail; refine (iValidFilter _ _ _ _).mono ?_; rintro e w4 ⟨rfl, hc4⟩)
          rw [HF]
          go_wp2
          go_ret
          exact ⟨rfl, by (repeat (first | (with_reducible exact Chg.refl _ _) | ((with_reducible refine Chg.setNew ?_ _ ?_); rotate_left; first | (dsimp only; omega) | (simp; done) | (simp; omega)) | (with_reducible refine Chg.alloc ?_ _) | (with_reducible refine Chg.drew ?_) | (with_reducible refine Chg.drewN ?_ _) | (with_reducible refine Chg.no ?_ (by assumption)) | (with_reducible refine Chg.and_ ?_ (by assumption)) | ((with_reducible refine Chg.at_ ?_ (by assumption) ?_); rotate_left; (try simp only [World.size_alloc]); omega)))⟩

set_option maxRecDepth 100000 in
theorem lifted (os : Os) (started : os.Started) (H : Type) (enc : TypeId × Value → H) :
    ReturnsInHanded {} Try.checked os 10 .any (Rows.fnBothFiltersSpec.pre6 enc Try.prog Try.f10 Rows.fnBothFiltersRow.domain false) (Rows.fnBothFiltersSpec.post enc Try.prog Try.f10 false true false false) := by
  refine returnsInHanded_of_change (C := Try.checked) own started (by kernel_rfl) Try.func10
    (ChangeSpec.witness6 (enc := enc) (C := Try.checked) false ⟨#[], #[.slice none 0 0], []⟩ 8 (by kernel_rfl) (by kernel_rfl) (by kernel_rfl) (by kernel_rfl)) ?_
  intro W base args ds gs before hval0 hW hcnd _
  have hval : ∀ (j : Nat) t v, Try.f10.params[j]? = some t → args[j]? = some v → Value.okWide Try.prog W .any base t v := hval0
  have hW' := hW
  obtain ⟨p, q, hA0, hV, rfl, hfz, hnd⟩ := hW
  have hA : DataW.TrodAll enc Try.prog W 0 (fun _ => true) true Try.f10.params.toList args.toList ds p := hA0
  rw [Try.params10] at hA hval
  obtain ⟨v0, vs0, d0, ds0, p0, q0, hargs, rfl, rfl, h0, r0⟩ := trodAll_cons hA
  obtain ⟨rfl, rfl, rfl⟩ := trodAll_nil r0
  obtain rfl : args = #[v0] := by cases args; simp_all
  obtain ⟨rfl, rfl⟩ := trodVars_none hV
  obtain ⟨a0, len0, cap0, rfl⟩ := okWide_slice Try.underlying34 (hval 0 34 v0 rfl rfl)
  have k0 := h0
  have lt0 : ∀ x ∈ p0, x.block < W.heap.size := by obtain ⟨m, hm⟩ := k0; exact DataW.trod_lt m _ _ _ hm
  have w0 : Code W W.heap.size a0 len0 cap0 := by
    obtain ⟨fuel, hf⟩ := h0
    rcases open_ints Try.underlying34 Try.underlying5 (by kernel_rfl) hf with ⟨hcs, _⟩ | ⟨x, l, c, zs, hcs, _, hl, hm, hz, _, hcell, hwz⟩
    · simp [Value.cells] at hcs
      obtain ⟨rfl, rfl, rfl⟩ := hcs
      exact code_nil _
    · simp [Value.cells] at hcs
      obtain ⟨rfl, rfl, rfl⟩ := hcs
      exact code_row hl hm (by simpa using hz) hcell hwz
  clear hA0 hval0
  refine (walk a0 len0 cap0 W w0).mono fun e W' ⟨he, bel0⟩ => ?_
  have bel := bel0.below
  subst he
  exact ⟨_, rfl, _, _, _, [], _, [], hW', trodAll_mk1 (shut_bool Try.underlying4 _), (trodAll_cons_mk (Below.trod laidOut (by kernel_rfl) (of_decide_eq_true (by kernel_rfl)) k0 bel lt0) trodAll_mk0), rfl, bel.frame _, fun h => by cases h⟩

theorem over : Rows.fnBothFiltersRow.holds Try.pinned (OpenSpec.ofChange Rows.fnBothFiltersSpec) :=
  OpenClaim.holds_of_wide 10 Try.f10 rfl rfl rfl rfl rfl rfl rfl ⟨rfl, rfl, rfl, rfl, rfl⟩ rfl rfl rfl rfl rfl (by kernel_rfl) Try.func10 (by kernel_rfl)
    (of_decide_eq_true (by kernel_rfl)) (by unfold Func.isWrapper; first | (rw [if_pos (by decide +kernel)]; kernel_rfl) | (rw [if_neg (by decide +kernel)]; exact ⟨rfl, rfl⟩))
    (fun os started H enc _ => lifted os started H enc)

theorem proved : Rows.FnBothFiltersSaid := over
#print axioms proved

end Go.Proofs.Ytmkfmefkbcfjnaa.lawBothFilters
