/- FnValidHits: valid hits without any one of them are valid. No condition. -/
import Derived.Test.YthbakgblchhooaaLift
import Derived.Test.YthbakgblchhooaaDraw3
import Derived.Test.YthbakgblchhooaaHitsJ
import Derived.Deep.RegionLaw
namespace Go.Proofs.Ythbakgblchhooaa
open Go.ChangeShapes Go.WideShapes Go.ChangeAt Go.RowKit
set_option linter.unusedVariables false
set_option linter.unusedSimpArgs false
theorem le_alloc1 {w : World} {o : Obj} : w.heap.size ≤ (w.alloc o).drew.heap.size := by show _ ≤ (w.alloc o).heap.size; rw [World.size_alloc]; omega
namespace lawValidHits
set_option maxHeartbeats 4000000 in
theorem walk (A : Option Addr) (n c : Nat) (w : World) (hC : Code w w.heap.size A n c) : Calls Try.prog 6 #[.slice A n c] w fun e w' => e = .returned (.bool true) ∧ Chg No w w' := by
  have hn1 := hC.1
  have hn2 := hC.2.1
  by_cases hbig : 1048576 < n
  · go_enter Try.func6, Try.ntmps6
    go_wp2
    go_ret
    exact ⟨rfl, Chg.refl _ _⟩
  · have hbig' : n ≤ 1048576 := by omega
    go_enter Try.func6, Try.ntmps6
    (go_wp2_with fail; (with_reducible refine (drawValidHits A n c _ hC).mono ?_); rintro e w1 ⟨v1, xs, rfl, ho1, hl1, hc1⟩)
    obtain ⟨A1, c1, rfl, hr1⟩ := OHits.read ho1
    have hm1 := hr1.cap; have hk1 := hr1.le
    have HX := hid hr1
    clear ho1 hr1
    have K1 := hid (fun W (hc : Chg No w1 W) => iVALIDHits _ _ _ _ _ xs W (HX.out.no hc))
    have K2 := hid (fun W (hc : Chg No w1 W) => sVALIDHits _ _ _ _ _ xs W (HX.out.no hc))
    cases hb : hitsB xs with
    | false =>
      rw [hb] at K1 K2
      clear hb
      (go_wp2_with fail; (with_reducible refine (K1.out _ (Chg.refl _ _)).mono ?_); rintro e w2 ⟨rfl, hc2⟩)
      (go_wp2_with fail; (with_reducible refine (K2.out _ (by (repeat (first | (with_reducible exact Chg.refl _ _) | ((with_reducible refine Chg.setNew ?_ _ ?_); rotate_left; first | (dsimp only; omega) | (simp; done) | (simp; omega)) | (with_reducible refine Chg.alloc ?_ _) | (with_reducible refine Chg.drew ?_) | (with_reducible refine Chg.drewN ?_ _) | (with_reducible refine Chg.no ?_ (by assumption)) | (with_reducible refine Chg.and_ ?_ (by assumption)) | ((with_reducible refine Chg.at_ ?_ (by assumption) ?_); rotate_left; (try simp only [World.size_alloc]); omega))))).mono ?_); rintro e w3 ⟨rfl, hc3⟩)
      (go_wp2_with fail; (with_reducible refine (K2.out _ (by (repeat (first | (with_reducible exact Chg.refl _ _) | ((with_reducible refine Chg.setNew ?_ _ ?_); rotate_left; first | (dsimp only; omega) | (simp; done) | (simp; omega)) | (with_reducible refine Chg.alloc ?_ _) | (with_reducible refine Chg.drew ?_) | (with_reducible refine Chg.drewN ?_ _) | (with_reducible refine Chg.no ?_ (by assumption)) | (with_reducible refine Chg.and_ ?_ (by assumption)) | ((with_reducible refine Chg.at_ ?_ (by assumption) ?_); rotate_left; (try simp only [World.size_alloc]); omega))))).mono ?_); rintro e w4 ⟨rfl, hc4⟩)
      go_wp2
      go_ret
      exact ⟨rfl, by (repeat (first | (with_reducible exact Chg.refl _ _) | ((with_reducible refine Chg.setNew ?_ _ ?_); rotate_left; first | (dsimp only; omega) | (simp; done) | (simp; omega)) | (with_reducible refine Chg.alloc ?_ _) | (with_reducible refine Chg.drew ?_) | (with_reducible refine Chg.drewN ?_ _) | (with_reducible refine Chg.no ?_ (by assumption)) | (with_reducible refine Chg.and_ ?_ (by assumption)) | ((with_reducible refine Chg.at_ ?_ (by assumption) ?_); rotate_left; (try simp only [World.size_alloc]); omega)))⟩
    | true =>
      have HB := hid hb
      rw [hb] at K1 K2
      clear hb
      by_cases h0 : 0 < xs.length
      · have l0 : ((xs.length : Int) == 0) = false := by simp; intro h; subst h; simp at h0
        obtain ⟨k, hk⟩ : ∃ k : Nat, k = n % xs.length := ⟨_, rfl⟩
        have hk2 : (n : Int) % xs.length = k := by omega
        have hkl : k < xs.length := by rw [hk]; exact Nat.mod_lt _ h0
        have HT := hid (RSl.take HX.out (k := k) (by omega))
        obtain ⟨zs, hzs⟩ : ∃ zs, xs.take k ++ xs.drop (k + 1) = zs := ⟨_, rfl⟩
        have hv0 := hitsB_cut HB.out k
        rw [hzs] at hv0
        have HV := hid hv0
        have HZ := hid hzs
        clear hv0 hzs
        have HN := hid (fun W => iVALIDHits 0 0 none 0 0 [] W (RSl.nil_ _ _ (by unfold maxLen; omega)))
        rw [hitsB_nil] at HN
        have HD0 := RSl.drop HX.out (k := k + 1) (by omega)
        obtain ⟨AD, hAD⟩ : ∃ AD, (if c1 = k + 1 then A1 else A1.map (·.add ((k + 1) * 2))) = AD := ⟨_, rfl⟩
        rw [hAD] at HD0
        have HD := hid HD0
        have HAD := hid hAD
        clear HD0 hAD hk
        (go_wp2_with fail; (with_reducible refine (K1.out _ (Chg.refl _ _)).mono ?_); rintro e w2 ⟨rfl, hc2⟩)
        (go_wp2_with fail; (with_reducible refine (K2.out _ (by (repeat (first | (with_reducible exact Chg.refl _ _) | ((with_reducible refine Chg.setNew ?_ _ ?_); rotate_left; first | (dsimp only; omega) | (simp; done) | (simp; omega)) | (with_reducible refine Chg.alloc ?_ _) | (with_reducible refine Chg.drew ?_) | (with_reducible refine Chg.drewN ?_ _) | (with_reducible refine Chg.no ?_ (by assumption)) | (with_reducible refine Chg.and_ ?_ (by assumption)) | ((with_reducible refine Chg.at_ ?_ (by assumption) ?_); rotate_left; (try simp only [World.size_alloc]); omega))))).mono ?_); rintro e w3 ⟨rfl, hc3⟩)
        have hc13 : Chg No w1 w3 := hc2.no hc3
        have hc03 : Chg No w w3 := hc1.no hc13
        clear K1 K2 hc2 hc3
        have i1 : IntKind.i64.wrap ((k : Int) + 1) = (k : Int) + 1 := by rw [IntKind.wrap_i64]; omega
        have i2 : ((k : Int) + 1).toNat = k + 1 := by omega
        have i3 : (k : Int) + 1 ≤ xs.length := by omega
        have i4 : (k : Int) + 1 ≤ c1 := by omega
        have i5 : 0 ≤ (k : Int) + 1 := by omega
        have i6 : (k : Int) ≤ (k : Int) + 1 := by omega
        by_cases hce : c1 = k + 1
        · have HA2 := HAD.out
          rw [if_pos hce] at HA2
          subst HA2
          subst hce
          have hz0 : xs.length - (k + 1) = 0 := by omega
          have HDx := HD.out
          rw [hz0] at HDx
          have HD1 := hid HDx
          clear hz0 HDx
          go_wp2_with fail
          rw [hk2]
          have hkc : k ≤ (k + 1) := by omega
          have hk8 : ([] : List (Int × Int)).length + k ≤ 100000000 := by simp only [List.length_nil]; omega
          have hk9 : (([] : List (Int × Int)) ++ xs.take k).length + (0) ≤ 100000000 := by simp only [List.length_append, List.length_nil, List.length_take]; omega
          go_region_law (first | (((refine step_push _ rfl (.tmp 35) (.tmp 38) 25 rfl 41 2 16 (.agg #[.int .i64 0, .int .i64 0]) cHit Try.underlying25 infoHit rfl (by omega) (by omega) (fun _ => rfl) oneHit w3.heap.size (.slice (some ⟨_, 0, none⟩) 0 0) [] rfl ?_ _ k (k + 1) (xs.take k) rfl ?_ ?_ ?_ ?_); (refine OSl.lit (enc := cHit) (n := 0) [] [] (fun _ => rfl) rfl rfl (by omega) (Nat.le_refl _) ?_); (first | exact heap_top1 rfl | exact heap_top rfl); (refine src_hits (RHits.no HT.out (Chg.drew (Chg.alloc hc13 _)))); exact hk8; exact le_alloc1; intro v4 w4 ho4 hg4 hb4; have hcA : Chg No w3 w4 := Chg.grown (by (repeat (first | (with_reducible exact Chg.refl _ _) | ((with_reducible refine Chg.setNew ?_ _ ?_); rotate_left; first | (dsimp only; omega) | (simp; done) | (simp; omega)) | (with_reducible refine Chg.alloc ?_ _) | (with_reducible refine Chg.drew ?_) | (with_reducible refine Chg.drewN ?_ _) | (with_reducible refine Chg.no ?_ (by assumption)) | (with_reducible refine Chg.and_ ?_ (by assumption)) | ((with_reducible refine Chg.at_ ?_ (by assumption) ?_); rotate_left; (try simp only [World.size_alloc]); omega)))) hg4 (fun j hj hlt => by injection hj with hj; (try simp only [] at hj); omega))) | (((refine step_push _ rfl (.tmp 39) (.tmp 43) 25 rfl 41 2 16 (.agg #[.int .i64 0, .int .i64 0]) cHit Try.underlying25 infoHit rfl (by omega) (by omega) (fun _ => rfl) oneHit w3.heap.size _ ([] ++ xs.take k) rfl ho4 _ (0) _ (xs.drop (k + 1)) rfl ?_ ?_ ?_ ?_); (refine src_hits (RHits.no HD1.out (hc13.no hcA))); exact hk9; exact hcA.size; intro v5 w5 ho5 hg5 hb5; have hcB : Chg No w3 w5 := Chg.pushed hcA hg5 ho4 (Nat.le_refl _); rw [show ([] ++ xs.take k ++ xs.drop (k + 1)) = zs from HZ.out] at ho5; obtain ⟨A5, c5, rfl, hr5⟩ := OHits.read ho5; have hv5 := (iVALIDHits _ _ _ _ _ _ w5 hr5); rw [HV.out] at hv5)) | ((go_simp; go_at_call 14; (with_reducible refine hv5.mono ?_); rintro e w6 ⟨rfl, hc6⟩)) | ((go_simp; go_at_call 14; (with_reducible refine (HN.out _).mono ?_); rintro e w7 ⟨rfl, hc7⟩)))
          all_goals (go_wp2; go_ret; exact ⟨rfl, by (repeat (first | (with_reducible exact Chg.refl _ _) | ((with_reducible refine Chg.setNew ?_ _ ?_); rotate_left; first | (dsimp only; omega) | (simp; done) | (simp; omega)) | (with_reducible refine Chg.alloc ?_ _) | (with_reducible refine Chg.drew ?_) | (with_reducible refine Chg.drewN ?_ _) | (with_reducible refine Chg.no ?_ (by assumption)) | (with_reducible refine Chg.and_ ?_ (by assumption)) | ((with_reducible refine Chg.at_ ?_ (by assumption) ?_); rotate_left; (try simp only [World.size_alloc]); omega)))⟩)
        · have HA2 := HAD.out
          rw [if_neg hce] at HA2
          subst HA2
          go_wp2_with fail
          rw [hk2]
          have hkc : k ≤ c1 := by omega
          have hk8 : ([] : List (Int × Int)).length + k ≤ 100000000 := by simp only [List.length_nil]; omega
          have hk9 : (([] : List (Int × Int)) ++ xs.take k).length + (xs.length - (k + 1)) ≤ 100000000 := by simp only [List.length_append, List.length_nil, List.length_take]; omega
          go_region_law (first | (((refine step_push _ rfl (.tmp 35) (.tmp 38) 25 rfl 41 2 16 (.agg #[.int .i64 0, .int .i64 0]) cHit Try.underlying25 infoHit rfl (by omega) (by omega) (fun _ => rfl) oneHit w3.heap.size (.slice (some ⟨_, 0, none⟩) 0 0) [] rfl ?_ _ k c1 (xs.take k) rfl ?_ ?_ ?_ ?_); (refine OSl.lit (enc := cHit) (n := 0) [] [] (fun _ => rfl) rfl rfl (by omega) (Nat.le_refl _) ?_); (first | exact heap_top1 rfl | exact heap_top rfl); (refine src_hits (RHits.no HT.out (Chg.drew (Chg.alloc hc13 _)))); exact hk8; exact le_alloc1; intro v4 w4 ho4 hg4 hb4; have hcA : Chg No w3 w4 := Chg.grown (by (repeat (first | (with_reducible exact Chg.refl _ _) | ((with_reducible refine Chg.setNew ?_ _ ?_); rotate_left; first | (dsimp only; omega) | (simp; done) | (simp; omega)) | (with_reducible refine Chg.alloc ?_ _) | (with_reducible refine Chg.drew ?_) | (with_reducible refine Chg.drewN ?_ _) | (with_reducible refine Chg.no ?_ (by assumption)) | (with_reducible refine Chg.and_ ?_ (by assumption)) | ((with_reducible refine Chg.at_ ?_ (by assumption) ?_); rotate_left; (try simp only [World.size_alloc]); omega)))) hg4 (fun j hj hlt => by injection hj with hj; (try simp only [] at hj); omega))) | (((refine step_push _ rfl (.tmp 39) (.tmp 43) 25 rfl 41 2 16 (.agg #[.int .i64 0, .int .i64 0]) cHit Try.underlying25 infoHit rfl (by omega) (by omega) (fun _ => rfl) oneHit w3.heap.size _ ([] ++ xs.take k) rfl ho4 _ (xs.length - (k + 1)) _ (xs.drop (k + 1)) rfl ?_ ?_ ?_ ?_); (refine src_hits (RHits.no HD.out (hc13.no hcA))); exact hk9; exact hcA.size; intro v5 w5 ho5 hg5 hb5; have hcB : Chg No w3 w5 := Chg.pushed hcA hg5 ho4 (Nat.le_refl _); rw [show ([] ++ xs.take k ++ xs.drop (k + 1)) = zs from HZ.out] at ho5; obtain ⟨A5, c5, rfl, hr5⟩ := OHits.read ho5; have hv5 := (iVALIDHits _ _ _ _ _ _ w5 hr5); rw [HV.out] at hv5)) | ((go_simp; go_at_call 14; (with_reducible refine hv5.mono ?_); rintro e w6 ⟨rfl, hc6⟩)) | ((go_simp; go_at_call 14; (with_reducible refine (HN.out _).mono ?_); rintro e w7 ⟨rfl, hc7⟩)))
          all_goals (go_wp2; go_ret; exact ⟨rfl, by (repeat (first | (with_reducible exact Chg.refl _ _) | ((with_reducible refine Chg.setNew ?_ _ ?_); rotate_left; first | (dsimp only; omega) | (simp; done) | (simp; omega)) | (with_reducible refine Chg.alloc ?_ _) | (with_reducible refine Chg.drew ?_) | (with_reducible refine Chg.drewN ?_ _) | (with_reducible refine Chg.no ?_ (by assumption)) | (with_reducible refine Chg.and_ ?_ (by assumption)) | ((with_reducible refine Chg.at_ ?_ (by assumption) ?_); rotate_left; (try simp only [World.size_alloc]); omega)))⟩)
      · have l0 : ((xs.length : Int) == 0) = true := by simp; exact List.length_eq_zero_iff.1 (by omega)
        (go_wp2_with fail; (with_reducible refine (K1.out _ (Chg.refl _ _)).mono ?_); rintro e w2 ⟨rfl, hc2⟩)
        (go_wp2_with fail; (with_reducible refine (K2.out _ (by (repeat (first | (with_reducible exact Chg.refl _ _) | ((with_reducible refine Chg.setNew ?_ _ ?_); rotate_left; first | (dsimp only; omega) | (simp; done) | (simp; omega)) | (with_reducible refine Chg.alloc ?_ _) | (with_reducible refine Chg.drew ?_) | (with_reducible refine Chg.drewN ?_ _) | (with_reducible refine Chg.no ?_ (by assumption)) | (with_reducible refine Chg.and_ ?_ (by assumption)) | ((with_reducible refine Chg.at_ ?_ (by assumption) ?_); rotate_left; (try simp only [World.size_alloc]); omega))))).mono ?_); rintro e w3 ⟨rfl, hc3⟩)
        (go_wp2_with fail; (with_reducible refine (K2.out _ (by (repeat (first | (with_reducible exact Chg.refl _ _) | ((with_reducible refine Chg.setNew ?_ _ ?_); rotate_left; first | (dsimp only; omega) | (simp; done) | (simp; omega)) | (with_reducible refine Chg.alloc ?_ _) | (with_reducible refine Chg.drew ?_) | (with_reducible refine Chg.drewN ?_ _) | (with_reducible refine Chg.no ?_ (by assumption)) | (with_reducible refine Chg.and_ ?_ (by assumption)) | ((with_reducible refine Chg.at_ ?_ (by assumption) ?_); rotate_left; (try simp only [World.size_alloc]); omega))))).mono ?_); rintro e w4 ⟨rfl, hc4⟩)
        go_wp2
        go_ret
        exact ⟨rfl, by (repeat (first | (with_reducible exact Chg.refl _ _) | ((with_reducible refine Chg.setNew ?_ _ ?_); rotate_left; first | (dsimp only; omega) | (simp; done) | (simp; omega)) | (with_reducible refine Chg.alloc ?_ _) | (with_reducible refine Chg.drew ?_) | (with_reducible refine Chg.drewN ?_ _) | (with_reducible refine Chg.no ?_ (by assumption)) | (with_reducible refine Chg.and_ ?_ (by assumption)) | ((with_reducible refine Chg.at_ ?_ (by assumption) ?_); rotate_left; (try simp only [World.size_alloc]); omega)))⟩

set_option maxRecDepth 100000 in
theorem lifted (os : Os) (started : os.Started) (H : Type) (enc : TypeId × Value → H) :
    ReturnsInHanded {} Try.checked os 6 .any (Rows.fnValidHitsSpec.pre6 enc Try.prog Try.f6 Rows.fnValidHitsRow.domain false) (Rows.fnValidHitsSpec.post enc Try.prog Try.f6 false true false false) := by
  refine returnsInHanded_of_change (C := Try.checked) own started (by kernel_rfl) Try.func6
    (ChangeSpec.witness6 (enc := enc) (C := Try.checked) false ⟨#[], #[.slice none 0 0], []⟩ 8 (by kernel_rfl) (by kernel_rfl) (by kernel_rfl) (by kernel_rfl)) ?_
  intro W base args ds gs before hval0 hW hcnd _
  have hval : ∀ (j : Nat) t v, Try.f6.params[j]? = some t → args[j]? = some v → Value.okWide Try.prog W .any base t v := hval0
  have hW' := hW
  obtain ⟨p, q, hA0, hV, rfl, hfz, hnd⟩ := hW
  have hA : DataW.TrodAll enc Try.prog W 0 (fun _ => true) true Try.f6.params.toList args.toList ds p := hA0
  rw [Try.params6] at hA hval
  obtain ⟨v0, vs0, d0, ds0, p0, q0, hargs, rfl, rfl, h0, r0⟩ := trodAll_cons hA
  obtain ⟨rfl, rfl, rfl⟩ := trodAll_nil r0
  obtain rfl : args = #[v0] := by cases args; simp_all
  obtain ⟨rfl, rfl⟩ := trodVars_none hV
  obtain ⟨a0, len0, cap0, rfl⟩ := okWide_slice Try.underlying33 (hval 0 33 v0 rfl rfl)
  have k0 := h0
  have lt0 : ∀ x ∈ p0, x.block < W.heap.size := by obtain ⟨m, hm⟩ := k0; exact DataW.trod_lt m _ _ _ hm
  have w0 : Code W W.heap.size a0 len0 cap0 := by
    obtain ⟨fuel, hf⟩ := h0
    rcases open_ints Try.underlying33 Try.underlying5 (by kernel_rfl) hf with ⟨hcs, _⟩ | ⟨x, l, c, zs, hcs, _, hl, hm, hz, _, hcell, hwz⟩
    · simp [Value.cells] at hcs
      obtain ⟨rfl, rfl, rfl⟩ := hcs
      exact code_nil _
    · simp [Value.cells] at hcs
      obtain ⟨rfl, rfl, rfl⟩ := hcs
      exact code_row hl hm (by simpa using hz) hcell hwz
  clear hA0 hval0
  refine (walk a0 len0 cap0 W w0).mono fun e W' ⟨he, bel0⟩ => ?_
  have bel := bel0.below
  subst he
  exact ⟨_, rfl, _, _, _, [], _, [], hW', trodAll_mk1 (shut_bool Try.underlying4 _), (trodAll_cons_mk (Below.trod laidOut (by kernel_rfl) (of_decide_eq_true (by kernel_rfl)) k0 bel lt0) trodAll_mk0), rfl, bel.frame _, fun h => by cases h⟩

theorem over : Rows.fnValidHitsRow.holds Try.pinned (OpenSpec.ofChange Rows.fnValidHitsSpec) :=
  OpenClaim.holds_of_wide 6 Try.f6 rfl rfl rfl rfl rfl rfl rfl ⟨rfl, rfl, rfl, rfl, rfl⟩ rfl rfl rfl rfl rfl (by kernel_rfl) Try.func6 (by kernel_rfl)
    (of_decide_eq_true (by kernel_rfl)) (by unfold Func.isWrapper; first | (rw [if_pos (by decide +kernel)]; kernel_rfl) | (rw [if_neg (by decide +kernel)]; exact ⟨rfl, rfl⟩))
    (fun os started H enc _ => lifted os started H enc)

theorem proved : Rows.FnValidHitsSaid := over
#print axioms proved

end lawValidHits
end Go.Proofs.Ythbakgblchhooaa
