/- FnRankScoreFirst: the first key has the best score. No condition. -/
import Derived.Test.YthbakgblchhooaaLift
import Derived.Test.YthbakgblchhooaaDraw4
import Derived.Test.YthbakgblchhooaaHitsJ
namespace Go.Proofs.Ythbakgblchhooaa
open Go.ChangeShapes Go.WideShapes Go.ChangeAt Go.RowKit
set_option linter.unusedVariables false
set_option linter.unusedSimpArgs false
namespace lawRankScoreFirst
set_option maxHeartbeats 2000000 in
theorem walk (A : Option Addr) (n c : Nat) (w : World) (hC : Code w w.heap.size A n c) : Calls Try.prog 10 #[.slice A n c] w fun e w' => e = .returned (.bool true) ∧ Chg No w w' := by
  have hn1 := hC.1
  have hn2 := hC.2.1
  by_cases hbig : 1048576 < n
  · skip
    go_enter Try.func10, Try.ntmps10
    go_wp2
    go_ret
    exact ⟨rfl, Chg.refl _ _⟩
  · skip
    have hbig' : n ≤ 1048576 := by omega
    go_enter Try.func10, Try.ntmps10
    (go_wp2_with fail; (with_reducible refine (drawRankScore A n c _ hC).mono ?_); rintro e w1 ⟨v1, xs, key, rfl, ho1, hl1, hc1⟩)
    obtain ⟨A1, c1, rfl, hr1⟩ := OHits.read ho1
    have hm1 := hr1.cap; have hk1 := hr1.le
    have HX := hid hr1
    clear ho1 hr1
    (go_wp2_with fail; (with_reducible refine (iRANKScore _ _ _ _ _ xs key _ HX.out).mono ?_); rintro e w2 ⟨rfl, hc2⟩)
    (go_wp2_with fail; (with_reducible refine (sRANKScore _ _ _ _ _ xs key _ (HX.out.no hc2)).mono ?_); rintro e w3 ⟨rfl, hc3⟩)
    have e0 : (scoreF xs key != scoreF xs key) = false := by simp
    have hc13 : Chg No w1 w3 := hc2.no hc3
    cases hb : hitsB xs with
    | false =>
      have hr : scoreF xs key = -1 := by unfold scoreF; rw [hb]; rfl
      have K := hid (fun W (h1 : RHits W w.heap.size w1.heap.size A1 xs.length c1 xs) => sRANKScore _ _ _ _ _ xs key W h1)
      rw [hr] at K ⊢
      clear hr e0
      (go_wp2_with fail; (with_reducible refine (K.out _ (HX.out.no hc13)).mono ?_); rintro e w4 ⟨rfl, hc4⟩)
      go_wp2
      go_ret
      exact ⟨rfl, by (repeat (first | (with_reducible exact Chg.refl _ _) | ((with_reducible refine Chg.setNew ?_ _ ?_); rotate_left; first | (dsimp only; omega) | (simp; done) | (simp; omega)) | (with_reducible refine Chg.alloc ?_ _) | (with_reducible refine Chg.drew ?_) | (with_reducible refine Chg.drewN ?_ _) | (with_reducible refine Chg.no ?_ (by assumption)) | (with_reducible refine Chg.and_ ?_ (by assumption)) | ((with_reducible refine Chg.at_ ?_ (by assumption) ?_); rotate_left; (try simp only [World.size_alloc]); omega)))⟩
    | true =>
      have H1 := hitsB_ok hb
      have hl16 := H1.len
      have hr : scoreF xs key = rankF xs key := by unfold scoreF; rw [hb]; rfl
      have hbd := (rankF_bd xs key).1
      have hbf := rank_le_first (l := xs) key
      by_cases h0 : 0 < xs.length
      · obtain ⟨b, o, x, hA, _, _, hxk, hE⟩ := (HX.out.no hc13).at_ h0
        subst hA
        obtain ⟨x1, x2⟩ := x
        have f1 : w3.cell? ⟨b, o, none⟩ = some (.int .i64 x1) := by simpa using hE.1
        have K1 := hid (show Calls _ _ _ _ (fun e w' => e = .returned (.int .i64 1639) ∧ Chg No _ w') from by
          have h9 := iRANKScore _ _ _ _ _ xs x1 w3 (HX.out.no hc13)
          rw [show scoreF xs x1 = 1639 from by unfold scoreF; rw [hb]; rw [if_pos rfl, H1.rank hxk]; decide] at h9
          exact h9)
        have l0 : ((xs.length : Int) == 0) = false := by simp; intro h; subst h; simp at h0
        have hbf' : rankF xs key ≤ 1639 := by omega
        rw [hr]
        generalize rankF xs key = r at hbd hbf'
        clear hr e0 hb H1 hxk hE hbf
        (go_wp2_with fail; (with_reducible refine K1.out.mono ?_); rintro e w4 ⟨rfl, hc4⟩)
        go_wp2
        go_ret
        exact ⟨rfl, by (repeat (first | (with_reducible exact Chg.refl _ _) | ((with_reducible refine Chg.setNew ?_ _ ?_); rotate_left; first | (dsimp only; omega) | (simp; done) | (simp; omega)) | (with_reducible refine Chg.alloc ?_ _) | (with_reducible refine Chg.drew ?_) | (with_reducible refine Chg.drewN ?_ _) | (with_reducible refine Chg.no ?_ (by assumption)) | (with_reducible refine Chg.and_ ?_ (by assumption)) | ((with_reducible refine Chg.at_ ?_ (by assumption) ?_); rotate_left; (try simp only [World.size_alloc]); omega)))⟩
      · have l0 : ((xs.length : Int) == 0) = true := by simp; exact List.length_eq_zero_iff.1 (by omega)
        have K := hid (fun W (h1 : RHits W w.heap.size w1.heap.size A1 xs.length c1 xs) => sRANKScore _ _ _ _ _ xs key W h1)
        rw [hr] at K ⊢
        generalize rankF xs key = r at hbd K
        have e9 : (r != r) = false := by simp
        clear hr e0 hb H1 hbf
        (go_wp2_with fail; (with_reducible refine (K.out _ (HX.out.no hc13)).mono ?_); rintro e w4 ⟨rfl, hc4⟩)
        go_wp2
        go_ret
        exact ⟨rfl, by (repeat (first | (with_reducible exact Chg.refl _ _) | ((with_reducible refine Chg.setNew ?_ _ ?_); rotate_left; first | (dsimp only; omega) | (simp; done) | (simp; omega)) | (with_reducible refine Chg.alloc ?_ _) | (with_reducible refine Chg.drew ?_) | (with_reducible refine Chg.drewN ?_ _) | (with_reducible refine Chg.no ?_ (by assumption)) | (with_reducible refine Chg.and_ ?_ (by assumption)) | ((with_reducible refine Chg.at_ ?_ (by assumption) ?_); rotate_left; (try simp only [World.size_alloc]); omega)))⟩

set_option maxRecDepth 100000 in
theorem lifted (os : Os) (started : os.Started) (H : Type) (enc : TypeId × Value → H) :
    ReturnsInHanded {} Try.checked os 10 .any (Rows.fnRankScoreFirstSpec.pre6 enc Try.prog Try.f10 Rows.fnRankScoreFirstRow.domain false) (Rows.fnRankScoreFirstSpec.post enc Try.prog Try.f10 false true false false) := by
  refine returnsInHanded_of_change (C := Try.checked) own started (by kernel_rfl) Try.func10
    (ChangeSpec.witness6 (enc := enc) (C := Try.checked) false ⟨#[], #[.slice none 0 0], []⟩ 8 (by kernel_rfl) (by kernel_rfl) (by kernel_rfl) (by kernel_rfl)) ?_
  intro W base args ds gs before hval0 hW hcnd _
  have hval : ∀ (j : Nat) t v, Try.f10.params[j]? = some t → args[j]? = some v → Value.okWide Try.prog W .any base t v := hval0
  have hW' := hW
  obtain ⟨p, q, hA0, hV, rfl, hfz, hnd⟩ := hW
  have hA : DataW.TrodAll enc Try.prog W 0 (fun _ => true) true Try.f10.params.toList args.toList ds p := hA0
  rw [Try.params10] at hA hval
  obtain ⟨v0, vs0, d0, ds0, p0, q0, hargs, rfl, rfl, h0, r0⟩ := trodAll_cons hA
  obtain ⟨rfl, rfl, rfl⟩ := trodAll_nil r0
  obtain rfl : args = #[v0] := by cases args; simp_all
  obtain ⟨rfl, rfl⟩ := trodVars_none hV
  obtain ⟨a0, len0, cap0, rfl⟩ := okWide_slice Try.underlying33 (hval 0 33 v0 rfl rfl)
  have k0 := h0
  have lt0 : ∀ x ∈ p0, x.block < W.heap.size := by obtain ⟨m, hm⟩ := k0; exact DataW.trod_lt m _ _ _ hm
  have w0 : Code W W.heap.size a0 len0 cap0 := by
    obtain ⟨fuel, hf⟩ := h0
    rcases open_ints Try.underlying33 Try.underlying5 (by kernel_rfl) hf with ⟨hcs, _⟩ | ⟨x, l, c, zs, hcs, _, hl, hm, hz, _, hcell, hwz⟩
    · simp [Value.cells] at hcs
      obtain ⟨rfl, rfl, rfl⟩ := hcs
      exact code_nil _
    · simp [Value.cells] at hcs
      obtain ⟨rfl, rfl, rfl⟩ := hcs
      exact code_row hl hm (by simpa using hz) hcell hwz
  clear hA0 hval0
  refine (walk a0 len0 cap0 W w0).mono fun e W' ⟨he, bel0⟩ => ?_
  have bel := bel0.below
  subst he
  exact ⟨_, rfl, _, _, _, [], _, [], hW', trodAll_mk1 (shut_bool Try.underlying4 _), (trodAll_cons_mk (Below.trod laidOut (by kernel_rfl) (of_decide_eq_true (by kernel_rfl)) k0 bel lt0) trodAll_mk0), rfl, bel.frame _, fun h => by cases h⟩

theorem over : Rows.fnRankScoreFirstRow.holds Try.pinned (OpenSpec.ofChange Rows.fnRankScoreFirstSpec) :=
  OpenClaim.holds_of_wide 10 Try.f10 rfl rfl rfl rfl rfl rfl rfl ⟨rfl, rfl, rfl, rfl, rfl⟩ rfl rfl rfl rfl rfl (by kernel_rfl) Try.func10 (by kernel_rfl)
    (of_decide_eq_true (by kernel_rfl)) (by unfold Func.isWrapper; first | (rw [if_pos (by decide +kernel)]; kernel_rfl) | (rw [if_neg (by decide +kernel)]; exact ⟨rfl, rfl⟩))
    (fun os started H enc _ => lifted os started H enc)

theorem proved : Rows.FnRankScoreFirstSaid := over
#print axioms proved

end lawRankScoreFirst
end Go.Proofs.Ythbakgblchhooaa
