/- FnRankScore: the score does not grow with the place, and is 0 for keys that are not there. No condition. -/
import Derived.Test.YthbakgblchhooaaLift
import Derived.Test.YthbakgblchhooaaDraw4
import Derived.Test.YthbakgblchhooaaHitsJ
namespace Go.Proofs.Ythbakgblchhooaa
open Go.ChangeShapes Go.WideShapes Go.ChangeAt Go.RowKit
set_option linter.unusedVariables false
set_option linter.unusedSimpArgs false
namespace lawRankScore
set_option maxHeartbeats 2000000 in
theorem walk (A : Option Addr) (n c : Nat) (w : World) (hC : Code w w.heap.size A n c) : Calls Try.prog 9 #[.slice A n c] w fun e w' => e = .returned (.bool true) ∧ Chg No w w' := by
  have hn1 := hC.1
  have hn2 := hC.2.1
  by_cases hbig : 1048576 < n
  · skip
    go_enter Try.func9, Try.ntmps9
    go_wp2
    go_ret
    exact ⟨rfl, Chg.refl _ _⟩
  · skip
    have hbig' : n ≤ 1048576 := by omega
    go_enter Try.func9, Try.ntmps9
    (go_wp2_with fail; (with_reducible refine (drawRankScore A n c _ hC).mono ?_); rintro e w1 ⟨v1, xs, key, rfl, ho1, hl1, hc1⟩)
    obtain ⟨A1, c1, rfl, hr1⟩ := OHits.read ho1
    have hm1 := hr1.cap; have hk1 := hr1.le
    have HX := hid hr1
    clear ho1 hr1
    (go_wp2_with fail; (with_reducible refine (iRANKScore _ _ _ _ _ xs key _ HX.out).mono ?_); rintro e w2 ⟨rfl, hc2⟩)
    (go_wp2_with fail; (with_reducible refine (sRANKScore _ _ _ _ _ xs key _ (HX.out.no hc2)).mono ?_); rintro e w3 ⟨rfl, hc3⟩)
    have e0 : (scoreF xs key != scoreF xs key) = false := by simp
    have hc13 : Chg No w1 w3 := hc2.no hc3
    cases hb : hitsB xs with
    | false =>
      have hr : scoreF xs key = -1 := by unfold scoreF; rw [hb]; rfl
      have K := hid (fun W (h1 : RHits W w.heap.size w1.heap.size A1 xs.length c1 xs) => sRANKScore _ _ _ _ _ xs key W h1)
      rw [hr] at K ⊢
      clear hr e0
      (go_wp2_with fail; (with_reducible refine (K.out _ (HX.out.no hc13)).mono ?_); rintro e w4 ⟨rfl, hc4⟩)
      go_wp2
      go_ret
      exact ⟨rfl, by (repeat (first | (with_reducible exact Chg.refl _ _) | ((with_reducible refine Chg.setNew ?_ _ ?_); rotate_left; first | (dsimp only; omega) | (simp; done) | (simp; omega)) | (with_reducible refine Chg.alloc ?_ _) | (with_reducible refine Chg.drew ?_) | (with_reducible refine Chg.drewN ?_ _) | (with_reducible refine Chg.no ?_ (by assumption)) | (with_reducible refine Chg.and_ ?_ (by assumption)) | ((with_reducible refine Chg.at_ ?_ (by assumption) ?_); rotate_left; (try simp only [World.size_alloc]); omega)))⟩
    | true =>
      have H1 := hitsB_ok hb
      have hl16 := H1.len
      have hr : scoreF xs key = rankF xs key := by unfold scoreF; rw [hb]; rfl
      have hbd := (rankF_bd xs key).1
      have HH := hid H1
      have HK0 := hid (fun W (hc : Chg No w1 W) => iRANKScore _ _ _ _ _ xs 100 W (HX.out.no hc))
      rw [show scoreF xs 100 = 0 from by unfold scoreF; rw [hb]; exact rank_none H1] at HK0
      have HKK := hid (fun (k : Nat) (x1 x2 : Int) (hk : xs[k]? = some (x1, x2)) W (hc : Chg No w1 W) => (show Calls _ _ _ _ (fun e w' => e = .returned (.int .i64 (100000 / (60 + (k : Int) + 1))) ∧ Chg No _ w') from by
        have h9 := iRANKScore _ _ _ _ _ xs x1 W (HX.out.no hc)
        rw [show scoreF xs x1 = 100000 / (60 + (k : Int) + 1) from by unfold scoreF; rw [hb]; exact H1.rank hk] at h9
        exact h9))
      rw [hr]
      generalize rankF xs key = r at hbd
      clear hr e0 hb H1
      go_wp2
      go_loopw [6, 7] (fun s i wr => ∃ k : Nat, k ≤ xs.length ∧ i = .int .i64 k ∧ (∃ last : Int, s = .int .i64 last ∧ Hid (100000 / (60 + (k : Int) + 1) ≤ last) ∧ last ≤ 100000 ∧ 0 ≤ last) ∧ Chg No w1 wr) (fun _ i _ => xs.length - (intOf i).toNat)
      case atStart => exact ⟨0, Nat.zero_le _, rfl, ⟨100000, rfl, by show _ ≤ _; decide, by omega, by omega⟩, hc13⟩
      case round =>
        obtain ⟨k, hk, rfl, ⟨last, rfl, HL, hlast, hlast0⟩, hc⟩ := hrel
        by_cases hlt : k < xs.length
        · obtain ⟨b, o, x, rfl, _, _, hxk, hE⟩ := (HX.out.no hc).at_ hlt
          obtain ⟨x1, x2⟩ := x
          have f1 : wr.cell? ⟨b, o + k * 2, none⟩ = some (.int .i64 x1) := hE.1
          have KC := hid (HKK.out k x1 x2 hxk wr hc)
          have HST := hid (rank_step k)
          have d0 : 0 ≤ (100000 : Int) / (60 + (k : Int) + 1) := Int.ediv_nonneg (by omega) (by omega)
          have d1 : (100000 : Int) / (60 + (k : Int) + 1) ≤ last := HL.out
          have d2 : (60 + (k : Int) + 1) ≠ 0 := by omega
          have e1 : ((100000 : Int) / (60 + (k : Int) + 1) != (100000 : Int) / (60 + (k : Int) + 1)) = false := by simp
          clear hxk hE
          (go_wp2_with fail; (with_reducible refine KC.out.mono ?_); rintro e w4 ⟨rfl, hc4⟩)
          have hc5 : Chg No w1 w4 := hc.no hc4
          clear KC
          go_wp2
          go_roundw
          case rel => exact ⟨k + 1, by omega, by go_num, ⟨_, rfl, by show _ ≤ _; exact HST.out, by omega, d0⟩, hc5⟩
          case measure => simp [intOf]; omega
        · (go_wp2_with fail; (with_reducible refine (HK0.out _ hc).mono ?_); rintro e w4 ⟨rfl, hc4⟩)
          go_wp2
          go_ret
          exact ⟨rfl, by (repeat (first | (with_reducible exact Chg.refl _ _) | ((with_reducible refine Chg.setNew ?_ _ ?_); rotate_left; first | (dsimp only; omega) | (simp; done) | (simp; omega)) | (with_reducible refine Chg.alloc ?_ _) | (with_reducible refine Chg.drew ?_) | (with_reducible refine Chg.drewN ?_ _) | (with_reducible refine Chg.no ?_ (by assumption)) | (with_reducible refine Chg.and_ ?_ (by assumption)) | ((with_reducible refine Chg.at_ ?_ (by assumption) ?_); rotate_left; (try simp only [World.size_alloc]); omega)))⟩

set_option maxRecDepth 100000 in
theorem lifted (os : Os) (started : os.Started) (H : Type) (enc : TypeId × Value → H) :
    ReturnsInHanded {} Try.checked os 9 .any (Rows.fnRankScoreSpec.pre6 enc Try.prog Try.f9 Rows.fnRankScoreRow.domain false) (Rows.fnRankScoreSpec.post enc Try.prog Try.f9 false true false false) := by
  refine returnsInHanded_of_change (C := Try.checked) own started (by kernel_rfl) Try.func9
    (ChangeSpec.witness6 (enc := enc) (C := Try.checked) false ⟨#[], #[.slice none 0 0], []⟩ 8 (by kernel_rfl) (by kernel_rfl) (by kernel_rfl) (by kernel_rfl)) ?_
  intro W base args ds gs before hval0 hW hcnd _
  have hval : ∀ (j : Nat) t v, Try.f9.params[j]? = some t → args[j]? = some v → Value.okWide Try.prog W .any base t v := hval0
  have hW' := hW
  obtain ⟨p, q, hA0, hV, rfl, hfz, hnd⟩ := hW
  have hA : DataW.TrodAll enc Try.prog W 0 (fun _ => true) true Try.f9.params.toList args.toList ds p := hA0
  rw [Try.params9] at hA hval
  obtain ⟨v0, vs0, d0, ds0, p0, q0, hargs, rfl, rfl, h0, r0⟩ := trodAll_cons hA
  obtain ⟨rfl, rfl, rfl⟩ := trodAll_nil r0
  obtain rfl : args = #[v0] := by cases args; simp_all
  obtain ⟨rfl, rfl⟩ := trodVars_none hV
  obtain ⟨a0, len0, cap0, rfl⟩ := okWide_slice Try.underlying33 (hval 0 33 v0 rfl rfl)
  have k0 := h0
  have lt0 : ∀ x ∈ p0, x.block < W.heap.size := by obtain ⟨m, hm⟩ := k0; exact DataW.trod_lt m _ _ _ hm
  have w0 : Code W W.heap.size a0 len0 cap0 := by
    obtain ⟨fuel, hf⟩ := h0
    rcases open_ints Try.underlying33 Try.underlying5 (by kernel_rfl) hf with ⟨hcs, _⟩ | ⟨x, l, c, zs, hcs, _, hl, hm, hz, _, hcell, hwz⟩
    · simp [Value.cells] at hcs
      obtain ⟨rfl, rfl, rfl⟩ := hcs
      exact code_nil _
    · simp [Value.cells] at hcs
      obtain ⟨rfl, rfl, rfl⟩ := hcs
      exact code_row hl hm (by simpa using hz) hcell hwz
  clear hA0 hval0
  refine (walk a0 len0 cap0 W w0).mono fun e W' ⟨he, bel0⟩ => ?_
  have bel := bel0.below
  subst he
  exact ⟨_, rfl, _, _, _, [], _, [], hW', trodAll_mk1 (shut_bool Try.underlying4 _), (trodAll_cons_mk (Below.trod laidOut (by kernel_rfl) (of_decide_eq_true (by kernel_rfl)) k0 bel lt0) trodAll_mk0), rfl, bel.frame _, fun h => by cases h⟩

theorem over : Rows.fnRankScoreRow.holds Try.pinned (OpenSpec.ofChange Rows.fnRankScoreSpec) :=
  OpenClaim.holds_of_wide 9 Try.f9 rfl rfl rfl rfl rfl rfl rfl ⟨rfl, rfl, rfl, rfl, rfl⟩ rfl rfl rfl rfl rfl (by kernel_rfl) Try.func9 (by kernel_rfl)
    (of_decide_eq_true (by kernel_rfl)) (by unfold Func.isWrapper; first | (rw [if_pos (by decide +kernel)]; kernel_rfl) | (rw [if_neg (by decide +kernel)]; exact ⟨rfl, rfl⟩))
    (fun os started H enc _ => lifted os started H enc)

theorem proved : Rows.FnRankScoreSaid := over
#print axioms proved

end lawRankScore
end Go.Proofs.Ythbakgblchhooaa
