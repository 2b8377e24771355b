/- FnPassesBits: a filter passes tags exactly if every bit of All is there, none of None, and one of Any, if it has one. No condition. -/
import Derived.Test.YtmkfmefkbcfjnaaLift
import Derived.Test.YtmkfmefkbcfjnaaFilt4
import Derived.Test.YtmkfmefkbcfjnaaBits
namespace Go.Proofs.Ytmkfmefkbcfjnaa.lawPassesBits
open Go.ChangeShapes Go.WideShapes Go.ChangeAt Go.RowKit
set_option linter.unusedVariables false
set_option maxHeartbeats 2000000 in
theorem walk (A : Option Addr) (n c : Nat) (w : World) (hC : Code w w.heap.size A n c) : Calls Try.prog 9 #[.slice A n c] w fun e w' => e = .returned (.bool true) ∧ Chg No w w' := by
  have hn1 := hC.1
  have hn2 := hC.2.1
  by_cases hbig : 1048576 < n
  · go_enter Try.func9, Try.ntmps9
    go_wp2
    go_ret
    exact ⟨rfl, Chg.refl _ _⟩
  · go_enter Try.func9, Try.ntmps9
    (go_wp2_with fail; refine (drawPasses A n c _ hC).mono ?_; rintro e w1 ⟨x1, x2, x3, t, rfl, hc1⟩)
    (go_wp2_with fail; refine (iPasses _ _ _ _ _).mono ?_; rintro e w2 ⟨rfl, hc2⟩)
    have B2 := (Box.new [.int .i64 x1, .int .i64 x2, .int .i64 x3] _ rfl).no hc2; have b2 := B2.f3
    (go_wp2_with fail; refine (sPasses _ _ _ _ _).mono ?_; rintro e w3 ⟨rfl, hc3⟩)
    have B3 := B2.no (Chg.no (by (repeat (first | (with_reducible exact Chg.refl _ _) | ((with_reducible refine Chg.setNew ?_ _ ?_); rotate_left; first | (dsimp only; omega) | (simp; done) | (simp; omega)) | (with_reducible refine Chg.alloc ?_ _) | (with_reducible refine Chg.drew ?_) | (with_reducible refine Chg.drewN ?_ _) | (with_reducible refine Chg.no ?_ (by assumption)) | (with_reducible refine Chg.and_ ?_ (by assumption)) | ((with_reducible refine Chg.at_ ?_ (by assumption) ?_); rotate_left; (try simp only [World.size_alloc]); omega)))) hc3); have b3 := B3.f3; have l3 := B3.lt
    (go_wp2_with fail; refine (iValidFilter _ _ _ _).mono ?_; rintro e w4 ⟨rfl, hc4⟩)
    have B4 := B3.no (Chg.no (by (repeat (first | (with_reducible exact Chg.refl _ _) | ((with_reducible refine Chg.setNew ?_ _ ?_); rotate_left; first | (dsimp only; omega) | (simp; done) | (simp; omega)) | (with_reducible refine Chg.alloc ?_ _) | (with_reducible refine Chg.drew ?_) | (with_reducible refine Chg.drewN ?_ _) | (with_reducible refine Chg.no ?_ (by assumption)) | (with_reducible refine Chg.and_ ?_ (by assumption)) | ((with_reducible refine Chg.at_ ?_ (by assumption) ?_); rotate_left; (try simp only [World.size_alloc]); omega)))) hc4); have b4 := B4.f3; have l4 := B4.lt
    cases hf : filterB x1 x2 x3 with
    | false =>
      (go_wp2_with fail; refine (sPasses _ _ _ _ _).mono ?_; rintro e w5 ⟨rfl, hc5⟩)
      go_wp2
      go_ret
      exact ⟨by simp, by (repeat (first | (with_reducible exact Chg.refl _ _) | ((with_reducible refine Chg.setNew ?_ _ ?_); rotate_left; first | (dsimp only; omega) | (simp; done) | (simp; omega)) | (with_reducible refine Chg.alloc ?_ _) | (with_reducible refine Chg.drew ?_) | (with_reducible refine Chg.drewN ?_ _) | (with_reducible refine Chg.no ?_ (by assumption)) | (with_reducible refine Chg.and_ ?_ (by assumption)) | ((with_reducible refine Chg.at_ ?_ (by assumption) ?_); rotate_left; (try simp only [World.size_alloc]); omega)))⟩
    | true =>
      by_cases h1 : t < 0
      · (go_wp2_with fail; refine (sPasses _ _ _ _ _).mono ?_; rintro e w5 ⟨rfl, hc5⟩)
        go_wp2
        go_ret
        exact ⟨by simp, by (repeat (first | (with_reducible exact Chg.refl _ _) | ((with_reducible refine Chg.setNew ?_ _ ?_); rotate_left; first | (dsimp only; omega) | (simp; done) | (simp; omega)) | (with_reducible refine Chg.alloc ?_ _) | (with_reducible refine Chg.drew ?_) | (with_reducible refine Chg.drewN ?_ _) | (with_reducible refine Chg.no ?_ (by assumption)) | (with_reducible refine Chg.and_ ?_ (by assumption)) | ((with_reducible refine Chg.at_ ?_ (by assumption) ?_); rotate_left; (try simp only [World.size_alloc]); omega)))⟩
      · by_cases h2 : 15 < t
        · (go_wp2_with fail; refine (sPasses _ _ _ _ _).mono ?_; rintro e w5 ⟨rfl, hc5⟩)
          go_wp2
          go_ret
          exact ⟨by simp, by (repeat (first | (with_reducible exact Chg.refl _ _) | ((with_reducible refine Chg.setNew ?_ _ ?_); rotate_left; first | (dsimp only; omega) | (simp; done) | (simp; omega)) | (with_reducible refine Chg.alloc ?_ _) | (with_reducible refine Chg.drew ?_) | (with_reducible refine Chg.drewN ?_ _) | (with_reducible refine Chg.no ?_ (by assumption)) | (with_reducible refine Chg.and_ ?_ (by assumption)) | ((with_reducible refine Chg.at_ ?_ (by assumption) ?_); rotate_left; (try simp only [World.size_alloc]); omega)))⟩
        · have ht : tagsB t = true := by unfold tagsB inB; simp; omega
          have HP := hid (pass_bits hf ht)
          have hb : (0 ≤ x1 ∧ 0 ≤ x2 ∧ 0 ≤ x3) ∧ (x1 ≤ 15 ∧ x2 ≤ 15 ∧ x3 ≤ 15) := by
            obtain ⟨x, y, z, rfl, rfl, rfl, _⟩ := filter_nat hf
            omega
          clear hf
          go_wp2
          go_loop [6, 7, 8] (fun r s b => ∃ k : Int, (Bit k ∨ k = 16) ∧ b = .int .i64 k ∧ r = .bool (rightTo x1 x2 t k) ∧ s = .bool (someTo x3 t k)) (fun _ _ b => (16 - intOf b).toNat)
          case atStart => exact ⟨1, .inl (.inl rfl), rfl, rfl, by simp [someTo]⟩
          case round =>
            obtain ⟨k, hk, rfl, rfl, rfl⟩ := hrel
            by_cases hlt : k ≤ 15
            · have hk1 : 1 ≤ k ∧ k ≤ 8 := by unfold Bit at hk; omega
              have hbit : Bit k := hk.resolve_right (by omega)
              have H1 := hid (rightTo_step x1 x2 t hbit)
              have H2 := hid (someTo_step x3 t hbit)
              have hk2 : Bit (2 * k) ∨ 2 * k = 16 := by unfold Bit at hbit ⊢; omega
              have hq : 0 ≤ x1 / k ∧ 0 ≤ x2 / k ∧ 0 ≤ x3 / k ∧ 0 ≤ t / k := by refine ⟨?_, ?_, ?_, ?_⟩ <;> exact Int.ediv_nonneg (by omega) (by omega)
              clear hk hbit
              obtain ⟨⟨hb1, hb2, hb3⟩, hb4, hb5, hb6⟩ := hb
              generalize rightTo x1 x2 t k = R at H1 ⊢
              generalize someTo x3 t k = S at H2 ⊢
              go_wp2
              all_goals
                go_round
                case measure => simp [intOf]; omega
                case rel => exact ⟨2 * k, hk2, by go_num, by rw [H1.out]; simp_all [okAt], by rw [H2.out]; simp_all [anyAt]⟩
            · have hk16 : k = 16 := by unfold Bit at hk; omega
              subst hk16
              have hp := HP.out
              go_wp2
              all_goals go_ret
              all_goals exact ⟨rfl, by (repeat (first | (with_reducible exact Chg.refl _ _) | ((with_reducible refine Chg.setNew ?_ _ ?_); rotate_left; first | (dsimp only; omega) | (simp; done) | (simp; omega)) | (with_reducible refine Chg.alloc ?_ _) | (with_reducible refine Chg.drew ?_) | (with_reducible refine Chg.drewN ?_ _) | (with_reducible refine Chg.no ?_ (by assumption)) | (with_reducible refine Chg.and_ ?_ (by assumption)) | ((with_reducible refine Chg.at_ ?_ (by assumption) ?_); rotate_left; (try simp only [World.size_alloc]); omega)))⟩

set_option maxRecDepth 100000 in
theorem lifted (os : Os) (started : os.Started) (H : Type) (enc : TypeId × Value → H) :
    ReturnsInHanded {} Try.checked os 9 .any (Rows.fnPassesBitsSpec.pre6 enc Try.prog Try.f9 Rows.fnPassesBitsRow.domain false) (Rows.fnPassesBitsSpec.post enc Try.prog Try.f9 false true false false) := by
  refine returnsInHanded_of_change (C := Try.checked) own started (by kernel_rfl) Try.func9
    (ChangeSpec.witness6 (enc := enc) (C := Try.checked) false ⟨#[], #[.slice none 0 0], []⟩ 8 (by kernel_rfl) (by kernel_rfl) (by kernel_rfl) (by kernel_rfl)) ?_
  intro W base args ds gs before hval0 hW hcnd _
  have hval : ∀ (j : Nat) t v, Try.f9.params[j]? = some t → args[j]? = some v → Value.okWide Try.prog W .any base t v := hval0
  have hW' := hW
  obtain ⟨p, q, hA0, hV, rfl, hfz, hnd⟩ := hW
  have hA : DataW.TrodAll enc Try.prog W 0 (fun _ => true) true Try.f9.params.toList args.toList ds p := hA0
  rw [Try.params9] at hA hval
  obtain ⟨v0, vs0, d0, ds0, p0, q0, hargs, rfl, rfl, h0, r0⟩ := trodAll_cons hA
  obtain ⟨rfl, rfl, rfl⟩ := trodAll_nil r0
  obtain rfl : args = #[v0] := by cases args; simp_all
  obtain ⟨rfl, rfl⟩ := trodVars_none hV
  obtain ⟨a0, len0, cap0, rfl⟩ := okWide_slice Try.underlying34 (hval 0 34 v0 rfl rfl)
  have k0 := h0
  have lt0 : ∀ x ∈ p0, x.block < W.heap.size := by obtain ⟨m, hm⟩ := k0; exact DataW.trod_lt m _ _ _ hm
  have w0 : Code W W.heap.size a0 len0 cap0 := by
    obtain ⟨fuel, hf⟩ := h0
    rcases open_ints Try.underlying34 Try.underlying5 (by kernel_rfl) hf with ⟨hcs, _⟩ | ⟨x, l, c, zs, hcs, _, hl, hm, hz, _, hcell, hwz⟩
    · simp [Value.cells] at hcs
      obtain ⟨rfl, rfl, rfl⟩ := hcs
      exact code_nil _
    · simp [Value.cells] at hcs
      obtain ⟨rfl, rfl, rfl⟩ := hcs
      exact code_row hl hm (by simpa using hz) hcell hwz
  clear hA0 hval0
  refine (walk a0 len0 cap0 W w0).mono fun e W' ⟨he, bel0⟩ => ?_
  have bel := bel0.below
  subst he
  exact ⟨_, rfl, _, _, _, [], _, [], hW', trodAll_mk1 (shut_bool Try.underlying4 _), (trodAll_cons_mk (Below.trod laidOut (by kernel_rfl) (of_decide_eq_true (by kernel_rfl)) k0 bel lt0) trodAll_mk0), rfl, bel.frame _, fun h => by cases h⟩

theorem over : Rows.fnPassesBitsRow.holds Try.pinned (OpenSpec.ofChange Rows.fnPassesBitsSpec) :=
  OpenClaim.holds_of_wide 9 Try.f9 rfl rfl rfl rfl rfl rfl rfl ⟨rfl, rfl, rfl, rfl, rfl⟩ rfl rfl rfl rfl rfl (by kernel_rfl) Try.func9 (by kernel_rfl)
    (of_decide_eq_true (by kernel_rfl)) (by unfold Func.isWrapper; first | (rw [if_pos (by decide +kernel)]; kernel_rfl) | (rw [if_neg (by decide +kernel)]; exact ⟨rfl, rfl⟩))
    (fun os started H enc _ => lifted os started H enc)

theorem proved : Rows.FnPassesBitsSaid := over
#print axioms proved

end Go.Proofs.Ytmkfmefkbcfjnaa.lawPassesBits
