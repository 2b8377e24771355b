/- FnExactBothFilters: the program's function on two filters answers as the reference's. No condition. -/
import Derived.Test.YtmkfmefkbcfjnaaLift
import Derived.Test.YtmkfmefkbcfjnaaQuiet
import Derived.Test.YtmkfmefkbcfjnaaFilt2
import Derived.Test.YtmkfmefkbcfjnaaMem2
import Derived.Deep.RegionWith
import Derived.Deep.DeepCutAuto
namespace Go.Proofs.Ytmkfmefkbcfjnaa
open Go.ChangeShapes Go.WideShapes Go.ChangeAt Go.RowKit
set_option linter.unusedVariables false
set_option linter.unusedSimpArgs false
namespace lawExactBothFilters
theorem eq3B_self (a b c : Int) : eq3B a b c a b c = true := by unfold eq3B; simp
theorem drew_heap (w : World) : w.drew.heap = w.heap := rfl
def C3 (w : World) (b : Nat) (x y z : Int) : Prop := w.cell? ⟨b, 0, none⟩ = some (.int .i64 x) ∧ w.cell? ⟨b, 1, none⟩ = some (.int .i64 y) ∧ w.cell? ⟨b, 2, none⟩ = some (.int .i64 z)
theorem C3.no {w w' : World} {b : Nat} {x y z : Int} (h : C3 w b x y z) (hc : Chg No w w') : C3 w' b x y z :=
  ⟨cell_keep hc h.1 (fun e => e), cell_keep hc h.2.1 (fun e => e), cell_keep hc h.2.2 (fun e => e)⟩
theorem C3.far {w : World} {b : Nat} {x y z : Int} {p : Addr} {v : Value} (h : C3 w b x y z) (hp : b ≠ p.block) : C3 (w.setCell p v) b x y z := by
  obtain ⟨h1, h2, h3⟩ := h
  refine ⟨?_, ?_, ?_⟩
  · rw [World.cell?_setCell_other _ _ _ _ (by intro e; exact hp (congrArg Addr.block e).symm)]; exact h1
  · rw [World.cell?_setCell_other _ _ _ _ (by intro e; exact hp (congrArg Addr.block e).symm)]; exact h2
  · rw [World.cell?_setCell_other _ _ _ _ (by intro e; exact hp (congrArg Addr.block e).symm)]; exact h3
set_option maxHeartbeats 4000000 in
theorem walk0 (x1 x2 x3 y1 y2 y3 r1 r2 r3 : Int) (r : Bool) (w : World)
    (HS : Hid (∀ W, Calls Try.prog 16 #[.agg #[.int .i64 x1, .int .i64 x2, .int .i64 x3], .agg #[.int .i64 y1, .int .i64 y2, .int .i64 y3]] W fun e w' => e = .returned (.tuple #[.agg #[.int .i64 r1, .int .i64 r2, .int .i64 r3], .bool r]) ∧ Chg No W w'))
    (HI : Hid (∀ W, Calls Try.prog 17 #[.agg #[.int .i64 x1, .int .i64 x2, .int .i64 x3], .agg #[.int .i64 y1, .int .i64 y2, .int .i64 y3]] W fun e w' => e = .returned (.tuple #[.agg #[.int .i64 r1, .int .i64 r2, .int .i64 r3], .bool r]) ∧ Chg No W w')) :
    Calls Try.prog 5 #[.agg #[.int .i64 x1, .int .i64 x2, .int .i64 x3], .agg #[.int .i64 y1, .int .i64 y2, .int .i64 y3]] w fun e w' => e = .returned (.bool true) ∧ Chg No w w' := by
  have BB := Box.new (w := w) [.int .i64 x1, .int .i64 x2, .int .i64 x3] 23 rfl
  have C1 := hid (show C3 ((w.alloc (.cells #[.int .i64 x1, .int .i64 x2, .int .i64 x3] 23)).alloc (.cells #[.int .i64 y1, .int .i64 y2, .int .i64 y3] 23)) w.heap.size x1 x2 x3 from ⟨(BB.alloc _).cell 0, (BB.alloc _).cell 1, (BB.alloc _).cell 2⟩)
  have BC := Box.new (w := w.alloc (.cells #[.int .i64 x1, .int .i64 x2, .int .i64 x3] 23)) (g := w.heap.size + 1) [.int .i64 y1, .int .i64 y2, .int .i64 y3] 23 (by simp)
  have C2 := hid (show C3 ((w.alloc (.cells #[.int .i64 x1, .int .i64 x2, .int .i64 x3] 23)).alloc (.cells #[.int .i64 y1, .int .i64 y2, .int .i64 y3] 23)) (w.heap.size + 1) y1 y2 y3 from ⟨BC.cell 0, BC.cell 1, BC.cell 2⟩)
  clear BB BC
  have KE := hid (fun W => show Calls Try.prog 18 #[.agg #[.int .i64 r1, .int .i64 r2, .int .i64 r3], .agg #[.int .i64 r1, .int .i64 r2, .int .i64 r3]] W (fun e w' => e = .returned (.bool true) ∧ Chg No W w') from by have h9 := eqFilter r1 r2 r3 r1 r2 r3 W; rw [eq3B_self] at h9; exact h9)
  have hrr : (r != r) = false := by simp
  go_enter Try.func5, Try.ntmps5
  go_wp2_with fail
  go_cut [5, 6] (fun s5 s6 wx => ∃ b : Nat, s5 = .pointer (some ⟨b, 0, none⟩) ∧ s6 = .bool r ∧ Chg No w wx ∧ C3 wx w.heap.size x1 x2 x3 ∧ C3 wx (w.heap.size + 1) y1 y2 y3 ∧ C3 wx b r1 r2 r3)
  case first =>
    go_region_with (first | (go_at_call 12; go_loud ((with_reducible refine (toFilter _ _ _ _).mono ?_); rintro e wp ⟨rfl, hcp⟩; have rp := hcp.rules; have sp := hcp.size; (try simp only [World.size_alloc, drew_heap] at sp rp); have zp : w.heap.size < wp.heap.size ∧ w.heap.size + 1 < wp.heap.size ∧ w.heap.size < wp.heap.size := (by omega); (try have sq : _ < wp.heap.size := Nat.lt_of_lt_of_le (Nat.lt_succ_self _) sp); (try have sq2 : _ < wp.heap.size := Nat.lt_of_lt_of_le (by assumption) sp))) | (go_at_call 16; go_loud ((with_reducible refine (HS.out _).mono ?_); rintro e wp ⟨rfl, hcp⟩; have rp := hcp.rules; have sp := hcp.size; (try simp only [World.size_alloc, drew_heap] at sp rp); have zp : w.heap.size < wp.heap.size ∧ w.heap.size + 1 < wp.heap.size ∧ w.heap.size < wp.heap.size := (by omega); (try have sq : _ < wp.heap.size := Nat.lt_of_lt_of_le (Nat.lt_succ_self _) sp); (try have sq2 : _ < wp.heap.size := Nat.lt_of_lt_of_le (by assumption) sp))))
    all_goals (go_wp2_with fail; go_meet; refine ⟨_, rfl, rfl, by (repeat (first | (with_reducible exact Chg.refl _ _) | ((with_reducible refine Chg.setNew ?_ _ ?_); rotate_left; first | (dsimp only; omega) | (simp; done) | (simp; omega)) | (with_reducible refine Chg.alloc ?_ _) | (with_reducible refine Chg.drew ?_) | (with_reducible refine Chg.drewN ?_ _) | (with_reducible refine Chg.no ?_ (by assumption)) | (with_reducible refine Chg.and_ ?_ (by assumption)) | ((with_reducible refine Chg.at_ ?_ (by assumption) ?_); rotate_left; (try simp only [World.size_alloc]); omega))), ?_, ?_, ?_⟩; (focus ((repeat ((with_reducible refine C3.far ?_ ?_); rotate_left; (dsimp only; omega))); refine C3.no C1.out ?_; (repeat (first | (with_reducible exact Chg.refl _ _) | ((with_reducible refine Chg.setNew ?_ _ ?_); rotate_left; first | (dsimp only; omega) | (simp; done) | (simp; omega)) | (with_reducible refine Chg.alloc ?_ _) | (with_reducible refine Chg.drew ?_) | (with_reducible refine Chg.drewN ?_ _) | (with_reducible refine Chg.no ?_ (by assumption)) | (with_reducible refine Chg.and_ ?_ (by assumption)) | ((with_reducible refine Chg.at_ ?_ (by assumption) ?_); rotate_left; (try simp only [World.size_alloc]); omega))))); (focus ((repeat ((with_reducible refine C3.far ?_ ?_); rotate_left; (dsimp only; omega))); refine C3.no C2.out ?_; (repeat (first | (with_reducible exact Chg.refl _ _) | ((with_reducible refine Chg.setNew ?_ _ ?_); rotate_left; first | (dsimp only; omega) | (simp; done) | (simp; omega)) | (with_reducible refine Chg.alloc ?_ _) | (with_reducible refine Chg.drew ?_) | (with_reducible refine Chg.drewN ?_ _) | (with_reducible refine Chg.no ?_ (by assumption)) | (with_reducible refine Chg.and_ ?_ (by assumption)) | ((with_reducible refine Chg.at_ ?_ (by assumption) ?_); rotate_left; (try simp only [World.size_alloc]); omega))))); (focus (refine ⟨?_, ?_, ?_⟩ <;> first | (go_simp; done) | simp_all)))
  case rest =>
    obtain ⟨b, rfl, rfl, hc, c1, c2, c3⟩ := hcut
    have z0 : w.heap.size < wc.heap.size ∧ w.heap.size + 1 < wc.heap.size ∧ b < wc.heap.size := ⟨cell_lt c1.1, cell_lt c2.1, cell_lt c3.1⟩
    obtain ⟨z1, z2, z3⟩ := z0
    unfold C3 at c1 c2 c3
    clear C1 C2
    go_wp2_with fail
    go_region_with (first | (go_at_call 12; go_loud ((with_reducible refine (toFilter _ _ _ _).mono ?_); rintro e wp ⟨rfl, hcp⟩; have rp := hcp.rules; have sp := hcp.size; (try simp only [World.size_alloc, drew_heap] at sp rp); have zp : w.heap.size < wp.heap.size ∧ w.heap.size + 1 < wp.heap.size ∧ b < wp.heap.size := (by omega); (try have sq : _ < wp.heap.size := Nat.lt_of_lt_of_le (Nat.lt_succ_self _) sp); (try have sq2 : _ < wp.heap.size := Nat.lt_of_lt_of_le (by assumption) sp))) | (go_at_call 17; go_loud ((with_reducible refine (HI.out _).mono ?_); rintro e wp ⟨rfl, hcp⟩; have rp := hcp.rules; have sp := hcp.size; (try simp only [World.size_alloc, drew_heap] at sp rp); have zp : w.heap.size < wp.heap.size ∧ w.heap.size + 1 < wp.heap.size ∧ b < wp.heap.size := (by omega); (try have sq : _ < wp.heap.size := Nat.lt_of_lt_of_le (Nat.lt_succ_self _) sp); (try have sq2 : _ < wp.heap.size := Nat.lt_of_lt_of_le (by assumption) sp))))
    all_goals (go_wp2_with (go_at_call 18; (with_reducible refine (KE.out _).mono ?_); rintro e wz ⟨rfl, hcz⟩); go_ret; exact ⟨rfl, by (repeat (first | (with_reducible exact Chg.refl _ _) | ((with_reducible refine Chg.setNew ?_ _ ?_); rotate_left; first | (dsimp only; omega) | (simp; done) | (simp; omega)) | (with_reducible refine Chg.alloc ?_ _) | (with_reducible refine Chg.drew ?_) | (with_reducible refine Chg.drewN ?_ _) | (with_reducible refine Chg.no ?_ (by assumption)) | (with_reducible refine Chg.and_ ?_ (by assumption)) | ((with_reducible refine Chg.at_ ?_ (by assumption) ?_); rotate_left; (try simp only [World.size_alloc]); omega)))⟩)
theorem walk (x1 x2 x3 y1 y2 y3 : Int) (w : World) : Calls Try.prog 5 #[.agg #[.int .i64 x1, .int .i64 x2, .int .i64 x3], .agg #[.int .i64 y1, .int .i64 y2, .int .i64 y3]] w fun e w' => e = .returned (.bool true) ∧ Chg No w w' := by
  cases hf : bothOk x1 x2 x3 y1 y2 y3 with
  | false => exact walk0 _ _ _ _ _ _ 0 0 0 false w (hid fun W => sBothNo hf W) (hid fun W => iBothNo hf W)
  | true => exact walk0 _ _ _ _ _ _ _ _ _ true w (hid fun W => sBothYes hf rfl rfl rfl W) (hid fun W => iBothYes hf rfl rfl rfl W)

set_option maxRecDepth 100000 in
theorem lifted (os : Os) (started : os.Started) (H : Type) (enc : TypeId × Value → H) :
    ReturnsInHanded {} Try.checked os 5 .any (Rows.fnExactBothFiltersSpec.pre6 enc Try.prog Try.f5 Rows.fnExactBothFiltersRow.domain false) (Rows.fnExactBothFiltersSpec.post enc Try.prog Try.f5 false true false false) := by
  refine returnsInHanded_of_change (C := Try.checked) own started (by kernel_rfl) Try.func5
    (ChangeSpec.witness6 (enc := enc) (C := Try.checked) false ⟨#[], #[.agg #[.int .i64 0, .int .i64 0, .int .i64 0], .agg #[.int .i64 0, .int .i64 0, .int .i64 0]], []⟩ 8 (by kernel_rfl) (by kernel_rfl) (by kernel_rfl) (by kernel_rfl)) ?_
  intro W base args ds gs before hval0 hW hcnd _
  have hval : ∀ (j : Nat) t v, Try.f5.params[j]? = some t → args[j]? = some v → Value.okWide Try.prog W .any base t v := hval0
  have hW' := hW
  obtain ⟨p, q, hA0, hV, rfl, hfz, hnd⟩ := hW
  have hA : DataW.TrodAll enc Try.prog W 0 (fun _ => true) true Try.f5.params.toList args.toList ds p := hA0
  rw [Try.params5] at hA hval
  obtain ⟨v0, vs0, d0, ds0, p0, q0, hargs, rfl, rfl, h0, r0⟩ := trodAll_cons hA
  obtain ⟨v1, vs1, d1, ds1, p1, q1, rfl, rfl, rfl, h1, r1⟩ := trodAll_cons r0
  obtain ⟨rfl, rfl, rfl⟩ := trodAll_nil r1
  obtain rfl : args = #[v0, v1] := by cases args; simp_all
  obtain ⟨rfl, rfl⟩ := trodVars_none hV
  have k0 := h0
  have lt0 : ∀ x ∈ p0, x.block < W.heap.size := by obtain ⟨m, hm⟩ := k0; exact DataW.trod_lt m _ _ _ hm
  have k1 := h1
  have lt1 : ∀ x ∈ p1, x.block < W.heap.size := by obtain ⟨m, hm⟩ := k1; exact DataW.trod_lt m _ _ _ hm
  obtain ⟨a0, b0, c0, rfl⟩ := open_filter (hval 0 23 v0 rfl rfl) h0
  obtain ⟨a1, b1, c1, rfl⟩ := open_filter (hval 1 23 v1 rfl rfl) h1
  clear hA0 hval0
  refine (walk a0 b0 c0 a1 b1 c1 W  ).mono fun e W' ⟨he, bel0⟩ => ?_
  have bel := bel0.below
  subst he
  exact ⟨_, rfl, _, _, _, [], _, [], hW', trodAll_mk1 (shut_bool Try.underlying4 _), (trodAll_cons_mk (Below.trod laidOut (by kernel_rfl) (of_decide_eq_true (by kernel_rfl)) k0 bel lt0) (trodAll_cons_mk (Below.trod laidOut (by kernel_rfl) (of_decide_eq_true (by kernel_rfl)) k1 bel lt1) trodAll_mk0)), rfl, bel.frame _, fun h => by cases h⟩

theorem over : Rows.fnExactBothFiltersRow.holds Try.pinned (OpenSpec.ofChange Rows.fnExactBothFiltersSpec) :=
  OpenClaim.holds_of_wide 5 Try.f5 rfl rfl rfl rfl rfl rfl rfl ⟨rfl, rfl, rfl, rfl, rfl⟩ rfl rfl rfl rfl rfl (by kernel_rfl) Try.func5 (by kernel_rfl)
    (of_decide_eq_true (by kernel_rfl)) (by unfold Func.isWrapper; first | (rw [if_pos (by decide +kernel)]; kernel_rfl) | (rw [if_neg (by decide +kernel)]; exact ⟨rfl, rfl⟩))
    (fun os started H enc _ => lifted os started H enc)

theorem proved : Rows.FnExactBothFiltersSaid := over
#print axioms proved

end lawExactBothFilters
end Go.Proofs.Ytmkfmefkbcfjnaa
