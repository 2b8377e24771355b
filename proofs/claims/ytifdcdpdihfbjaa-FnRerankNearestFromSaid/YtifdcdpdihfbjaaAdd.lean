/- The reference's addHit: a hit put in its place. -/
import Derived.Test.YtifdcdpdihfbjaaHits
import Derived.Test.YtifdcdpdihfbjaaTypes
import Derived.Deep.RegionLaw
import Derived.Deep.DeepCutAuto
namespace Go.Proofs.Ytifdcdpdihfbjaa
open Go.RowKit
set_option linter.unusedVariables false
set_option linter.unusedSimpArgs false
theorem heap_under1 {w : World} {o o' : Obj} {n : Nat} (h : n = w.heap.size) : ((w.alloc o).alloc o').drew.heap[n]? = some o := by
  show ((w.alloc o).alloc o').heap[n]? = some o
  rw [Below.heap_alloc _ _ _ (by rw [World.size_alloc]; omega)]
  exact heap_top h
theorem heap_under {w : World} {o o' : Obj} {n : Nat} (h : n = w.heap.size) : ((w.alloc o).alloc o').heap[n]? = some o := heap_under1 h
set_option maxHeartbeats 4000000 in
theorem sAddHit (l0 h0 : Nat) (A : Option Addr) (n c : Nat) (xs : List (Int × Int)) (y1 y2 : Int) (kk : Int) (w : World) (hx : RHits w l0 h0 A n c xs) (hn : n ≤ 1048576) (hk0 : 0 ≤ kk) (hk1 : kk ≤ 1000000) :
    Calls Try.prog 53 #[.slice A n c, .agg #[.int .i64 y1, .int .i64 y2], .int .i64 kk] w (RetHits (addHitF xs (y1, y2) kk) w) := by
  have hnc := hx.le; have hcm := hx.cap
  have HX := hid hx
  have BX := hid (Box.new (w := w) [.int .i64 y1, .int .i64 y2] 39 rfl)
  clear hx
  go_enter Try.func53, Try.ntmps53
  go_wp2_with fail
  go_cut [7] (fun s7 wx => Chg No (w.alloc (.cells #[.int .i64 y1, .int .i64 y2] 39)) wx ∧ Hid (OHits wx (w.heap.size + 1) s7 (xs ++ [(y1, y2)])))
  case first =>
    go_region_law (first | ((refine step_push _ rfl (.tmp 10) (.tmp 11) 30 rfl 39 2 16 (.agg #[.int .i64 0, .int .i64 0]) cHit Try.underlying30 infoHit rfl (by omega) (by omega) (fun _ => rfl) oneHit (w.heap.size + 1) (.slice (some ⟨_, 0, none⟩) 0 0) [] rfl ?_ A n c xs rfl ?_ ?_ ?_ ?_; (refine OSl.lit (enc := cHit) (n := 0) [] [] (fun _ => rfl) rfl rfl (by omega) (by simp) ?_); (first | exact heap_top1 (by simp) | exact heap_under1 (by simp) | exact heap_top (by simp) | exact heap_under (by simp)); (refine src_hits (HX.out.no ?_)); (repeat (first | (with_reducible exact Chg.refl _ _) | ((with_reducible refine Chg.setNew ?_ _ ?_); rotate_left; first | (dsimp only; omega) | (simp; done) | (simp; omega)) | (with_reducible refine Chg.alloc ?_ _) | (with_reducible refine Chg.drew ?_) | (with_reducible refine Chg.drewN ?_ _) | (with_reducible refine Chg.no ?_ (by assumption)) | (with_reducible refine Chg.and_ ?_ (by assumption)) | ((with_reducible refine Chg.at_ ?_ (by assumption) ?_); rotate_left; (try simp only [World.size_alloc]); omega))); (simp; omega); simp; intro v1 w1 ho1 hg1 hb1; have hcA : Chg No (w.alloc (.cells #[.int .i64 y1, .int .i64 y2] 39)) w1 := Chg.grown (by (repeat (first | (with_reducible exact Chg.refl _ _) | ((with_reducible refine Chg.setNew ?_ _ ?_); rotate_left; first | (dsimp only; omega) | (simp; done) | (simp; omega)) | (with_reducible refine Chg.alloc ?_ _) | (with_reducible refine Chg.drew ?_) | (with_reducible refine Chg.drewN ?_ _) | (with_reducible refine Chg.no ?_ (by assumption)) | (with_reducible refine Chg.and_ ?_ (by assumption)) | ((with_reducible refine Chg.at_ ?_ (by assumption) ?_); rotate_left; (try simp only [World.size_alloc]); omega)))) hg1 (fun k hk hlt => by have h8 := Nat.lt_of_lt_of_le hlt (Nat.le_of_eq (World.size_alloc _ _)); injection hk with hk; simp only [] at hk; omega); have q1 := (BX.out.no hcA).f2; (first | (have r1 : Box w1 (w.heap.size + 1 + 1) [.int .i64 y1, .int .i64 y2] := by ((refine Box.grown (Box.drew (Box.new [.int .i64 y1, .int .i64 y2] 39 ?_)) hg1 ?_); simp; (intro h9; injection h9 with h9; (try simp only [] at h9); omega))) | (have r1 : Box w1 (w.heap.size + 1) [.int .i64 y1, .int .i64 y2] := by ((refine Box.grown (Box.drew (Box.alloc (Box.new [.int .i64 y1, .int .i64 y2] 39 ?_) (.cells #[] 39))) hg1 ?_); simp; (intro h9; injection h9 with h9; (try simp only [] at h9); omega))) | skip))) | ((refine step_push _ rfl (.tmp 12) (.tmp 14) 30 rfl 39 2 16 (.agg #[.int .i64 0, .int .i64 0]) cHit Try.underlying30 infoHit rfl (by omega) (by omega) (fun _ => rfl) oneHit (w.heap.size + 1) _ ([] ++ xs) rfl ?_ _ 1 1 [(y1, y2)] rfl ?_ ?_ ?_ ?_; (first | exact ho1 | exact OSl.alloc ho1 _); (first | exact Src.one r1 rfl | exact Src.one (Box.new _ 39 rfl) rfl); (have := HX.out.len; simp; omega); (have := hcA.size; simp at this ⊢; omega); intro v2 w2 ho2 hg2 hb2; have hcB : Chg No (w.alloc (.cells #[.int .i64 y1, .int .i64 y2] 39)) w2 := by first | exact Chg.pushed hcA hg2 ho1 (by simp) | exact Chg.pushed (hcA.alloc _) hg2 (OSl.alloc ho1 _) (by simp))))
    all_goals (go_wp2_with fail; go_meet; exact ⟨hcB, by have h9 := ho2; rw [List.nil_append] at h9; exact h9⟩)
  case rest =>
    obtain ⟨hc, HO⟩ := hcut
    obtain ⟨A1, c1, hv, hcn, hcm1, hA1⟩ := OSl.form HO.out
    obtain ⟨g, rfl, hg1, hg2⟩ := hA1 (by simp)
    have hlen := HX.out.len
    rw [List.length_append, List.length_singleton, hlen] at hv hcn
    subst hv
    have HL := hid hlen
    have HO0 := hid (show OHits wc (w.heap.size + 1) (.slice (some ⟨g, 0, none⟩) (n + 1) c1) (putAt (y1, y2) xs n) from by rw [← hlen, putAt_all]; rw [hlen]; exact HO.out)
    have hcm2 : c1 ≤ 9223372036854775807 := by unfold maxLen at hcm1; omega
    clear hlen hA1 HO hcm1
    go_wp2
    go_loopw [8] (fun i wr => ∃ k : Nat, k ≤ n ∧ i = .int .i64 k ∧ Chg No (w.alloc (.cells #[.int .i64 y1, .int .i64 y2] 39)) wr ∧ Hid (OHits wr (w.heap.size + 1) (.slice (some ⟨g, 0, none⟩) (n + 1) c1) (putAt (y1, y2) xs k)) ∧ Hid (backPos (y1, y2) xs xs.length = backPos (y1, y2) xs k)) (fun i _ => (intOf i).toNat)
    case atStart => exact ⟨n, Nat.le_refl _, by go_num, hc, HO0, by show _ = _; rw [HL.out]⟩
    case round =>
      obtain ⟨k, hk, rfl, hc, HK, HB⟩ := hrel
      obtain ⟨wo, rfl⟩ : ∃ W : World, W = wr := ⟨_, rfl⟩
      have hkl : k ≤ xs.length := by rw [HL.out]; exact hk
      have Hkl := hid hkl
      clear hkl
      by_cases h00 : k = 0
      · have h0' : decide (0 < k) = false := by simp; omega
        have HF := hid (show insF (y1, y2) xs = putAt (y1, y2) xs k from by unfold insF; rw [HB.out, h00]; rfl)
        clear h00
        go_wp2_with fail
        (refine wp_region_nb (by kernel_rfl) (by kernel_rfl) ?_; (repeat (first | go_big_quiet_step ((go_at_call 93; exact nb_ofE (sNearer _ _ _ _ _) (congrArg Value.bool g3))) | quiet_step ((go_at_call 93; exact nb_ofE (sNearer _ _ _ _ _) (congrArg Value.bool g3))))); (with_reducible refine wpQuiet_nil ?_); intro wq hw1; have hq := nb_out hw1; clear hw1)
        have hcw : Chg No w wq := ((Chg.refl No w).alloc _).no (hc.no hq)
        have HK1 := hid (HK.out.no hq)
        by_cases hkk : kk ≤ n + 1
        · obtain ⟨q, rfl⟩ := Int.eq_ofNat_of_zero_le hk0
          have hqn : q ≤ n + 1 := by omega
          go_wp2
          go_ret
          refine ⟨_, rfl, ?_, hcw⟩
          have h9 := OSl.take HK1.out (fun _ => rfl) (k := q) (by rw [putAt_length Hkl.out, HL.out]; omega) (fun h => by rw [putAt_length Hkl.out] at h; omega)
          have h8 := OSl.down h9 (base' := w.heap.size) (by omega)
          show OHits _ _ _ _
          unfold addHitF
          rw [HF.out]
          exact h8
        · have hkk' : (n : Int) + 1 < kk := by omega
          clear hkk
          go_wp2
          go_ret
          refine ⟨_, rfl, ?_, hcw⟩
          have h8 := OSl.down HK1.out (base' := w.heap.size) (by omega)
          show OHits _ _ _ _
          unfold addHitF
          rw [HF.out, List.take_of_length_le (by rw [putAt_length Hkl.out, HL.out]; omega)]
          exact h8
      · obtain ⟨j, rfl⟩ : ∃ j, k = j + 1 := ⟨k - 1, by omega⟩
        have h0' : decide (0 < j + 1) = true := by simp
        obtain ⟨z, hz⟩ : ∃ z, xs[j]? = some z := ⟨_, List.getElem?_eq_getElem (by have := Hkl.out; omega)⟩
        obtain ⟨z1, z2⟩ := z
        have hp1 := putAt_at (h := (y1, y2)) Hkl.out
        have hp2 := putAt_prev (h := (y1, y2)) hz
        have hstep := backPos_step (h := (y1, y2)) hz
        have f1 : ∀ p : NB wo, p.wd.cell? ⟨g, (j + 1) * 2, none⟩ = some (.int .i64 y1) := nb_cell (HK.out.cell (fun _ => rfl) (i := 0) hp1 rfl)
        have f2 : ∀ p : NB wo, p.wd.cell? ⟨g, (j + 1) * 2 + 1, none⟩ = some (.int .i64 y2) := nb_cell (HK.out.cell (fun _ => rfl) (i := 1) hp1 rfl)
        have f3 : ∀ p : NB wo, p.wd.cell? ⟨g, j * 2, none⟩ = some (.int .i64 z1) := nb_cell (HK.out.cell (fun _ => rfl) (i := 0) hp2 rfl)
        have f4 : ∀ p : NB wo, p.wd.cell? ⟨g, j * 2 + 1, none⟩ = some (.int .i64 z2) := nb_cell (HK.out.cell (fun _ => rfl) (i := 1) hp2 rfl)
        have HZ := hid hz
        have HS := hid hstep
        have i1 : ((j : Int) + 1).toNat = j + 1 := by omega
        clear hp1 hp2 hstep hz
        cases g3 : nearB (y1, y2) (z1, z2) with
        | false =>
          have HF := hid (show insF (y1, y2) xs = putAt (y1, y2) xs (j + 1) from by unfold insF; rw [HB.out, HS.out, g3]; rfl)
          go_wp2_with fail
          (refine wp_region_nb (by kernel_rfl) (by kernel_rfl) ?_; (repeat (first | go_big_quiet_step ((go_at_call 93; exact nb_ofE (sNearer _ _ _ _ _) (congrArg Value.bool g3))) | quiet_step ((go_at_call 93; exact nb_ofE (sNearer _ _ _ _ _) (congrArg Value.bool g3))))); (with_reducible refine wpQuiet_nil ?_); intro wq hw1; have hq := nb_out hw1; clear hw1)
          have hcw : Chg No w wq := ((Chg.refl No w).alloc _).no (hc.no hq)
          have HK1 := hid (HK.out.no hq)
          by_cases hkk : kk ≤ n + 1
          · obtain ⟨q, rfl⟩ := Int.eq_ofNat_of_zero_le hk0
            have hqn : q ≤ n + 1 := by omega
            go_wp2
            go_ret
            refine ⟨_, rfl, ?_, hcw⟩
            have h9 := OSl.take HK1.out (fun _ => rfl) (k := q) (by rw [putAt_length Hkl.out, HL.out]; omega) (fun h => by rw [putAt_length Hkl.out] at h; omega)
            have h8 := OSl.down h9 (base' := w.heap.size) (by omega)
            show OHits _ _ _ _
            unfold addHitF
            rw [HF.out]
            exact h8
          · have hkk' : (n : Int) + 1 < kk := by omega
            clear hkk
            go_wp2
            go_ret
            refine ⟨_, rfl, ?_, hcw⟩
            have h8 := OSl.down HK1.out (base' := w.heap.size) (by omega)
            show OHits _ _ _ _
            unfold addHitF
            rw [HF.out, List.take_of_length_le (by rw [putAt_length Hkl.out, HL.out]; omega)]
            exact h8
        | true =>
          have HB2 := hid (show backPos (y1, y2) xs xs.length = backPos (y1, y2) xs j from by rw [HB.out, HS.out, g3]; rfl)
          go_wp2_with fail
          (refine wp_region_nb (by kernel_rfl) (by kernel_rfl) ?_; (repeat (first | go_big_quiet_step ((go_at_call 93; exact nb_ofE (sNearer _ _ _ _ _) (congrArg Value.bool g3))) | quiet_step ((go_at_call 93; exact nb_ofE (sNearer _ _ _ _ _) (congrArg Value.bool g3))))); (with_reducible refine wpQuiet_nil ?_); intro wq hw1; have hq := nb_out hw1; clear hw1)
          have HK1 := hid (HK.out.no hq)
          have hp1 := putAt_at (h := (y1, y2)) Hkl.out
          have hp2 := putAt_prev (h := (y1, y2)) HZ.out
          have e1 : wq.cell? ⟨g, (j + 1) * 2, none⟩ = some (.int .i64 y1) := OSl.cell HK1.out (fun _ => rfl) (i := 0) hp1 rfl
          have e2 : wq.cell? ⟨g, (j + 1) * 2 + 1, none⟩ = some (.int .i64 y2) := OSl.cell HK1.out (fun _ => rfl) (i := 1) hp1 rfl
          have e3 : wq.cell? ⟨g, j * 2, none⟩ = some (.int .i64 z1) := OSl.cell HK1.out (fun _ => rfl) (i := 0) hp2 rfl
          have e4 : wq.cell? ⟨g, j * 2 + 1, none⟩ = some (.int .i64 z2) := OSl.cell HK1.out (fun _ => rfl) (i := 1) hp2 rfl
          have q1 : ∀ o, wq.frozen? ⟨g, o, none⟩ = false := fun o => OSl.free HK1.out o
          have hgl : g < wq.heap.size := (OSl.base_lt HK1.out).2
          have hne : ¬ g = wq.heap.size := by omega
          have hne' : ¬ wq.heap.size = g := by omega
          clear hp1 hp2 f1 f2 f3 f4
          go_wp2
          go_roundw
          case rel => exact ⟨j, by omega, by go_num, by (repeat (first | (with_reducible exact Chg.refl _ _) | ((with_reducible refine Chg.setNew ?_ _ ?_); rotate_left; first | (dsimp only; omega) | (simp; done) | (simp; omega)) | (with_reducible refine Chg.alloc ?_ _) | (with_reducible refine Chg.drew ?_) | (with_reducible refine Chg.drewN ?_ _) | (with_reducible refine Chg.no ?_ (by assumption)) | (with_reducible refine Chg.and_ ?_ (by assumption)) | ((with_reducible refine Chg.at_ ?_ (by assumption) ?_); rotate_left; (try simp only [World.size_alloc]); omega))), by (show OHits _ _ _ _; have h9 := OSl.alloc (OSl.set2 (OSl.set2 HK1.out (fun _ => rfl) (j + 1) (z1, z2) _ _ rfl) (fun _ => rfl) j (y1, y2) _ _ rfl) (.cells #[.int .i64 y1, .int .i64 y2] 39); rw [putAt_swap HZ.out] at h9; exact h9), HB2⟩
          case measure => simp [intOf]
end Go.Proofs.Ytifdcdpdihfbjaa
