/- FnWalkToNearest: who begins at the nearest item is there. No condition. -/
import Derived.Test.YtgidepnlflmclaaLift
import Derived.Test.YtgidepnlflmclaaDrawW
import Derived.Test.YtgidepnlflmclaaWalk
import Derived.Test.YtgidepnlflmclaaWalkS
import Derived.Test.YtgidepnlflmclaaEqI
import Derived.Deep.RegionHeld3
import Derived.Deep.RegionWith
import Derived.Deep.DeepCutAuto
namespace Go.Proofs.Ytgidepnlflmclaa
open Go.ChangeShapes Go.WideShapes Go.ChangeAt Go.RowKit Go.Shelf
set_option linter.unusedVariables false
set_option linter.unusedSimpArgs false
theorem near_one1 {l : List It} {many : Int} (hs : storeB l = true) (at_ : List Int) (kind : Int) (h1 : 1 ≤ l.length) : ∃ y ∈ l, nearestF l kind at_ 1 = [(y.key, distF kind y.vec at_)] ∧ nextF l kind many at_ y.key = none := by
  have hlen : (insAll (hitsOf kind at_ l)).length = l.length := by rw [(insAll_perm _).length_eq, hitsOf_length]
  have hS := all_srt kind at_ hs
  have hall := fun z hz => all_mem (kind := kind) (at_ := at_) (l := l) (z := z) hz
  have hsub : ∀ x ∈ insAll (hitsOf kind at_ l), ∃ z ∈ l, x = (z.key, distF kind z.vec at_) := fun x hx => hits_mem.1 ((insAll_perm _).mem_iff.1 hx)
  have hn : nearestF l kind at_ 1 = (insAll (hitsOf kind at_ l)).take 1 := rfl
  rw [hn]
  cases hI : insAll (hitsOf kind at_ l) with
  | nil => rw [hI] at hlen; simp at hlen; omega
  | cons a t =>
    rw [hI] at hS hall hsub
    obtain ⟨y, hy, rfl⟩ := hsub a (by simp)
    refine ⟨y, hy, rfl, next_none_of (fun k hk => ?_)⟩
    obtain ⟨i, x, hx, hxk, _⟩ := keyAt_some hs (gOf_keys hk)
    obtain ⟨j, hj⟩ := List.getElem?_of_mem hy
    rw [← hxk, hitK_eq hs kind at_ hx, hitK_eq hs kind at_ hj]
    have h2 := hall x (List.mem_of_getElem? hx)
    rcases List.mem_cons.1 h2 with e | e
    · rw [e]; exact nearB_irr _
    · exact nearB_asymm ((List.pairwise_cons.1 hS).1 _ e)
namespace lawWalkToNearest
set_option maxRecDepth 100000 in
set_option maxHeartbeats 8000000 in
theorem walk (A : Option Addr) (n c : Nat) (w : World) (hC : Code w w.heap.size A n c) : Calls Try.prog 6 #[.slice A n c] w fun e w' => e = .returned (.bool true) ∧ Chg No w w' := by
  have hn1 := hC.1
  have hn2 := hC.2.1
  by_cases hbig : 1048576 < n
  · skip
    go_enter Try.func6, Try.ntmps6
    go_wp2
    go_ret
    exact ⟨rfl, Chg.refl _ _⟩
  · skip
    have hbig' : n ≤ 1048576 := by omega
    go_enter Try.func6, Try.ntmps6
    (go_wp2_with fail; (with_reducible refine (drawWalkTo A n c _ hC).mono ?_); rintro e w1 ⟨v1, xs, kind, many, key, A0, n0, c0, at_, rfl, ho1, hl1, hr0, hn0, hkd, hmd, hc1⟩)
    obtain ⟨A1, c1, rfl, hr1⟩ := OItems.read ho1
    have hm1 := hr1.cap; have hk1 := hr1.le; have hm0 := hr0.cap; have hk0 := hr0.le
    have HX := hid hr1; have HY := hid hr0
    have hkd0 := hkd.1; have hkd5 := hkd.2; have hmd0 := hmd.1; have hmd6 := hmd.2
    have s1 := hc1.size
    clear ho1 hr1 hr0 hkd hmd
    obtain ⟨L, hL⟩ : ∃ L, WalkF xs kind many key at_ = L := ⟨_, rfl⟩
    obtain ⟨t, ht⟩ : ∃ t, walkB xs kind many key at_ = t := ⟨_, rfl⟩
    have KS := hid (fun W (h : Chg No w1 W) => sWalkTo _ _ _ _ _ xs _ _ _ _ _ at_ kind many key W (HX.out.no h) (HY.out.no h))
    have KI := hid (fun W (h : Chg No w1 W) => iWalkTo _ _ _ _ _ xs _ _ _ _ _ at_ kind many key W (HX.out.no h) (HY.out.no h))
    rw [hL, ht] at KS KI
    have HL := hid hL
    clear hL
    cases t with
    | false =>
      clear ht
      (go_wp2_with fail; (with_reducible refine (KI.out _ (Chg.refl _ _)).mono ?_); rintro e w2 ⟨v2, rfl, ho2, hc2⟩)
      obtain ⟨A2, c2, rfl, hr2⟩ := OInts.read ho2
      have hp2 := hr2.cap; have hl2 := hr2.le
      have R2 := hid hr2
      have s2 := hc2.size
      clear ho2 hr2
      (go_wp2_with fail; (with_reducible refine (KS.out _ hc2).mono ?_); rintro e w3 ⟨v3, rfl, ho3, hc3⟩)
      obtain ⟨A3, c3, rfl, hr3⟩ := OInts.read ho3
      have hp3 := hr3.cap; have hl3 := hr3.le
      have R3 := hid hr3
      have s3 := hc3.size
      clear ho3 hr3
      (go_wp2_with fail; (with_reducible refine (equalInts _ _ _ _ _ _ _ _ _ L _ (R2.out.no hc3) R3.out).mono ?_); rintro e w4 ⟨rfl, hc4⟩)
      (go_wp2_with fail; (with_reducible refine (equalInts _ _ _ _ _ _ _ _ _ L _ (R2.out.no (hc3.no hc4)) (R3.out.no hc4)).mono ?_); rintro e w5 ⟨rfl, hc5⟩)
      go_wp2
      go_ret
      exact ⟨rfl, (((hc1.no hc2).no hc3).no hc4).no hc5⟩
    | true =>
      have hLL : walkL xs kind many at_ key = L := by rw [← WalkF_ok ht]; exact HL.out
      have hwb := ht
      unfold walkB at hwb
      rw [Bool.and_eq_true, Bool.and_eq_true, decide_eq_true_eq] at hwb
      have hlk := hwb.1
      have hok := linkB_ok hwb.1
      have hvb := hwb.2.1
      have hka := keyAt_mem.1 hwb.2.2
      have hx16 : xs.length ≤ 16 := storeB_len hok.store
      have hwl := walk_len (kind := kind) (many := many) (at_ := at_) hka
      rw [hLL] at hwl
      have hL1 : 1 ≤ L.length := hwl.1
      have hL16 : L.length ≤ xs.length := hwl.2
      have e0 : ((L.length : Int) == 0) = false := by simp; intro h; subst h; simp at hL1
      clear hwb hwl ht
      (go_wp2_with fail; (with_reducible refine (KI.out _ (Chg.refl _ _)).mono ?_); rintro e w2 ⟨v2, rfl, ho2, hc2⟩)
      obtain ⟨A2, c2, rfl, hr2⟩ := OInts.read ho2
      have hp2 := hr2.cap; have hl2 := hr2.le
      have R2 := hid hr2
      have s2 := hc2.size
      clear ho2 hr2
      (go_wp2_with fail; (with_reducible refine (KS.out _ hc2).mono ?_); rintro e w3 ⟨v3, rfl, ho3, hc3⟩)
      obtain ⟨A3, c3, rfl, hr3⟩ := OInts.read ho3
      have hp3 := hr3.cap; have hl3 := hr3.le
      have R3 := hid hr3
      have s3 := hc3.size
      clear ho3 hr3
      (go_wp2_with fail; (with_reducible refine (equalInts _ _ _ _ _ _ _ _ _ L _ (R2.out.no hc3) R3.out).mono ?_); rintro e w4 ⟨rfl, hc4⟩)
      have q4 : Chg No w1 w4 := (hc2.no hc3).no hc4
      have r4 : Chg No w2 w4 := hc3.no hc4
      have s4 := hc4.size
      clear R3 KI KS
      have hqb : queryB xs kind at_ = true := by unfold queryB; rw [hok.store, hvb]; unfold kindB; rw [decide_eq_true ⟨hok.kind1, hok.kind4⟩]; rfl
      have hcan : canB xs kind at_ 1 = true := by unfold canB; unfold queryB at hqb; revert hqb; cases storeB xs <;> cases kindB kind <;> cases vecB at_ <;> simp
      have hx1 : 1 ≤ xs.length := by omega
      obtain ⟨y, hyx, hN, hnone⟩ := near_one1 (many := many) hok.store at_ kind hx1
      have KN := hid (fun W (h : Chg No w1 W) => iNEAREST _ _ _ _ _ xs _ _ _ _ _ at_ kind 1 W (HX.out.no h) (HY.out.no h))
      rw [NearestF_ok hcan, hN] at KN
      have hzk : y.key ∈ xs.map (·.key) := List.mem_map.2 ⟨y, hyx, rfl⟩
      have hstay : walkB xs kind many y.key at_ = true := by unfold walkB; rw [hlk, hvb, decide_eq_true (keyAt_mem.2 hzk)]; rfl
      have K5 := hid (fun W (h : Chg No w1 W) => iWalkTo _ _ _ _ _ xs _ _ _ _ _ at_ kind many y.key W (HX.out.no h) (HY.out.no h))
      rw [WalkF_ok hstay, hstay, walkL_none hnone] at K5
      clear hstay
      obtain ⟨z, hz⟩ : ∃ z, y.key = z := ⟨_, rfl⟩
      rw [hz] at K5 KN
      obtain ⟨d, hd⟩ : ∃ d, distF kind y.vec at_ = d := ⟨_, rfl⟩
      rw [hd] at KN
      clear hz hd hnone hN hcan hqb hlk hok hvb hka hLL hzk hyx
      (go_wp2_with fail; (with_reducible refine (KN.out _ q4).mono ?_); rintro e w5 ⟨v5, rfl, ho5, hc5⟩)
      obtain ⟨A5, c5, rfl, hr5⟩ := OHits.read ho5
      have hp5 := hr5.cap; have hl5 := hr5.le
      obtain ⟨b, o, y9, rfl, _, _, hy9, hE9⟩ := hr5.at_ (k := 0) (by simp)
      have e9 : y9 = (z, d) := by simpa using hy9.symm
      subst e9
      have f1 : w5.cell? ⟨b, o, none⟩ = some (.int .i64 z) := by simpa using hE9.1
      have F1 := hid f1
      have q5 := q4.no hc5
      clear ho5 hr5 hy9 hE9
      (go_wp2_with fail; (with_reducible refine (K5.out _ q5).mono ?_); rintro e w6 ⟨v6, rfl, ho6, hc6⟩)
      obtain ⟨A6, c6, rfl, hr6⟩ := OInts.read ho6
      have hp6 := hr6.cap; have hl6 := hr6.le
      have R6 := hid hr6
      have s6 := hc6.size
      clear ho6 hr6
      have R69 := hid (show RInts w6 _ _ A6 1 c6 [z] from R6.out)
      have f2 : w6.cell? ⟨b, o, none⟩ = some (.int .i64 z) := cell_keep hc6 F1.out (fun e => e)
      have HA := hid (RInts.lit (w := w6.alloc (.cells #[.int .i64 z] 3)) (n := 1) (heap_top rfl) [z] rfl rfl (by omega))
      have h67 : Chg No w6 (w6.alloc (.cells #[.int .i64 z] 3)) := (Chg.refl _ _).alloc _
      (go_wp2_with fail; (with_reducible refine (equalInts _ _ _ _ _ _ _ _ _ [z] _ (R69.out.no h67) HA.out).mono ?_); rintro e w7 ⟨rfl, hc7⟩)
      go_wp2
      go_ret
      exact ⟨rfl, hc1.no (((q5.no hc6).no h67).no hc7)⟩

set_option maxRecDepth 100000 in
theorem lifted (os : Os) (started : os.Started) (H : Type) (enc : TypeId × Value → H) :
    ReturnsInHanded {} Try.checked os 6 .any (Rows.fnWalkToNearestSpec.pre6 enc Try.prog Try.f6 Rows.fnWalkToNearestRow.domain false) (Rows.fnWalkToNearestSpec.post enc Try.prog Try.f6 false true false false) := by
  refine returnsInHanded_of_change (C := Try.checked) own started (by kernel_rfl) Try.func6
    (ChangeSpec.witness6 (enc := enc) (C := Try.checked) false ⟨#[], #[.slice none 0 0], []⟩ 8 (by kernel_rfl) (by kernel_rfl) (by kernel_rfl) (by kernel_rfl)) ?_
  intro W base args ds gs before hval0 hW hcnd _
  have hval : ∀ (j : Nat) t v, Try.f6.params[j]? = some t → args[j]? = some v → Value.okWide Try.prog W .any base t v := hval0
  have hW' := hW
  obtain ⟨p, q, hA0, hV, rfl, hfz, hnd⟩ := hW
  have hA : DataW.TrodAll enc Try.prog W 0 (fun _ => true) true Try.f6.params.toList args.toList ds p := hA0
  rw [Try.params6] at hA hval
  obtain ⟨v0, vs0, d0, ds0, p0, q0, hargs, rfl, rfl, h0, r0⟩ := trodAll_cons hA
  obtain ⟨rfl, rfl, rfl⟩ := trodAll_nil r0
  obtain rfl : args = #[v0] := by cases args; simp_all
  obtain ⟨rfl, rfl⟩ := trodVars_none hV
  obtain ⟨a0, len0, cap0, rfl⟩ := okWide_slice Try.underlying35 (hval 0 35 v0 rfl rfl)
  have k0 := h0
  have lt0 : ∀ x ∈ p0, x.block < W.heap.size := by obtain ⟨m, hm⟩ := k0; exact DataW.trod_lt m _ _ _ hm
  have w0 : Code W W.heap.size a0 len0 cap0 := by
    obtain ⟨fuel, hf⟩ := h0
    rcases open_ints Try.underlying35 Try.underlying5 (by kernel_rfl) hf with ⟨hcs, _⟩ | ⟨x, l, c, zs, hcs, _, hl, hm, hz, _, hcell, hwz⟩
    · simp [Value.cells] at hcs
      obtain ⟨rfl, rfl, rfl⟩ := hcs
      exact code_nil _
    · simp [Value.cells] at hcs
      obtain ⟨rfl, rfl, rfl⟩ := hcs
      exact code_row hl hm (by simpa using hz) hcell hwz
  clear hA0 hval0
  refine (walk a0 len0 cap0 W w0).mono fun e W' ⟨he, bel0⟩ => ?_
  have bel := bel0.below
  subst he
  exact ⟨_, rfl, _, _, _, [], _, [], hW', trodAll_mk1 (shut_bool Try.underlying4 _), (trodAll_cons_mk (Below.trod laidOut (by kernel_rfl) (of_decide_eq_true (by kernel_rfl)) k0 bel lt0) trodAll_mk0), rfl, bel.frame _, fun h => by cases h⟩

theorem over : Rows.fnWalkToNearestRow.holds Try.pinned (OpenSpec.ofChange Rows.fnWalkToNearestSpec) :=
  OpenClaim.holds_of_wide 6 Try.f6 rfl rfl rfl rfl rfl rfl rfl ⟨rfl, rfl, rfl, rfl, rfl⟩ rfl rfl rfl rfl rfl (by kernel_rfl) Try.func6 (by kernel_rfl)
    (of_decide_eq_true (by kernel_rfl)) (by unfold Func.isWrapper; first | (rw [if_pos (by decide +kernel)]; kernel_rfl) | (rw [if_neg (by decide +kernel)]; exact ⟨rfl, rfl⟩))
    (fun os started H enc _ => lifted os started H enc)

theorem proved : Rows.FnWalkToNearestSaid := over
#print axioms proved

end lawWalkToNearest
end Go.Proofs.Ytgidepnlflmclaa
