/- FnHashOfOpposite: opposite vectors have opposite hashes. No condition. -/
import Derived.Test.YtchblkeddeelhaaLift
import Derived.Test.YtchblkeddeelhaaDrawP
import Derived.Test.YtchblkeddeelhaaHash3
import Derived.Outline
namespace Go.Proofs.Ytchblkeddeelhaa
open Go.ChangeShapes Go.WideShapes Go.ChangeAt Go.RowKit
set_option linter.unusedVariables false
set_option linter.unusedSimpArgs false
namespace lawHashOfOpposite
theorem negV_snoc {a : List Int} {k : Nat} {x : Int} (h : a[k]? = some x) : negV (a.take (k + 1)) = negV (a.take k) ++ [-x] := by
  unfold negV; rw [take_snoc h, List.map_append]; rfl
theorem HashF_neg {ps : List (List Int)} {at_ : List Int} (h : ¬ HashF ps at_ < 0) : planesB ps = true ∧ vecB at_ = true := by
  unfold HashF at h
  cases h1 : planesB ps <;> cases h2 : vecB at_ <;> simp [h1, h2] at h
  exact ⟨rfl, rfl⟩
set_option maxRecDepth 100000 in
set_option maxHeartbeats 4000000 in
theorem walk (A : Option Addr) (n c : Nat) (w : World) (hC : Code w w.heap.size A n c) : Calls Try.prog 7 #[.slice A n c] w fun e w' => e = .returned (.bool true) ∧ Chg No w w' := by
  have hn1 := hC.1
  have hn2 := hC.2.1
  by_cases hbig : 1048576 < n
  · go_enter Try.func7, Try.ntmps7
    go_wp2
    go_ret
    exact ⟨rfl, Chg.refl _ _⟩
  have hbig' : n ≤ 1048576 := by omega
  clear hbig
  go_enter Try.func7, Try.ntmps7
  (go_wp2_with fail; (with_reducible refine (drawHashOf A n c _ hC).mono ?_); rintro e w1 ⟨v1, ps, A3, n3, c3, at_, rfl, ho1, hl1, ht3, hn3, hc1⟩)
  obtain ⟨A1, c1, rfl, hr1⟩ := ORows.read ho1
  obtain ⟨np, hnp⟩ : ∃ np, ps.length = np := ⟨_, rfl⟩
  rw [hnp] at hr1 hl1 ⊢
  have HNP := hid hnp
  clear hnp
  have hm1 := hr1.cap; have hk1 := hr1.le; have hm3 := ht3.1.cap; have hk3 := ht3.1.le
  have HP := hid hr1; have HY := hid ht3.1
  clear ho1 hr1 ht3
  obtain ⟨h9, hh9⟩ : ∃ h, HashF ps at_ = h := ⟨_, rfl⟩
  have KI := hid (fun W (h : Chg No w1 W) => iHashOf _ _ _ _ _ _ _ _ _ _ ps at_ W (HP.out.no h) (HY.out.no h))
  have KS := hid (fun W (h : Chg No w1 W) => sHashOf _ _ _ _ _ _ _ _ _ _ ps at_ W (HP.out.no h) (HY.out.no h))
  rw [hh9] at KI KS
  have HH := hid hh9
  clear hh9
  have e0 : (h9 != h9) = false := by simp
  (go_wp2_with fail; (with_reducible refine (KI.out _ (Chg.refl _ _)).mono ?_); rintro e w2 ⟨rfl, hc2⟩)
  (go_wp2_with fail; (with_reducible refine (KS.out _ hc2).mono ?_); rintro e w3 ⟨rfl, hc3⟩)
  have d3 := hc2.no hc3
  by_cases hneg : h9 < 0
  · have e1 : (h9 == h9) = true := by simp
    (go_wp2_with fail; (with_reducible refine (KS.out _ d3).mono ?_); rintro e w4 ⟨rfl, hc4⟩)
    go_wp2
    go_ret
    exact ⟨rfl, hc1.no (d3.no hc4)⟩
  · have hpv := HashF_neg (ps := ps) (at_ := at_) (by rw [HH.out]; exact hneg)
    have HPV := hid hpv
    have hp6' := ((planesB_iff ps).1 hpv.1).1
    have hp6 : 1 ≤ np ∧ np ≤ 6 := by have := HNP.out; omega
    have HPS := hid ((planesB_iff ps).1 hpv.1).2
    have hn4 : n3 = 4 := by have h9 : at_.length = n3 := HY.out.len; have := vecB_len hpv.2; omega
    have h64 := hashF_64 hp6'.2 at_
    rw [← HashF_ok hpv.1 hpv.2, HH.out] at h64
    have h0 : 0 ≤ h9 := by omega
    have h1 : h9 ≤ 63 := by omega
    have HSM := hid (vecB_small hpv.2)
    subst hn4
    have HO0 := hid (OSl.lit (T := 3) (enc := cInt) (w := w3.alloc (.cells #[] 3)) (base := w3.heap.size) (n := 0) [] [] (fun _ => rfl) rfl rfl (by omega) (Nat.le_refl _) (heap_top rfl))
    clear hpv h64 hneg KI KS hp6'
    go_wp2
    go_loopw [6, 7] (fun v i wr => ∃ k : Nat, k ≤ 4 ∧ i = .int .i64 k ∧ Chg No w3 wr ∧ Hid (OInts wr w3.heap.size v (negV (at_.take k)))) (fun _ i _ => 4 - (intOf i).toNat)
    case atStart => exact ⟨0, Nat.zero_le _, rfl, (Chg.refl _ _).alloc _, HO0⟩
    case round =>
      clear HO0
      obtain ⟨k, hk, rfl, hc, HO⟩ := hrel
      by_cases hlt : k < 4
      · obtain ⟨b, o, x, rfl, _, _, hxk, hE⟩ := (HY.out.no (d3.no hc)).at_ hlt
        have hE1 : wr.cell? ⟨b, o + k, none⟩ = some (.int .i64 x) := by simpa [EInt] using hE
        have bx := HSM.out x (List.mem_of_getElem? hxk)
        have bx1 := bx.1; have bx2 := bx.2
        have HS := hid (negV_snoc hxk)
        have HOL := hid (show (negV (at_.take k)).length ≤ 4 from by unfold negV; rw [List.length_map, List.length_take]; omega)
        have HO1 := hid (OSl.alloc HO.out (.cells #[.int .i64 (-x)] 3))
        have HX := hid (Src.one (sz := 1) (enc := cInt) (y := -x) (Box.new (w := wr) [.int .i64 (-x)] 3 rfl) rfl)
        have hsz := hc.size
        clear hxk hE bx
        go_wp2_with (at_builtin; refine wpList_push _ rfl _ _ 41 rfl 3 1 8 (.int .i64 0) cInt Try.underlying41 infoInt rfl (by omega) (by omega) (fun _ => rfl) oneInt w3.heap.size _ _ rfl HO1.out _ 1 1 [-x] rfl HX.out (by have := HOL.out; omega) (by simp; omega) ?_; intro v' w5 ho hg2 hb2)
        have hc5 : Chg No w3 w5 := Chg.pushed (hc.alloc _) hg2 HO1.out (Nat.le_refl _)
        have HO3 : Hid (OInts w5 w3.heap.size v' (negV (at_.take (k + 1)))) := by show OInts _ _ _ _; rw [HS.out]; exact ho
        clear ho hg2 hb2 HX HO1 HO
        go_wp2
        go_roundw
        case rel => exact ⟨k + 1, by omega, by go_num, hc5, HO3⟩
        case measure => simp [intOf]; omega
      · have h8 := HO.out
        rw [List.take_of_length_le (by have h7 : at_.length = 4 := HY.out.len; omega)] at h8
        obtain ⟨A7, c7, hv7, hr7⟩ := OInts.read h8
        subst hv7
        have hm7 := hr7.cap; have hk7 := hr7.le
        have HN := hid hr7
        clear h8 hr7 HO
        have HOPP := hid (fun h => HashF_opp HPV.out.1 HPV.out.2 h)
        have d4 := d3.no hc
        obtain ⟨wo, rfl⟩ : ∃ W : World, W = wr := ⟨_, rfl⟩
        clear hc
        go_wp2
        go_loopw [8] (fun i wr => ∃ j : Nat, j ≤ np ∧ i = .int .i64 j ∧ Chg No wo wr ∧ Hid (∀ (t : Nat) (p : List Int), t < j → ps[t]? = some p → dotF p at_ ≠ 0)) (fun i _ => np - (intOf i).toNat)
        case atStart => exact ⟨0, Nat.zero_le _, rfl, Chg.refl _ _, fun t p ht => absurd ht (by omega)⟩
        case round =>
          obtain ⟨j, hj, rfl, hc, HZ⟩ := hrel
          have d5 := d4.no hc
          by_cases hjl : j < np
          · obtain ⟨b, o, p, hA1, _, _, hpj, A8, n8, c8, hE2, hv8⟩ := (HP.out.no d5).at_ hjl
            subst hA1
            have hE3 : wr.cell? ⟨b, o + j, none⟩ = some (.slice A8 n8 c8) := by simpa using hE2
            have hpb := HPS.out p (List.mem_of_getElem? hpj)
            have KD := hid (iDotOf _ _ _ _ _ _ _ _ _ _ p at_ wr hv8 (HY.out.no d5) hpb HPV.out.2)
            obtain ⟨d, hd⟩ : ∃ d, dotF p at_ = d := ⟨_, rfl⟩
            rw [hd] at KD
            by_cases hd0 : d = 0
            · have e2 : (d == 0) = true := by simp [hd0]
              clear hpj hE2 hv8 hpb hd hd0
              (go_wp2_with fail; (with_reducible refine (KD.out).mono ?_); rintro e w6 ⟨rfl, hc6⟩)
              go_wp2
              go_ret
              exact ⟨rfl, hc1.no (d5.no hc6)⟩
            · have e2 : (d == 0) = false := by simp [hd0]
              have HZ2 : Hid (∀ (t : Nat) (q : List Int), t < j + 1 → ps[t]? = some q → dotF q at_ ≠ 0) := fun t q ht hq => by
                by_cases htj : t < j
                · exact HZ.out t q htj hq
                · obtain rfl : t = j := by omega
                  rw [hpj] at hq; injection hq with hq; subst hq; rw [hd]; exact hd0
              clear hpj hE2 hv8 hpb hd hd0
              (go_wp2_with fail; (with_reducible refine (KD.out).mono ?_); rintro e w6 ⟨rfl, hc6⟩)
              go_wp2
              go_roundw
              case rel => exact ⟨j + 1, by omega, by go_num, hc.no hc6, HZ2⟩
              case measure => simp [intOf]; omega
          · have hjn : j = np := by omega
            have hopp := HOPP.out (fun p hp => by
              obtain ⟨t, ht⟩ := List.getElem?_of_mem hp
              exact HZ.out t p (by have := (List.getElem?_eq_some_iff.1 ht).1; have := HNP.out; omega) ht)
            rw [HH.out] at hopp
            obtain ⟨q, hq⟩ : ∃ q, HashF ps (negV at_) = q := ⟨_, rfl⟩
            have KN := hid (fun W (h : Chg No wr W) => iHashOf _ _ _ _ _ _ _ _ _ _ ps (negV at_) W (HP.out.no (d5.no h)) (HN.out.no (hc.no h)))
            rw [hq] at KN hopp
            have hm9 : np = 1 ∨ np = 2 ∨ np = 3 ∨ np = 4 ∨ np = 5 ∨ np = 6 := by omega
            rw [HNP.out] at hopp
            have hjl2 : np ≤ j := by omega
            clear hq hjn hp6 HZ HOPP hjl hj
            rcases hm9 with h | h | h | h | h | h
            · subst h
              obtain rfl : q = 1 - h9 := by
                have e9 : (2 : Int) ^ 1 = 2 := by decide
                rw [e9] at hopp; omega
              clear hopp
              have e5 : ((1 : Int) - h9 == 1 - h9) = true := by simp
              have e6 : IntKind.i64.wrap (1 - h9) = 1 - h9 := by rw [IntKind.wrap_i64]; omega
              have b1 : (0 : Int) ≤ 1 - h9 ∨ 1 - h9 < 0 := by omega
              clear b1
              go_wp2_with fail
              (refine wp_region_nb (by kernel_rfl) (by kernel_rfl) ?_; (repeat (first | go_big_quiet_step ((go_at_call 28; exact nb_of (KN.out _ (NB.h _)))) | quiet_step ((go_at_call 28; exact nb_of (KN.out _ (NB.h _)))))); (with_reducible refine wpQuiet_nil ?_); intro wq hw1; have hq := nb_out hw1; clear hw1)
              go_wp2
              go_ret
              exact ⟨rfl, hc1.no (d5.no hq)⟩
            · subst h
              obtain rfl : q = 3 - h9 := by
                have e9 : (2 : Int) ^ 2 = 4 := by decide
                rw [e9] at hopp; omega
              clear hopp
              have e5 : ((3 : Int) - h9 == 3 - h9) = true := by simp
              have e6 : IntKind.i64.wrap (3 - h9) = 3 - h9 := by rw [IntKind.wrap_i64]; omega
              have b1 : (0 : Int) ≤ 3 - h9 ∨ 3 - h9 < 0 := by omega
              clear b1
              go_wp2_with fail
              (refine wp_region_nb (by kernel_rfl) (by kernel_rfl) ?_; (repeat (first | go_big_quiet_step ((go_at_call 28; exact nb_of (KN.out _ (NB.h _)))) | quiet_step ((go_at_call 28; exact nb_of (KN.out _ (NB.h _)))))); (with_reducible refine wpQuiet_nil ?_); intro wq hw1; have hq := nb_out hw1; clear hw1)
              go_wp2
              go_ret
              exact ⟨rfl, hc1.no (d5.no hq)⟩
            · subst h
              obtain rfl : q = 7 - h9 := by
                have e9 : (2 : Int) ^ 3 = 8 := by decide
                rw [e9] at hopp; omega
              clear hopp
              have e5 : ((7 : Int) - h9 == 7 - h9) = true := by simp
              have e6 : IntKind.i64.wrap (7 - h9) = 7 - h9 := by rw [IntKind.wrap_i64]; omega
              have b1 : (0 : Int) ≤ 7 - h9 ∨ 7 - h9 < 0 := by omega
              clear b1
              go_wp2_with fail
              (refine wp_region_nb (by kernel_rfl) (by kernel_rfl) ?_; (repeat (first | go_big_quiet_step ((go_at_call 28; exact nb_of (KN.out _ (NB.h _)))) | quiet_step ((go_at_call 28; exact nb_of (KN.out _ (NB.h _)))))); (with_reducible refine wpQuiet_nil ?_); intro wq hw1; have hq := nb_out hw1; clear hw1)
              go_wp2
              go_ret
              exact ⟨rfl, hc1.no (d5.no hq)⟩
            · subst h
              obtain rfl : q = 15 - h9 := by
                have e9 : (2 : Int) ^ 4 = 16 := by decide
                rw [e9] at hopp; omega
              clear hopp
              have e5 : ((15 : Int) - h9 == 15 - h9) = true := by simp
              have e6 : IntKind.i64.wrap (15 - h9) = 15 - h9 := by rw [IntKind.wrap_i64]; omega
              have b1 : (0 : Int) ≤ 15 - h9 ∨ 15 - h9 < 0 := by omega
              clear b1
              go_wp2_with fail
              (refine wp_region_nb (by kernel_rfl) (by kernel_rfl) ?_; (repeat (first | go_big_quiet_step ((go_at_call 28; exact nb_of (KN.out _ (NB.h _)))) | quiet_step ((go_at_call 28; exact nb_of (KN.out _ (NB.h _)))))); (with_reducible refine wpQuiet_nil ?_); intro wq hw1; have hq := nb_out hw1; clear hw1)
              go_wp2
              go_ret
              exact ⟨rfl, hc1.no (d5.no hq)⟩
            · subst h
              obtain rfl : q = 31 - h9 := by
                have e9 : (2 : Int) ^ 5 = 32 := by decide
                rw [e9] at hopp; omega
              clear hopp
              have e5 : ((31 : Int) - h9 == 31 - h9) = true := by simp
              have e6 : IntKind.i64.wrap (31 - h9) = 31 - h9 := by rw [IntKind.wrap_i64]; omega
              have b1 : (0 : Int) ≤ 31 - h9 ∨ 31 - h9 < 0 := by omega
              clear b1
              go_wp2_with fail
              (refine wp_region_nb (by kernel_rfl) (by kernel_rfl) ?_; (repeat (first | go_big_quiet_step ((go_at_call 28; exact nb_of (KN.out _ (NB.h _)))) | quiet_step ((go_at_call 28; exact nb_of (KN.out _ (NB.h _)))))); (with_reducible refine wpQuiet_nil ?_); intro wq hw1; have hq := nb_out hw1; clear hw1)
              go_wp2
              go_ret
              exact ⟨rfl, hc1.no (d5.no hq)⟩
            · subst h
              obtain rfl : q = 63 - h9 := by
                have e9 : (2 : Int) ^ 6 = 64 := by decide
                rw [e9] at hopp; omega
              clear hopp
              have e5 : ((63 : Int) - h9 == 63 - h9) = true := by simp
              have e6 : IntKind.i64.wrap (63 - h9) = 63 - h9 := by rw [IntKind.wrap_i64]; omega
              have b1 : (0 : Int) ≤ 63 - h9 ∨ 63 - h9 < 0 := by omega
              clear b1
              go_wp2_with fail
              (refine wp_region_nb (by kernel_rfl) (by kernel_rfl) ?_; (repeat (first | go_big_quiet_step ((go_at_call 28; exact nb_of (KN.out _ (NB.h _)))) | quiet_step ((go_at_call 28; exact nb_of (KN.out _ (NB.h _)))))); (with_reducible refine wpQuiet_nil ?_); intro wq hw1; have hq := nb_out hw1; clear hw1)
              go_wp2
              go_ret
              exact ⟨rfl, hc1.no (d5.no hq)⟩

set_option maxRecDepth 100000 in
theorem lifted (os : Os) (started : os.Started) (H : Type) (enc : TypeId × Value → H) :
    ReturnsInHanded {} Try.checked os 7 .any (Rows.fnHashOfOppositeSpec.pre6 enc Try.prog Try.f7 Rows.fnHashOfOppositeRow.domain false) (Rows.fnHashOfOppositeSpec.post enc Try.prog Try.f7 false true false false) := by
  refine returnsInHanded_of_change (C := Try.checked) own started (by kernel_rfl) Try.func7
    (ChangeSpec.witness6 (enc := enc) (C := Try.checked) false ⟨#[], #[.slice none 0 0], []⟩ 8 (by kernel_rfl) (by kernel_rfl) (by kernel_rfl) (by kernel_rfl)) ?_
  intro W base args ds gs before hval0 hW hcnd _
  have hval : ∀ (j : Nat) t v, Try.f7.params[j]? = some t → args[j]? = some v → Value.okWide Try.prog W .any base t v := hval0
  have hW' := hW
  obtain ⟨p, q, hA0, hV, rfl, hfz, hnd⟩ := hW
  have hA : DataW.TrodAll enc Try.prog W 0 (fun _ => true) true Try.f7.params.toList args.toList ds p := hA0
  rw [Try.params7] at hA hval
  obtain ⟨v0, vs0, d0, ds0, p0, q0, hargs, rfl, rfl, h0, r0⟩ := trodAll_cons hA
  obtain ⟨rfl, rfl, rfl⟩ := trodAll_nil r0
  obtain rfl : args = #[v0] := by cases args; simp_all
  obtain ⟨rfl, rfl⟩ := trodVars_none hV
  obtain ⟨a0, len0, cap0, rfl⟩ := okWide_slice Try.underlying34 (hval 0 34 v0 rfl rfl)
  have k0 := h0
  have lt0 : ∀ x ∈ p0, x.block < W.heap.size := by obtain ⟨m, hm⟩ := k0; exact DataW.trod_lt m _ _ _ hm
  have w0 : Code W W.heap.size a0 len0 cap0 := by
    obtain ⟨fuel, hf⟩ := h0
    rcases open_ints Try.underlying34 Try.underlying5 (by kernel_rfl) hf with ⟨hcs, _⟩ | ⟨x, l, c, zs, hcs, _, hl, hm, hz, _, hcell, hwz⟩
    · simp [Value.cells] at hcs
      obtain ⟨rfl, rfl, rfl⟩ := hcs
      exact code_nil _
    · simp [Value.cells] at hcs
      obtain ⟨rfl, rfl, rfl⟩ := hcs
      exact code_row hl hm (by simpa using hz) hcell hwz
  clear hA0 hval0
  refine (walk a0 len0 cap0 W w0).mono fun e W' ⟨he, bel0⟩ => ?_
  have bel := bel0.below
  subst he
  exact ⟨_, rfl, _, _, _, [], _, [], hW', trodAll_mk1 (shut_bool Try.underlying4 _), (trodAll_cons_mk (Below.trod laidOut (by kernel_rfl) (of_decide_eq_true (by kernel_rfl)) k0 bel lt0) trodAll_mk0), rfl, bel.frame _, fun h => by cases h⟩

theorem over : Rows.fnHashOfOppositeRow.holds Try.pinned (OpenSpec.ofChange Rows.fnHashOfOppositeSpec) :=
  OpenClaim.holds_of_wide 7 Try.f7 rfl rfl rfl rfl rfl rfl rfl ⟨rfl, rfl, rfl, rfl, rfl⟩ rfl rfl rfl rfl rfl (by kernel_rfl) Try.func7 (by kernel_rfl)
    (of_decide_eq_true (by kernel_rfl)) (by unfold Func.isWrapper; first | (rw [if_pos (by decide +kernel)]; kernel_rfl) | (rw [if_neg (by decide +kernel)]; exact ⟨rfl, rfl⟩))
    (fun os started H enc _ => lifted os started H enc)

theorem proved : Rows.FnHashOfOppositeSaid := over
#print axioms proved

end lawHashOfOpposite
end Go.Proofs.Ytchblkeddeelhaa
