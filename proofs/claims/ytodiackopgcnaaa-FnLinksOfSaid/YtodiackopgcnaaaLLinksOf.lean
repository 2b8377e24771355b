/- FnLinksOf: neighbours are the nearest others. No condition. -/
import Derived.Test.YtodiackopgcnaaaLift
import Derived.Test.YtodiackopgcnaaaLinksJ
import Derived.Test.YtodiackopgcnaaaIndex
import Derived.Test.YtodiackopgcnaaaKeys
import Derived.Deep.RegionHeld3
import Derived.Deep.RegionWith
import Derived.Deep.DeepCutAuto
namespace Go.Proofs.Ytodiackopgcnaaa
open Go.ChangeShapes Go.WideShapes Go.ChangeAt Go.RowKit Go.Shelf
set_option linter.unusedVariables false
set_option linter.unusedSimpArgs false
namespace lawLinksOf
set_option maxRecDepth 100000 in
set_option maxHeartbeats 8000000 in
theorem walk (A : Option Addr) (n c : Nat) (w : World) (hC : Code w w.heap.size A n c) : Calls Try.prog 9 #[.slice A n c] w fun e w' => e = .returned (.bool true) ∧ Chg No w w' := by
  have hn1 := hC.1
  have hn2 := hC.2.1
  by_cases hbig : 1048576 < n
  · skip
    go_enter Try.func9, Try.ntmps9
    go_wp2
    go_ret
    exact ⟨rfl, Chg.refl _ _⟩
  · skip
    have hbig' : n ≤ 1048576 := by omega
    go_enter Try.func9, Try.ntmps9
    (go_wp2_with fail; (with_reducible refine (drawLinksOf A n c _ hC).mono ?_); rintro e w1 ⟨v1, xs, kind, many, rfl, ho1, hl1, hkd, hmd, hc1⟩)
    obtain ⟨A1, c1, rfl, hr1⟩ := OItems.read ho1
    have hm1 := hr1.cap; have hk1 := hr1.le
    have HX := hid hr1
    have hkd0 := hkd.1; have hkd5 := hkd.2; have hmd0 := hmd.1; have hmd6 := hmd.2
    have s1 := hc1.size
    clear ho1 hr1 hkd hmd
    obtain ⟨L, hL⟩ : ∃ L, LinksF xs kind many = L := ⟨_, rfl⟩
    have KS := hid (fun W (h : Chg No w1 W) => sLinksOf _ _ _ _ _ xs kind many W (HX.out.no h))
    have KI := hid (fun W (h : Chg No w1 W) => iLinksOf _ _ _ _ _ xs kind many W (HX.out.no h))
    rw [hL] at KS KI
    have HL := hid hL
    clear hL
    (go_wp2_with fail; (with_reducible refine (KI.out _ (Chg.refl _ _)).mono ?_); rintro e w2 ⟨v2, rfl, ho2, hc2⟩)
    obtain ⟨A2, c2, rfl, hr2⟩ := ORows.read ho2
    have hp2 := hr2.cap; have hl2 := hr2.le
    have R2 := hid hr2
    have s2 := hc2.size
    clear ho2 hr2
    (go_wp2_with fail; (with_reducible refine (KS.out _ hc2).mono ?_); rintro e w3 ⟨v3, rfl, ho3, hc3⟩)
    obtain ⟨A3, c3, rfl, hr3⟩ := ORows.read ho3
    have hp3 := hr3.cap; have hl3 := hr3.le
    have R3 := hid hr3
    have s3 := hc3.size
    clear ho3 hr3
    have q3 : Chg No w1 w3 := hc2.no hc3
    (go_wp2_with fail; (with_reducible refine (equalLists _ _ _ _ _ _ _ _ _ L _ (R2.out.no hc3) R3.out).mono ?_); rintro e w4 ⟨rfl, hc4⟩)
    have q4 : Chg No w1 w4 := q3.no hc4
    have r4 : Chg No w2 w4 := hc3.no hc4
    have s4 := hc4.size
    clear R3
    by_cases hL0 : L.length = 0
    · have e0 : ((L.length : Int) == 0) = true := by simp; exact List.eq_nil_of_length_eq_zero hL0
      clear hL0
      (go_wp2_with fail; (with_reducible refine (KS.out _ q4).mono ?_); rintro e w8 ⟨v8, rfl, ho8, hc8⟩)
      obtain ⟨A8, c8, rfl, hr8⟩ := ORows.read ho8
      have hp8 := hr8.cap; have hl8 := hr8.le
      have R8 := hid hr8
      have s8 := hc8.size
      clear ho8 hr8
      (go_wp2_with fail; (with_reducible refine (equalLists _ _ _ _ _ _ _ _ _ L _ (R2.out.no (r4.no hc8)) R8.out).mono ?_); rintro e w9 ⟨rfl, hc9⟩)
      go_wp2
      go_ret
      exact ⟨rfl, hc1.no ((q4.no hc8).no hc9)⟩
    · have e0 : ((L.length : Int) == 0) = false := by simp; intro h; subst h; simp at hL0
      have hLpos : 0 < L.length := by omega
      clear hL0
      have hlk : linkB xs kind many = true := by
        cases h : linkB xs kind many with
        | true => rfl
        | false => have h9 := HL.out; rw [LinksF_no h] at h9; rw [← h9] at hLpos; simp at hLpos
      have hok := linkB_ok hlk
      have hLL : linksL xs kind many = L := by rw [← LinksF_ok hlk]; exact HL.out
      have hLlen : L.length = xs.length := by rw [← hLL, linksL_len]
      have hx16 : xs.length ≤ 16 := storeB_len hok.store
      have HOK := hid hok
      have hL16 : L.length ≤ 16 := by omega
      have e9 : ((L.length : Int) == (xs.length : Int)) = true := by simp; omega
      have HLL := hid hLL
      have HLN := hid hLlen
      have hx1 : xs.length ≤ L.length := by omega
      clear hlk hok hLL hLlen KI KS
      go_wp2
      go_loopw [7, 8, 9] (fun i s8 s9 wr => ∃ j : Nat, j ≤ xs.length ∧ i = .int .i64 j ∧ Chg No w4 wr) (fun i _ _ _ => xs.length - (intOf i).toNat)
      case atStart => exact ⟨0, Nat.zero_le _, rfl, Chg.refl _ _⟩
      case round =>
        obtain ⟨j, hj, rfl, hc⟩ := hrel
        obtain ⟨wo, rfl⟩ : ∃ W : World, W = wr := ⟨_, rfl⟩
        by_cases hlt : j < xs.length
        · have hjL : j < L.length := by omega
          obtain ⟨b2, o2, z, rfl, _, _, hzk, hE⟩ := (HX.out.no (q4.no hc)).at_ hlt
          obtain ⟨b, o, r, Ar, nr, cr, rfl, _, _, hr, f1', hv1⟩ := (R2.out.no (r4.no hc)).at_ hjL
          obtain ⟨zk, zv, zt⟩ := z
          obtain ⟨hE1, ⟨A9, n9, c9, hE2, hv⟩, hE3⟩ := hE
          have g1 : wo.cell? ⟨b2, o2 + j * 3, none⟩ = some (.int .i64 zk) := hE1
          have g2 : wo.cell? ⟨b2, o2 + j * 3 + 1, none⟩ = some (.slice A9 n9 c9) := hE2
          have hky := keyAt_store HOK.out.store hzk
          simp only [] at hky
          have KD := hid (fun W (h : Chg No wo W) => iDropItem _ _ _ _ _ xs zk W (HX.out.no ((q4.no hc).no h)) HOK.out.store (by rw [hky]; omega))
          rw [cut_filter HOK.out.store hzk] at KD
          have hzv : vecB zv = true := storeB_vec HOK.out.store (List.mem_of_getElem? hzk)
          have hcan : canB (cutL xs j) kind zv many = true := Can.can ⟨storeB_sub HOK.out.store (cutL_sub xs j), HOK.out.kind1, HOK.out.kind4, hzv⟩ HOK.out.many1 (by have := HOK.out.many5; omega)
          have hrr : (nearestF (cutL xs j) kind zv many).map Prod.fst = r := by
            have h9 := linksL_at (kind := kind) (many := many) hlt
            rw [HLL.out, hr] at h9
            injection h9 with h9
            rw [h9, linkAt_eq hzk]
          obtain rfl : nr = r.length := hv1.len.symm
          have hlr := hv1.le; have hpr := hv1.cap
          have hHl : (nearestF (cutL xs j) kind zv many).length ≤ 1000 := by rw [nearestF_length, cutL_len hlt]; omega
          have HF1 := hid f1'; have HV1 := hid hv1; have HV := hid hv
          obtain ⟨M, hM⟩ : ∃ M, cutL xs j = M := ⟨_, rfl⟩
          rw [hM] at KD hcan hrr hHl
          have hNN := NearestF_ok hcan
          obtain ⟨H, hH⟩ : ∃ H, nearestF M kind zv many = H := ⟨_, rfl⟩
          rw [hH] at hNN hrr hHl
          have HNN := hid hNN; have HRR := hid hrr
          have hMl : M.length ≤ 16 := by rw [← hM, cutL_len hlt]; omega
          have d1 : decide (L.length ≤ j) = false := decide_eq_false (by omega)
          have d2 : decide ((L.length : Int) ≤ (j : Int)) = false := decide_eq_false (by omega)
          clear hzk hE1 hE2 hE3 hv hr f1' hv1 hky hzv hcan hrr hM hNN hH
          (go_wp2_with fail; (with_reducible refine (KD.out _ (Chg.refl _ _)).mono ?_); rintro e w5 ⟨v5, rfl, ho5, hc5⟩)
          obtain ⟨A5, c5, rfl, hr5⟩ := OItems.read ho5
          have hp5 := hr5.cap; have hl5 := hr5.le
          have R5 := hid hr5
          have g3 := cell_keep hc5 g1 (fun e => e)
          have g4 := cell_keep hc5 g2 (fun e => e)
          have g5 := cell_keep hc5 HF1.out (fun e => e)
          have KN := hid (fun W (h : Chg No w5 W) => iNEAREST _ _ A5 M.length c5 M _ _ A9 n9 c9 zv kind many W (hr5.no h) (HV.out.no (hc5.no h)))
          rw [HNN.out] at KN
          clear ho5 hr5 g1 g2
          have HS5 := hid (show Chg No wo w5 from hc5)
          go_wp2_with fail
          go_cut [82] (fun s82 wx => s82 = .bool false ∧ Chg No w5 wx)
          case first =>
            go_region_held3 (fun w' => w'.cell? ⟨b, o + j, none⟩ = some (.slice Ar r.length cr) ∧ w'.cell? ⟨b2, o2 + j * 3 + 1, none⟩ = some (.slice A9 n9 c9))
                            (first | go_keep | (go_split_ands; refine ⟨?_, ?_⟩ <;> exact cell_keep (by assumption) (by assumption) (fun e => e)))
                      (first | (go_at_call 32; (with_reducible refine (KN.out _ (by (repeat (first | (with_reducible exact Chg.refl _ _) | ((with_reducible refine Chg.setNew ?_ _ ?_); rotate_left; first | (dsimp only; omega) | (simp; done) | (simp; omega)) | (with_reducible refine Chg.alloc ?_ _) | (with_reducible refine Chg.drew ?_) | (with_reducible refine Chg.drewN ?_ _) | (with_reducible refine Chg.no ?_ (by assumption)) | (with_reducible refine Chg.and_ ?_ (by assumption)) | ((with_reducible refine Chg.at_ ?_ (by assumption) ?_); rotate_left; (try simp only [World.size_alloc]); omega))))).mono ?_); rintro e w6 ⟨v6, rfl, ho6, hc6⟩; obtain ⟨A6, c6, rfl, hr6⟩ := OHits.read ho6; have hp6 := hr6.cap; have hl6 := hr6.le; have KK := hid (fun W (h : Chg No w6 W) => keysL _ _ A6 H.length c6 H W (hr6.no h) (by omega)); rw [HRR.out] at KK) | (go_at_call 31; (with_reducible refine (KK.out _ (by (repeat (first | (with_reducible exact Chg.refl _ _) | ((with_reducible refine Chg.setNew ?_ _ ?_); rotate_left; first | (dsimp only; omega) | (simp; done) | (simp; omega)) | (with_reducible refine Chg.alloc ?_ _) | (with_reducible refine Chg.drew ?_) | (with_reducible refine Chg.drewN ?_ _) | (with_reducible refine Chg.no ?_ (by assumption)) | (with_reducible refine Chg.and_ ?_ (by assumption)) | ((with_reducible refine Chg.at_ ?_ (by assumption) ?_); rotate_left; (try simp only [World.size_alloc]); omega))))).mono ?_); rintro e w7 ⟨v7, rfl, ho7, hc7⟩; obtain ⟨A7, c7, rfl, hr7⟩ := OInts.read ho7; have hp7 := hr7.cap; have hl7 := hr7.le; have KE := hid (fun W (h0 : Chg No w5 W) (h : Chg No w7 W) => equalInts _ _ _ _ Ar A7 r.length cr c7 r W (HV1.out.no (HS5.out.no h0)) (hr7.no h))) | (go_at_call 13; (with_reducible refine (KE.out _ (by (repeat (first | (with_reducible exact Chg.refl _ _) | ((with_reducible refine Chg.setNew ?_ _ ?_); rotate_left; first | (dsimp only; omega) | (simp; done) | (simp; omega)) | (with_reducible refine Chg.alloc ?_ _) | (with_reducible refine Chg.drew ?_) | (with_reducible refine Chg.drewN ?_ _) | (with_reducible refine Chg.no ?_ (by assumption)) | (with_reducible refine Chg.and_ ?_ (by assumption)) | ((with_reducible refine Chg.at_ ?_ (by assumption) ?_); rotate_left; (try simp only [World.size_alloc]); omega)))) (by (repeat (first | (with_reducible exact Chg.refl _ _) | ((with_reducible refine Chg.setNew ?_ _ ?_); rotate_left; first | (dsimp only; omega) | (simp; done) | (simp; omega)) | (with_reducible refine Chg.alloc ?_ _) | (with_reducible refine Chg.drew ?_) | (with_reducible refine Chg.drewN ?_ _) | (with_reducible refine Chg.no ?_ (by assumption)) | (with_reducible refine Chg.and_ ?_ (by assumption)) | ((with_reducible refine Chg.at_ ?_ (by assumption) ?_); rotate_left; (try simp only [World.size_alloc]); omega))))).mono ?_); rintro e w8 ⟨rfl, hc8⟩))
            all_goals
              go_wp2_with fail
              go_meet
              exact ⟨rfl, by (repeat (first | (with_reducible exact Chg.refl _ _) | ((with_reducible refine Chg.setNew ?_ _ ?_); rotate_left; first | (dsimp only; omega) | (simp; done) | (simp; omega)) | (with_reducible refine Chg.alloc ?_ _) | (with_reducible refine Chg.drew ?_) | (with_reducible refine Chg.drewN ?_ _) | (with_reducible refine Chg.no ?_ (by assumption)) | (with_reducible refine Chg.and_ ?_ (by assumption)) | ((with_reducible refine Chg.at_ ?_ (by assumption) ?_); rotate_left; (try simp only [World.size_alloc]); omega)))⟩
          case rest =>
            obtain ⟨rfl, hcc⟩ := hcut
            have q9 : Chg No w4 wc := hc.no (hc5.no hcc)
            go_wp2
            go_roundw
            case rel => exact ⟨j + 1, by omega, by go_num, q9⟩
            case measure => simp [intOf]; omega
        · go_wp2
          go_ret
          exact ⟨rfl, hc1.no (q4.no hc)⟩

set_option maxRecDepth 100000 in
theorem lifted (os : Os) (started : os.Started) (H : Type) (enc : TypeId × Value → H) :
    ReturnsInHanded {} Try.checked os 9 .any (Rows.fnLinksOfSpec.pre6 enc Try.prog Try.f9 Rows.fnLinksOfRow.domain false) (Rows.fnLinksOfSpec.post enc Try.prog Try.f9 false true false false) := by
  refine returnsInHanded_of_change (C := Try.checked) own started (by kernel_rfl) Try.func9
    (ChangeSpec.witness6 (enc := enc) (C := Try.checked) false ⟨#[], #[.slice none 0 0], []⟩ 8 (by kernel_rfl) (by kernel_rfl) (by kernel_rfl) (by kernel_rfl)) ?_
  intro W base args ds gs before hval0 hW hcnd _
  have hval : ∀ (j : Nat) t v, Try.f9.params[j]? = some t → args[j]? = some v → Value.okWide Try.prog W .any base t v := hval0
  have hW' := hW
  obtain ⟨p, q, hA0, hV, rfl, hfz, hnd⟩ := hW
  have hA : DataW.TrodAll enc Try.prog W 0 (fun _ => true) true Try.f9.params.toList args.toList ds p := hA0
  rw [Try.params9] at hA hval
  obtain ⟨v0, vs0, d0, ds0, p0, q0, hargs, rfl, rfl, h0, r0⟩ := trodAll_cons hA
  obtain ⟨rfl, rfl, rfl⟩ := trodAll_nil r0
  obtain rfl : args = #[v0] := by cases args; simp_all
  obtain ⟨rfl, rfl⟩ := trodVars_none hV
  obtain ⟨a0, len0, cap0, rfl⟩ := okWide_slice Try.underlying22 (hval 0 22 v0 rfl rfl)
  have k0 := h0
  have lt0 : ∀ x ∈ p0, x.block < W.heap.size := by obtain ⟨m, hm⟩ := k0; exact DataW.trod_lt m _ _ _ hm
  have w0 : Code W W.heap.size a0 len0 cap0 := by
    obtain ⟨fuel, hf⟩ := h0
    rcases open_ints Try.underlying22 Try.underlying5 (by kernel_rfl) hf with ⟨hcs, _⟩ | ⟨x, l, c, zs, hcs, _, hl, hm, hz, _, hcell, hwz⟩
    · simp [Value.cells] at hcs
      obtain ⟨rfl, rfl, rfl⟩ := hcs
      exact code_nil _
    · simp [Value.cells] at hcs
      obtain ⟨rfl, rfl, rfl⟩ := hcs
      exact code_row hl hm (by simpa using hz) hcell hwz
  clear hA0 hval0
  refine (walk a0 len0 cap0 W w0).mono fun e W' ⟨he, bel0⟩ => ?_
  have bel := bel0.below
  subst he
  exact ⟨_, rfl, _, _, _, [], _, [], hW', trodAll_mk1 (shut_bool Try.underlying4 _), (trodAll_cons_mk (Below.trod laidOut (by kernel_rfl) (of_decide_eq_true (by kernel_rfl)) k0 bel lt0) trodAll_mk0), rfl, bel.frame _, fun h => by cases h⟩

theorem over : Rows.fnLinksOfRow.holds Try.pinned (OpenSpec.ofChange Rows.fnLinksOfSpec) :=
  OpenClaim.holds_of_wide 9 Try.f9 rfl rfl rfl rfl rfl rfl rfl ⟨rfl, rfl, rfl, rfl, rfl⟩ rfl rfl rfl rfl rfl (by kernel_rfl) Try.func9 (by kernel_rfl)
    (of_decide_eq_true (by kernel_rfl)) (by unfold Func.isWrapper; first | (rw [if_pos (by decide +kernel)]; kernel_rfl) | (rw [if_neg (by decide +kernel)]; exact ⟨rfl, rfl⟩))
    (fun os started H enc _ => lifted os started H enc)

theorem proved : Rows.FnLinksOfSaid := over
#print axioms proved

end lawLinksOf
end Go.Proofs.Ytodiackopgcnaaa
