/- Hashes: bits apart, near hashes, the program's and the reference's. -/
import Derived.Test.YtifdcdpdihfbjaaHash
import Derived.Test.YtifdcdpdihfbjaaStoreF
namespace Go.Proofs.Ytifdcdpdihfbjaa
open Go.RowKit Go.Shelf
set_option linter.unusedVariables false
set_option linter.unusedSimpArgs false
set_option maxRecDepth 100000 in
theorem onesCount64 (n : Nat) (hn : n < 64) (w : World) : Calls Try.prog 124 #[.int .u64 (n : Int)] w fun e w' => e = .returned (.int .i64 (popF (n : Int))) ∧ w = w' := by
  have all : ∀ n, n < 64 → Calls Try.prog 124 #[.int .u64 ((n : Nat) : Int)] w fun e w' => e = .returned (.int .i64 (popF (n : Int))) ∧ w = w' := by
    intro n hn
    generalize hr : popF (n : Int) = r
    go_enter Try.func124, Try.ntmps124
    go_wp2
    go_ret
    subst hr
    refine ⟨ret_int ?_, rfl⟩
    clear w
    revert n
    decide +kernel
  exact all n hn
theorem onesCount (n : Nat) (hn : n < 64) (w : World) : Calls Try.prog 106 #[.int .u64 (n : Int)] w fun e w' => e = .returned (.int .i64 (popF (n : Int))) ∧ w = w' := by
  have K := hid (fun W => onesCount64 n hn W)
  generalize popF (n : Int) = r at *
  go_enter Try.func106, Try.ntmps106
  (go_wp2_with fail; (with_reducible refine (K.out _).mono ?_); rintro e w1 ⟨rfl, rfl⟩)
  go_wp2
  go_ret
  exact ⟨rfl, rfl⟩
set_option maxHeartbeats 1000000 in
theorem sBitsApart (a b : Int) (w : World) (ha : 0 ≤ a ∧ a < 64) (hb : 0 ≤ b ∧ b < 64) : Calls Try.prog 102 #[.int .i64 a, .int .i64 b] w fun e w' => e = .returned (.int .i64 (apartF a b)) ∧ w = w' := by
  have hx := xor_64 ha hb
  have HF := hid (show apartF a b = popF (bits .xor .i64 a b) from rfl)
  obtain ⟨z, hz⟩ : ∃ z, bits .xor .i64 a b = z := ⟨_, rfl⟩
  rw [hz] at hx HF
  obtain ⟨n, rfl⟩ := Int.eq_ofNat_of_zero_le hx.1
  have hn : n < 64 := by omega
  generalize hr : apartF a b = r at HF
  have HR := hid HF.out
  clear ha hb hx HF hr
  go_enter Try.func102, Try.ntmps102
  go_wp2
  go_loop [5, 6] (fun s i => ∃ (x t : Nat), x < 64 ∧ t + x ≤ 64 ∧ i = .int .i64 x ∧ s = .int .i64 t ∧ Hid ((t : Int) + popF x = r)) (fun _ i => (intOf i).toNat)
  case atStart => exact ⟨n, 0, hn, by omega, rfl, rfl, by show _ = _; rw [HR.out]; simp⟩
  case round =>
    obtain ⟨x, t, hx, ht, rfl, rfl, HP⟩ := hrel
    by_cases h0 : 0 < x
    · have hst := popN_step (n := x) (by omega) hx
      have HP2 : Hid (((t + x % 2 : Nat) : Int) + popF ((x / 2 : Nat) : Int) = r) := by
        show _ = _
        rw [← HP.out]
        unfold popF
        rw [Int.toNat_natCast, Int.toNat_natCast, hst]
        omega
      have hm2 : x % 2 ≤ 1 := by omega
      have ht2 : t + x % 2 + x / 2 ≤ 64 := by omega
      have ht3 : t ≤ 64 := by omega
      clear hst
      go_wp2
      go_round
      case rel => exact ⟨x / 2, t + x % 2, by omega, ht2, by first | rfl | (congr 1), by first | rfl | (congr 1), HP2⟩
      case measure => simp only [intOf]; omega
    · have hx0 : x = 0 := by omega
      subst hx0
      have HP2 : Hid ((t : Int) = r) := by
        show _ = _
        have := HP.out
        have e : popF ((0 : Nat) : Int) = 0 := rfl
        rw [e] at this
        omega
      go_wp2
      go_ret
      exact ⟨ret_int HP2.out, rfl⟩
/-- items in a slice of the call's own, their vectors where those of another slice lie-/
def RetQs (xs : List It) (w : World) (l0 h0 : Nat) (e : Ending) (w' : World) : Prop := ∃ (v : Value) (qs : List ItP), e = .returned v ∧ qs.map (·.it) = xs ∧ OSl 36 3 cItem w' w.heap.size v qs ∧ (∀ p ∈ qs, RInts w l0 h0 p.A p.n p.c p.it.vec) ∧ Chg No w w'
theorem RetQs.ps {xs : List It} {w : World} {l0 h0 : Nat} {e : Ending} {w' : World} (h : RetQs xs w l0 h0 e w') : ∃ A c, e = .returned (.slice A xs.length c) ∧ RItems w' 0 (h0 + w'.heap.size) A xs.length c xs ∧ Chg No w w' := by
  obtain ⟨v, qs, he, rfl, ho, hi, hc⟩ := h
  obtain ⟨A, c, rfl, hr⟩ := read_ps ho (fun p hp => (hi p hp).no hc)
  exact ⟨A, c, he, hr, hc⟩
theorem Chg.pushG {S : Nat → Prop} {a w w' : World} {v : Value} (h : Chg S a w) (hg : w.grownBy w' v.ownBlock) (hv : ∀ k, v.ownBlock = some k → S k ∨ a.heap.size ≤ k) : Chg S a w' :=
  h.grown hg (fun k hk hlt => (hv k hk).resolve_right (by omega))
set_option maxHeartbeats 4000000 in
theorem iBucketL (lp hp : Nat) (AP : Option Addr) (np cp : Nat) (ps : List (List Int)) (l0 h0 : Nat) (A : Option Addr) (n c : Nat) (xs : List It) (l1 h1 : Nat) (A' : Option Addr) (c' : Nat) (at_ : List Int) (bt : Int) (w : World)
    (hps : RRows w lp hp AP np cp ps) (hx : RItems w l0 h0 A n c xs) (hy : RInts w l1 h1 A' 4 c' at_) (hn : n ≤ 1048576) (hpv : ∀ p ∈ ps, vecB p = true) (hp6 : np ≤ 6) (hxv : ∀ x ∈ xs, vecB x.vec = true) (sa : Small at_) :
    Calls Try.prog 73 #[.slice AP np cp, .slice A n c, .slice A' 4 c', .int .i64 bt] w (RetQs (bucketL ps xs at_ bt) w l0 h0) := by
  have hnc := hx.le; have hcm := hx.cap
  have HX := hid hx; have HY := hid hy; have HP := hid hps
  have HPV := hid hpv; have HXV := hid hxv; have SA := hid sa
  have hlp : ps.length = np := hps.len
  have hbat := hashF_64 (ps := ps) (by omega) at_
  have hb1 := hbat.1; have hb2 : hashF ps at_ < 64 := hbat.2
  have HO0 := hid (show OSl 36 3 cItem (w.alloc (.cells #[] 36)) w.heap.size (.slice (some ⟨w.heap.size, 0, none⟩) 0 0) [] from
    OSl.lit (enc := cItem) (n := 0) [] [] (fun _ => rfl) rfl rfl (by omega) (by omega) (heap_top (by simp)))
  have HLP := hid hlp
  clear hx hy hps hpv hxv sa hbat hlp
  go_enter Try.func73, Try.ntmps73
  go_wp2
  go_loopw [9, 15] (fun v i wr => ∃ k : Nat, k ≤ n ∧ i = .int .i64 k ∧ Chg No w wr ∧ ∃ qs : List ItP, Hid (qs.map (·.it) = bucketL ps (xs.take k) at_ bt) ∧ Hid (OSl 36 3 cItem wr w.heap.size v qs) ∧ Hid (∀ p ∈ qs, RInts w l0 h0 p.A p.n p.c p.it.vec)) (fun _ i _ => n - (intOf i).toNat)
  case atStart => exact ⟨0, Nat.zero_le _, rfl, (Chg.refl _ _).alloc _, [], rfl, HO0, (fun p hp => by cases hp)⟩
  case round =>
    clear HO0
    obtain ⟨k, hk, rfl, hc, qs, HE, HO, HI⟩ := hrel
    obtain ⟨wo, rfl⟩ : ∃ W : World, W = wr := ⟨_, rfl⟩
    by_cases hlt : k < n
    · obtain ⟨b, o, z, hA0, _, _, hzk, hE⟩ := (HX.out.no hc).at_ hlt
      obtain ⟨_, _, _, hA1, _, _, hzk1, hEo⟩ := HX.out.at_ hlt
      rw [hA0] at hA1
      injection hA1 with hA1
      injection hA1 with e1 e2 _
      subst e1 e2
      rw [hzk] at hzk1
      injection hzk1 with hzk1
      subst hzk1
      subst hA0
      obtain ⟨zk, zv, zt⟩ := z
      obtain ⟨hE1, ⟨A1, n1, c1, hE2, hv⟩, hE3⟩ := hE
      obtain ⟨_, ⟨A2, n2, c2, hE2o, hvo⟩, _⟩ := hEo
      have h9 := cell_keep hc hE2o (fun e => e)
      rw [hE2] at h9
      injection h9 with h9
      injection h9 with e1 e2 e3
      subst e1 e2 e3
      have hE1 : wo.cell? ⟨b, o + k * 3, none⟩ = some (.int .i64 zk) := hE1
      have hE3 : wo.cell? ⟨b, o + k * 3 + 2, none⟩ = some (.int .i64 zt) := hE3
      have HV := hid hvo
      have Hzk := hid hzk
      have hzb := HXV.out _ (List.mem_of_getElem? hzk)
      simp only [] at hzb
      have hn4 : n1 = 4 := by have h9 : zv.length = n1 := hvo.len; have := vecB_len hzb; omega
      subst hn4
      have HPL := hid (show qs.length ≤ 1048576 from by
        have h9 := congrArg List.length HE.out
        rw [List.length_map] at h9
        have h8 := List.length_filter_le (nearHB ps at_ bt) (xs.take k)
        rw [List.length_take] at h8
        unfold bucketL at h9
        omega)
      have hbz := hashF_64 (ps := ps) (by rw [HLP.out]; omega) zv
      have hz1 := hbz.1; have hz2 : hashF ps zv < 64 := hbz.2
      have hxr := xor_64 hbz ⟨hb1, hb2⟩
      have HAP := hid (show nearHB ps at_ bt ⟨zk, zv, zt⟩ = decide (popF (bits .xor .i64 (hashF ps zv) (hashF ps at_)) ≤ bt) from rfl)
      have KZ := hid (fun W (h : Chg No w W) => iHash lp hp l0 h0 AP A1 np cp c1 ps zv W (HP.out.no h) (HV.out.no h) HPV.out hp6 (vecB_small hzb))
      have KA := hid (fun W (h : Chg No w W) => iHash lp hp l1 h1 AP A' np cp c' ps at_ W (HP.out.no h) (HY.out.no h) HPV.out hp6 SA.out)
      generalize hashF ps zv = u at *
      generalize hashF ps at_ = v at *
      obtain ⟨x, hx⟩ : ∃ x, bits .xor .i64 u v = x := ⟨_, rfl⟩
      rw [hx] at hxr HAP
      obtain ⟨m, rfl⟩ := Int.eq_ofNat_of_zero_le hxr.1
      have hm : m < 64 := by omega
      have KO := hid (fun W => onesCount m hm W)
      generalize popF (m : Int) = r at *
      clear hzk hv hvo hE2o hbz hxr hzb
      by_cases hnear : r ≤ bt
      · have HF := hid (show bucketL ps (xs.take (k + 1)) at_ bt = bucketL ps (xs.take k) at_ bt ++ [⟨zk, zv, zt⟩] from by
          unfold bucketL
          rw [take_snoc Hzk.out, List.filter_append]
          congr 1
          rw [List.filter_cons, HAP.out, decide_eq_true hnear]
          rfl)
        have hcA : Chg No w (wo.alloc (.cells #[.int .i64 zk, .slice A1 4 c1, .int .i64 zt] 36)) := hc.alloc _
        (go_wp2_with fail; (with_reducible refine (KZ.out _ hcA).mono ?_); rintro e w1 ⟨rfl, rfl⟩)
        (go_wp2_with fail; (with_reducible refine (KA.out _ hcA).mono ?_); rintro e w1 ⟨rfl, rfl⟩)
        (go_wp2_with fail; (with_reducible refine (KO.out _).mono ?_); rintro e w1 ⟨rfl, rfl⟩)
        have HH := hid ((HO.out.alloc (.cells #[.int .i64 zk, .slice A1 4 c1, .int .i64 zt] 36)).alloc (.cells #[.int .i64 zk, .slice A1 4 c1, .int .i64 zt] 36))
        have hz0 := hc.size
        have HX1 := hid (Src.one (sz := 3) (enc := cItem) (y := ⟨⟨zk, zv, zt⟩, A1, 4, c1⟩) (Box.new (w := wo.alloc (.cells #[.int .i64 zk, .slice A1 4 c1, .int .i64 zt] 36)) (g := wo.heap.size + 1) [.int .i64 zk, .slice A1 4 c1, .int .i64 zt] 36 (by simp)) rfl)
        go_wp2_with (at_builtin; refine wpList_push _ rfl _ _ 26 rfl 36 3 40 (.agg #[.int .i64 0, .slice none 0 0, .int .i64 0]) cItem Try.underlying26 infoItem rfl (by omega) (by omega) (fun _ => rfl) oneItem w.heap.size _ qs rfl HH.out _ 1 1 [⟨⟨zk, zv, zt⟩, A1, 4, c1⟩] rfl HX1.out (by have := HPL.out; omega) (by simp; omega) ?_; intro v' w3 ho3 hg3 hb3)
        have hc3 : Chg No w w3 := Chg.pushed (hcA.alloc _) hg3 HH.out (Nat.le_refl _)
        have HO3 := hid ho3
        have HE3 : Hid ((qs ++ [(⟨⟨zk, zv, zt⟩, A1, 4, c1⟩ : ItP)]).map (·.it) = bucketL ps (xs.take (k + 1)) at_ bt) := by show _ = _; rw [HF.out, List.map_append, HE.out]; rfl
        have HI3 : Hid (∀ p ∈ qs ++ [(⟨⟨zk, zv, zt⟩, A1, 4, c1⟩ : ItP)], RInts w l0 h0 p.A p.n p.c p.it.vec) := fun p hp => by
          rcases List.mem_append.1 hp with hp | hp
          · exact HI.out p hp
          · rw [List.mem_singleton.1 hp]; exact HV.out
        clear ho3 hg3 hb3 HX1 HH HE HI HO HF
        go_roundw
        case rel => exact ⟨k + 1, by omega, by go_num, hc3, _, HE3, HO3, HI3⟩
        case measure => simp [intOf]; omega
      · have HF := hid (show bucketL ps (xs.take (k + 1)) at_ bt = bucketL ps (xs.take k) at_ bt from by
          unfold bucketL
          rw [take_snoc Hzk.out, List.filter_append, List.filter_cons, HAP.out, decide_eq_false hnear]
          simp)
        have hcA : Chg No w (wo.alloc (.cells #[.int .i64 zk, .slice A1 4 c1, .int .i64 zt] 36)) := hc.alloc _
        have hnear' : bt < r := by omega
        (go_wp2_with fail; (with_reducible refine (KZ.out _ hcA).mono ?_); rintro e w1 ⟨rfl, rfl⟩)
        (go_wp2_with fail; (with_reducible refine (KA.out _ hcA).mono ?_); rintro e w1 ⟨rfl, rfl⟩)
        (go_wp2_with fail; (with_reducible refine (KO.out _).mono ?_); rintro e w1 ⟨rfl, rfl⟩)
        have HO3 := hid (HO.out.alloc (.cells #[.int .i64 zk, .slice A1 4 c1, .int .i64 zt] 36))
        have HE3 : Hid (qs.map (·.it) = bucketL ps (xs.take (k + 1)) at_ bt) := by show _ = _; rw [HF.out, HE.out]
        clear HE HF HO
        go_wp2
        go_roundw
        case rel => exact ⟨k + 1, by omega, by go_num, hcA, _, HE3, HO3, HI⟩
        case measure => simp [intOf]; omega
    · have HE2 := HE.out
      rw [List.take_of_length_le (by have := HX.out.len; omega)] at HE2
      have HE3 := hid HE2
      clear HE HE2
      go_wp2
      go_ret
      exact ⟨_, qs, rfl, HE3.out, HO.out, HI.out, hc⟩
end Go.Proofs.Ytifdcdpdihfbjaa
