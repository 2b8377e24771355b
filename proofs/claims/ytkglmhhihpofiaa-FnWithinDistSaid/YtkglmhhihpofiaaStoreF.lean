/- Stores: FilterStore, the program's and the reference's. -/
import Derived.Test.YtkglmhhihpofiaaStoreJ
namespace Go.Proofs.Ytkglmhhihpofiaa
open Go.RowKit
set_option linter.unusedVariables false
set_option linter.unusedSimpArgs false
/-- items of the call's own whose vectors lie where those of another slice lie -/
theorem read_ps {w : World} {base l0 h0 : Nat} {v : Value} {ps : List ItP} (ho : OSl 54 3 cItem w base v ps) (hi : ∀ p ∈ ps, RInts w l0 h0 p.A p.n p.c p.it.vec) :
    ∃ A c, v = .slice A (ps.map (·.it)).length c ∧ RItems w 0 (h0 + w.heap.size) A (ps.map (·.it)).length c (ps.map (·.it)) := by
  obtain ⟨A, c, hv, hr⟩ := OSl.read (E := fun b o (p : ItP) => w.cell? ⟨b, o, none⟩ = some (.int .i64 p.it.key) ∧ w.cell? ⟨b, o + 1, none⟩ = some (.slice p.A p.n p.c) ∧ w.cell? ⟨b, o + 2, none⟩ = some (.int .i64 p.it.tags)) ho (fun _ => rfl) (fun b o p hp => ⟨hp 0 _ rfl, hp 1 _ rfl, hp 2 _ rfl⟩)
  refine ⟨A, c, by rw [hv, List.length_map], by rw [List.length_map], by rw [List.length_map]; exact hr.2.1, hr.2.2.1, fun h0' => ?_⟩
  obtain ⟨b, o, hA, hl, hh, hx⟩ := hr.2.2.2 (by rwa [List.length_map] at h0')
  refine ⟨b, o, hA, by omega, by omega, fun j x hj => ?_⟩
  rw [List.getElem?_map] at hj
  cases hp : ps[j]? with
  | none => rw [hp] at hj; cases hj
  | some p =>
    rw [hp] at hj
    injection hj with hj
    subst hj
    have := hx j p hp
    exact ⟨this.1, ⟨p.A, p.n, p.c, this.2.1, (hi p (List.mem_of_getElem? hp)).wide (by omega) (by omega)⟩, this.2.2⟩
def RetPs (xs : List It) (w : World) (l0 h0 : Nat) (e : Ending) (w' : World) : Prop := ∃ A c, e = .returned (.slice A xs.length c) ∧ RItems w' 0 (h0 + w'.heap.size) A xs.length c xs ∧ Chg No w w'
set_option maxHeartbeats 4000000 in
theorem iFiltered (l0 h0 : Nat) (A : Option Addr) (n c : Nat) (xs : List It) (fa fb fc : Int) (w : World) (hx : RItems w l0 h0 A n c xs) (hn : n ≤ 1048576) :
    Calls Try.prog 63 #[.slice A n c, .agg #[.int .i64 fa, .int .i64 fb, .int .i64 fc]] w (RetPs (xs.filter (fun x => passB fa fb fc x.tags)) w l0 h0) := by
  have hnc := hx.le; have hcm := hx.cap
  have HX := hid hx
  have BX := hid (Box.new (w := w) [.int .i64 fa, .int .i64 fb, .int .i64 fc] 38 rfl)
  have hcX : Chg No w (w.alloc (.cells #[.int .i64 fa, .int .i64 fb, .int .i64 fc] 38)) := (Chg.refl No w).alloc _
  have HO0 := hid (show OSl 54 3 cItem ((w.alloc (.cells #[.int .i64 fa, .int .i64 fb, .int .i64 fc] 38)).alloc (.cells #[] 54)) (w.heap.size + 1) (.slice (some ⟨w.heap.size + 1, 0, none⟩) 0 0) [] from
    OSl.lit (enc := cItem) (n := 0) [] [] (fun _ => rfl) rfl rfl (by omega) (by omega) (heap_top (by simp)))
  clear hx
  go_enter Try.func63, Try.ntmps63
  go_wp2
  go_loopw [5, 11] (fun v i wr => ∃ k : Nat, k ≤ n ∧ i = .int .i64 k ∧ Chg No (w.alloc (.cells #[.int .i64 fa, .int .i64 fb, .int .i64 fc] 38)) wr ∧ ∃ ps : List ItP, Hid (ps.map (·.it) = (xs.take k).filter (fun x => passB fa fb fc x.tags)) ∧ Hid (OSl 54 3 cItem wr (w.heap.size + 1) v ps) ∧ Hid (∀ p ∈ ps, RInts w l0 h0 p.A p.n p.c p.it.vec)) (fun _ i _ => n - (intOf i).toNat)
  case atStart => exact ⟨0, Nat.zero_le _, rfl, (Chg.refl _ _).alloc _, [], rfl, HO0, (fun p hp => by cases hp)⟩
  case round =>
    obtain ⟨k, hk, rfl, hc, ps, HE, HO, HI⟩ := hrel
    obtain ⟨wo, rfl⟩ : ∃ W : World, W = wr := ⟨_, rfl⟩
    have hcw : Chg No w wo := hcX.no hc
    by_cases hlt : k < n
    · obtain ⟨b, o, z, hA0, _, _, hzk, hE⟩ := (HX.out.no hcw).at_ hlt
      obtain ⟨_, _, _, hA1, _, _, hzk1, hEo⟩ := HX.out.at_ hlt
      rw [hA0] at hA1
      injection hA1 with hA1
      injection hA1 with e1 e2 _
      subst e1 e2
      rw [hzk] at hzk1
      injection hzk1 with hzk1
      subst hzk1
      subst hA0
      obtain ⟨zk, zv, zt⟩ := z
      obtain ⟨hE1, ⟨A1, n1, c1, hE2, hv⟩, hE3⟩ := hE
      obtain ⟨_, ⟨A2, n2, c2, hE2o, hvo⟩, _⟩ := hEo
      have h9 := cell_keep hcw hE2o (fun e => e)
      rw [hE2] at h9
      injection h9 with h9
      injection h9 with e1 e2 e3
      subst e1 e2 e3
      have hE1 : wo.cell? ⟨b, o + k * 3, none⟩ = some (.int .i64 zk) := hE1
      have hE3 : wo.cell? ⟨b, o + k * 3 + 2, none⟩ = some (.int .i64 zt) := hE3
      have HV := hid hvo
      have Hzk := hid hzk
      have q1 := (BX.out.no hc).f3
      have q4 := (BX.out.no hc).lt
      have HPL := hid (show ps.length ≤ 1048576 from by
        have h9 := congrArg List.length HE.out
        rw [List.length_map] at h9
        have h8 := List.length_filter_le (fun x : It => passB fa fb fc x.tags) (xs.take k)
        rw [List.length_take] at h8
        omega)
      clear hzk hv hvo hE2o
      obtain ⟨pb, hpb⟩ : ∃ pb, passB fa fb fc zt = pb := ⟨_, rfl⟩
      have K := hid (fun W => passes fa fb fc zt W)
      rw [hpb] at K
      have HPB := hid hpb
      clear hpb
      have HF := hid (show (xs.take (k + 1)).filter (fun x => passB fa fb fc x.tags) = (xs.take k).filter (fun x => passB fa fb fc x.tags) ++ (if pb then [⟨zk, zv, zt⟩] else []) from by
        rw [take_snoc Hzk.out, List.filter_append]
        congr 1
        rw [List.filter_cons]
        show (if passB fa fb fc zt = true then _ else _) = _
        rw [HPB.out]
        cases pb <;> rfl)
      (go_wp2_with fail; (with_reducible refine (K.out _).mono ?_); rintro e w2 ⟨rfl, hc2⟩)
      have hz1 := hc.size
      have hz2 := hc2.size
      simp only [World.size_alloc] at hz1 hz2
      cases pb with
      | true =>
        have hc02 : Chg No (w.alloc (.cells #[.int .i64 fa, .int .i64 fb, .int .i64 fc] 38)) w2 := (hc.alloc _).no hc2
        have B2 := hid ((Box.new (w := wo) [.int .i64 zk, .slice A1 n1 c1, .int .i64 zt] 54 rfl).no hc2)
        have q2 := B2.out.f3
        have HH := hid ((HO.out.no ((Chg.alloc (Chg.refl No wo) _).no hc2)).no ((Chg.refl No w2).alloc (.cells #[.int .i64 zk, .slice A1 n1 c1, .int .i64 zt] 54)))
        have HX1 := hid (Src.one (sz := 3) (enc := cItem) (y := ⟨⟨zk, zv, zt⟩, A1, n1, c1⟩) (Box.new (w := w2) [.int .i64 zk, .slice A1 n1 c1, .int .i64 zt] 54 rfl) rfl)
        go_wp2_with (at_builtin; refine wpList_push _ rfl _ _ 23 rfl 54 3 40 (.agg #[.int .i64 0, .slice none 0 0, .int .i64 0]) cItem Try.underlying23 infoItem rfl (by omega) (by omega) (fun _ => rfl) oneItem (w.heap.size + 1) _ ps rfl HH.out _ 1 1 [⟨⟨zk, zv, zt⟩, A1, n1, c1⟩] rfl HX1.out (by have := HPL.out; omega) (by simp; omega) ?_; intro v' w3 ho3 hg3 hb3)
        have hc3 : Chg No (w.alloc (.cells #[.int .i64 fa, .int .i64 fb, .int .i64 fc] 38)) w3 := Chg.pushed (hc02.alloc _) hg3 HH.out (by simp)
        have HO3 := hid ho3
        clear ho3 hg3 hb3 HX1 HH
        go_roundw
        case rel => exact ⟨k + 1, by omega, by go_num, hc3, _, (by show _ = _; rw [HF.out, List.map_append, HE.out]; rfl), HO3, (fun p hp => by
          rcases List.mem_append.1 hp with hp | hp
          · exact HI.out p hp
          · rw [List.mem_singleton.1 hp]; exact HV.out)⟩
        case measure => simp [intOf]; omega
      | false =>
        have hc02 : Chg No (w.alloc (.cells #[.int .i64 fa, .int .i64 fb, .int .i64 fc] 38)) w2 := (hc.alloc _).no hc2
        have HO3 := hid (HO.out.no ((Chg.alloc (Chg.refl No wo) (.cells #[.int .i64 zk, .slice A1 n1 c1, .int .i64 zt] 54)).no hc2))
        go_wp2
        go_roundw
        case rel => exact ⟨k + 1, by omega, by go_num, hc02, ps, (by show _ = _; rw [HF.out, HE.out]; simp), HO3, HI⟩
        case measure => simp [intOf]; omega
    · have h9 := HE.out
      rw [List.take_of_length_le (by have := HX.out.len; omega)] at h9
      obtain ⟨A9, c9, hv9, hr9⟩ := read_ps HO.out (fun p hp => (HI.out p hp).no hcw)
      rw [h9] at hv9 hr9
      have HR := hid hr9
      clear h9 hr9
      subst hv9
      go_wp2
      go_ret
      exact ⟨_, _, rfl, HR.out, hcw⟩
theorem store_bd {xs : List It} (h : storeB xs = true) (k : Int) (v : List Int) (t : Int) (hm : (⟨k, v, t⟩ : It) ∈ xs) : v.length ≤ 1048576 := by
  obtain ⟨i, hi⟩ := List.getElem?_of_mem hm
  have := vecB_len ((itemB_iff _).1 (storeB_item h hi)).2.1
  simp only [] at this; omega
set_option maxHeartbeats 2000000 in
theorem iFilterStoreD (l0 h0 : Nat) (A : Option Addr) (n c : Nat) (xs : List It) (fa fb fc : Int) (w : World) (hx : RItems w l0 h0 A n c xs) :
    Calls Try.prog 42 #[.slice A n c, .agg #[.int .i64 fa, .int .i64 fb, .int .i64 fc]] w (RetItemsD (filtF xs fa fb fc) w) := by
  have hnc := hx.le; have hcm := hx.cap
  have HX := hid hx
  have BX := hid (Box.new (w := w) [.int .i64 fa, .int .i64 fb, .int .i64 fc] 38 rfl)
  clear hx
  have K1 := hid (fun W (h : RItems W l0 h0 A n c xs) => iValidStore l0 h0 A n c xs W h)
  have K2 := hid (fun W => isFilter fa fb fc W)
  cases hb1 : storeB xs with
  | false =>
    have HF := hid (filtF_bad (xs := xs) (a := fa) (b := fb) (c := fc) (by rw [hb1]; rfl))
    rw [hb1] at K1
    clear hb1
    go_enter Try.func42, Try.ntmps42
    (go_wp2_with fail; (with_reducible refine (K1.out _ (HX.out.no (by (repeat (first | (with_reducible exact Chg.refl _ _) | ((with_reducible refine Chg.setNew ?_ _ ?_); rotate_left; first | (dsimp only; omega) | (simp; done) | (simp; omega)) | (with_reducible refine Chg.alloc ?_ _) | (with_reducible refine Chg.drew ?_) | (with_reducible refine Chg.drewN ?_ _) | (with_reducible refine Chg.no ?_ (by assumption)) | (with_reducible refine Chg.and_ ?_ (by assumption)) | ((with_reducible refine Chg.at_ ?_ (by assumption) ?_); rotate_left; (try simp only [World.size_alloc]); omega)))))).mono ?_); rintro e w1 ⟨rfl, hc1⟩)
    go_wp2
    go_ret
    exact ⟨_, rfl, by rw [HF.out]; exact ⟨[], rfl, OSl.nil_ _, (fun p hp => by cases hp), List.Pairwise.nil⟩, by (repeat (first | (with_reducible exact Chg.refl _ _) | ((with_reducible refine Chg.setNew ?_ _ ?_); rotate_left; first | (dsimp only; omega) | (simp; done) | (simp; omega)) | (with_reducible refine Chg.alloc ?_ _) | (with_reducible refine Chg.drew ?_) | (with_reducible refine Chg.drewN ?_ _) | (with_reducible refine Chg.no ?_ (by assumption)) | (with_reducible refine Chg.and_ ?_ (by assumption)) | ((with_reducible refine Chg.at_ ?_ (by assumption) ?_); rotate_left; (try simp only [World.size_alloc]); omega)))⟩
  | true =>
    cases hb2 : filterB fa fb fc with
    | false =>
      have HF := hid (filtF_bad (xs := xs) (a := fa) (b := fb) (c := fc) (by rw [hb2]; simp))
      rw [hb1] at K1
      rw [hb2] at K2
      clear hb1 hb2
      go_enter Try.func42, Try.ntmps42
      (go_wp2_with fail; (with_reducible refine (K1.out _ (HX.out.no (by (repeat (first | (with_reducible exact Chg.refl _ _) | ((with_reducible refine Chg.setNew ?_ _ ?_); rotate_left; first | (dsimp only; omega) | (simp; done) | (simp; omega)) | (with_reducible refine Chg.alloc ?_ _) | (with_reducible refine Chg.drew ?_) | (with_reducible refine Chg.drewN ?_ _) | (with_reducible refine Chg.no ?_ (by assumption)) | (with_reducible refine Chg.and_ ?_ (by assumption)) | ((with_reducible refine Chg.at_ ?_ (by assumption) ?_); rotate_left; (try simp only [World.size_alloc]); omega)))))).mono ?_); rintro e w1 ⟨rfl, hc1⟩)
      have q1 := (BX.out.no hc1).f3
      (go_wp2_with fail; (with_reducible refine (K2.out _).mono ?_); rintro e w2 ⟨rfl, hc2⟩)
      go_wp2
      go_ret
      exact ⟨_, rfl, by rw [HF.out]; exact ⟨[], rfl, OSl.nil_ _, (fun p hp => by cases hp), List.Pairwise.nil⟩, by (repeat (first | (with_reducible exact Chg.refl _ _) | ((with_reducible refine Chg.setNew ?_ _ ?_); rotate_left; first | (dsimp only; omega) | (simp; done) | (simp; omega)) | (with_reducible refine Chg.alloc ?_ _) | (with_reducible refine Chg.drew ?_) | (with_reducible refine Chg.drewN ?_ _) | (with_reducible refine Chg.no ?_ (by assumption)) | (with_reducible refine Chg.and_ ?_ (by assumption)) | ((with_reducible refine Chg.at_ ?_ (by assumption) ?_); rotate_left; (try simp only [World.size_alloc]); omega)))⟩
    | true =>
      have HF := hid (filtF_ok hb1 hb2)
      have hn16 : n ≤ 16 := by have := HX.out.len; have := storeB_len hb1; omega
      have HB := hid (store_bd hb1)
      rw [hb1] at K1
      rw [hb2] at K2
      clear hb1 hb2
      go_enter Try.func42, Try.ntmps42
      (go_wp2_with fail; (with_reducible refine (K1.out _ (HX.out.no (by (repeat (first | (with_reducible exact Chg.refl _ _) | ((with_reducible refine Chg.setNew ?_ _ ?_); rotate_left; first | (dsimp only; omega) | (simp; done) | (simp; omega)) | (with_reducible refine Chg.alloc ?_ _) | (with_reducible refine Chg.drew ?_) | (with_reducible refine Chg.drewN ?_ _) | (with_reducible refine Chg.no ?_ (by assumption)) | (with_reducible refine Chg.and_ ?_ (by assumption)) | ((with_reducible refine Chg.at_ ?_ (by assumption) ?_); rotate_left; (try simp only [World.size_alloc]); omega)))))).mono ?_); rintro e w1 ⟨rfl, hc1⟩)
      have q1 := (BX.out.no hc1).f3
      (go_wp2_with fail; (with_reducible refine (K2.out _).mono ?_); rintro e w2 ⟨rfl, hc2⟩)
      have q2 := (BX.out.no (hc1.no hc2)).f3
      have hcw : Chg No w w2 := by (repeat (first | (with_reducible exact Chg.refl _ _) | ((with_reducible refine Chg.setNew ?_ _ ?_); rotate_left; first | (dsimp only; omega) | (simp; done) | (simp; omega)) | (with_reducible refine Chg.alloc ?_ _) | (with_reducible refine Chg.drew ?_) | (with_reducible refine Chg.drewN ?_ _) | (with_reducible refine Chg.no ?_ (by assumption)) | (with_reducible refine Chg.and_ ?_ (by assumption)) | ((with_reducible refine Chg.at_ ?_ (by assumption) ?_); rotate_left; (try simp only [World.size_alloc]); omega)))
      have hs2 := hcw.size
      (go_wp2_with fail; (with_reducible refine (iFiltered l0 h0 A n c xs fa fb fc _ (HX.out.no hcw) (by omega)).mono ?_); rintro e w3 ⟨A3, c3, rfl, hr3, hc3⟩)
      have HR := hid hr3
      have hl3 : (xs.filter (fun x => passB fa fb fc x.tags)).length ≤ 1048576 := by
        have h9 := List.length_filter_le (fun x : It => passB fa fb fc x.tags) xs
        have h8 := HX.out.len
        omega
      have HL3 := hid hl3
      have hs3 := hc3.size
      clear hr3 hl3
      (go_wp2_with fail; (with_reducible refine (iCopyItemsD _ _ _ _ _ _ _ HR.out HL3.out (fun k v t hm => HB.out k v t (List.mem_filter.1 hm).1)).mono ?_); rintro e w4 ⟨v, rfl, ho, hc4⟩)
      have HO := hid ho
      clear ho
      go_wp2
      go_ret
      exact ⟨_, rfl, by rw [HF.out]; exact HO.out.down (by omega), (hcw.no hc3).no hc4⟩
theorem iFilterStore (l0 h0 : Nat) (A : Option Addr) (n c : Nat) (xs : List It) (fa fb fc : Int) (w : World) (hx : RItems w l0 h0 A n c xs) :
    Calls Try.prog 42 #[.slice A n c, .agg #[.int .i64 fa, .int .i64 fb, .int .i64 fc]] w (RetItems (filtF xs fa fb fc) w) :=
  (iFilterStoreD l0 h0 A n c xs fa fb fc w hx).mono fun _ _ ⟨v, he, ho, hc⟩ => ⟨v, he, ho.plain, hc⟩
end Go.Proofs.Ytkglmhhihpofiaa
