/- The place of an item by its key, the program's; an item left out. -/
import Derived.Test.YtodiackopgcnaaaStoreJ
import Derived.Test.YtodiackopgcnaaaPReach
import Derived.Deep.RegionWith
import Derived.OwnWalk
import Derived.Shelf.Abstract
namespace Go.Proofs.Ytodiackopgcnaaa
open Go.RowKit Go.Shelf
set_option linter.unusedVariables false
set_option linter.unusedSimpArgs false
theorem indexOf1 (zk zt key : Int) (A1 : Option Addr) (n1 c1 B : Nat) (w : World) (hB : B < w.heap.size) (hc : w.cell? ⟨B, 0, none⟩ = some (.int .i64 key)) :
    Calls Try.prog 69 (#[.agg #[.int .i64 zk, .slice A1 n1 c1, .int .i64 zt]] ++ #[.pointer (some ⟨B, 0, none⟩)]) w fun e w' => e = .returned (.bool (decide (zk = key))) ∧ Chg No w w' := by
  have hne : B ≠ w.heap.size := by omega
  show Calls Try.prog 69 #[.agg #[.int .i64 zk, .slice A1 n1 c1, .int .i64 zt], .pointer (some ⟨B, 0, none⟩)] w _
  go_enter Try.func69, Try.ntmps69
  go_wp2
  go_ret
  exact ⟨ret_bool (by rw [Bool.eq_iff_iff]; simp), by (repeat (first | (with_reducible exact Chg.refl _ _) | ((with_reducible refine Chg.setNew ?_ _ ?_); rotate_left; first | (dsimp only; omega) | (simp; done) | (simp; omega)) | (with_reducible refine Chg.alloc ?_ _) | (with_reducible refine Chg.drew ?_) | (with_reducible refine Chg.drewN ?_ _) | (with_reducible refine Chg.no ?_ (by assumption)) | (with_reducible refine Chg.and_ ?_ (by assumption)) | ((with_reducible refine Chg.at_ ?_ (by assumption) ?_); rotate_left; (try simp only [World.size_alloc]); omega)))⟩
set_option maxHeartbeats 1000000 in
theorem indexFuncI (l0 h0 : Nat) (A : Option Addr) (n c : Nat) (xs : List It) (key : Int) (g : Nat) (lb : Array Value) (w : World) (hx : RItems w l0 h0 A n c xs) (eg : ∀ args w, (callFunc g args).run Try.prog w = .ok (.enter g args) w)
    (hp : ∀ (W : World) (zk zt : Int) (A1 : Option Addr) (n1 c1 : Nat), Chg No w W → Calls Try.prog g (#[.agg #[.int .i64 zk, .slice A1 n1 c1, .int .i64 zt]] ++ lb) W fun e w' => e = .returned (.bool (decide (zk = key))) ∧ Chg No W w') :
    Calls Try.prog 68 #[.slice A n c, .func (.func g) #[] lb] w fun e w' => e = .returned (.int .i64 (keyAtF xs key)) ∧ Chg No w w' := by
  have hnc := hx.le; have hcm := hx.cap
  have HX := hid hx
  have HP := hid hp
  clear hx hp
  go_enter Try.func68, Try.ntmps68
  go_wp2
  go_loopw [8] (fun i wr => ∃ k : Nat, k ≤ n ∧ i = .int .i64 k ∧ Chg No w wr ∧ Hid (∀ (j : Nat) (y : It), j < k → xs[j]? = some y → y.key ≠ key)) (fun i _ => n - (intOf i).toNat)
  case atStart => exact ⟨0, Nat.zero_le _, rfl, Chg.refl _ _, fun j x hj => absurd hj (by omega)⟩
  case round =>
    obtain ⟨k, hk, rfl, hc, HN⟩ := hrel
    obtain ⟨wo, rfl⟩ : ∃ W : World, W = wr := ⟨_, rfl⟩
    have so := hc.size
    by_cases hlt : k < n
    · obtain ⟨b, o, z, rfl, _, _, hzk, hE⟩ := (HX.out.no hc).at_ hlt
      obtain ⟨zk, zv, zt⟩ := z
      obtain ⟨hE1, ⟨A1, n1, c1, hE2, hv⟩, hE3⟩ := hE
      have f1 : wo.cell? ⟨b, o + k * 3, none⟩ = some (.int .i64 zk) := hE1
      have f2 : wo.cell? ⟨b, o + k * 3 + 1, none⟩ = some (.slice A1 n1 c1) := hE2
      have f3 : wo.cell? ⟨b, o + k * 3 + 2, none⟩ = some (.int .i64 zt) := hE3
      have Hzk := hid hzk
      have hcall := HP.out wo zk zt A1 n1 c1 hc
      clear hzk hE1 hE2 hE3 hv
      by_cases he : zk = key
      · rw [decide_eq_true he] at hcall
        have HC := hid hcall
        have HF := hid (show keyAtF xs key = k from by rw [← he]; exact keyAt_at Hzk.out (fun j y hj hy => by have := HN.out j y hj hy; rw [← he] at this; exact this))
        clear hcall he
        go_wp2_with (go_at_fn g; refine (HC.out).mono ?_; rintro e w' ⟨rfl, hc'⟩)
        go_ret
        exact ⟨by rw [HF.out]; rfl, by (repeat (first | (with_reducible exact Chg.refl _ _) | ((with_reducible refine Chg.setNew ?_ _ ?_); rotate_left; first | (dsimp only; omega) | (simp; done) | (simp; omega)) | (with_reducible refine Chg.alloc ?_ _) | (with_reducible refine Chg.drew ?_) | (with_reducible refine Chg.drewN ?_ _) | (with_reducible refine Chg.no ?_ (by assumption)) | (with_reducible refine Chg.and_ ?_ (by assumption)) | ((with_reducible refine Chg.at_ ?_ (by assumption) ?_); rotate_left; (try simp only [World.size_alloc]); omega)))⟩
      · rw [decide_eq_false he] at hcall
        have HC := hid hcall
        have HN2 : Hid (∀ (j : Nat) (y : It), j < k + 1 → xs[j]? = some y → y.key ≠ key) := fun j y hj hy => by
          by_cases hjk : j < k
          · exact HN.out j y hjk hy
          · obtain rfl : j = k := by omega
            rw [Hzk.out] at hy; injection hy with hy; subst hy; exact he
        clear hcall he
        go_wp2_with (go_at_fn g; refine (HC.out).mono ?_; rintro e w' ⟨rfl, hc'⟩)
        go_roundw
        case rel => exact ⟨k + 1, by omega, by go_num, by (repeat (first | (with_reducible exact Chg.refl _ _) | ((with_reducible refine Chg.setNew ?_ _ ?_); rotate_left; first | (dsimp only; omega) | (simp; done) | (simp; omega)) | (with_reducible refine Chg.alloc ?_ _) | (with_reducible refine Chg.drew ?_) | (with_reducible refine Chg.drewN ?_ _) | (with_reducible refine Chg.no ?_ (by assumption)) | (with_reducible refine Chg.and_ ?_ (by assumption)) | ((with_reducible refine Chg.at_ ?_ (by assumption) ?_); rotate_left; (try simp only [World.size_alloc]); omega))), HN2⟩
        case measure => simp [intOf]; omega
    · have HF := hid (show keyAtF xs key = -1 from keyAt_no (fun j y hy => HN.out j y (by have := (List.getElem?_eq_some_iff.1 hy).1; have := HX.out.len; omega) hy))
      go_wp2
      go_ret
      exact ⟨by rw [HF.out]; rfl, by (repeat (first | (with_reducible exact Chg.refl _ _) | ((with_reducible refine Chg.setNew ?_ _ ?_); rotate_left; first | (dsimp only; omega) | (simp; done) | (simp; omega)) | (with_reducible refine Chg.alloc ?_ _) | (with_reducible refine Chg.drew ?_) | (with_reducible refine Chg.drewN ?_ _) | (with_reducible refine Chg.no ?_ (by assumption)) | (with_reducible refine Chg.and_ ?_ (by assumption)) | ((with_reducible refine Chg.at_ ?_ (by assumption) ?_); rotate_left; (try simp only [World.size_alloc]); omega)))⟩
theorem indexOf (l0 h0 : Nat) (A : Option Addr) (n c : Nat) (xs : List It) (key : Int) (w : World) (hx : RItems w l0 h0 A n c xs) :
    Calls Try.prog 37 #[.slice A n c, .int .i64 key] w fun e w' => e = .returned (.int .i64 (keyAtF xs key)) ∧ Chg No w w' := by
  have HX := hid hx
  have B1 := hid (Box.new (w := w) [.int .i64 key] 3 rfl)
  have hcall := indexFuncI l0 h0 A n c xs key 69 #[.pointer (some ⟨w.heap.size, 0, none⟩)] (w.alloc (.cells #[.int .i64 key] 3)) (hx.no ((Chg.refl No w).alloc _)) (enters_of (P := Try.prog) Try.func69 (by kernel_rfl) rfl)
    (fun W zk zt A1 n1 c1 hW => indexOf1 zk zt key A1 n1 c1 w.heap.size W (by have := hW.size; simp only [World.size_alloc] at this; omega) ((B1.out.no hW).cell 0))
  generalize keyAtF xs key = r at *
  have HC := hid hcall
  clear hcall hx
  go_enter Try.func37, Try.ntmps37
  go_wp2_with ((go_at_call 68; (with_reducible refine HC.out.mono ?_); rintro e w' ⟨rfl, hc⟩))
  go_ret
  exact ⟨rfl, by (repeat (first | (with_reducible exact Chg.refl _ _) | ((with_reducible refine Chg.setNew ?_ _ ?_); rotate_left; first | (dsimp only; omega) | (simp; done) | (simp; omega)) | (with_reducible refine Chg.alloc ?_ _) | (with_reducible refine Chg.drew ?_) | (with_reducible refine Chg.drewN ?_ _) | (with_reducible refine Chg.no ?_ (by assumption)) | (with_reducible refine Chg.and_ ?_ (by assumption)) | ((with_reducible refine Chg.at_ ?_ (by assumption) ?_); rotate_left; (try simp only [World.size_alloc]); omega)))⟩
theorem sKeyAt (l0 h0 : Nat) (A : Option Addr) (n c : Nat) (xs : List It) (key : Int) (w : World) (hx : RItems w l0 h0 A n c xs) :
    Calls Try.prog 44 #[.slice A n c, .int .i64 key] w fun e w' => e = .returned (.int .i64 (keyAtF xs key)) ∧ w = w' := by
  have hnc := hx.le; have hcm := hx.cap
  have HX := hid hx
  clear hx
  go_enter Try.func44, Try.ntmps44
  go_wp2
  go_loop [5] (fun i => ∃ k : Nat, k ≤ n ∧ i = .int .i64 k ∧ Hid (∀ (j : Nat) (y : It), j < k → xs[j]? = some y → y.key ≠ key)) (fun i => n - (intOf i).toNat)
  case atStart => exact ⟨0, Nat.zero_le _, rfl, fun j x hj => absurd hj (by omega)⟩
  case round =>
    obtain ⟨k, hk, rfl, HN⟩ := hrel
    by_cases hlt : k < n
    · obtain ⟨b, o, z, rfl, _, _, hzk, hE⟩ := HX.out.at_ hlt
      obtain ⟨zk, zv, zt⟩ := z
      have f1 : w.cell? ⟨b, o + k * 3, none⟩ = some (.int .i64 zk) := hE.1
      have Hzk := hid hzk
      clear hzk hE
      by_cases he : zk = key
      · have e1 : (zk == key) = true := by simp [he]
        have HF := hid (show keyAtF xs key = k from by rw [← he]; exact keyAt_at Hzk.out (fun j y hj hy => by have := HN.out j y hj hy; rw [← he] at this; exact this))
        clear he
        go_wp2
        go_ret
        exact ⟨by rw [HF.out]; rfl, rfl⟩
      · have e1 : (zk == key) = false := by simp [he]
        have HN2 : Hid (∀ (j : Nat) (y : It), j < k + 1 → xs[j]? = some y → y.key ≠ key) := fun j y hj hy => by
          by_cases hjk : j < k
          · exact HN.out j y hjk hy
          · obtain rfl : j = k := by omega
            rw [Hzk.out] at hy; injection hy with hy; subst hy; exact he
        clear he
        go_wp2
        go_round
        case rel => exact ⟨k + 1, by omega, by go_num, HN2⟩
        case measure => simp [intOf]; omega
    · have HF := hid (show keyAtF xs key = -1 from keyAt_no (fun j y hy => HN.out j y (by have := (List.getElem?_eq_some_iff.1 hy).1; have := HX.out.len; omega) hy))
      go_wp2
      go_ret
      exact ⟨by rw [HF.out]; rfl, rfl⟩
/-- a store without an item comes back -/
def RetDrop (xs : List It) (w : World) (e : Ending) (w' : World) : Prop := ∃ v, e = .returned (.tuple #[v, .bool true]) ∧ OItems w' w.heap.size v xs ∧ Chg No w w'
theorem filt_snocI (p : It → Bool) {l : List It} {k : Nat} {x : It} (h : l[k]? = some x) : (l.take (k + 1)).filter p = (l.take k).filter p ++ (if p x = true then [x] else []) := by
  rw [take_snoc h, List.filter_append]
  congr 1
  rw [List.filter_cons]
  split <;> rfl
set_option maxHeartbeats 4000000 in
theorem iDropItem (l0 h0 : Nat) (A : Option Addr) (n c : Nat) (xs : List It) (key : Int) (w : World) (hx : RItems w l0 h0 A n c xs) (hs : storeB xs = true) (hkey : 0 ≤ keyAtF xs key) :
    Calls Try.prog 30 #[.slice A n c, .int .i64 key] w (RetDrop (xs.filter fun y => decide (y.key ≠ key)) w) := by
  have hnc := hx.le; have hcm := hx.cap
  have hn16 : n ≤ 16 := by have := hx.len; have := storeB_len hs; omega
  have HX := hid hx
  have K1 := hid (fun W (h : RItems W l0 h0 A n c xs) => iValidStore l0 h0 A n c xs W h)
  have K2 := hid (fun W (h : RItems W l0 h0 A n c xs) => indexOf l0 h0 A n c xs key W h)
  rw [hs] at K1
  have HS := hid hs
  obtain ⟨r, hr⟩ : ∃ r, keyAtF xs key = r := ⟨_, rfl⟩
  rw [hr] at K2 hkey
  clear hx hs hr
  go_enter Try.func30, Try.ntmps30
  (go_wp2_with fail; (with_reducible refine (K1.out _ HX.out).mono ?_); rintro e w1 ⟨rfl, hc1⟩)
  (go_wp2_with fail; (with_reducible refine (K2.out _ (HX.out.no hc1)).mono ?_); rintro e w2 ⟨rfl, hc2⟩)
  have h02 : Chg No w w2 := hc1.no hc2
  have s02 := h02.size
  have HO0 := hid (show OItems (w2.alloc (.cells #[] 34)) w.heap.size (.slice (some ⟨w2.heap.size, 0, none⟩) 0 0) [] from
    ⟨[], rfl, OSl.lit (enc := cItem) (n := 0) [] [] (fun _ => rfl) rfl rfl (by omega) s02 (heap_top rfl), (fun p hp => by cases hp)⟩)
  clear hc1 hc2
  go_wp2
  go_loopw [6, 21] (fun v i wr => ∃ k : Nat, k ≤ n ∧ i = .int .i64 k ∧ Chg No w wr ∧ Hid (OItems wr w.heap.size v ((xs.take k).filter fun y => decide (y.key ≠ key)))) (fun _ i _ => n - (intOf i).toNat)
  case atStart => exact ⟨0, Nat.zero_le _, rfl, h02.alloc _, HO0⟩
  case round =>
    clear HO0 h02
    obtain ⟨k, hk, rfl, hc, HO⟩ := hrel
    obtain ⟨wo, rfl⟩ : ∃ W : World, W = wr := ⟨_, rfl⟩
    have so := hc.size
    by_cases hlt : k < n
    · obtain ⟨b, o, z, rfl, _, _, hzk, hE⟩ := (HX.out.no hc).at_ hlt
      obtain ⟨zk, zv, zt⟩ := z
      obtain ⟨hE1, ⟨A1, n1, c1, hE2, hv⟩, hE3⟩ := hE
      have f1 : wo.cell? ⟨b, o + k * 3, none⟩ = some (.int .i64 zk) := hE1
      have f2 : wo.cell? ⟨b, o + k * 3 + 1, none⟩ = some (.slice A1 n1 c1) := hE2
      have f3 : wo.cell? ⟨b, o + k * 3 + 2, none⟩ = some (.int .i64 zt) := hE3
      have HD := hid (filt_snocI (fun y => decide (y.key ≠ key)) hzk)
      have hzv := storeB_vec HS.out (List.mem_of_getElem? hzk)
      simp only [] at hzv
      have hvn : n1 ≤ 1048576 := by have h9 : zv.length = n1 := hv.len; have := vecB_len hzv; omega
      have HV := hid hv
      have hfl := List.length_filter_le (fun y : It => decide (y.key ≠ key)) (xs.take k)
      rw [List.length_take] at hfl
      generalize (xs.take k).filter (fun y => decide (y.key ≠ key)) = L at *
      have hcA : Chg No wo (wo.alloc (.cells #[.int .i64 zk, .slice A1 n1 c1, .int .i64 zt] 34)) := (Chg.refl No _).alloc _
      have KC := hid (fun W (h : Chg No wo W) => iCopyItem _ _ _ _ _ zk zt zv W (HV.out.no h) hvn)
      have BZ := hid (Box.new (w := wo) [.int .i64 zk, .slice A1 n1 c1, .int .i64 zt] 34 rfl)
      obtain ⟨ps, hps, hoo, hii⟩ := HO.out
      have hpl : ps.length ≤ 16 := by have h9 := congrArg List.length hps; rw [List.length_map] at h9; omega
      obtain ⟨A9, c9, hv9, hl9, hm9, _⟩ := OSl.form hoo
      subst hv9
      clear hzk hE1 hE2 hE3 hv hzv hm9
      by_cases he : zk = key
      · have d1 : (zk != key) = false := by simp [he]
        have HD2 := HD.out
        rw [if_neg (by simp [he]), List.append_nil] at HD2
        have HO5 := hid (show OItems (wo.alloc (.cells #[.int .i64 zk, .slice A1 n1 c1, .int .i64 zt] 34)) w.heap.size (.slice A9 ps.length c9) ((xs.take (k + 1)).filter fun y => decide (y.key ≠ key)) from by rw [HD2]; exact HO.out.no hcA)
        clear HO HD HD2 hps hoo hii he
        go_wp2
        go_roundw
        case rel => exact ⟨k + 1, by omega, by go_num, hc.no hcA, HO5⟩
        case measure => simp [intOf]; omega
      · have d1 : (zk != key) = true := by simp [he]
        have HD2 := HD.out
        rw [if_pos (by simp [he])] at HD2
        have HD3 := hid HD2
        clear HD HD2 he
        (go_wp2_with fail; (with_reducible refine (KC.out _ hcA).mono ?_); rintro e w4 ⟨A2, n2, c2, rfl, ht2, hc4⟩)
        have hc04 : Chg No wo w4 := hcA.no hc4
        have s4 := hc04.size
        have HH := hid ((OSl.no hoo hc04).alloc (.cells #[.int .i64 zk, .slice A2 n2 c2, .int .i64 zt] 34))
        have HX1 := hid (Src.one (sz := 3) (enc := cItem) (y := ⟨⟨zk, zv, zt⟩, A2, n2, c2⟩) (Box.new (w := w4) [.int .i64 zk, .slice A2 n2 c2, .int .i64 zt] 34 rfl) rfl)
        have HII := hid (show ∀ p ∈ ps, TInts (w4.alloc (.cells #[.int .i64 zk, .slice A2 n2 c2, .int .i64 zt] 34)) w.heap.size (w4.alloc (.cells #[.int .i64 zk, .slice A2 n2 c2, .int .i64 zt] 34)).heap.size p.A p.n p.c p.it.vec from fun p hp => (((hii p hp).keep hc04 (fun _ _ _ e => e)).keep ((Chg.refl No w4).alloc (.cells #[.int .i64 zk, .slice A2 n2 c2, .int .i64 zt] 34)) (fun _ _ _ e => e)).wide (Nat.le_refl _) (by simp only [World.size_alloc]; omega))
        have HT2 := hid (((ht2.keep ((Chg.refl No w4).alloc (.cells #[.int .i64 zk, .slice A2 n2 c2, .int .i64 zt] 34)) (fun _ _ _ e => e)).wide (lo' := w.heap.size) (hi' := (w4.alloc (.cells #[.int .i64 zk, .slice A2 n2 c2, .int .i64 zt] 34)).heap.size) (by simp only [World.size_alloc]; omega) (by simp)))
        have HPS := hid hps
        clear hps hoo hii ht2
        go_wp2_with (at_builtin; refine wpList_push _ rfl _ _ 23 rfl 34 3 40 (.agg #[.int .i64 0, .slice none 0 0, .int .i64 0]) cItem Try.underlying23 infoItem rfl (by omega) (by omega) (fun _ => rfl) oneItem w.heap.size _ ps rfl HH.out _ 1 1 [⟨⟨zk, zv, zt⟩, A2, n2, c2⟩] rfl HX1.out (by omega) (by simp; omega) ?_; intro v' w6 ho hg2 hb2)
        have hc7 : Chg No w w6 := Chg.pushed ((hc.no hc04).alloc _) hg2 HH.out (Nat.le_refl _)
        have HO6 := hid (OItems.push HPS.out HH.out HII.out HT2.out ho hg2)
        have HO7 : Hid (OItems w6 w.heap.size v' ((xs.take (k + 1)).filter fun y => decide (y.key ≠ key))) := by show OItems _ _ _ _; rw [HD3.out]; exact HO6.out
        clear ho hg2 hb2 HX1 HH HII HT2 HO HO6
        go_wp2
        go_roundw
        case rel => exact ⟨k + 1, by omega, by go_num, hc7, HO7⟩
        case measure => simp [intOf]; omega
    · have h9 := HO.out
      rw [List.take_of_length_le (by have := HX.out.len; omega)] at h9
      obtain ⟨A9, c9, hv9, hr9⟩ := OItems.read h9
      have HO5 := hid h9
      subst hv9
      clear HO h9 hr9
      go_wp2
      go_ret2
      exact ⟨_, rfl, HO5.out, hc⟩
end Go.Proofs.Ytodiackopgcnaaa
