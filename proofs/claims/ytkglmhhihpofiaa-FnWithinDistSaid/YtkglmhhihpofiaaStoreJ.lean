/- Stores: copies, filtered items and FilterStore, the program's and the reference's. -/
import Derived.Test.YtkglmhhihpofiaaStoreI
import Derived.Test.YtkglmhhihpofiaaMark
namespace Go.Proofs.Ytkglmhhihpofiaa
open Go.RowKit
set_option linter.unusedVariables false
set_option linter.unusedSimpArgs false
/-- the items that pass a filter, none where the arguments are not valid -/
def filtF (xs : List It) (a b c : Int) : List It := if storeB xs && filterB a b c then xs.filter (fun x => passB a b c x.tags) else []
theorem filtF_bad {xs : List It} {a b c : Int} (h : (storeB xs && filterB a b c) = false) : filtF xs a b c = [] := by unfold filtF; rw [h]; rfl
theorem filtF_ok {xs : List It} {a b c : Int} (h1 : storeB xs = true) (h2 : filterB a b c = true) : filtF xs a b c = xs.filter (fun x => passB a b c x.tags) := by unfold filtF; rw [h1, h2]; rfl
set_option maxHeartbeats 1000000 in
theorem iCopyItem (l0 h0 : Nat) (A : Option Addr) (n c : Nat) (key tags : Int) (xs : List Int) (w : World) (hx : RInts w l0 h0 A n c xs) (hn : n ≤ 1048576) :
    Calls Try.prog 94 #[.agg #[.int .i64 key, .slice A n c, .int .i64 tags]] w (RetItem ⟨key, xs, tags⟩ w) := by
  obtain ⟨w1, hw1⟩ : ∃ W, W = ((w.alloc (.cells #[.int .i64 key, .slice A n c, .int .i64 tags] 54)).alloc (.cells #[.int .i64 0, .slice none 0 0, .int .i64 0] 54)).alloc (.cells #[] 3) := ⟨_, rfl⟩
  have hc1 : Chg No w w1 := by rw [hw1]; exact (((Chg.refl No w).alloc _).alloc _).alloc _
  have hs1 : w1.heap.size = w.heap.size + 3 := by rw [hw1]; simp
  have HS := hid (src_ints (RInts.no hx hc1))
  have HO := hid (show OSl 3 1 cInt w1 (w.heap.size + 2) (.slice (some ⟨w.heap.size + 1 + 1, 0, none⟩) 0 0) [] from
    OSl.lit (T := 3) (enc := cInt) (w := w1) (base := w.heap.size + 2) (g := w.heap.size + 1 + 1) (n := 0) [] [] (fun _ => rfl) rfl rfl (by omega) (by omega) (by rw [hw1]; exact heap_top (by simp)))
  have BX := hid (show Box w1 w.heap.size [.int .i64 key, .slice A n c, .int .i64 tags] from by rw [hw1]; exact ((Box.new _ _ rfl).alloc _).alloc _)
  have BY := hid (show Box w1 (w.heap.size + 1) [.int .i64 0, .slice none 0 0, .int .i64 0] from by rw [hw1]; exact (Box.new _ _ (by simp)).alloc _)
  clear hx
  go_enter Try.func94, Try.ntmps94
  go_wp2_with (at_builtin; (try rw [← hw1]); refine wpList_push w1 rfl _ _ 24 rfl 3 1 8 (.int .i64 0) cInt Try.underlying24 infoInt rfl (by omega) (by omega) (fun _ => rfl) oneInt (w.heap.size + 2) _ [] rfl HO.out A n c xs rfl HS.out (by simp; omega) (by omega) ?_; intro v' w' ho hg hb; obtain ⟨A', c', rfl, ht⟩ := (show OInts w' (w.heap.size + 2) v' xs from ho).typed; have q1 := (BX.out.grown hg (fun e => by injection e with e; (try simp only [] at e); omega)).f3; have q2 := (BY.out.grown hg (fun e => by injection e with e; (try simp only [] at e); omega)).f3; have q3 := (BX.out.grown hg (fun e => by injection e with e; (try simp only [] at e); omega)).lt; have q4 := (BY.out.grown hg (fun e => by injection e with e; (try simp only [] at e); omega)).lt)
  have hc : Chg No w w' := hc1.pushed hg HO.out (by omega)
  (refine bodyPost_ret (by simp [results, Try.results94, go_sem, *]; rfl) rfl ?_)
  refine ⟨A', _, c', rfl, ?_, by (repeat (first | (with_reducible exact Chg.refl _ _) | ((with_reducible refine Chg.setNew ?_ _ ?_); rotate_left; first | (dsimp only; omega) | (simp; done) | (simp; omega)) | (with_reducible refine Chg.alloc ?_ _) | (with_reducible refine Chg.drew ?_) | (with_reducible refine Chg.drewN ?_ _) | (with_reducible refine Chg.no ?_ (by assumption)) | (with_reducible refine Chg.and_ ?_ (by assumption)) | ((with_reducible refine Chg.at_ ?_ (by assumption) ?_); rotate_left; (try simp only [World.size_alloc]); omega)))⟩
  refine TInts.wide (ht.keep (S := fun k => k = w.heap.size ∨ k = w.heap.size + 1) (by (repeat (first | (with_reducible exact Chg.refl _ _) | (with_reducible refine Chg.drew ?_) | ((with_reducible refine Chg.setCell ?_ _ ?_); rotate_left; (intro _; first | exact .inl rfl | exact .inr rfl))))) (fun k h1 _ h3 => by omega)) (by omega) (by simp)
set_option maxHeartbeats 4000000 in
theorem iCopyItemsD (l0 h0 : Nat) (A : Option Addr) (n c : Nat) (xs : List It) (w : World) (hx : RItems w l0 h0 A n c xs) (hn : n ≤ 1048576)
    (hbd : ∀ (k : Int) (v : List Int) (t : Int), (⟨k, v, t⟩ : It) ∈ xs → v.length ≤ 1048576) :
    Calls Try.prog 75 #[.slice A n c] w (RetItemsD xs w) := by
  have hnc := hx.le; have hcm := hx.cap
  have HX := hid hx
  have HO0 := hid (show OItemsD (w.alloc (.cells #[] 54)) w.heap.size (.slice (some ⟨w.heap.size, 0, none⟩) 0 0) [] from
    ⟨[], rfl, OSl.lit (enc := cItem) (n := 0) [] [] (fun _ => rfl) rfl rfl (by omega) (Nat.le_refl _) (heap_top rfl), (fun p hp => by cases hp), List.Pairwise.nil⟩)
  clear hx
  go_enter Try.func75, Try.ntmps75
  go_wp2
  go_loopw [3, 9] (fun v i wr => ∃ k : Nat, k ≤ n ∧ i = .int .i64 k ∧ Chg No w wr ∧ Hid (OItemsD wr w.heap.size v (xs.take k))) (fun _ i _ => n - (intOf i).toNat)
  case atStart => exact ⟨0, Nat.zero_le _, rfl, (Chg.refl _ _).alloc _, HO0⟩
  case round =>
    obtain ⟨k, hk, rfl, hc, HO⟩ := hrel
    obtain ⟨wo, rfl⟩ : ∃ W : World, W = wr := ⟨_, rfl⟩
    by_cases hlt : k < n
    · skip
      obtain ⟨b, o, z, rfl, _, _, hzk, hE⟩ := (HX.out.no hc).at_ hlt
      obtain ⟨zk, zv, zt⟩ := z
      obtain ⟨hE1, ⟨A1, n1, c1, hE2, hv⟩, hE3⟩ := hE
      have hE1 : wo.cell? ⟨b, o + k * 3, none⟩ = some (.int .i64 zk) := hE1
      have hE3 : wo.cell? ⟨b, o + k * 3 + 2, none⟩ = some (.int .i64 zt) := hE3
      have HV := hid hv
      have Hzk := hid hzk
      have hvn : n1 ≤ 1048576 := by have h9 : zv.length = n1 := hv.len; have h8 := hbd zk zv zt (List.mem_of_getElem? hzk); omega
      clear hzk hv
      have hcA : Chg No wo (wo.alloc (.cells #[.int .i64 zk, .slice A1 n1 c1, .int .i64 zt] 54)) := (Chg.refl No _).alloc _
      have HLen := hid (show (xs.take k).length ≤ 1048576 from by rw [List.length_take]; omega)
      (go_wp2_with fail; (with_reducible refine (iCopyItem _ _ _ _ _ _ _ zv _ (HV.out.no hcA) hvn).mono ?_); rintro e w2 ⟨A2, n2, c2, rfl, ht2, hc2⟩)
      have hcw2 : Chg No w w2 := (hc.no hcA).no hc2
      have hz2 := hcw2.size
      obtain ⟨ps, he, hoo0, hii0, haa⟩ := HO.out
      have hoo := (hoo0.no (hcA.no hc2)).no ((Chg.refl No w2).alloc (.cells #[.int .i64 zk, .slice A2 n2 c2, .int .i64 zt] 54))
      have hz9 := (hcA.no hc2).size
      have hii : ∀ p ∈ ps, TInts (w2.alloc (.cells #[.int .i64 zk, .slice A2 n2 c2, .int .i64 zt] 54)) w.heap.size (w2.alloc (.cells #[.int .i64 zk, .slice A2 n2 c2, .int .i64 zt] 54)).heap.size p.A p.n p.c p.it.vec := fun p hp => (((hii0 p hp).keep (hcA.no hc2) (fun _ _ _ e => e)).keep ((Chg.refl No w2).alloc (.cells #[.int .i64 zk, .slice A2 n2 c2, .int .i64 zt] 54)) (fun _ _ _ e => e)).wide (Nat.le_refl _) (by simp only [World.size_alloc]; omega)
      have HLT := hid (OItemsD.lt hii0)
      have HAA := hid haa
      have hcz := (hcA).size
      have HGE := hid (tints_ge ht2)
      have HX1 := hid (Src.one (sz := 3) (enc := cItem) (y := ⟨⟨zk, zv, zt⟩, A2, n2, c2⟩) (Box.new (w := w2) [.int .i64 zk, .slice A2 n2 c2, .int .i64 zt] 54 rfl) rfl)
      have HH := hid hoo
      have hpl : ps.length ≤ 20000000 := by
        have h9 := congrArg List.length he
        rw [List.length_map] at h9
        have h8 := HLen.out
        omega
      have hz4 := ((hc.no hcA)).size
      have HT2 := hid (((ht2.keep ((Chg.refl No w2).alloc (.cells #[.int .i64 zk, .slice A2 n2 c2, .int .i64 zt] 54)) (fun _ _ _ e => e)).wide (lo' := w.heap.size) (hi' := (w2.alloc (.cells #[.int .i64 zk, .slice A2 n2 c2, .int .i64 zt] 54)).heap.size) (by omega) (by simp)))
      have HII := hid hii
      have HE9 := hid he
      clear hoo hii he ht2 hoo0 hii0 haa
      go_wp2_with (at_builtin; refine wpList_push _ rfl _ _ 23 rfl 54 3 40 (.agg #[.int .i64 0, .slice none 0 0, .int .i64 0]) cItem Try.underlying23 infoItem rfl (by omega) (by omega) (fun _ => rfl) oneItem w.heap.size _ ps rfl HH.out _ 1 1 [⟨⟨zk, zv, zt⟩, A2, n2, c2⟩] rfl HX1.out (by omega) (by simp; omega) ?_; intro v' w3 ho3 hg3 hb3)
      have hc3 : Chg No w w3 := Chg.pushed (hcw2.alloc _) hg3 HH.out (by simp)
      have HO3 := hid (OItemsD.push (B := wo.heap.size) HE9.out HH.out HII.out HT2.out ho3 hg3 HAA.out HLT.out (fun h0 b o hA => by have := HGE.out h0 b o hA; omega))
      clear ho3 hg3 hb3 HH HII HT2 HX1 HE9 HAA HLT HGE
      have HO4 : Hid (OItemsD w3 w.heap.size v' (xs.take (k + 1))) := by
        have := HO3.out
        show OItemsD _ _ _ _
        rw [take_snoc Hzk.out]
        exact this
      go_roundw
      case rel => exact ⟨k + 1, by omega, by go_num, hc3, HO4⟩
      case measure => simp [intOf]; omega
    · have h9 := HO.out
      rw [List.take_of_length_le (by have := HX.out.len; omega)] at h9
      have HO8 := hid h9
      clear h9
      go_wp2
      go_ret
      exact ⟨_, rfl, HO8.out, hc⟩
theorem iCopyItems (l0 h0 : Nat) (A : Option Addr) (n c : Nat) (xs : List It) (w : World) (hx : RItems w l0 h0 A n c xs) (hn : n ≤ 1048576)
    (hbd : ∀ (k : Int) (v : List Int) (t : Int), (⟨k, v, t⟩ : It) ∈ xs → v.length ≤ 1048576) :
    Calls Try.prog 75 #[.slice A n c] w (RetItems xs w) :=
  (iCopyItemsD l0 h0 A n c xs w hx hn hbd).mono fun _ _ ⟨v, he, ho, hc⟩ => ⟨v, he, ho.plain, hc⟩
end Go.Proofs.Ytkglmhhihpofiaa
