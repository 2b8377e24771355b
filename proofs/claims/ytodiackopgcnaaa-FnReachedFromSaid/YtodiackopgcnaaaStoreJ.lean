/- Stores: copies, filtered items and FilterStore, the program's and the reference's. -/
import Derived.Test.YtodiackopgcnaaaStoreI
import Derived.Test.YtodiackopgcnaaaMark
namespace Go.Proofs.Ytodiackopgcnaaa
open Go.RowKit
set_option linter.unusedVariables false
set_option linter.unusedSimpArgs false
/-- the items that pass a filter, none where the arguments are not valid -/
def filtF (xs : List It) (a b c : Int) : List It := if storeB xs && filterB a b c then xs.filter (fun x => passB a b c x.tags) else []
theorem filtF_bad {xs : List It} {a b c : Int} (h : (storeB xs && filterB a b c) = false) : filtF xs a b c = [] := by unfold filtF; rw [h]; rfl
theorem filtF_ok {xs : List It} {a b c : Int} (h1 : storeB xs = true) (h2 : filterB a b c = true) : filtF xs a b c = xs.filter (fun x => passB a b c x.tags) := by unfold filtF; rw [h1, h2]; rfl
set_option maxHeartbeats 1000000 in
theorem iCopyItem (l0 h0 : Nat) (A : Option Addr) (n c : Nat) (key tags : Int) (xs : List Int) (w : World) (hx : RInts w l0 h0 A n c xs) (hn : n ≤ 1048576) :
    Calls Try.prog 64 #[.agg #[.int .i64 key, .slice A n c, .int .i64 tags]] w (RetItem ⟨key, xs, tags⟩ w) := by
  obtain ⟨w1, hw1⟩ : ∃ W, W = ((w.alloc (.cells #[.int .i64 key, .slice A n c, .int .i64 tags] 34)).alloc (.cells #[.int .i64 0, .slice none 0 0, .int .i64 0] 34)).alloc (.cells #[] 3) := ⟨_, rfl⟩
  have hc1 : Chg No w w1 := by rw [hw1]; exact (((Chg.refl No w).alloc _).alloc _).alloc _
  have hs1 : w1.heap.size = w.heap.size + 3 := by rw [hw1]; simp
  have HS := hid (src_ints (RInts.no hx hc1))
  have HO := hid (show OSl 3 1 cInt w1 (w.heap.size + 2) (.slice (some ⟨w.heap.size + 1 + 1, 0, none⟩) 0 0) [] from
    OSl.lit (T := 3) (enc := cInt) (w := w1) (base := w.heap.size + 2) (g := w.heap.size + 1 + 1) (n := 0) [] [] (fun _ => rfl) rfl rfl (by omega) (by omega) (by rw [hw1]; exact heap_top (by simp)))
  have BX := hid (show Box w1 w.heap.size [.int .i64 key, .slice A n c, .int .i64 tags] from by rw [hw1]; exact ((Box.new _ _ rfl).alloc _).alloc _)
  have BY := hid (show Box w1 (w.heap.size + 1) [.int .i64 0, .slice none 0 0, .int .i64 0] from by rw [hw1]; exact (Box.new _ _ (by simp)).alloc _)
  clear hx
  go_enter Try.func64, Try.ntmps64
  go_wp2_with (at_builtin; (try rw [← hw1]); refine wpList_push w1 rfl _ _ 26 rfl 3 1 8 (.int .i64 0) cInt Try.underlying26 infoInt rfl (by omega) (by omega) (fun _ => rfl) oneInt (w.heap.size + 2) _ [] rfl HO.out A n c xs rfl HS.out (by simp; omega) (by omega) ?_; intro v' w' ho hg hb; obtain ⟨A', c', rfl, ht⟩ := (show OInts w' (w.heap.size + 2) v' xs from ho).typed; have q1 := (BX.out.grown hg (fun e => by injection e with e; (try simp only [] at e); omega)).f3; have q2 := (BY.out.grown hg (fun e => by injection e with e; (try simp only [] at e); omega)).f3; have q3 := (BX.out.grown hg (fun e => by injection e with e; (try simp only [] at e); omega)).lt; have q4 := (BY.out.grown hg (fun e => by injection e with e; (try simp only [] at e); omega)).lt)
  have hc : Chg No w w' := hc1.pushed hg HO.out (by omega)
  (refine bodyPost_ret (by simp [results, Try.results64, go_sem, *]; rfl) rfl ?_)
  refine ⟨A', _, c', rfl, ?_, by (repeat (first | (with_reducible exact Chg.refl _ _) | ((with_reducible refine Chg.setNew ?_ _ ?_); rotate_left; first | (dsimp only; omega) | (simp; done) | (simp; omega)) | (with_reducible refine Chg.alloc ?_ _) | (with_reducible refine Chg.drew ?_) | (with_reducible refine Chg.drewN ?_ _) | (with_reducible refine Chg.no ?_ (by assumption)) | (with_reducible refine Chg.and_ ?_ (by assumption)) | ((with_reducible refine Chg.at_ ?_ (by assumption) ?_); rotate_left; (try simp only [World.size_alloc]); omega)))⟩
  refine TInts.wide (ht.keep (S := fun k => k = w.heap.size ∨ k = w.heap.size + 1) (by (repeat (first | (with_reducible exact Chg.refl _ _) | (with_reducible refine Chg.drew ?_) | ((with_reducible refine Chg.setCell ?_ _ ?_); rotate_left; (intro _; first | exact .inl rfl | exact .inr rfl))))) (fun k h1 _ h3 => by omega)) (by omega) (by simp)
end Go.Proofs.Ytodiackopgcnaaa
