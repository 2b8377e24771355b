/- The laws' keys: the keys of hits. -/
import Derived.Test.YtifdcdpdihfbjaaQuiet
import Derived.Test.YtifdcdpdihfbjaaTypes
import Derived.Test.YtifdcdpdihfbjaaOwn
import Derived.Deep.RegionWith
namespace Go.Proofs.Ytifdcdpdihfbjaa
open Go.RowKit
set_option linter.unusedVariables false
set_option linter.unusedSimpArgs false
set_option maxHeartbeats 1000000 in
theorem keysL (l0 h0 : Nat) (A : Option Addr) (n c : Nat) (xs : List (Int × Int)) (w : World) (hx : RHits w l0 h0 A n c xs) (hn : n ≤ 1000000) :
    Calls Try.prog 19 #[.slice A n c] w (RetInts (xs.map Prod.fst) w) := by
  have hnc := hx.le; have hcm := hx.cap
  have HX := hid hx
  have HO0 := hid (OSl.lit (T := 3) (sz := 1) (enc := cInt) (w := w.alloc (.cells #[] 3)) (base := w.heap.size) (n := 0) [] [] (fun _ => rfl) rfl rfl (by omega) (Nat.le_refl _) (heap_top rfl))
  clear hx
  go_enter Try.func19, Try.ntmps19
  go_wp2
  go_loopw [3, 4] (fun v i wr => ∃ k : Nat, k ≤ n ∧ i = .int .i64 k ∧ Chg No w wr ∧ Hid (OInts wr w.heap.size v ((xs.take k).map Prod.fst))) (fun _ i _ => n - (intOf i).toNat)
  case atStart => exact ⟨0, Nat.zero_le _, rfl, by (repeat (first | (with_reducible exact Chg.refl _ _) | ((with_reducible refine Chg.setNew ?_ _ ?_); rotate_left; first | (dsimp only; omega) | (simp; done) | (simp; omega)) | (with_reducible refine Chg.alloc ?_ _) | (with_reducible refine Chg.drew ?_) | (with_reducible refine Chg.drewN ?_ _) | (with_reducible refine Chg.no ?_ (by assumption)) | (with_reducible refine Chg.and_ ?_ (by assumption)) | ((with_reducible refine Chg.at_ ?_ (by assumption) ?_); rotate_left; (try simp only [World.size_alloc]); omega))), HO0⟩
  case round =>
    clear HO0
    obtain ⟨k, hk, rfl, hc, HO⟩ := hrel
    obtain ⟨wo, rfl⟩ : ∃ W : World, W = wr := ⟨_, rfl⟩
    by_cases hlt : k < n
    · obtain ⟨b, o, x, rfl, _, _, hxk, hE⟩ := (HX.out.no hc).at_ hlt
      obtain ⟨x1, x2⟩ := x
      have hE1 : wo.cell? ⟨b, o + k * 2, none⟩ = some (.int .i64 x1) := hE.1
      have HD := hid (show (xs.take (k + 1)).map Prod.fst = (xs.take k).map Prod.fst ++ [x1] from by rw [take_snoc hxk, List.map_append]; rfl)
      have hl := List.length_take_le k xs
      have hl2 : ((xs.take k).map Prod.fst).length ≤ 1000000 := by rw [List.length_map]; omega
      generalize (xs.take k).map Prod.fst = L at *
      obtain ⟨A9, c9, hv9, hr9⟩ := OInts.read HO.out
      subst hv9
      have hp9 := hr9.cap; have hq9 := hr9.le
      have HH := hid (OSl.alloc HO.out (.cells #[.int .i64 x1] 3))
      have HX1 := hid (Src.one (sz := 1) (enc := cInt) (y := x1) (Box.new (w := wo) (g := wo.heap.size) [.int .i64 x1] 3 rfl) rfl)
      have so := hc.size
      clear hxk hE hr9 hl
      go_wp2_with (at_builtin; refine wpList_push _ rfl _ _ 27 rfl 3 1 8 (.int .i64 0) cInt Try.underlying27 infoInt rfl (by omega) (by omega) (fun _ => rfl) oneInt w.heap.size _ L rfl HH.out _ 1 1 [x1] rfl HX1.out (by omega) (by simp; omega) ?_; intro v' w6 ho hg2 hb2)
      have hc7 : Chg No w w6 := Chg.pushed (hc.alloc _) hg2 HH.out (Nat.le_refl _)
      have HO5 : Hid (OInts w6 w.heap.size v' ((xs.take (k + 1)).map Prod.fst)) := by show OInts _ _ _ _; rw [HD.out]; exact ho
      clear ho hg2 hb2 HX1 HH HO
      go_wp2
      go_roundw
      case rel => exact ⟨k + 1, by omega, by go_num, hc7, HO5⟩
      case measure => simp [intOf]; omega
    · have h9 := HO.out
      rw [List.take_of_length_le (by have := HX.out.len; omega)] at h9
      have HO5 := hid h9
      clear HO h9
      go_wp2
      go_ret
      exact ⟨_, rfl, HO5.out, hc⟩
end Go.Proofs.Ytifdcdpdihfbjaa
