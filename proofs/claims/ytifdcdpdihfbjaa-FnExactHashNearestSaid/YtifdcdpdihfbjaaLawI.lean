/- What the exact laws ask of ints, items, rows: their size, copies, equality, marks. -/
import Derived.Test.YtifdcdpdihfbjaaMark
import Derived.Test.YtifdcdpdihfbjaaStoreS
namespace Go.Proofs.Ytifdcdpdihfbjaa
open Go.RowKit
set_option linter.unusedVariables false
set_option linter.unusedSimpArgs false
theorem szIntS_ok (A : Option Addr) (n c : Nat) (left : Int) (w : World) (hc : (n : Int) ≤ 9223372036854775807) (h0 : 0 ≤ left) (h1 : left ≤ 1048576) (h : (n : Int) ≤ left) :
    Calls Try.prog 66 #[.slice A n c, .int .i64 left] w fun e w' => e = .returned (.int .i64 (left - n)) ∧ w = w' := by
  go_enter Try.func66, Try.ntmps66
  go_wp2
  go_ret
  exact ⟨rfl, rfl⟩
theorem szIntS_no (A : Option Addr) (n c : Nat) (left : Int) (w : World) (hc : (n : Int) ≤ 9223372036854775807) (h0 : 0 ≤ left) (h1 : left ≤ 1048576) (h : left < (n : Int)) :
    Calls Try.prog 66 #[.slice A n c, .int .i64 left] w fun e w' => e = .returned (.int .i64 (-1)) ∧ w = w' := by
  go_enter Try.func66, Try.ntmps66
  go_wp2
  go_ret
  exact ⟨rfl, rfl⟩
set_option maxHeartbeats 1000000 in
theorem toIntS (l0 h0 : Nat) (A : Option Addr) (n c : Nat) (xs : List Int) (w : World) (hx : RInts w l0 h0 A n c xs) (hn : n ≤ 1048576) :
    Calls Try.prog 26 #[.slice A n c] w (RetInts xs w) := by
  have hnc := hx.le; have hcm := hx.cap
  have HX := hid hx
  clear hx
  obtain ⟨i0, hi, hz0, hz1, hz2⟩ := info_parts infoInt
  go_enter Try.func26, Try.ntmps26
  go_wp2_with (at_make; refine wpList_make_full _ rfl _ _ 27 rfl w.heap.size 3 i0 _ 1 Try.underlying27 hi hz0 hz1 _ _ _ _ n rfl rfl rfl rfl (by rw [hz2]; omega) (by unfold maxLen; omega) (Nat.le_refl _) ?_; intro w1 hown hg1)
  have hc1 : Chg No w w1 := (Chg.refl No w).grown hg1 (fun k hk => by cases hk)
  have e1 : (madeCells (Value.int .i64 0).cells (n * 1)).toList = (List.replicate n (0 : Int)).flatMap cInt := by
    have h9 := madeK [.int .i64 0] (by simp) n
    rw [flat_const [.int .i64 0] (0 : Int) cInt rfl n] at h9
    exact h9
  rw [e1] at hown
  have hO : OInts w1 w.heap.size (.slice (some ⟨w.heap.size, 0, none⟩) n n) (List.replicate n 0) := by
    show w1.ownsRow _ _ _ _ _ _
    rw [List.length_replicate]; exact hown
  clear hown hg1 hi hz0 hz1 hz2 e1
  generalize hg : w.heap.size = g at *
  have HO := hid hO
  have HG := hid hg
  clear hO hg
  go_loopw [4] (fun i wr => ∃ k : Nat, k ≤ n ∧ i = .int .i64 k ∧ Chg No w wr ∧ Hid (OInts wr g (.slice (some ⟨g, 0, none⟩) n n) (half xs n k 0))) (fun i _ => n - (intOf i).toNat)
  case atStart => exact ⟨0, Nat.zero_le _, rfl, hc1, by show OInts _ _ _ _; rw [half_none]; exact HO.out⟩
  case round =>
    obtain ⟨k, hk, rfl, hc, HK⟩ := hrel
    by_cases hlt : k < n
    · obtain ⟨b, o, x, rfl, _, _, hxk, hE⟩ := (HX.out.no hc).at_ hlt
      have hE1 : wr.cell? ⟨b, o + k, none⟩ = some (.int .i64 x) := by simpa [EInt] using hE
      have Hxk := hid hxk
      clear hxk hE
      have hat := half_at (z := (0 : Int)) HX.out.len hlt
      have c1 : wr.cell? ⟨g, k, none⟩ = some (.int .i64 0) := by have h9 := HK.out.cell (fun _ => rfl) (i := 0) hat rfl; simpa using h9
      have z1 : wr.frozen? ⟨g, k, none⟩ = false := HK.out.free _
      have HK3 : Hid (OInts (wr.setCell ⟨g, k, none⟩ (.int .i64 x)) g (.slice (some ⟨g, 0, none⟩) n n) (half xs n (k + 1) 0)) := by
        have := OSl.set1 HK.out (fun _ => rfl) k x (.int .i64 x) rfl
        rw [half_set HX.out.len Hxk.out] at this
        exact this
      have hgw : w.heap.size ≤ g := by rw [HG.out]; exact Nat.le_refl _
      clear hat
      go_wp2
      go_roundw
      case rel => exact ⟨k + 1, by omega, by go_num, by (repeat (first | (with_reducible exact Chg.refl _ _) | ((with_reducible refine Chg.setNew ?_ _ ?_); rotate_left; first | (dsimp only; omega) | (simp; done) | (simp; omega)) | (with_reducible refine Chg.alloc ?_ _) | (with_reducible refine Chg.drew ?_) | (with_reducible refine Chg.drewN ?_ _) | (with_reducible refine Chg.no ?_ (by assumption)) | (with_reducible refine Chg.and_ ?_ (by assumption)) | ((with_reducible refine Chg.at_ ?_ (by assumption) ?_); rotate_left; (try simp only [World.size_alloc]); omega))), HK3⟩
      case measure => simp [intOf]; omega
    · have hkn : k = n := by omega
      have HK2 : Hid (OInts wr g (.slice (some ⟨g, 0, none⟩) n n) xs) := by
        have := HK.out
        rw [hkn, half_all HX.out.len] at this
        exact this
      subst hkn
      go_wp2
      go_ret
      exact ⟨_, rfl, by rw [HG.out]; exact HK2.out, hc⟩
set_option maxHeartbeats 1000000 in
theorem eqIntS (l0 h0 l1 h1 : Nat) (A B : Option Addr) (n c d : Nat) (xs : List Int) (w : World) (hx : RInts w l0 h0 A n c xs) (hy : RInts w l1 h1 B n d xs) :
    Calls Try.prog 31 #[.slice A n c, .slice B n d] w fun e w' => e = .returned (.bool true) ∧ Chg No w w' := by
  have hnc := hx.le; have hcm := hx.cap; have hnd := hy.le; have hdm := hy.cap
  have HX := hid hx; have HY := hid hy
  have e0 : ((n : Int) != n) = false := by simp
  clear hx hy
  go_enter Try.func31, Try.ntmps31
  go_wp2
  go_loopw [5] (fun i wr => ∃ k : Nat, k ≤ n ∧ i = .int .i64 k ∧ Chg No w wr) (fun i _ => n - (intOf i).toNat)
  case atStart => exact ⟨0, Nat.zero_le _, rfl, Chg.refl _ _⟩
  case round =>
    obtain ⟨k, hk, rfl, hc⟩ := hrel
    by_cases hlt : k < n
    · obtain ⟨b, o, x, rfl, _, _, hxk, hE⟩ := (HX.out.no hc).at_ hlt
      obtain ⟨b', o', x', rfl, _, _, hxk', hE'⟩ := (HY.out.no hc).at_ hlt
      obtain rfl : x = x' := by rw [hxk] at hxk'; injection hxk'
      have f1 : ∀ p : NB wr, p.wd.cell? ⟨b, o + k, none⟩ = some (.int .i64 x) := nb_cell (by simpa [EInt] using hE)
      have f2 : ∀ p : NB wr, p.wd.cell? ⟨b', o' + k, none⟩ = some (.int .i64 x) := nb_cell (by simpa [EInt] using hE')
      have e1 : (x != x) = false := by simp
      clear hxk hxk' hE hE'
      go_wp2_with fail
      (refine wp_region_nb (by kernel_rfl) (by kernel_rfl) ?_; (repeat (first | go_big_quiet_step (fail) | quiet_step (fail))); (with_reducible refine wpQuiet_nil ?_); intro wq hw1; have hq := nb_out hw1; clear hw1)
      go_wp2
      go_roundw
      case rel => exact ⟨k + 1, by omega, by go_num, by (repeat (first | (with_reducible exact Chg.refl _ _) | ((with_reducible refine Chg.setNew ?_ _ ?_); rotate_left; first | (dsimp only; omega) | (simp; done) | (simp; omega)) | (with_reducible refine Chg.alloc ?_ _) | (with_reducible refine Chg.drew ?_) | (with_reducible refine Chg.drewN ?_ _) | (with_reducible refine Chg.no ?_ (by assumption)) | (with_reducible refine Chg.and_ ?_ (by assumption)) | ((with_reducible refine Chg.at_ ?_ (by assumption) ?_); rotate_left; (try simp only [World.size_alloc]); omega)))⟩
      case measure => simp [intOf]; omega
    · go_wp2
      go_ret
      exact ⟨rfl, by (repeat (first | (with_reducible exact Chg.refl _ _) | ((with_reducible refine Chg.setNew ?_ _ ?_); rotate_left; first | (dsimp only; omega) | (simp; done) | (simp; omega)) | (with_reducible refine Chg.alloc ?_ _) | (with_reducible refine Chg.drew ?_) | (with_reducible refine Chg.drewN ?_ _) | (with_reducible refine Chg.no ?_ (by assumption)) | (with_reducible refine Chg.and_ ?_ (by assumption)) | ((with_reducible refine Chg.at_ ?_ (by assumption) ?_); rotate_left; (try simp only [World.size_alloc]); omega)))⟩
set_option maxHeartbeats 1000000 in
theorem markIntS (lo hi : Nat) (A : Option Addr) (n c : Nat) (xs : List Int) (k : Int) (w : World) (h : TInts w lo hi A n c xs) (h0 : 0 ≤ k) (h1 : k + n ≤ 1000000000000000) :
    Calls Try.prog 34 #[.slice A n c, .int .i64 k] w fun e w' => e = .returned (.int .i64 (k + n)) ∧ TInts w' lo hi A n c (cntL k n) ∧ Chg (Blk n A) w w' := by
  have hnc := h.1.le; have hcm := h.1.cap
  have HT := hid h
  have HL := hid (show xs.length = n from h.1.len)
  clear h
  go_enter Try.func34, Try.ntmps34
  go_wp2
  go_loopw [1, 5] (fun q i wr => ∃ j : Nat, j ≤ n ∧ i = .int .i64 j ∧ q = .int .i64 (k + j) ∧ Chg (Blk n A) w wr ∧ Hid (TInts wr lo hi A n c (cntL k j ++ xs.drop j))) (fun _ i _ => n - (intOf i).toNat)
  case atStart => exact ⟨0, Nat.zero_le _, rfl, by simp, Chg.refl _ _, by show TInts _ _ _ _ _ _ _; simpa [cntL] using HT.out⟩
  case round =>
    clear HT
    obtain ⟨j, hj, rfl, rfl, hc, HT⟩ := hrel
    by_cases hlt : j < n
    · obtain ⟨b, o, rfl, hl, hh, hcs, hfz, hx⟩ := HT.out.hd (by omega)
      have hlx : j < xs.length := by have := HL.out; omega
      obtain ⟨y, hy⟩ : ∃ y, xs[j]'hlx = y := ⟨_, rfl⟩
      have c1 : wr.cell? ⟨b, o + j, none⟩ = some (.int .i64 y) := by rw [← hy]; exact hx j _ (cnt_next hlx)
      have f1 : wr.frozen? ⟨b, o + j, none⟩ = false := hfz _
      have HT3 : Hid (TInts (wr.setCell ⟨b, o + j, none⟩ (.int .i64 (k + j))) lo hi (some ⟨b, o, none⟩) n c (cntL k (j + 1) ++ xs.drop (j + 1))) := by
        have := HT.out.set hlt (k + j)
        rw [cnt_set hlx] at this
        exact this
      have hc2 : Chg (Blk n (some ⟨b, o, none⟩)) w (wr.setCell ⟨b, o + j, none⟩ (.int .i64 (k + j))) := hc.setCell _ (fun _ => ⟨by omega, o, rfl⟩)
      clear hx hfz hcs hy hl hh hlx
      go_wp2
      go_roundw
      case rel => exact ⟨j + 1, by omega, by go_num, by go_num, hc2, HT3⟩
      case measure => simp [intOf]; omega
    · have hjn : j = n := by omega
      have HE := hid (show TInts wr lo hi A n c (cntL k n) from by
        have := HT.out
        rw [hjn, List.drop_of_length_le (by rw [HL.out]; exact Nat.le_refl _), List.append_nil] at this
        exact this)
      clear HT
      subst hjn
      go_wp2
      go_ret
      exact ⟨rfl, HE.out, hc⟩
theorem szItem_ok (A : Option Addr) (n c : Nat) (key tags left : Int) (w : World) (hc : (n : Int) ≤ 9223372036854775807) (h0 : 0 ≤ left) (h1 : left ≤ 1048576) (h : (n : Int) ≤ left) :
    Calls Try.prog 67 #[.agg #[.int .i64 key, .slice A n c, .int .i64 tags], .int .i64 left] w fun e w' => e = .returned (.int .i64 (left - n)) ∧ Chg No w w' := by
  go_enter Try.func67, Try.ntmps67
  (go_wp2_with fail; (with_reducible refine (szIntS_ok _ _ _ _ _ hc h0 h1 h).mono ?_); rintro e w1 ⟨rfl, rfl⟩)
  go_wp2
  go_ret
  exact ⟨rfl, by (repeat (first | (with_reducible exact Chg.refl _ _) | ((with_reducible refine Chg.setNew ?_ _ ?_); rotate_left; first | (dsimp only; omega) | (simp; done) | (simp; omega)) | (with_reducible refine Chg.alloc ?_ _) | (with_reducible refine Chg.drew ?_) | (with_reducible refine Chg.drewN ?_ _) | (with_reducible refine Chg.no ?_ (by assumption)) | (with_reducible refine Chg.and_ ?_ (by assumption)) | ((with_reducible refine Chg.at_ ?_ (by assumption) ?_); rotate_left; (try simp only [World.size_alloc]); omega)))⟩
theorem szItem_no (A : Option Addr) (n c : Nat) (key tags left : Int) (w : World) (hc : (n : Int) ≤ 9223372036854775807) (h0 : 0 ≤ left) (h1 : left ≤ 1048576) (h : left < (n : Int)) :
    Calls Try.prog 67 #[.agg #[.int .i64 key, .slice A n c, .int .i64 tags], .int .i64 left] w fun e w' => e = .returned (.int .i64 (-1)) ∧ Chg No w w' := by
  go_enter Try.func67, Try.ntmps67
  (go_wp2_with fail; (with_reducible refine (szIntS_no _ _ _ _ _ hc h0 h1 h).mono ?_); rintro e w1 ⟨rfl, rfl⟩)
  go_wp2
  go_ret
  exact ⟨rfl, by (repeat (first | (with_reducible exact Chg.refl _ _) | ((with_reducible refine Chg.setNew ?_ _ ?_); rotate_left; first | (dsimp only; omega) | (simp; done) | (simp; omega)) | (with_reducible refine Chg.alloc ?_ _) | (with_reducible refine Chg.drew ?_) | (with_reducible refine Chg.drewN ?_ _) | (with_reducible refine Chg.no ?_ (by assumption)) | (with_reducible refine Chg.and_ ?_ (by assumption)) | ((with_reducible refine Chg.at_ ?_ (by assumption) ?_); rotate_left; (try simp only [World.size_alloc]); omega)))⟩
/-- the items are not too many -/
def SzItems (xs : List It) (left : Int) (w : World) (e : Ending) (w' : World) : Prop := ∃ r : Int, e = .returned (.int .i64 r) ∧ Chg No w w' ∧ -1 ≤ r ∧ r ≤ left ∧ (0 ≤ r → (xs.length : Int) ≤ left ∧ ∀ x ∈ xs, (x.vec.length : Int) ≤ left)
set_option maxHeartbeats 1000000 in
theorem szItemS (l0 h0 : Nat) (A : Option Addr) (n c : Nat) (xs : List It) (left : Int) (w : World) (hx : RItems w l0 h0 A n c xs) (h0' : 0 ≤ left) (h1 : left ≤ 1048576) :
    Calls Try.prog 22 #[.slice A n c, .int .i64 left] w (SzItems xs left w) := by
  have hnc := hx.le; have hcm := hx.cap
  have HX := hid hx
  clear hx
  by_cases hbig : left < (n : Int)
  · go_enter Try.func22, Try.ntmps22
    go_wp2
    go_ret
    exact ⟨-1, rfl, Chg.refl _ _, by omega, by omega, fun h => absurd h (by omega)⟩
  · have hb2 : (n : Int) ≤ left := by omega
    clear hbig
    go_enter Try.func22, Try.ntmps22
    go_wp2
    go_loopw [1, 5] (fun q i wr => ∃ (k : Nat) (r : Int), k ≤ n ∧ i = .int .i64 k ∧ q = .int .i64 r ∧ 0 ≤ r ∧ r ≤ left ∧ Chg No w wr ∧ Hid (∀ x ∈ xs.take k, (x.vec.length : Int) ≤ left)) (fun _ i _ => n - (intOf i).toNat)
    case atStart => exact ⟨0, left - n, Nat.zero_le _, rfl, rfl, by omega, by omega, Chg.refl _ _, by show ∀ x ∈ xs.take 0, _; simp⟩
    case round =>
      obtain ⟨k, r, hk, rfl, rfl, hr0, hr1, hc, HA⟩ := hrel
      by_cases hlt : k < n
      · obtain ⟨b, o, z, rfl, _, _, hzk, hE⟩ := (HX.out.no hc).at_ hlt
        obtain ⟨zk, zv, zt⟩ := z
        obtain ⟨hE1, ⟨A1, n1, c1, hE2, hv⟩, hE3⟩ := hE
        have hE1 : wr.cell? ⟨b, o + k * 3, none⟩ = some (.int .i64 zk) := hE1
        have hE3 : wr.cell? ⟨b, o + k * 3 + 2, none⟩ = some (.int .i64 zt) := hE3
        have hn1c := hv.cap; have hn1l := hv.le
        have hlen : zv.length = n1 := hv.len
        have Hzk := hid hzk
        clear hzk hv
        by_cases hfit : (n1 : Int) ≤ r
        · have HA2 : Hid (∀ x ∈ xs.take (k + 1), (x.vec.length : Int) ≤ left) := by
            show ∀ x ∈ xs.take (k + 1), _
            rw [take_snoc Hzk.out]
            intro x hx
            rcases List.mem_append.1 hx with hx | hx
            · exact HA.out x hx
            · rw [List.mem_singleton.1 hx]; show (zv.length : Int) ≤ left; omega
          clear hlen
          (go_wp2_with fail; (with_reducible refine (szItem_ok _ _ _ _ _ _ _ (by omega) hr0 (by omega) hfit).mono ?_); rintro e w1 ⟨rfl, hc1⟩)
          go_wp2
          go_roundw
          case rel => exact ⟨k + 1, r - n1, by omega, by go_num, rfl, by omega, by omega, by (repeat (first | (with_reducible exact Chg.refl _ _) | ((with_reducible refine Chg.setNew ?_ _ ?_); rotate_left; first | (dsimp only; omega) | (simp; done) | (simp; omega)) | (with_reducible refine Chg.alloc ?_ _) | (with_reducible refine Chg.drew ?_) | (with_reducible refine Chg.drewN ?_ _) | (with_reducible refine Chg.no ?_ (by assumption)) | (with_reducible refine Chg.and_ ?_ (by assumption)) | ((with_reducible refine Chg.at_ ?_ (by assumption) ?_); rotate_left; (try simp only [World.size_alloc]); omega))), HA2⟩
          case measure => simp [intOf]; omega
        · clear hlen
          (go_wp2_with fail; (with_reducible refine (szItem_no _ _ _ _ _ _ _ (by omega) hr0 (by omega) (by omega)).mono ?_); rintro e w1 ⟨rfl, hc1⟩)
          go_wp2
          go_ret
          exact ⟨-1, rfl, by (repeat (first | (with_reducible exact Chg.refl _ _) | ((with_reducible refine Chg.setNew ?_ _ ?_); rotate_left; first | (dsimp only; omega) | (simp; done) | (simp; omega)) | (with_reducible refine Chg.alloc ?_ _) | (with_reducible refine Chg.drew ?_) | (with_reducible refine Chg.drewN ?_ _) | (with_reducible refine Chg.no ?_ (by assumption)) | (with_reducible refine Chg.and_ ?_ (by assumption)) | ((with_reducible refine Chg.at_ ?_ (by assumption) ?_); rotate_left; (try simp only [World.size_alloc]); omega))), by omega, by omega, fun h => absurd h (by omega)⟩
      · have hA := HA.out
        rw [List.take_of_length_le (by have := HX.out.len; omega)] at hA
        have HA2 := hid hA
        have HL := hid HX.out.len
        clear hA HA
        go_wp2
        go_ret
        exact ⟨r, rfl, hc, by omega, by omega, fun _ => ⟨by rw [HL.out]; omega, HA2.out⟩⟩
set_option maxHeartbeats 1000000 in
theorem toItem (l0 h0 : Nat) (A : Option Addr) (n c : Nat) (key tags : Int) (xs : List Int) (w : World) (hx : RInts w l0 h0 A n c xs) (hn : n ≤ 1048576) :
    Calls Try.prog 71 #[.agg #[.int .i64 key, .slice A n c, .int .i64 tags]] w (RetItem ⟨key, xs, tags⟩ w) := by
  have HX := hid hx
  have BX := hid (((Box.new (w := w) [.int .i64 key, .slice A n c, .int .i64 tags] 80 rfl).alloc (.cells #[.int .i64 0, .slice none 0 0, .int .i64 0] 36)).alloc (.cells #[.int .i64 key, .slice none 0 0, .int .i64 0] 36))
  have BY := hid ((Box.new (w := w.alloc (.cells #[.int .i64 key, .slice A n c, .int .i64 tags] 80)) (g := w.heap.size + 1) [.int .i64 0, .slice none 0 0, .int .i64 0] 36 (by simp)).alloc (.cells #[.int .i64 key, .slice none 0 0, .int .i64 0] 36))
  have BZ := hid (Box.new (w := (w.alloc (.cells #[.int .i64 key, .slice A n c, .int .i64 tags] 80)).alloc (.cells #[.int .i64 0, .slice none 0 0, .int .i64 0] 36)) (g := w.heap.size + 1 + 1) [.int .i64 key, .slice none 0 0, .int .i64 0] 36 (by simp))
  clear hx
  go_enter Try.func71, Try.ntmps71
  (go_wp2_with fail; (with_reducible refine (toIntS l0 h0 A n c xs _ (HX.out.no (by (repeat (first | (with_reducible exact Chg.refl _ _) | ((with_reducible refine Chg.setNew ?_ _ ?_); rotate_left; first | (dsimp only; omega) | (simp; done) | (simp; omega)) | (with_reducible refine Chg.alloc ?_ _) | (with_reducible refine Chg.drew ?_) | (with_reducible refine Chg.drewN ?_ _) | (with_reducible refine Chg.no ?_ (by assumption)) | (with_reducible refine Chg.and_ ?_ (by assumption)) | ((with_reducible refine Chg.at_ ?_ (by assumption) ?_); rotate_left; (try simp only [World.size_alloc]); omega))))) hn).mono ?_); rintro e w3 ⟨v, rfl, ho, hc3⟩)
  obtain ⟨A', c', rfl, ht⟩ := ho.typed
  have HT := hid ht
  have s3 := hc3.size
  simp only [World.size_alloc, World.size_setCell] at s3 HT
  have q1 := (BX.out.no hc3).f3
  have q2 := (BY.out.no hc3).f3
  have q3 := (BZ.out.no hc3).f3
  have l1 := (BX.out.no hc3).lt
  have l2 := (BY.out.no hc3).lt
  have l3 := (BZ.out.no hc3).lt
  clear ho ht BX BY BZ
  go_wp2
  (refine bodyPost_ret (by simp [results, Try.results71, go_sem, *]; rfl) rfl ?_)
  refine ⟨A', _, c', rfl, ?_, by (repeat (first | (with_reducible exact Chg.refl _ _) | ((with_reducible refine Chg.setNew ?_ _ ?_); rotate_left; first | (dsimp only; omega) | (simp; done) | (simp; omega)) | (with_reducible refine Chg.alloc ?_ _) | (with_reducible refine Chg.drew ?_) | (with_reducible refine Chg.drewN ?_ _) | (with_reducible refine Chg.no ?_ (by assumption)) | (with_reducible refine Chg.and_ ?_ (by assumption)) | ((with_reducible refine Chg.at_ ?_ (by assumption) ?_); rotate_left; (try simp only [World.size_alloc]); omega)))⟩
  refine TInts.wide (HT.out.keep (S := fun k => k = w.heap.size + 1 ∨ k = w.heap.size + 1 + 1) (by (repeat (first | (with_reducible exact Chg.refl _ _) | (with_reducible refine Chg.drew ?_) | ((with_reducible refine Chg.setCell ?_ _ ?_); rotate_left; (intro _; first | exact .inl rfl | exact .inr rfl))))) (fun k h1 _ h3 => by omega)) (by omega) (by simp)
/-- the item that make lays-/
def zIt : ItP := ⟨⟨0, [], 0⟩, none, 0, 0⟩
def zItem : It := ⟨0, [], 0⟩
/-- an item is stored-/
theorem item_store {w : World} {base g n c j : Nat} {ps : List ItP} {q p : ItP} (hj : ps[j]? = some q) (ho : OSl 36 3 cItem w base (.slice (some ⟨g, 0, none⟩) n c) ps) :
    OSl 36 3 cItem (((w.setCell ⟨g, j * 3, none⟩ (.int .i64 p.it.key)).setCell ⟨g, j * 3 + 1, none⟩ (.slice p.A p.n p.c)).setCell ⟨g, j * 3 + 2, none⟩ (.int .i64 p.it.tags)) base (.slice (some ⟨g, 0, none⟩) n c) (ps.set j p) ∧
    Chg (fun k => k = g) w (((w.setCell ⟨g, j * 3, none⟩ (.int .i64 p.it.key)).setCell ⟨g, j * 3 + 1, none⟩ (.slice p.A p.n p.c)).setCell ⟨g, j * 3 + 2, none⟩ (.int .i64 p.it.tags)) := by
  have hjl := (List.getElem?_eq_some_iff.1 hj).1
  have h1 := ho.setAt (fun _ => rfl) j 0 q ⟨⟨p.it.key, q.it.vec, q.it.tags⟩, q.A, q.n, q.c⟩ (.int .i64 p.it.key) hj (by omega) rfl
  have h2 := h1.setAt (fun _ => rfl) j 1 _ ⟨⟨p.it.key, p.it.vec, q.it.tags⟩, p.A, p.n, p.c⟩ (.slice p.A p.n p.c) (List.getElem?_set_self hjl) (by omega) rfl
  rw [List.set_set] at h2
  have h3 := h2.setAt (fun _ => rfl) j 2 _ p (.int .i64 p.it.tags) (List.getElem?_set_self hjl) (by omega) rfl
  rw [List.set_set] at h3
  refine ⟨h3, ?_⟩
  refine Chg.setCell (Chg.setCell (Chg.setCell (Chg.refl _ w) _ ?_) _ ?_) _ ?_ <;> (intro _; rfl)
set_option maxHeartbeats 1000000 in
theorem toItemS (l0 h0 : Nat) (A : Option Addr) (n c : Nat) (xs : List It) (w : World) (hx : RItems w l0 h0 A n c xs) (hn : n ≤ 1048576) (hbd : ∀ x ∈ xs, x.vec.length ≤ 1048576) :
    Calls Try.prog 25 #[.slice A n c] w (RetItemsD xs w) := by
  have hnc := hx.le; have hcm := hx.cap
  have HX := hid hx
  have HB := hid hbd
  clear hx hbd
  obtain ⟨i0, hi, hz0, hz1, hz2⟩ := info_parts infoItem
  go_enter Try.func25, Try.ntmps25
  go_wp2_with (at_make; refine wpList_make_full _ rfl _ _ 26 rfl w.heap.size 36 i0 _ 3 Try.underlying26 hi hz0 hz1 _ _ _ _ n rfl rfl rfl rfl (by rw [hz2]; omega) (by unfold maxLen; omega) (Nat.le_refl _) ?_; intro w1 hown hg1)
  have hc1 : Chg No w w1 := (Chg.refl No w).grown hg1 (fun k hk => by cases hk)
  have e1 : (madeCells (Value.agg #[.int .i64 0, .slice none 0 0, .int .i64 0]).cells (n * 3)).toList = (List.replicate n zIt).flatMap cItem := by
    have h9 := madeK [.int .i64 0, .slice none 0 0, .int .i64 0] (by simp) n
    rw [flat_const [.int .i64 0, .slice none 0 0, .int .i64 0] zIt cItem rfl n] at h9
    exact h9
  rw [e1] at hown
  have hO : OSl 36 3 cItem w1 w.heap.size (.slice (some ⟨w.heap.size, 0, none⟩) n n) (List.replicate n zIt) := by
    show w1.ownsRow _ _ _ _ _ _
    rw [List.length_replicate]; exact hown
  clear hown hg1 hi hz0 hz1 hz2 e1
  generalize hg : w.heap.size = g at *
  have HO := hid hO
  have HG := hid hg
  clear hO hg
  go_loopw [4] (fun i wr => ∃ k : Nat, k ≤ n ∧ i = .int .i64 k ∧ Chg No w wr ∧ ∃ qs : List ItP, qs.length = k ∧ Hid (qs.map (·.it) = xs.take k) ∧ Hid (OSl 36 3 cItem wr g (.slice (some ⟨g, 0, none⟩) n n) (qs ++ List.replicate (n - k) zIt)) ∧ Hid (∀ q ∈ qs, TInts wr g wr.heap.size q.A q.n q.c q.it.vec) ∧ Hid (Apart (qs.map fun p => (p.A, p.n)))) (fun i _ => n - (intOf i).toNat)
  case atStart => exact ⟨0, Nat.zero_le _, rfl, hc1, [], rfl, rfl, HO, (fun q hq => by cases hq), List.Pairwise.nil⟩
  case round =>
    clear HO
    obtain ⟨k, hk, rfl, hc, qs, hql, HQ, HO, HI, HA⟩ := hrel
    by_cases hlt : k < n
    · obtain ⟨b, o, z, rfl, _, _, hzk, hE⟩ := (HX.out.no hc).at_ hlt
      obtain ⟨zk, zv, zt⟩ := z
      obtain ⟨hE1, ⟨A1, n1, c1, hE2, hv⟩, hE3⟩ := hE
      have hE1 : wr.cell? ⟨b, o + k * 3, none⟩ = some (.int .i64 zk) := hE1
      have hE3 : wr.cell? ⟨b, o + k * 3 + 2, none⟩ = some (.int .i64 zt) := hE3
      have HV := hid hv
      have Hzk := hid hzk
      have hvn : n1 ≤ 1048576 := by have h9 : zv.length = n1 := hv.len; have h8 := HB.out _ (List.mem_of_getElem? hzk); simp only [] at h8; omega
      have HQL := hid hql
      clear hzk hv hql
      (go_wp2_with fail; (with_reducible refine (toItem _ _ _ _ _ _ _ zv _ HV.out hvn).mono ?_); rintro e w2 ⟨A2, n2, c2, rfl, ht2, hc2⟩)
      have hgw : w.heap.size ≤ g := by rw [HG.out]; exact Nat.le_refl _
      have HO2 := hid (HO.out.no hc2)
      have hat : (qs ++ List.replicate (n - k) zIt)[k]? = some zIt := by
        rw [List.getElem?_append_right (by rw [HQL.out]; exact Nat.le_refl _), HQL.out, Nat.sub_self, List.getElem?_replicate, if_pos (by omega)]
      have c1' : w2.cell? ⟨g, k * 3, none⟩ = some (.int .i64 0) := HO2.out.cell (fun _ => rfl) (i := 0) hat rfl
      have c2' : w2.cell? ⟨g, k * 3 + 1, none⟩ = some (.slice none 0 0) := HO2.out.cell (fun _ => rfl) (i := 1) hat rfl
      have c3' : w2.cell? ⟨g, k * 3 + 2, none⟩ = some (.int .i64 0) := HO2.out.cell (fun _ => rfl) (i := 2) hat rfl
      have z1 : w2.frozen? ⟨g, k * 3, none⟩ = false := HO2.out.free _
      have z2 : w2.frozen? ⟨g, k * 3 + 1, none⟩ = false := HO2.out.free _
      have z3 : w2.frozen? ⟨g, k * 3 + 2, none⟩ = false := HO2.out.free _
      have hsz2 := hc2.size
      have hgr := (HO.out.base_lt).2
      have hI2 : ∀ q ∈ qs, TInts w2 g w2.heap.size q.A q.n q.c q.it.vec := fun q hq => ((HI.out q hq).keep hc2 (fun _ _ _ e => e)).wide (Nat.le_refl _) hsz2
      have hset : (qs ++ List.replicate (n - k) zIt).set k ⟨⟨zk, zv, zt⟩, A2, n2, c2⟩ = (qs ++ [⟨⟨zk, zv, zt⟩, A2, n2, c2⟩]) ++ List.replicate (n - (k + 1)) zIt := by
        rw [List.set_append, if_neg (by rw [HQL.out]; omega), HQL.out, Nat.sub_self, show n - k = n - (k + 1) + 1 from by omega, List.replicate_succ, List.set_cons_zero, List.append_assoc]
        rfl
      have hAp : Apart ((qs ++ [(⟨⟨zk, zv, zt⟩, A2, n2, c2⟩ : ItP)]).map fun p => (p.A, p.n)) := by
        rw [List.map_append]
        refine Apart.push (B := wr.heap.size) HA.out (fun q hq => ?_) (tints_ge ht2)
        obtain ⟨r, hr, rfl⟩ := List.mem_map.1 hq
        exact OItemsD.lt HI.out r hr
      obtain ⟨hst, hcs⟩ := item_store (p := ⟨⟨zk, zv, zt⟩, A2, n2, c2⟩) hat HO2.out
      rw [hset] at hst
      obtain ⟨cs, fr, hg9⟩ := own_typed HO2.out g rfl
      have HO3 := hid hst
      have HI3 := hid (show ∀ q ∈ qs ++ [(⟨⟨zk, zv, zt⟩, A2, n2, c2⟩ : ItP)], TInts (((w2.setCell ⟨g, k * 3, none⟩ (.int .i64 zk)).setCell ⟨g, k * 3 + 1, none⟩ (.slice A2 n2 c2)).setCell ⟨g, k * 3 + 2, none⟩ (.int .i64 zt)) g (((w2.setCell ⟨g, k * 3, none⟩ (.int .i64 zk)).setCell ⟨g, k * 3 + 1, none⟩ (.slice A2 n2 c2)).setCell ⟨g, k * 3 + 2, none⟩ (.int .i64 zt)).heap.size q.A q.n q.c q.it.vec from fun q hq => by
        refine TInts.wide (hi := w2.heap.size) (lo := g) ?_ (Nat.le_refl _) (by simp)
        rcases List.mem_append.1 hq with hq | hq
        · exact (hI2 q hq).other hcs hg9 (by decide)
        · rw [List.mem_singleton.1 hq]
          exact (ht2.wide (lo' := g) (hi' := w2.heap.size) (by omega) (Nat.le_refl _)).other hcs hg9 (by decide))
      have HA3 := hid hAp
      have HQ3 : Hid ((qs ++ [(⟨⟨zk, zv, zt⟩, A2, n2, c2⟩ : ItP)]).map (·.it) = xs.take (k + 1)) := by show _ = _; rw [take_snoc Hzk.out, List.map_append, HQ.out]; rfl
      have hl3 : (qs ++ [(⟨⟨zk, zv, zt⟩, A2, n2, c2⟩ : ItP)]).length = k + 1 := by rw [List.length_append, HQL.out]; rfl
      have HL3 := hid hl3
      clear hst hcs hg9 hset hAp hat hI2 ht2 hl3 HO2 HO HI HA HQ
      go_wp2
      go_roundw
      case rel => exact ⟨k + 1, by omega, by go_num, by (repeat (first | (with_reducible exact Chg.refl _ _) | ((with_reducible refine Chg.setNew ?_ _ ?_); rotate_left; first | (dsimp only; omega) | (simp; done) | (simp; omega)) | (with_reducible refine Chg.alloc ?_ _) | (with_reducible refine Chg.drew ?_) | (with_reducible refine Chg.drewN ?_ _) | (with_reducible refine Chg.no ?_ (by assumption)) | (with_reducible refine Chg.and_ ?_ (by assumption)) | ((with_reducible refine Chg.at_ ?_ (by assumption) ?_); rotate_left; (try simp only [World.size_alloc]); omega))), _, HL3.out, HQ3, HO3, HI3, HA3⟩
      case measure => simp [intOf]; omega
    · have hkn : k = n := by omega
      have HE := hid (show OItemsD wr g (.slice (some ⟨g, 0, none⟩) n n) xs from by
        refine ⟨qs, ?_, ?_, HI.out, HA.out⟩
        · rw [HQ.out, List.take_of_length_le (by have := HX.out.len; omega)]
        · have := HO.out
          rw [hkn, Nat.sub_self, List.replicate_zero, List.append_nil] at this
          exact this)
      clear HQ HO HI HA hql
      subst hkn
      go_wp2
      go_ret
      exact ⟨_, rfl, by rw [HG.out]; exact HE.out, hc⟩
set_option maxHeartbeats 1000000 in
theorem eqItem (l0 h0 l1 h1 : Nat) (A B : Option Addr) (n c d : Nat) (key tags : Int) (xs : List Int) (w : World) (hx : RInts w l0 h0 A n c xs) (hy : RInts w l1 h1 B n d xs) :
    Calls Try.prog 75 #[.agg #[.int .i64 key, .slice A n c, .int .i64 tags], .agg #[.int .i64 key, .slice B n d, .int .i64 tags]] w fun e w' => e = .returned (.bool true) ∧ Chg No w w' := by
  have HX := hid hx; have HY := hid hy
  have e0 : (key != key) = false := by simp
  have e1 : (tags != tags) = false := by simp
  have BX := hid ((Box.new (w := w) [.int .i64 key, .slice A n c, .int .i64 tags] 36 rfl).alloc (.cells #[.int .i64 key, .slice B n d, .int .i64 tags] 36))
  have BY := hid (Box.new (w := w.alloc (.cells #[.int .i64 key, .slice A n c, .int .i64 tags] 36)) (g := w.heap.size + 1) [.int .i64 key, .slice B n d, .int .i64 tags] 36 (by simp))
  clear hx hy
  go_enter Try.func75, Try.ntmps75
  (go_wp2_with fail; (with_reducible refine (eqIntS _ _ _ _ _ _ _ _ _ xs _ (HX.out.no (by (repeat (first | (with_reducible exact Chg.refl _ _) | ((with_reducible refine Chg.setNew ?_ _ ?_); rotate_left; first | (dsimp only; omega) | (simp; done) | (simp; omega)) | (with_reducible refine Chg.alloc ?_ _) | (with_reducible refine Chg.drew ?_) | (with_reducible refine Chg.drewN ?_ _) | (with_reducible refine Chg.no ?_ (by assumption)) | (with_reducible refine Chg.and_ ?_ (by assumption)) | ((with_reducible refine Chg.at_ ?_ (by assumption) ?_); rotate_left; (try simp only [World.size_alloc]); omega))))) (HY.out.no (by (repeat (first | (with_reducible exact Chg.refl _ _) | ((with_reducible refine Chg.setNew ?_ _ ?_); rotate_left; first | (dsimp only; omega) | (simp; done) | (simp; omega)) | (with_reducible refine Chg.alloc ?_ _) | (with_reducible refine Chg.drew ?_) | (with_reducible refine Chg.drewN ?_ _) | (with_reducible refine Chg.no ?_ (by assumption)) | (with_reducible refine Chg.and_ ?_ (by assumption)) | ((with_reducible refine Chg.at_ ?_ (by assumption) ?_); rotate_left; (try simp only [World.size_alloc]); omega)))))).mono ?_); rintro e w1 ⟨rfl, hc1⟩)
  have q1 := (BX.out.no hc1).f3
  have q2 := (BY.out.no hc1).f3
  go_wp2
  go_ret
  exact ⟨rfl, by (repeat (first | (with_reducible exact Chg.refl _ _) | ((with_reducible refine Chg.setNew ?_ _ ?_); rotate_left; first | (dsimp only; omega) | (simp; done) | (simp; omega)) | (with_reducible refine Chg.alloc ?_ _) | (with_reducible refine Chg.drew ?_) | (with_reducible refine Chg.drewN ?_ _) | (with_reducible refine Chg.no ?_ (by assumption)) | (with_reducible refine Chg.and_ ?_ (by assumption)) | ((with_reducible refine Chg.at_ ?_ (by assumption) ?_); rotate_left; (try simp only [World.size_alloc]); omega)))⟩
set_option maxHeartbeats 2000000 in
theorem eqItemS (l0 h0 l1 h1 : Nat) (A B : Option Addr) (n c d : Nat) (xs : List It) (w : World) (hx : RItems w l0 h0 A n c xs) (hy : RItems w l1 h1 B n d xs) :
    Calls Try.prog 30 #[.slice A n c, .slice B n d] w fun e w' => e = .returned (.bool true) ∧ Chg No w w' := by
  have hnc := hx.le; have hcm := hx.cap; have hnd := hy.le; have hdm := hy.cap
  have HX := hid hx; have HY := hid hy
  have e0 : ((n : Int) != n) = false := by simp
  clear hx hy
  go_enter Try.func30, Try.ntmps30
  go_wp2
  go_loopw [5] (fun i wr => ∃ k : Nat, k ≤ n ∧ i = .int .i64 k ∧ Chg No w wr) (fun i _ => n - (intOf i).toNat)
  case atStart => exact ⟨0, Nat.zero_le _, rfl, Chg.refl _ _⟩
  case round =>
    obtain ⟨k, hk, rfl, hc⟩ := hrel
    by_cases hlt : k < n
    · obtain ⟨b, o, x, rfl, _, _, hxk, hE⟩ := (HX.out.no hc).at_ hlt
      obtain ⟨b', o', x', rfl, _, _, hxk', hE'⟩ := (HY.out.no hc).at_ hlt
      obtain rfl : x = x' := by rw [hxk] at hxk'; injection hxk'
      obtain ⟨xk, xv, xt⟩ := x
      obtain ⟨hE1, ⟨A1, n1, c1, hE2, hv⟩, hE3⟩ := hE
      obtain ⟨hE1', ⟨A2, n2, c2, hE2', hv'⟩, hE3'⟩ := hE'
      obtain rfl : n1 = n2 := by have h8 : xv.length = n1 := hv.len; have h9 : xv.length = n2 := hv'.len; omega
      have f1 : ∀ p : NB wr, p.wd.cell? ⟨b, o + k * 3, none⟩ = some (.int .i64 xk) := nb_cell hE1
      have f2 : ∀ p : NB wr, p.wd.cell? ⟨b, o + k * 3 + 1, none⟩ = some (.slice A1 n1 c1) := nb_cell hE2
      have f3 : ∀ p : NB wr, p.wd.cell? ⟨b, o + k * 3 + 2, none⟩ = some (.int .i64 xt) := nb_cell hE3
      have f4 : ∀ p : NB wr, p.wd.cell? ⟨b', o' + k * 3, none⟩ = some (.int .i64 xk) := nb_cell hE1'
      have f5 : ∀ p : NB wr, p.wd.cell? ⟨b', o' + k * 3 + 1, none⟩ = some (.slice A2 n1 c2) := nb_cell hE2'
      have f6 : ∀ p : NB wr, p.wd.cell? ⟨b', o' + k * 3 + 2, none⟩ = some (.int .i64 xt) := nb_cell hE3'
      have HV := hid hv; have HV' := hid hv'
      clear hxk hxk' hE1 hE2 hE3 hE1' hE2' hE3' hv hv'
      go_wp2_with fail
      (refine wp_region_nb (by kernel_rfl) (by kernel_rfl) ?_; (repeat (first | go_big_quiet_step ((go_at_call 75; exact nb_of (eqItem _ _ _ _ _ _ _ _ _ _ _ xv _ (HV.out.no (NB.h _)) (HV'.out.no (NB.h _))))) | quiet_step ((go_at_call 75; exact nb_of (eqItem _ _ _ _ _ _ _ _ _ _ _ xv _ (HV.out.no (NB.h _)) (HV'.out.no (NB.h _))))))); (with_reducible refine wpQuiet_nil ?_); intro wq hw1; have hq := nb_out hw1; clear hw1)
      go_wp2
      go_roundw
      case rel => exact ⟨k + 1, by omega, by go_num, by (repeat (first | (with_reducible exact Chg.refl _ _) | ((with_reducible refine Chg.setNew ?_ _ ?_); rotate_left; first | (dsimp only; omega) | (simp; done) | (simp; omega)) | (with_reducible refine Chg.alloc ?_ _) | (with_reducible refine Chg.drew ?_) | (with_reducible refine Chg.drewN ?_ _) | (with_reducible refine Chg.no ?_ (by assumption)) | (with_reducible refine Chg.and_ ?_ (by assumption)) | ((with_reducible refine Chg.at_ ?_ (by assumption) ?_); rotate_left; (try simp only [World.size_alloc]); omega)))⟩
      case measure => simp [intOf]; omega
    · go_wp2
      go_ret
      exact ⟨rfl, by (repeat (first | (with_reducible exact Chg.refl _ _) | ((with_reducible refine Chg.setNew ?_ _ ?_); rotate_left; first | (dsimp only; omega) | (simp; done) | (simp; omega)) | (with_reducible refine Chg.alloc ?_ _) | (with_reducible refine Chg.drew ?_) | (with_reducible refine Chg.drewN ?_ _) | (with_reducible refine Chg.no ?_ (by assumption)) | (with_reducible refine Chg.and_ ?_ (by assumption)) | ((with_reducible refine Chg.at_ ?_ (by assumption) ?_); rotate_left; (try simp only [World.size_alloc]); omega)))⟩
set_option maxHeartbeats 2000000 in
theorem markItemS (base hi : Nat) (A : Option Addr) (n c : Nat) (xs : List It) (k : Int) (w : World) (h : OItemsR w base hi (.slice A n c) xs) (h0 : 0 ≤ k) (h1 : k + costI xs ≤ 1000000000000000) :
    Calls Try.prog 33 #[.slice A n c, .int .i64 k] w fun e w' => e = .returned (.int .i64 (k + costI xs)) ∧ OItemsR w' base hi (.slice A n c) (markedI k xs) ∧ Chg (fun b => base ≤ b ∧ b < hi) w w' := by
  obtain ⟨A', c', hv, hnc, hcm, _⟩ := (show ∃ A' c', Value.slice A n c = .slice A' xs.length c' ∧ xs.length ≤ c' ∧ c' ≤ maxLen ∧ True from by
    obtain ⟨_, ps, rfl, ho, _⟩ := h
    obtain ⟨A', c', h2, h3, h4, _⟩ := ho.form
    exact ⟨A', c', by rw [h2, List.length_map], by rw [List.length_map]; exact h3, h4, trivial⟩)
  injection hv with e1 e2 e3
  subst e1 e3
  unfold maxLen at hcm
  have HT := hid h
  have HN := hid e2
  have hnc' : n ≤ c := by omega
  have hn0 := costI_nonneg xs
  have HC := hid h1
  clear h e2 hnc h1
  go_enter Try.func33, Try.ntmps33
  go_wp2
  go_loopw [1, 5] (fun q i wr => ∃ j : Nat, j ≤ n ∧ i = .int .i64 j ∧ q = .int .i64 (k + costI (xs.take j)) ∧ Chg (fun b => base ≤ b ∧ b < hi) w wr ∧ Hid (OItemsR wr base hi (.slice A n c) (markedI k (xs.take j) ++ xs.drop j))) (fun _ i _ => n - (intOf i).toNat)
  case atStart => exact ⟨0, Nat.zero_le _, rfl, by simp [costI], Chg.refl _ _, by show OItemsR _ _ _ _ _; simpa [markedI] using HT.out⟩
  case round =>
    clear HT
    obtain ⟨j, hj, rfl, rfl, hc, HT⟩ := hrel
    by_cases hlt : j < n
    · have hlx : j < xs.length := by have := HN.out; omega
      obtain ⟨x, hx⟩ : ∃ x, xs[j]? = some x := ⟨_, List.getElem?_eq_getElem hlx⟩
      have hnext := mark_next k hx
      have hset := mark_set k hx
      have hcs := costI_snoc hx
      have hcl : costI (xs.take (j + 1)) ≤ costI xs := by
        have h9 := costI_app (xs.take (j + 1)) (xs.drop (j + 1))
        rw [List.take_append_drop] at h9
        have := costI_nonneg (xs.drop (j + 1))
        omega
      have hcn := costI_nonneg (xs.take j)
      obtain ⟨hh, ps, hps, ho, hi9, ha⟩ := HT.out
      rw [← hps] at hnext
      obtain ⟨p, hp, rfl⟩ := getE?_of_map hnext
      have hC := HC.out
      obtain ⟨q, hq⟩ : ∃ q, k + costI (xs.take j) = q := ⟨_, rfl⟩
      have HCS : Hid (k + costI (xs.take (j + 1)) = q + (2 + (p.it.vec.length : Int))) := by show _ = _; rw [hcs]; omega
      have hq0 : 0 ≤ q := by omega
      have hq1 : q + (2 + (p.it.vec.length : Int)) ≤ 1000000000000000 := by omega
      rw [hq] at hset
      rw [hq]
      have HSET := hid hset
      have HPS := hid hps
      clear hset hps hcs hcl hcn hC hq hnext
      have hpl : j < ps.length := (List.getElem?_eq_some_iff.1 hp).1
      obtain ⟨A9, c9, hv9, _, _, hA9⟩ := ho.form
      injection hv9 with v1 v2 v3
      obtain ⟨g, hAg, hgb, hgl⟩ := hA9 (by omega)
      have hgh : base ≤ g ∧ g < hi := ⟨hgb, hh g (by rw [v1, hAg]; rfl)⟩
      rw [hAg] at v1
      subst v1
      have HH9 := hid hh
      clear hA9 v2 v3 hAg hh
      have c1 : wr.cell? ⟨g, j * 3, none⟩ = some (.int .i64 p.it.key) := ho.cell (fun _ => rfl) (i := 0) hp rfl
      have z1 : wr.frozen? ⟨g, j * 3, none⟩ = false := ho.free _
      have hk := ho.setAt (fun _ => rfl) j 0 p ⟨⟨q, p.it.vec, p.it.tags⟩, p.A, p.n, p.c⟩ (.int .i64 q) hp (by omega) rfl
      have hkc : Chg (fun k => k = g) wr (wr.setCell ⟨g, j * 3, none⟩ (.int .i64 q)) := Chg.setCell (Chg.refl _ wr) _ (fun _ => rfl)
      obtain ⟨cs, fr, hg9⟩ := own_typed ho g rfl
      have hi1 : ∀ r ∈ ps, TInts (wr.setCell ⟨g, j * 3, none⟩ (.int .i64 q)) base hi r.A r.n r.c r.it.vec := fun r hr => (hi9 r hr).other hkc hg9 (by decide)
      have hpt := hi1 p (List.mem_of_getElem? hp)
      have hpn : p.it.vec.length = p.n := hpt.1.len
      have hkj : (ps.set j ⟨⟨q, p.it.vec, p.it.tags⟩, p.A, p.n, p.c⟩)[j]? = some ⟨⟨q, p.it.vec, p.it.tags⟩, p.A, p.n, p.c⟩ := List.getElem?_set_self hpl
      have c2 : (wr.setCell ⟨g, j * 3, none⟩ (.int .i64 q)).cell? ⟨g, j * 3 + 1, none⟩ = some (.slice p.A p.n p.c) := hk.cell (fun _ => rfl) (i := 1) hkj rfl
      have HPT := hid hpt
      have hq2 : q + 1 + (p.n : Int) ≤ 1000000000000000 := by omega
      have HHK := hid hk; have HI1 := hid hi1; have HA := hid ha; have HP := hid hp; have HKJ := hid hkj; have HPN := hid hpn
      have hg9' := hid hg9
      clear hk hi1 ha hp hkj hpt hi9 ho hpn hg9 hx hkc
      (go_wp2_with fail; (with_reducible refine (markIntS base hi p.A p.n p.c p.it.vec (q + 1) _ HPT.out (by omega) hq2).mono ?_); rintro e w2 ⟨rfl, ht2, hc2⟩)
      have hO2 := HHK.out.ints HPT.out hc2 (by decide)
      have c3 : w2.cell? ⟨g, j * 3 + 2, none⟩ = some (.int .i64 p.it.tags) := hO2.cell (fun _ => rfl) (i := 2) HKJ.out rfl
      have z3 : w2.frozen? ⟨g, j * 3 + 2, none⟩ = false := hO2.free _
      have hO3 := hO2.setAt (fun _ => rfl) j 2 _ ⟨⟨q, p.it.vec, q + 1 + (p.n : Int)⟩, p.A, p.n, p.c⟩ (.int .i64 (q + 1 + (p.n : Int))) HKJ.out (by omega) rfl
      rw [List.set_set] at hO3
      have hkc3 : Chg (fun k => k = g) w2 (w2.setCell ⟨g, j * 3 + 2, none⟩ (.int .i64 (q + 1 + (p.n : Int)))) := Chg.setCell (Chg.refl _ w2) _ (fun _ => rfl)
      obtain ⟨cs2, fr2, hg2⟩ := own_typed hO2 g rfl
      have HE := hid (show OItemsR (w2.setCell ⟨g, j * 3 + 2, none⟩ (.int .i64 (q + 1 + (p.n : Int)))) base hi (.slice (some ⟨g, 0, none⟩) n c) (markedI k (xs.take (j + 1)) ++ xs.drop (j + 1)) from by
        refine ⟨HH9.out, ps.set j ⟨markIt q p.it, p.A, p.n, p.c⟩, ?_, ?_, fun r hr => ?_, ?_⟩
        · rw [List.map_set, HPS.out]; exact HSET.out
        · unfold OSl at hO3 ⊢
          rw [List.length_set] at hO3 ⊢
          have e9 : (ps.set j ⟨markIt q p.it, p.A, p.n, p.c⟩).flatMap cItem = (ps.set j ⟨⟨q, p.it.vec, q + 1 + (p.n : Int)⟩, p.A, p.n, p.c⟩).flatMap cItem := by
            rw [List.flatMap_def, List.flatMap_def, List.map_set, List.map_set]
            unfold markIt cItem
            rw [HPN.out]
          rw [e9]; exact hO3
        · obtain ⟨i, hri⟩ := List.getElem?_of_mem hr
          rcases mem_set_ne hri with ⟨_, rfl⟩ | ⟨hij, hri⟩
          · refine TInts.other (w := w2) ?_ hkc3 hg2 (by decide)
            show TInts w2 base hi p.A p.n p.c (cntL (q + 1) p.it.vec.length)
            rw [HPN.out]; exact ht2
          · exact ((HI1.out r (List.mem_of_getElem? hri)).apart hc2 (fun h0 h1 b o b' o' h2 h3 => apart_at HA.out (i := i) (j := j) (p := (r.A, r.n)) (q := (p.A, p.n)) (by rw [List.getElem?_map, hri]; rfl) (by rw [List.getElem?_map, HP.out]; rfl) hij h0 h1 h2 h3)).other hkc3 hg2 (by decide)
        · rw [List.map_set]
          have e : (ps.map fun p => (p.A, p.n)).set j (p.A, p.n) = ps.map fun p => (p.A, p.n) := by
            apply List.ext_getElem?
            intro i
            by_cases hij : j = i
            · subst hij
              rw [List.getElem?_set_self (by rw [List.length_map]; exact hpl), List.getElem?_map, HP.out]; rfl
            · rw [List.getElem?_set_ne hij]
          rw [e]; exact HA.out)
      have hcE : Chg (fun b => base ≤ b ∧ b < hi) w (w2.setCell ⟨g, j * 3 + 2, none⟩ (.int .i64 (q + 1 + (p.n : Int)))) := by
        refine Chg.setCell (Chg.and_ (Chg.setCell hc _ (fun _ => hgh)) (HPT.out.blk hc2 (fun k h1 h2 => ⟨h1, h2⟩))) _ (fun _ => hgh)
      have HQ : Hid (k + costI (xs.take (j + 1)) = q + 1 + (p.n : Int) + 1) := by show _ = _; rw [HCS.out, HPN.out]; omega
      clear ht2 hc2 hO2 hO3 hkc3 hg2 HHK HI1 HA HPT HKJ HP HSET HPS HT
      go_wp2
      go_roundw
      case rel => exact ⟨j + 1, by omega, by go_num, by rw [HQ.out], hcE, HE⟩
      case measure => simp [intOf]; omega
    · have hjn : j = n := by omega
      have HE := hid (show OItemsR wr base hi (.slice A n c) (markedI k xs) from by
        have := HT.out
        rw [hjn, List.take_of_length_le (by rw [HN.out]; exact Nat.le_refl _), List.drop_of_length_le (by rw [HN.out]; exact Nat.le_refl _), List.append_nil] at this
        exact this)
      have HQ : Hid (costI (xs.take j) = costI xs) := by show _ = _; rw [hjn, List.take_of_length_le (by rw [HN.out]; exact Nat.le_refl _)]
      clear HT
      rw [HQ.out]
      subst hjn
      go_wp2
      go_ret
      exact ⟨rfl, HE.out, hc⟩
set_option maxHeartbeats 1000000 in
theorem markHitS (base hi : Nat) (A : Option Addr) (n c : Nat) (xs : List (Int × Int)) (k : Int) (w : World) (h : OHits w base (.slice A n c) xs) (hh : ∀ g, (Value.slice A n c).ownBlock = some g → g < hi) (h0 : 0 ≤ k) (h1 : k + 2 * (n : Int) ≤ 1000000000000000) :
    Calls Try.prog 35 #[.slice A n c, .int .i64 k] w fun e w' => e = .returned (.int .i64 (k + 2 * (n : Int))) ∧ OHits w' base (.slice A n c) (cntH k n) ∧ Chg (fun b => base ≤ b ∧ b < hi) w w' := by
  obtain ⟨A', c', hv, hnc, hcm, _⟩ := OSl.form h
  injection hv with e1 e2 e3
  subst e1 e3
  unfold maxLen at hcm
  have HT := hid h
  have HL := hid (show xs.length = n from e2.symm)
  have hnc' : n ≤ c := by omega
  have HH9 := hid hh
  clear h e2 hnc hh
  go_enter Try.func35, Try.ntmps35
  go_wp2
  go_loopw [1, 5] (fun q i wr => ∃ j : Nat, j ≤ n ∧ i = .int .i64 j ∧ q = .int .i64 (k + 2 * (j : Int)) ∧ Chg (fun b => base ≤ b ∧ b < hi) w wr ∧ Hid (OHits wr base (.slice A n c) (cntH k j ++ xs.drop j))) (fun _ i _ => n - (intOf i).toNat)
  case atStart => exact ⟨0, Nat.zero_le _, rfl, by simp, Chg.refl _ _, by show OHits _ _ _ _; simpa [cntH] using HT.out⟩
  case round =>
    clear HT
    obtain ⟨j, hj, rfl, rfl, hc, HT⟩ := hrel
    by_cases hlt : j < n
    · have hlx : j < xs.length := by have := HL.out; omega
      obtain ⟨A9, c9, hv9, _, _, hA9⟩ := OSl.form HT.out
      injection hv9 with v1 v2 v3
      obtain ⟨g, hAg, hgb, hgl⟩ := hA9 (by omega)
      have hgh : base ≤ g ∧ g < hi := ⟨hgb, HH9.out g (by rw [v1, hAg]; rfl)⟩
      rw [hAg] at v1
      subst v1
      have hnx := cntH_next (k := k) hlx
      obtain ⟨y, hy⟩ : ∃ y, xs[j]'hlx = y := ⟨_, rfl⟩
      rw [hy] at hnx
      have c1 : wr.cell? ⟨g, j * 2, none⟩ = some (.int .i64 y.1) := HT.out.cell (fun _ => rfl) (i := 0) hnx rfl
      have c2 : wr.cell? ⟨g, j * 2 + 1, none⟩ = some (.int .i64 y.2) := HT.out.cell (fun _ => rfl) (i := 1) hnx rfl
      have z1 : wr.frozen? ⟨g, j * 2, none⟩ = false := HT.out.free _
      have z2 : wr.frozen? ⟨g, j * 2 + 1, none⟩ = false := HT.out.free _
      have HT3 : Hid (OHits ((wr.setCell ⟨g, j * 2, none⟩ (.int .i64 (k + 2 * (j : Int)))).setCell ⟨g, j * 2 + 1, none⟩ (.int .i64 (k + 2 * (j : Int) + 1))) base (.slice (some ⟨g, 0, none⟩) n c) (cntH k (j + 1) ++ xs.drop (j + 1))) := by
        have := OSl.set2 HT.out (fun _ => rfl) j (k + 2 * (j : Int), k + 2 * (j : Int) + 1) _ _ rfl
        rw [cntH_set hlx] at this
        exact this
      have hc2 : Chg (fun b => base ≤ b ∧ b < hi) w ((wr.setCell ⟨g, j * 2, none⟩ (.int .i64 (k + 2 * (j : Int)))).setCell ⟨g, j * 2 + 1, none⟩ (.int .i64 (k + 2 * (j : Int) + 1))) := Chg.setCell (Chg.setCell hc _ (fun _ => hgh)) _ (fun _ => hgh)
      clear hA9 v2 v3 hAg hnx hy
      go_wp2
      go_roundw
      case rel => exact ⟨j + 1, by omega, by go_num, by congr 1; omega, hc2, HT3⟩
      case measure => simp [intOf]; omega
    · have hjn : j = n := by omega
      have HE := hid (show OHits wr base (.slice A n c) (cntH k n) from by
        have := HT.out
        rw [hjn, List.drop_of_length_le (by rw [HL.out]; exact Nat.le_refl _), List.append_nil] at this
        exact this)
      clear HT
      subst hjn
      go_wp2
      go_ret
      exact ⟨rfl, HE.out, hc⟩
set_option maxHeartbeats 1000000 in
theorem heldHitS (l0 h0 : Nat) (A : Option Addr) (n c : Nat) (k : Int) (w : World) (h : RHits w l0 h0 A n c (cntH k n)) (hk0 : 0 ≤ k) (h1 : k + 2 * (n : Int) ≤ 1000000000000000) :
    Calls Try.prog 36 #[.slice A n c, .int .i64 k] w fun e w' => e = .returned (.int .i64 (k + 2 * (n : Int))) ∧ w = w' := by
  have hnc := h.le; have hcm := h.cap
  have HX := hid h
  clear h
  go_enter Try.func36, Try.ntmps36
  go_wp2
  go_loop [1, 5] (fun q i => ∃ j : Nat, j ≤ n ∧ i = .int .i64 j ∧ q = .int .i64 (k + 2 * (j : Int))) (fun _ i => n - (intOf i).toNat)
  case atStart => exact ⟨0, Nat.zero_le _, rfl, by simp⟩
  case round =>
    obtain ⟨j, hj, rfl, rfl⟩ := hrel
    by_cases hlt : j < n
    · obtain ⟨b, o, z, rfl, _, _, hzk, hE⟩ := HX.out.at_ hlt
      obtain rfl : (k + 2 * (j : Int), k + 2 * (j : Int) + 1) = z := by rw [cntH_at hlt] at hzk; injection hzk
      have hE1 : w.cell? ⟨b, o + j * 2, none⟩ = some (.int .i64 (k + 2 * (j : Int))) := hE.1
      have hE2 : w.cell? ⟨b, o + j * 2 + 1, none⟩ = some (.int .i64 (k + 2 * (j : Int) + 1)) := hE.2
      have e1 : ((k + 2 * (j : Int)) != (k + 2 * (j : Int))) = false := by simp
      have e2 : ((k + 2 * (j : Int) + 1) != (k + 2 * (j : Int) + 1)) = false := by simp
      clear hzk hE
      go_wp2
      go_round
      case rel => exact ⟨j + 1, by omega, by go_num, by congr 1; omega⟩
      case measure => simp [intOf]; omega
    · have hjn : j = n := by omega
      subst hjn
      go_wp2
      go_ret
      exact ⟨rfl, rfl⟩
/-- the rows are not too many-/
def SzRows (xs : List (List Int)) (left : Int) (w : World) (e : Ending) (w' : World) : Prop := ∃ r : Int, e = .returned (.int .i64 r) ∧ Chg No w w' ∧ -1 ≤ r ∧ r ≤ left ∧ (0 ≤ r → (xs.length : Int) ≤ left ∧ ∀ x ∈ xs, (x.length : Int) ≤ left)
set_option maxHeartbeats 1000000 in
theorem szIntSS (l0 h0 : Nat) (A : Option Addr) (n c : Nat) (xs : List (List Int)) (left : Int) (w : World) (hx : RRows w l0 h0 A n c xs) (h0' : 0 ≤ left) (h1 : left ≤ 1048576) :
    Calls Try.prog 21 #[.slice A n c, .int .i64 left] w (SzRows xs left w) := by
  have hnc := hx.le; have hcm := hx.cap
  have HX := hid hx
  clear hx
  by_cases hbig : left < (n : Int)
  · go_enter Try.func21, Try.ntmps21
    go_wp2
    go_ret
    exact ⟨-1, rfl, Chg.refl _ _, by omega, by omega, fun h => absurd h (by omega)⟩
  · have hb2 : (n : Int) ≤ left := by omega
    clear hbig
    go_enter Try.func21, Try.ntmps21
    go_wp2
    go_loopw [1, 5] (fun q i wr => ∃ (k : Nat) (r : Int), k ≤ n ∧ i = .int .i64 k ∧ q = .int .i64 r ∧ 0 ≤ r ∧ r ≤ left ∧ Chg No w wr ∧ Hid (∀ x ∈ xs.take k, (x.length : Int) ≤ left)) (fun _ i _ => n - (intOf i).toNat)
    case atStart => exact ⟨0, left - n, Nat.zero_le _, rfl, rfl, by omega, by omega, Chg.refl _ _, by show ∀ x ∈ xs.take 0, _; simp⟩
    case round =>
      obtain ⟨k, r, hk, rfl, rfl, hr0, hr1, hc, HA⟩ := hrel
      by_cases hlt : k < n
      · obtain ⟨b, o, z, rfl, _, _, hzk, A1, n1, c1, hE2, hv⟩ := (HX.out.no hc).at_ hlt
        have hE3 : wr.cell? ⟨b, o + k, none⟩ = some (.slice A1 n1 c1) := by simpa using hE2
        have hn1c := hv.cap; have hn1l := hv.le
        have hlen : z.length = n1 := hv.len
        have Hzk := hid hzk
        clear hzk hv hE2
        by_cases hfit : (n1 : Int) ≤ r
        · have HA2 : Hid (∀ x ∈ xs.take (k + 1), (x.length : Int) ≤ left) := by
            show ∀ x ∈ xs.take (k + 1), _
            rw [take_snoc Hzk.out]
            intro x hx
            rcases List.mem_append.1 hx with hx | hx
            · exact HA.out x hx
            · rw [List.mem_singleton.1 hx]; omega
          clear hlen
          (go_wp2_with fail; (with_reducible refine (szIntS_ok _ _ _ _ _ (by omega) hr0 (by omega) hfit).mono ?_); rintro e w1 ⟨rfl, rfl⟩)
          go_wp2
          go_roundw
          case rel => exact ⟨k + 1, r - n1, by omega, by go_num, rfl, by omega, by omega, by (repeat (first | (with_reducible exact Chg.refl _ _) | ((with_reducible refine Chg.setNew ?_ _ ?_); rotate_left; first | (dsimp only; omega) | (simp; done) | (simp; omega)) | (with_reducible refine Chg.alloc ?_ _) | (with_reducible refine Chg.drew ?_) | (with_reducible refine Chg.drewN ?_ _) | (with_reducible refine Chg.no ?_ (by assumption)) | (with_reducible refine Chg.and_ ?_ (by assumption)) | ((with_reducible refine Chg.at_ ?_ (by assumption) ?_); rotate_left; (try simp only [World.size_alloc]); omega))), HA2⟩
          case measure => simp [intOf]; omega
        · clear hlen
          (go_wp2_with fail; (with_reducible refine (szIntS_no _ _ _ _ _ (by omega) hr0 (by omega) (by omega)).mono ?_); rintro e w1 ⟨rfl, rfl⟩)
          go_wp2
          go_ret
          exact ⟨-1, rfl, by (repeat (first | (with_reducible exact Chg.refl _ _) | ((with_reducible refine Chg.setNew ?_ _ ?_); rotate_left; first | (dsimp only; omega) | (simp; done) | (simp; omega)) | (with_reducible refine Chg.alloc ?_ _) | (with_reducible refine Chg.drew ?_) | (with_reducible refine Chg.drewN ?_ _) | (with_reducible refine Chg.no ?_ (by assumption)) | (with_reducible refine Chg.and_ ?_ (by assumption)) | ((with_reducible refine Chg.at_ ?_ (by assumption) ?_); rotate_left; (try simp only [World.size_alloc]); omega))), by omega, by omega, fun h => absurd h (by omega)⟩
      · have hA := HA.out
        rw [List.take_of_length_le (by have := HX.out.len; omega)] at hA
        have HA2 := hid hA
        have HL := hid HX.out.len
        clear hA HA
        go_wp2
        go_ret
        exact ⟨r, rfl, hc, by omega, by omega, fun _ => ⟨by rw [HL.out]; omega, HA2.out⟩⟩
def zRw : RwP := ⟨[], none, 0, 0⟩
set_option maxHeartbeats 1000000 in
theorem toIntSS (l0 h0 : Nat) (A : Option Addr) (n c : Nat) (xs : List (List Int)) (w : World) (hx : RRows w l0 h0 A n c xs) (hn : n ≤ 1048576) (hbd : ∀ x ∈ xs, x.length ≤ 1048576) :
    Calls Try.prog 24 #[.slice A n c] w (RetRows xs w) := by
  have hnc := hx.le; have hcm := hx.cap
  have HX := hid hx
  have HB := hid hbd
  clear hx hbd
  obtain ⟨i0, hi, hz0, hz1, hz2⟩ := info_parts infoRow
  go_enter Try.func24, Try.ntmps24
  go_wp2_with (at_make; refine wpList_make_full _ rfl _ _ 23 rfl w.heap.size 27 i0 _ 1 Try.underlying23 hi hz0 hz1 _ _ _ _ n rfl rfl rfl rfl (by rw [hz2]; omega) (by unfold maxLen; omega) (Nat.le_refl _) ?_; intro w1 hown hg1)
  have hc1 : Chg No w w1 := (Chg.refl No w).grown hg1 (fun k hk => by cases hk)
  have e1 : (madeCells (Value.slice none 0 0).cells (n * 1)).toList = (List.replicate n zRw).flatMap cRow := by
    have h9 := madeK [.slice none 0 0] (by simp) n
    rw [flat_const [.slice none 0 0] zRw cRow rfl n] at h9
    exact h9
  rw [e1] at hown
  have hO : OSl 27 1 cRow w1 w.heap.size (.slice (some ⟨w.heap.size, 0, none⟩) n n) (List.replicate n zRw) := by
    show w1.ownsRow _ _ _ _ _ _
    rw [List.length_replicate]; exact hown
  clear hown hg1 hi hz0 hz1 hz2 e1
  generalize hg : w.heap.size = g at *
  have HO := hid hO
  have HG := hid hg
  clear hO hg
  go_loopw [4] (fun i wr => ∃ k : Nat, k ≤ n ∧ i = .int .i64 k ∧ Chg No w wr ∧ ∃ qs : List RwP, qs.length = k ∧ Hid (qs.map (·.row) = xs.take k) ∧ Hid (OSl 27 1 cRow wr g (.slice (some ⟨g, 0, none⟩) n n) (qs ++ List.replicate (n - k) zRw)) ∧ Hid (∀ q ∈ qs, TInts wr g wr.heap.size q.A q.n q.c q.row) ∧ Hid (Apart (qs.map fun p => (p.A, p.n)))) (fun i _ => n - (intOf i).toNat)
  case atStart => exact ⟨0, Nat.zero_le _, rfl, hc1, [], rfl, rfl, HO, (fun q hq => by cases hq), List.Pairwise.nil⟩
  case round =>
    clear HO
    obtain ⟨k, hk, rfl, hc, qs, hql, HQ, HO, HI, HA⟩ := hrel
    by_cases hlt : k < n
    · obtain ⟨b, o, z, rfl, _, _, hzk, A1, n1, c1, hE2, hv⟩ := (HX.out.no hc).at_ hlt
      have hE3 : wr.cell? ⟨b, o + k, none⟩ = some (.slice A1 n1 c1) := by simpa using hE2
      have HV := hid hv
      have Hzk := hid hzk
      have hvn : n1 ≤ 1048576 := by have h9 : z.length = n1 := hv.len; have h8 := HB.out _ (List.mem_of_getElem? hzk); omega
      have HQL := hid hql
      clear hzk hv hql hE2
      (go_wp2_with fail; (with_reducible refine (toIntS _ _ _ _ _ z _ HV.out hvn).mono ?_); rintro e w2 ⟨v2, rfl, ho2, hc2⟩)
      obtain ⟨A2, c2, rfl, ht2⟩ := OInts.typed ho2
      have hgw : w.heap.size ≤ g := by rw [HG.out]; exact Nat.le_refl _
      have HO2 := hid (HO.out.no hc2)
      have hat : (qs ++ List.replicate (n - k) zRw)[k]? = some zRw := by
        rw [List.getElem?_append_right (by rw [HQL.out]; exact Nat.le_refl _), HQL.out, Nat.sub_self, List.getElem?_replicate, if_pos (by omega)]
      have c1' : w2.cell? ⟨g, k, none⟩ = some (.slice none 0 0) := by have h9 : w2.cell? ⟨g, k * 1 + 0, none⟩ = some (.slice none 0 0) := HO2.out.cell (fun _ => rfl) (i := 0) hat rfl; simpa using h9
      have z1 : w2.frozen? ⟨g, k, none⟩ = false := HO2.out.free _
      have hsz2 := hc2.size
      have hgr := (HO.out.base_lt).2
      have hI2 : ∀ q ∈ qs, TInts w2 g w2.heap.size q.A q.n q.c q.row := fun q hq => ((HI.out q hq).keep hc2 (fun _ _ _ e => e)).wide (Nat.le_refl _) hsz2
      have hset : (qs ++ List.replicate (n - k) zRw).set k ⟨z, A2, z.length, c2⟩ = (qs ++ [⟨z, A2, z.length, c2⟩]) ++ List.replicate (n - (k + 1)) zRw := by
        rw [List.set_append, if_neg (by rw [HQL.out]; omega), HQL.out, Nat.sub_self, show n - k = n - (k + 1) + 1 from by omega, List.replicate_succ, List.set_cons_zero, List.append_assoc]
        rfl
      have hAp : Apart ((qs ++ [(⟨z, A2, z.length, c2⟩ : RwP)]).map fun p => (p.A, p.n)) := by
        rw [List.map_append]
        refine Apart.push (B := wr.heap.size) HA.out (fun q hq => ?_) (tints_ge ht2)
        obtain ⟨r, hr, rfl⟩ := List.mem_map.1 hq
        exact ORows.lt HI.out r hr
      have hst := HO2.out.set1 (fun _ => rfl) k ⟨z, A2, z.length, c2⟩ (.slice A2 z.length c2) rfl
      rw [hset] at hst
      obtain ⟨cs, fr, hg9⟩ := own_typed HO2.out g rfl
      have hcs : Chg (fun k => k = g) w2 (w2.setCell ⟨g, k, none⟩ (.slice A2 z.length c2)) := Chg.setCell (Chg.refl _ w2) _ (fun _ => rfl)
      have HO3 := hid hst
      have HI3 := hid (show ∀ q ∈ qs ++ [(⟨z, A2, z.length, c2⟩ : RwP)], TInts (w2.setCell ⟨g, k, none⟩ (.slice A2 z.length c2)) g (w2.setCell ⟨g, k, none⟩ (.slice A2 z.length c2)).heap.size q.A q.n q.c q.row from fun q hq => by
        refine TInts.wide (hi := w2.heap.size) (lo := g) ?_ (Nat.le_refl _) (by simp)
        rcases List.mem_append.1 hq with hq | hq
        · exact (hI2 q hq).other hcs hg9 (by decide)
        · rw [List.mem_singleton.1 hq]
          exact (ht2.wide (lo' := g) (hi' := w2.heap.size) (by omega) (Nat.le_refl _)).other hcs hg9 (by decide))
      have HA3 := hid hAp
      have HQ3 : Hid ((qs ++ [(⟨z, A2, z.length, c2⟩ : RwP)]).map (·.row) = xs.take (k + 1)) := by show _ = _; rw [take_snoc Hzk.out, List.map_append, HQ.out]; rfl
      have hl3 : (qs ++ [(⟨z, A2, z.length, c2⟩ : RwP)]).length = k + 1 := by rw [List.length_append, HQL.out]; rfl
      have HL3 := hid hl3
      clear hst hcs hg9 hset hAp hat hI2 ht2 hl3 HO2 HO HI HA HQ ho2
      go_wp2
      go_roundw
      case rel => exact ⟨k + 1, by omega, by go_num, by (repeat (first | (with_reducible exact Chg.refl _ _) | ((with_reducible refine Chg.setNew ?_ _ ?_); rotate_left; first | (dsimp only; omega) | (simp; done) | (simp; omega)) | (with_reducible refine Chg.alloc ?_ _) | (with_reducible refine Chg.drew ?_) | (with_reducible refine Chg.drewN ?_ _) | (with_reducible refine Chg.no ?_ (by assumption)) | (with_reducible refine Chg.and_ ?_ (by assumption)) | ((with_reducible refine Chg.at_ ?_ (by assumption) ?_); rotate_left; (try simp only [World.size_alloc]); omega))), _, HL3.out, HQ3, HO3, HI3, HA3⟩
      case measure => simp [intOf]; omega
    · have hkn : k = n := by omega
      have HE := hid (show ORows wr g (.slice (some ⟨g, 0, none⟩) n n) xs from by
        refine ⟨qs, ?_, ?_, HI.out, HA.out⟩
        · rw [HQ.out, List.take_of_length_le (by have := HX.out.len; omega)]
        · have := HO.out
          rw [hkn, Nat.sub_self, List.replicate_zero, List.append_nil] at this
          exact this)
      clear HQ HO HI HA hql
      subst hkn
      go_wp2
      go_ret
      exact ⟨_, rfl, by rw [HG.out]; exact HE.out, hc⟩
set_option maxHeartbeats 2000000 in
theorem eqIntSS (l0 h0 l1 h1 : Nat) (A B : Option Addr) (n c d : Nat) (xs : List (List Int)) (w : World) (hx : RRows w l0 h0 A n c xs) (hy : RRows w l1 h1 B n d xs) :
    Calls Try.prog 29 #[.slice A n c, .slice B n d] w fun e w' => e = .returned (.bool true) ∧ Chg No w w' := by
  have hnc := hx.le; have hcm := hx.cap; have hnd := hy.le; have hdm := hy.cap
  have HX := hid hx; have HY := hid hy
  have e0 : ((n : Int) != n) = false := by simp
  clear hx hy
  go_enter Try.func29, Try.ntmps29
  go_wp2
  go_loopw [5] (fun i wr => ∃ k : Nat, k ≤ n ∧ i = .int .i64 k ∧ Chg No w wr) (fun i _ => n - (intOf i).toNat)
  case atStart => exact ⟨0, Nat.zero_le _, rfl, Chg.refl _ _⟩
  case round =>
    obtain ⟨k, hk, rfl, hc⟩ := hrel
    by_cases hlt : k < n
    · obtain ⟨b, o, x, rfl, _, _, hxk, A1, n1, c1, hE2, hv⟩ := (HX.out.no hc).at_ hlt
      obtain ⟨b', o', x', rfl, _, _, hxk', A2, n2, c2, hE2', hv'⟩ := (HY.out.no hc).at_ hlt
      obtain rfl : x = x' := by rw [hxk] at hxk'; injection hxk'
      obtain rfl : n1 = n2 := by have h8 : x.length = n1 := hv.len; have h9 : x.length = n2 := hv'.len; omega
      have f1 : ∀ p : NB wr, p.wd.cell? ⟨b, o + k, none⟩ = some (.slice A1 n1 c1) := nb_cell (by simpa using hE2)
      have f2 : ∀ p : NB wr, p.wd.cell? ⟨b', o' + k, none⟩ = some (.slice A2 n1 c2) := nb_cell (by simpa using hE2')
      have HV := hid hv; have HV' := hid hv'
      clear hxk hxk' hE2 hE2' hv hv'
      go_wp2_with fail
      (refine wp_region_nb (by kernel_rfl) (by kernel_rfl) ?_; (repeat (first | go_big_quiet_step ((go_at_call 31; exact nb_of (eqIntS _ _ _ _ _ _ _ _ _ x _ (HV.out.no (NB.h _)) (HV'.out.no (NB.h _))))) | quiet_step ((go_at_call 31; exact nb_of (eqIntS _ _ _ _ _ _ _ _ _ x _ (HV.out.no (NB.h _)) (HV'.out.no (NB.h _))))))); (with_reducible refine wpQuiet_nil ?_); intro wq hw1; have hq := nb_out hw1; clear hw1)
      go_wp2
      go_roundw
      case rel => exact ⟨k + 1, by omega, by go_num, by (repeat (first | (with_reducible exact Chg.refl _ _) | ((with_reducible refine Chg.setNew ?_ _ ?_); rotate_left; first | (dsimp only; omega) | (simp; done) | (simp; omega)) | (with_reducible refine Chg.alloc ?_ _) | (with_reducible refine Chg.drew ?_) | (with_reducible refine Chg.drewN ?_ _) | (with_reducible refine Chg.no ?_ (by assumption)) | (with_reducible refine Chg.and_ ?_ (by assumption)) | ((with_reducible refine Chg.at_ ?_ (by assumption) ?_); rotate_left; (try simp only [World.size_alloc]); omega)))⟩
      case measure => simp [intOf]; omega
    · go_wp2
      go_ret
      exact ⟨rfl, by (repeat (first | (with_reducible exact Chg.refl _ _) | ((with_reducible refine Chg.setNew ?_ _ ?_); rotate_left; first | (dsimp only; omega) | (simp; done) | (simp; omega)) | (with_reducible refine Chg.alloc ?_ _) | (with_reducible refine Chg.drew ?_) | (with_reducible refine Chg.drewN ?_ _) | (with_reducible refine Chg.no ?_ (by assumption)) | (with_reducible refine Chg.and_ ?_ (by assumption)) | ((with_reducible refine Chg.at_ ?_ (by assumption) ?_); rotate_left; (try simp only [World.size_alloc]); omega)))⟩
set_option maxHeartbeats 1000000 in
theorem markIntSS (base hi : Nat) (A : Option Addr) (n c : Nat) (xs : List (List Int)) (k : Int) (w : World) (h : ORowsR w base hi (.slice A n c) xs) (h0 : 0 ≤ k) (h1 : k + costR xs ≤ 1000000000000000) :
    Calls Try.prog 32 #[.slice A n c, .int .i64 k] w fun e w' => e = .returned (.int .i64 (k + costR xs)) ∧ ORowsR w' base hi (.slice A n c) (markedR k xs) ∧ Chg (fun b => base ≤ b ∧ b < hi) w w' := by
  obtain ⟨A', c', hv, hnc, hcm, _⟩ := (show ∃ A' c', Value.slice A n c = .slice A' xs.length c' ∧ xs.length ≤ c' ∧ c' ≤ maxLen ∧ True from by
    obtain ⟨_, ps, rfl, ho, _⟩ := h
    obtain ⟨A', c', h2, h3, h4, _⟩ := ho.form
    exact ⟨A', c', by rw [h2, List.length_map], by rw [List.length_map]; exact h3, h4, trivial⟩)
  injection hv with e1 e2 e3
  subst e1 e3
  unfold maxLen at hcm
  have HT := hid h
  have HN := hid e2
  have hnc' : n ≤ c := by omega
  have hn0 := costR_nonneg xs
  have HC := hid h1
  clear h e2 hnc h1
  go_enter Try.func32, Try.ntmps32
  go_wp2
  go_loopw [1, 5] (fun q i wr => ∃ j : Nat, j ≤ n ∧ i = .int .i64 j ∧ q = .int .i64 (k + costR (xs.take j)) ∧ Chg (fun b => base ≤ b ∧ b < hi) w wr ∧ Hid (ORowsR wr base hi (.slice A n c) (markedR k (xs.take j) ++ xs.drop j))) (fun _ i _ => n - (intOf i).toNat)
  case atStart => exact ⟨0, Nat.zero_le _, rfl, by simp [costR], Chg.refl _ _, by show ORowsR _ _ _ _ _; simpa [markedR] using HT.out⟩
  case round =>
    clear HT
    obtain ⟨j, hj, rfl, rfl, hc, HT⟩ := hrel
    by_cases hlt : j < n
    · have hlx : j < xs.length := by have := HN.out; omega
      obtain ⟨x, hx⟩ : ∃ x, xs[j]? = some x := ⟨_, List.getElem?_eq_getElem hlx⟩
      have hnext := markR_next k hx
      have hset := markR_set k hx
      have hcs := costR_snoc hx
      have hcl : costR (xs.take (j + 1)) ≤ costR xs := by
        have h9 := costR_app (xs.take (j + 1)) (xs.drop (j + 1))
        rw [List.take_append_drop] at h9
        have := costR_nonneg (xs.drop (j + 1))
        omega
      have hcn := costR_nonneg (xs.take j)
      obtain ⟨hh, ps, hps, ho, hi9, ha⟩ := HT.out
      rw [← hps] at hnext
      obtain ⟨p, hp, rfl⟩ := getE?_of_map hnext
      have hC := HC.out
      obtain ⟨q, hq⟩ : ∃ q, k + costR (xs.take j) = q := ⟨_, rfl⟩
      have hpt := hi9 p (List.mem_of_getElem? hp)
      have hpn : p.row.length = p.n := hpt.1.len
      have HQ : Hid (k + costR (xs.take (j + 1)) = q + (p.n : Int)) := by show _ = _; rw [hcs, hpn]; omega
      have hq0 : 0 ≤ q := by omega
      have hq1 : q + (p.n : Int) ≤ 1000000000000000 := by omega
      rw [hq, hpn] at hset
      rw [hq]
      obtain ⟨A9, c9, hv9, _, _, hA9⟩ := ho.form
      injection hv9 with v1 v2 v3
      obtain ⟨g, hAg, hgb, hgl⟩ := hA9 (by have := (List.getElem?_eq_some_iff.1 hp).1; omega)
      rw [hAg] at v1
      subst v1
      have c1 : wr.cell? ⟨g, j, none⟩ = some (.slice p.A p.n p.c) := by have h9 := ho.cell (fun _ => rfl) (i := 0) hp rfl; simpa using h9
      have HPT := hid hpt
      have HO := hid ho; have HI := hid hi9; have HH9 := hid hh; have HA := hid ha; have HP := hid hp; have HPS := hid hps; have HSET := hid hset
      clear hA9 v2 v3 hAg hset hps hcs hcl hcn hC hq hnext hpt hpn ho hi9 hh ha hp hx HT
      (go_wp2_with fail; (with_reducible refine (markIntS base hi p.A p.n p.c p.row q _ HPT.out (by omega) hq1).mono ?_); rintro e w2 ⟨rfl, ht2, hc2⟩)
      obtain ⟨hE, hcE⟩ := ORowsR.mark HP.out HO.out HH9.out HI.out HA.out ht2 hc2
      rw [HPS.out, HSET.out] at hE
      have HE := hid hE
      have hc3 := hc.and_ hcE
      clear hE ht2 hc2 hcE HO HI HH9 HA HP HPS HSET HPT
      go_wp2
      go_roundw
      case rel => exact ⟨j + 1, by omega, by go_num, by rw [HQ.out], hc3, HE⟩
      case measure => simp [intOf]; omega
    · have hjn : j = n := by omega
      have HE := hid (show ORowsR wr base hi (.slice A n c) (markedR k xs) from by
        have := HT.out
        rw [hjn, List.take_of_length_le (by rw [HN.out]; exact Nat.le_refl _), List.drop_of_length_le (by rw [HN.out]; exact Nat.le_refl _), List.append_nil] at this
        exact this)
      have HQ : Hid (costR (xs.take j) = costR xs) := by show _ = _; rw [hjn, List.take_of_length_le (by rw [HN.out]; exact Nat.le_refl _)]
      clear HT
      rw [HQ.out]
      subst hjn
      go_wp2
      go_ret
      exact ⟨rfl, HE.out, hc⟩
end Go.Proofs.Ytifdcdpdihfbjaa
