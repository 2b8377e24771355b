/- Stores: the reference's put and PutItem. -/
import Derived.Test.YtifdcdpdihfbjaaStoreS
namespace Go.Proofs.Ytifdcdpdihfbjaa
open Go.RowKit
set_option linter.unusedVariables false
set_option linter.unusedSimpArgs false
set_option maxHeartbeats 4000000 in
theorem sPut (l0 h0 : Nat) (A : Option Addr) (n c : Nat) (xs : List It) (l1 h1 : Nat) (A' : Option Addr) (n' c' : Nat) (key tags : Int) (xv : List Int) (w : World) (hx : RItems w l0 h0 A n c xs) (hy : RInts w l1 h1 A' n' c' xv) (hn : n ≤ 1048576) (hn' : n' ≤ 1048576)
    (hbd : ∀ (k : Int) (v : List Int) (t : Int), (⟨k, v, t⟩ : It) ∈ xs → v.length ≤ 1048576) :
    Calls Try.prog 127 #[.slice A n c, .agg #[.int .i64 key, .slice A' n' c', .int .i64 tags]] w (RetItems (putF xs ⟨key, xv, tags⟩) w) := by
  have hnc := hx.le; have hcm := hx.cap
  have HX := hid hx
  have HY := hid hy
  have BX := hid (Box.new (w := w) [.int .i64 key, .slice A' n' c', .int .i64 tags] 36 rfl)
  have HO0 := hid (show OItems ((w.alloc (.cells #[.int .i64 key, .slice A' n' c', .int .i64 tags] 36)).alloc (.cells #[] 36)) (w.heap.size + 1) (.slice (some ⟨w.heap.size + 1, 0, none⟩) 0 0) [] from
    ⟨[], rfl, OSl.lit (enc := cItem) (n := 0) [] [] (fun _ => rfl) rfl rfl (by omega) (by omega) (heap_top (by simp)), fun p hp => by cases hp⟩)
  clear hx hy
  go_enter Try.func127, Try.ntmps127
  go_wp2
  go_loopw [5, 6] (fun v i wr => ∃ k : Nat, k ≤ n ∧ i = .int .i64 k ∧ Chg No (w.alloc (.cells #[.int .i64 key, .slice A' n' c', .int .i64 tags] 36)) wr ∧ Hid (OItems wr (w.heap.size + 1) v ((xs.take k).filter fun y => decide (y.key < key)))) (fun _ i _ => n - (intOf i).toNat)
  case atStart => exact ⟨0, Nat.zero_le _, rfl, (Chg.refl _ _).alloc _, HO0⟩
  case round =>
    obtain ⟨k, hk, rfl, hc, HO⟩ := hrel
    obtain ⟨wo, rfl⟩ : ∃ W : World, W = wr := ⟨_, rfl⟩
    by_cases hlt : k < n
    · skip
      obtain ⟨b, o, z, rfl, _, _, hzk, hE⟩ := (HX.out.no ((Chg.alloc (Chg.refl No w) _).no hc)).at_ hlt
      obtain ⟨zk, zv, zt⟩ := z
      obtain ⟨hE1, ⟨A1, n1, c1, hE2, hv⟩, hE3⟩ := hE
      have f1 : ∀ p : NB wo, p.wd.cell? ⟨b, o + k * 3, none⟩ = some (.int .i64 zk) := nb_cell hE1
      have hb1 : ∀ p : NB wo, p.wd.cell? ⟨w.heap.size, 0, none⟩ = some (.int .i64 key) := nb_cell (((BX.out.no hc).cell 0))
      have HE := hid (show _ ∧ _ ∧ _ from ⟨hE1, hE2, hE3⟩)
      have HV := hid hv
      have Hzk := hid hzk
      have hvn : n1 ≤ 1048576 := by have h9 : zv.length = n1 := hv.len; have h8 := hbd zk zv zt (List.mem_of_getElem? hzk); omega
      clear hzk hE1 hE2 hE3 hv
      have HLen := hid (show ((xs.take k).filter fun y => decide (y.key < key)).length ≤ 1048576 from Nat.le_trans (List.length_filter_le _ _) (by rw [List.length_take]; omega))
      by_cases hlk : zk < key
      · go_wp2_with fail
        (refine wp_region_nb (by kernel_rfl) (by kernel_rfl) ?_; (repeat (first | go_big_quiet_step (fail) | quiet_step (fail))); (with_reducible refine wpQuiet_nil ?_); intro wq hw1; have hq := nb_out hw1; clear hw1)
        have e1 := cell_keep hq HE.out.1 (fun e => e)
        have e2 := cell_keep hq HE.out.2.1 (fun e => e)
        have e3 := cell_keep hq HE.out.2.2 (fun e => e)
        (go_wp2_with fail; (with_reducible refine (sCopyItem _ _ _ _ _ _ _ zv _ (HV.out.no hq) hvn).mono ?_); rintro e w2 ⟨A2, n2, c2, rfl, ht2, hc2⟩)
        have hcw2 : Chg No (w.alloc (.cells #[.int .i64 key, .slice A' n' c', .int .i64 tags] 36)) w2 := (hc.no hq).no hc2
        have hz2 := hcw2.size
        have hz3 := (hc.no hq).size
        simp only [World.size_alloc] at hz2 hz3
        have HO1 := hid ((HO.out.no (hq.no hc2)).no ((Chg.refl No w2).alloc (.cells #[.int .i64 zk, .slice A2 n2 c2, .int .i64 zt] 36)))
        obtain ⟨ps, he, hoo, hii⟩ := HO1.out
        have HX1 := hid (Src.one (sz := 3) (enc := cItem) (y := ⟨⟨zk, zv, zt⟩, A2, n2, c2⟩) (Box.new (w := w2) [.int .i64 zk, .slice A2 n2 c2, .int .i64 zt] 36 rfl) rfl)
        have HH := hid hoo
        have hpl : ps.length ≤ 20000000 := by
          have h9 := congrArg List.length he
          rw [List.length_map] at h9
          have h8 := HLen.out
          omega
        have HT2 := hid (((ht2.keep ((Chg.refl No w2).alloc (.cells #[.int .i64 zk, .slice A2 n2 c2, .int .i64 zt] 36)) (fun _ _ _ e => e)).wide (lo' := w.heap.size + 1) (hi' := (w2.alloc (.cells #[.int .i64 zk, .slice A2 n2 c2, .int .i64 zt] 36)).heap.size) (by omega) (by simp)))
        have HII := hid hii
        have HE9 := hid he
        clear hoo hii he ht2
        go_wp2_with (at_builtin; refine wpList_push _ rfl _ _ 26 rfl 36 3 40 (.agg #[.int .i64 0, .slice none 0 0, .int .i64 0]) cItem Try.underlying26 infoItem rfl (by omega) (by omega) (fun _ => rfl) oneItem (w.heap.size + 1) _ ps rfl HH.out _ 1 1 [⟨⟨zk, zv, zt⟩, A2, n2, c2⟩] rfl HX1.out (by omega) (by simp; omega) ?_; intro v' w3 ho3 hg3 hb3)
        have hc3 : Chg No (w.alloc (.cells #[.int .i64 key, .slice A' n' c', .int .i64 tags] 36)) w3 := Chg.pushed (hcw2.alloc _) hg3 HH.out (by simp)
        have HO3 := hid (OItems.push HE9.out HH.out HII.out HT2.out ho3 hg3)
        clear ho3 hg3 hb3 HO1 HH HII HT2 HX1 HE9
        have HO4 : Hid (OItems w3 (w.heap.size + 1) v' ((xs.take (k + 1)).filter fun y => decide (y.key < key))) := by
          have := HO3.out
          show OItems _ _ _ _
          rw [take_snoc Hzk.out, List.filter_append]
          simpa [hlk] using this
        go_roundw
        case rel => exact ⟨k + 1, by omega, by go_num, hc3, HO4⟩
        case measure => simp [intOf]; omega
      · have HO4 : Hid (((xs.take (k + 1)).filter fun y => decide (y.key < key)) = ((xs.take k).filter fun y => decide (y.key < key))) := by
          show _ = _
          rw [take_snoc Hzk.out, List.filter_append]
          simp [hlk]
        have hge : key ≤ zk := by omega
        go_wp2_with fail
        (refine wp_region_nb (by kernel_rfl) (by kernel_rfl) ?_; (repeat (first | go_big_quiet_step (fail) | quiet_step (fail))); (with_reducible refine wpQuiet_nil ?_); intro wq hw1; have hq := nb_out hw1; clear hw1)
        go_wp2
        go_roundw
        case rel => exact ⟨k + 1, by omega, by go_num, hc.no hq, by show OItems _ _ _ _; rw [HO4.out]; exact HO.out.no hq⟩
        case measure => simp [intOf]; omega
    · have h9 := HO.out
      rw [List.take_of_length_le (by have := HX.out.len; omega)] at h9
      have HO5 := hid h9
      clear h9
      have hcb := BX.out.no hc
      have e1 : wo.cell? ⟨w.heap.size, 0, none⟩ = some (.int .i64 key) := hcb.cell 0
      have e2 : wo.cell? ⟨w.heap.size, 1, none⟩ = some (.slice A' n' c') := hcb.cell 1
      have e3 : wo.cell? ⟨w.heap.size, 2, none⟩ = some (.int .i64 tags) := hcb.cell 2
      have hflt : (xs.filter fun y => decide (y.key < key)).length ≤ 1048576 := Nat.le_trans (List.length_filter_le _ _) (by have := HX.out.len; omega)
      have HLen := hid hflt
      have hq : Chg No wo wo := Chg.refl _ _
      have HE := hid (show _ ∧ _ ∧ _ from ⟨e1, e2, e3⟩)
      have HV := hid (RInts.no (RInts.no HY.out ((Chg.refl No w).alloc (.cells #[.int .i64 key, .slice A' n' c', .int .i64 tags] 36))) hc)
      have hvn : n' ≤ 1048576 := hn'
      clear HO hflt hcb
      have HO := HO5
      clear HO5
      have e1 := cell_keep hq HE.out.1 (fun e => e)
      have e2 := cell_keep hq HE.out.2.1 (fun e => e)
      have e3 := cell_keep hq HE.out.2.2 (fun e => e)
      (go_wp2_with fail; (with_reducible refine (sCopyItem _ _ _ _ _ _ _ xv _ (HV.out.no hq) hvn).mono ?_); rintro e w2 ⟨A2, n2, c2, rfl, ht2, hc2⟩)
      have hcw2 : Chg No (w.alloc (.cells #[.int .i64 key, .slice A' n' c', .int .i64 tags] 36)) w2 := (hc.no hq).no hc2
      have hz2 := hcw2.size
      have hz3 := (hc.no hq).size
      simp only [World.size_alloc] at hz2 hz3
      have HO1 := hid ((HO.out.no (hq.no hc2)).no ((Chg.refl No w2).alloc (.cells #[.int .i64 key, .slice A2 n2 c2, .int .i64 tags] 36)))
      obtain ⟨ps, he, hoo, hii⟩ := HO1.out
      have HX1 := hid (Src.one (sz := 3) (enc := cItem) (y := ⟨⟨key, xv, tags⟩, A2, n2, c2⟩) (Box.new (w := w2) [.int .i64 key, .slice A2 n2 c2, .int .i64 tags] 36 rfl) rfl)
      have HH := hid hoo
      have hpl : ps.length ≤ 20000000 := by
        have h9 := congrArg List.length he
        rw [List.length_map] at h9
        have h8 := HLen.out
        omega
      have HT2 := hid (((ht2.keep ((Chg.refl No w2).alloc (.cells #[.int .i64 key, .slice A2 n2 c2, .int .i64 tags] 36)) (fun _ _ _ e => e)).wide (lo' := w.heap.size + 1) (hi' := (w2.alloc (.cells #[.int .i64 key, .slice A2 n2 c2, .int .i64 tags] 36)).heap.size) (by omega) (by simp)))
      have HII := hid hii
      have HE9 := hid he
      clear hoo hii he ht2
      go_wp2_with (at_builtin; refine wpList_push _ rfl _ _ 26 rfl 36 3 40 (.agg #[.int .i64 0, .slice none 0 0, .int .i64 0]) cItem Try.underlying26 infoItem rfl (by omega) (by omega) (fun _ => rfl) oneItem (w.heap.size + 1) _ ps rfl HH.out _ 1 1 [⟨⟨key, xv, tags⟩, A2, n2, c2⟩] rfl HX1.out (by omega) (by simp; omega) ?_; intro v' w3 ho3 hg3 hb3)
      have hc3 : Chg No (w.alloc (.cells #[.int .i64 key, .slice A' n' c', .int .i64 tags] 36)) w3 := Chg.pushed (hcw2.alloc _) hg3 HH.out (by simp)
      have HO3 := hid (OItems.push HE9.out HH.out HII.out HT2.out ho3 hg3)
      clear ho3 hg3 hb3 HO1 HH HII HT2 HX1 HE9
      have HO6 := HO3
      clear HO3 HO hc HE HV hq HLen
      have hcx := hc3
      clear hc3 hc2 hcw2 hz2 hz3 hpl
      have HO7 := hid (show OItems w3 (w.heap.size + 1) v' ((xs.filter fun y => decide (y.key < key)) ++ ((⟨key, xv, tags⟩ : It) :: (xs.take 0).filter fun y => decide (key < y.key))) from HO6.out)
      clear HO6
      go_wp2
      go_loopw [5, 7] (fun v i wr => ∃ k : Nat, k ≤ n ∧ i = .int .i64 k ∧ Chg No (w.alloc (.cells #[.int .i64 key, .slice A' n' c', .int .i64 tags] 36)) wr ∧ Hid (OItems wr (w.heap.size + 1) v ((xs.filter fun y => decide (y.key < key)) ++ ((⟨key, xv, tags⟩ : It) :: (xs.take k).filter fun y => decide (key < y.key))))) (fun _ i _ => n - (intOf i).toNat)
      case atStart => exact ⟨0, Nat.zero_le _, rfl, hcx, HO7⟩
      case round =>
        clear hcx HO7 e1 e2 e3
        obtain ⟨k, hk, rfl, hc, HO⟩ := hrel
        obtain ⟨wo, rfl⟩ : ∃ W : World, W = wr := ⟨_, rfl⟩
        by_cases hlt : k < n
        · skip
          obtain ⟨b, o, z, rfl, _, _, hzk, hE⟩ := (HX.out.no ((Chg.alloc (Chg.refl No w) _).no hc)).at_ hlt
          obtain ⟨zk, zv, zt⟩ := z
          obtain ⟨hE1, ⟨A1, n1, c1, hE2, hv⟩, hE3⟩ := hE
          have f1 : ∀ p : NB wo, p.wd.cell? ⟨b, o + k * 3, none⟩ = some (.int .i64 zk) := nb_cell hE1
          have hb1 : ∀ p : NB wo, p.wd.cell? ⟨w.heap.size, 0, none⟩ = some (.int .i64 key) := nb_cell (((BX.out.no hc).cell 0))
          have HE := hid (show _ ∧ _ ∧ _ from ⟨hE1, hE2, hE3⟩)
          have HV := hid hv
          have Hzk := hid hzk
          have hvn : n1 ≤ 1048576 := by have h9 : zv.length = n1 := hv.len; have h8 := hbd zk zv zt (List.mem_of_getElem? hzk); omega
          clear hzk hE1 hE2 hE3 hv
          have HLen := hid (show ((xs.filter fun y => decide (y.key < key)) ++ ((⟨key, xv, tags⟩ : It) :: (xs.take k).filter fun y => decide (key < y.key))).length ≤ 2097153 from by
            have a1 := List.length_filter_le (fun y : It => decide (y.key < key)) xs
            have a2 := List.length_filter_le (fun y : It => decide (key < y.key)) (xs.take k)
            have a3 := List.length_take_le k xs
            have a4 := HX.out.len
            rw [List.length_append, List.length_cons]; omega)
          by_cases hlk : key < zk
          · go_wp2_with fail
            (refine wp_region_nb (by kernel_rfl) (by kernel_rfl) ?_; (repeat (first | go_big_quiet_step (fail) | quiet_step (fail))); (with_reducible refine wpQuiet_nil ?_); intro wq hw1; have hq := nb_out hw1; clear hw1)
            have e1 := cell_keep hq HE.out.1 (fun e => e)
            have e2 := cell_keep hq HE.out.2.1 (fun e => e)
            have e3 := cell_keep hq HE.out.2.2 (fun e => e)
            (go_wp2_with fail; (with_reducible refine (sCopyItem _ _ _ _ _ _ _ zv _ (HV.out.no hq) hvn).mono ?_); rintro e w2 ⟨A2, n2, c2, rfl, ht2, hc2⟩)
            have hcw2 : Chg No (w.alloc (.cells #[.int .i64 key, .slice A' n' c', .int .i64 tags] 36)) w2 := (hc.no hq).no hc2
            have hz2 := hcw2.size
            have hz3 := (hc.no hq).size
            simp only [World.size_alloc] at hz2 hz3
            have HO1 := hid ((HO.out.no (hq.no hc2)).no ((Chg.refl No w2).alloc (.cells #[.int .i64 zk, .slice A2 n2 c2, .int .i64 zt] 36)))
            obtain ⟨ps, he, hoo, hii⟩ := HO1.out
            have HX1 := hid (Src.one (sz := 3) (enc := cItem) (y := ⟨⟨zk, zv, zt⟩, A2, n2, c2⟩) (Box.new (w := w2) [.int .i64 zk, .slice A2 n2 c2, .int .i64 zt] 36 rfl) rfl)
            have HH := hid hoo
            have hpl : ps.length ≤ 20000000 := by
              have h9 := congrArg List.length he
              rw [List.length_map] at h9
              have h8 := HLen.out
              omega
            have HT2 := hid (((ht2.keep ((Chg.refl No w2).alloc (.cells #[.int .i64 zk, .slice A2 n2 c2, .int .i64 zt] 36)) (fun _ _ _ e => e)).wide (lo' := w.heap.size + 1) (hi' := (w2.alloc (.cells #[.int .i64 zk, .slice A2 n2 c2, .int .i64 zt] 36)).heap.size) (by omega) (by simp)))
            have HII := hid hii
            have HE9 := hid he
            clear hoo hii he ht2
            go_wp2_with (at_builtin; refine wpList_push _ rfl _ _ 26 rfl 36 3 40 (.agg #[.int .i64 0, .slice none 0 0, .int .i64 0]) cItem Try.underlying26 infoItem rfl (by omega) (by omega) (fun _ => rfl) oneItem (w.heap.size + 1) _ ps rfl HH.out _ 1 1 [⟨⟨zk, zv, zt⟩, A2, n2, c2⟩] rfl HX1.out (by omega) (by simp; omega) ?_; intro v' w3 ho3 hg3 hb3)
            have hc3 : Chg No (w.alloc (.cells #[.int .i64 key, .slice A' n' c', .int .i64 tags] 36)) w3 := Chg.pushed (hcw2.alloc _) hg3 HH.out (by simp)
            have HO3 := hid (OItems.push HE9.out HH.out HII.out HT2.out ho3 hg3)
            clear ho3 hg3 hb3 HO1 HH HII HT2 HX1 HE9
            have HO4 : Hid (OItems w3 (w.heap.size + 1) v' ((xs.filter fun y => decide (y.key < key)) ++ ((⟨key, xv, tags⟩ : It) :: (xs.take (k + 1)).filter fun y => decide (key < y.key)))) := by
              have := HO3.out
              show OItems _ _ _ _
              rw [take_snoc Hzk.out, List.filter_append]
              simpa [hlk] using this
            go_roundw
            case rel => exact ⟨k + 1, by omega, by go_num, hc3, HO4⟩
            case measure => simp [intOf]; omega
          · have HO4 : Hid (((xs.take (k + 1)).filter fun y => decide (key < y.key)) = ((xs.take k).filter fun y => decide (key < y.key))) := by
              show _ = _
              rw [take_snoc Hzk.out, List.filter_append]
              simp [hlk]
            have hge : zk ≤ key := by omega
            go_wp2_with fail
            (refine wp_region_nb (by kernel_rfl) (by kernel_rfl) ?_; (repeat (first | go_big_quiet_step (fail) | quiet_step (fail))); (with_reducible refine wpQuiet_nil ?_); intro wq hw1; have hq := nb_out hw1; clear hw1)
            go_wp2
            go_roundw
            case rel => exact ⟨k + 1, by omega, by go_num, hc.no hq, by show OItems _ _ _ _; rw [HO4.out]; exact HO.out.no hq⟩
            case measure => simp [intOf]; omega
        · have h9 := HO.out
          rw [List.take_of_length_le (by have := HX.out.len; omega)] at h9
          have HO8 := hid (show OItems wo (w.heap.size + 1) _ (putF xs ⟨key, xv, tags⟩) from h9)
          clear h9
          have hcz : Chg No w wo := ((Chg.refl No w).alloc _).no hc
          go_wp2
          go_ret
          exact ⟨_, rfl, HO8.out.down (by omega), hcz⟩
/-- whether an item can be put-/
def putB (xs : List It) (x : It) : Bool := storeB xs && (itemB x && storeB (putF xs x))
def RetPut (xs : List It) (x : It) (w : World) (e : Ending) (w' : World) : Prop := ∃ v, e = .returned (.tuple #[v, .bool (putB xs x)]) ∧ Chg No w w' ∧ (putB xs x = true → OItems w' w.heap.size v (putF xs x)) ∧ (putB xs x = false → v = .slice none 0 0)
set_option maxHeartbeats 2000000 in
theorem sPutItem (l0 h0 : Nat) (A : Option Addr) (n c : Nat) (xs : List It) (l1 h1 : Nat) (A' : Option Addr) (n' c' : Nat) (key tags : Int) (xv : List Int) (w : World) (hx : RItems w l0 h0 A n c xs) (hy : RInts w l1 h1 A' n' c' xv) (hn : n ≤ 1048576) :
    Calls Try.prog 112 #[.slice A n c, .agg #[.int .i64 key, .slice A' n' c', .int .i64 tags]] w (RetPut xs ⟨key, xv, tags⟩ w) := by
  have hnc := hx.le; have hcm := hx.cap
  have HX := hid hx; have HY := hid hy
  have BX := hid (Box.new (w := w) [.int .i64 key, .slice A' n' c', .int .i64 tags] 36 rfl)
  clear hx hy
  have K1 := hid (fun W (h : RItems W l0 h0 A n c xs) => sValidStore l0 h0 A n c xs W h)
  have K2 := hid (fun W (h : RInts W l1 h1 A' n' c' xv) => sValidItem l1 h1 A' n' c' key tags xv W h)
  cases hb1 : storeB xs with
  | false =>
    have HF := hid (show putB xs ⟨key, xv, tags⟩ = false from by unfold putB; rw [hb1]; rfl)
    rw [hb1] at K1
    clear hb1
    go_enter Try.func112, Try.ntmps112
    (go_wp2_with fail; (with_reducible refine (K1.out _ (HX.out.no (by (repeat (first | (with_reducible exact Chg.refl _ _) | ((with_reducible refine Chg.setNew ?_ _ ?_); rotate_left; first | (dsimp only; omega) | (simp; done) | (simp; omega)) | (with_reducible refine Chg.alloc ?_ _) | (with_reducible refine Chg.drew ?_) | (with_reducible refine Chg.drewN ?_ _) | (with_reducible refine Chg.no ?_ (by assumption)) | (with_reducible refine Chg.and_ ?_ (by assumption)) | ((with_reducible refine Chg.at_ ?_ (by assumption) ?_); rotate_left; (try simp only [World.size_alloc]); omega)))))).mono ?_); rintro e w1 ⟨rfl, hc1⟩)
    go_wp2
    go_ret2
    exact ⟨_, by rw [HF.out]; rfl, by (repeat (first | (with_reducible exact Chg.refl _ _) | ((with_reducible refine Chg.setNew ?_ _ ?_); rotate_left; first | (dsimp only; omega) | (simp; done) | (simp; omega)) | (with_reducible refine Chg.alloc ?_ _) | (with_reducible refine Chg.drew ?_) | (with_reducible refine Chg.drewN ?_ _) | (with_reducible refine Chg.no ?_ (by assumption)) | (with_reducible refine Chg.and_ ?_ (by assumption)) | ((with_reducible refine Chg.at_ ?_ (by assumption) ?_); rotate_left; (try simp only [World.size_alloc]); omega))), fun h => (by rw [HF.out] at h; cases h), fun _ => rfl⟩
  | true =>
    cases hb2 : itemB ⟨key, xv, tags⟩ with
    | false =>
      have HF := hid (show putB xs ⟨key, xv, tags⟩ = false from by unfold putB; rw [hb2]; simp)
      rw [hb1] at K1
      rw [hb2] at K2
      clear hb1 hb2
      go_enter Try.func112, Try.ntmps112
      (go_wp2_with fail; (with_reducible refine (K1.out _ (HX.out.no (by (repeat (first | (with_reducible exact Chg.refl _ _) | ((with_reducible refine Chg.setNew ?_ _ ?_); rotate_left; first | (dsimp only; omega) | (simp; done) | (simp; omega)) | (with_reducible refine Chg.alloc ?_ _) | (with_reducible refine Chg.drew ?_) | (with_reducible refine Chg.drewN ?_ _) | (with_reducible refine Chg.no ?_ (by assumption)) | (with_reducible refine Chg.and_ ?_ (by assumption)) | ((with_reducible refine Chg.at_ ?_ (by assumption) ?_); rotate_left; (try simp only [World.size_alloc]); omega)))))).mono ?_); rintro e w1 ⟨rfl, hc1⟩)
      have q1 := (BX.out.no hc1).f3
      (go_wp2_with fail; (with_reducible refine (K2.out _ (HY.out.no (by (repeat (first | (with_reducible exact Chg.refl _ _) | ((with_reducible refine Chg.setNew ?_ _ ?_); rotate_left; first | (dsimp only; omega) | (simp; done) | (simp; omega)) | (with_reducible refine Chg.alloc ?_ _) | (with_reducible refine Chg.drew ?_) | (with_reducible refine Chg.drewN ?_ _) | (with_reducible refine Chg.no ?_ (by assumption)) | (with_reducible refine Chg.and_ ?_ (by assumption)) | ((with_reducible refine Chg.at_ ?_ (by assumption) ?_); rotate_left; (try simp only [World.size_alloc]); omega)))))).mono ?_); rintro e w2 ⟨rfl, hc2⟩)
      go_wp2
      go_ret2
      exact ⟨_, by rw [HF.out]; rfl, by (repeat (first | (with_reducible exact Chg.refl _ _) | ((with_reducible refine Chg.setNew ?_ _ ?_); rotate_left; first | (dsimp only; omega) | (simp; done) | (simp; omega)) | (with_reducible refine Chg.alloc ?_ _) | (with_reducible refine Chg.drew ?_) | (with_reducible refine Chg.drewN ?_ _) | (with_reducible refine Chg.no ?_ (by assumption)) | (with_reducible refine Chg.and_ ?_ (by assumption)) | ((with_reducible refine Chg.at_ ?_ (by assumption) ?_); rotate_left; (try simp only [World.size_alloc]); omega))), fun h => (by rw [HF.out] at h; cases h), fun _ => rfl⟩
    | true =>
      have hn16 : n ≤ 16 := by have := HX.out.len; have := storeB_len hb1; omega
      have hn4 : n' ≤ 1048576 := by have h9 : xv.length = n' := HY.out.len; have := vecB_len ((itemB_iff _).1 hb2).2.1; simp only [] at this; omega
      have HB := hid (fun (k : Int) (v : List Int) (t : Int) (hm : (⟨k, v, t⟩ : It) ∈ xs) => show v.length ≤ 1048576 from by
        obtain ⟨i, hi⟩ := List.getElem?_of_mem hm
        have := vecB_len ((itemB_iff _).1 (storeB_item hb1 hi)).2.1
        simp only [] at this; omega)
      have HP : Hid (putB xs ⟨key, xv, tags⟩ = storeB (putF xs ⟨key, xv, tags⟩)) := by show putB _ _ = _; unfold putB; rw [hb1, hb2]; simp
      have hpl := putF_length xs ⟨key, xv, tags⟩
      rw [hb1] at K1
      rw [hb2] at K2
      have hxl := HX.out.len
      generalize hpf : putF xs ⟨key, xv, tags⟩ = ps at hpl HP
      have hpl' : ps.length ≤ 17 := by omega
      have HPF := hid hpf
      clear hb1 hb2 hpl hxl hpf
      cases hb3 : storeB ps with
      | false =>
        rw [hb3] at HP
        go_enter Try.func112, Try.ntmps112
        (go_wp2_with fail; (with_reducible refine (K1.out _ (HX.out.no (by (repeat (first | (with_reducible exact Chg.refl _ _) | ((with_reducible refine Chg.setNew ?_ _ ?_); rotate_left; first | (dsimp only; omega) | (simp; done) | (simp; omega)) | (with_reducible refine Chg.alloc ?_ _) | (with_reducible refine Chg.drew ?_) | (with_reducible refine Chg.drewN ?_ _) | (with_reducible refine Chg.no ?_ (by assumption)) | (with_reducible refine Chg.and_ ?_ (by assumption)) | ((with_reducible refine Chg.at_ ?_ (by assumption) ?_); rotate_left; (try simp only [World.size_alloc]); omega)))))).mono ?_); rintro e w1 ⟨rfl, hc1⟩)
        have q1 := (BX.out.no hc1).f3
        (go_wp2_with fail; (with_reducible refine (K2.out _ (HY.out.no (by (repeat (first | (with_reducible exact Chg.refl _ _) | ((with_reducible refine Chg.setNew ?_ _ ?_); rotate_left; first | (dsimp only; omega) | (simp; done) | (simp; omega)) | (with_reducible refine Chg.alloc ?_ _) | (with_reducible refine Chg.drew ?_) | (with_reducible refine Chg.drewN ?_ _) | (with_reducible refine Chg.no ?_ (by assumption)) | (with_reducible refine Chg.and_ ?_ (by assumption)) | ((with_reducible refine Chg.at_ ?_ (by assumption) ?_); rotate_left; (try simp only [World.size_alloc]); omega)))))).mono ?_); rintro e w2 ⟨rfl, hc2⟩)
        have q2 := (BX.out.no (hc1.no hc2)).f3
        have hcw : Chg No w w2 := by (repeat (first | (with_reducible exact Chg.refl _ _) | ((with_reducible refine Chg.setNew ?_ _ ?_); rotate_left; first | (dsimp only; omega) | (simp; done) | (simp; omega)) | (with_reducible refine Chg.alloc ?_ _) | (with_reducible refine Chg.drew ?_) | (with_reducible refine Chg.drewN ?_ _) | (with_reducible refine Chg.no ?_ (by assumption)) | (with_reducible refine Chg.and_ ?_ (by assumption)) | ((with_reducible refine Chg.at_ ?_ (by assumption) ?_); rotate_left; (try simp only [World.size_alloc]); omega)))
        (go_wp2_with fail; (with_reducible refine (sPut l0 h0 A n c xs l1 h1 A' n' c' key tags xv _ (HX.out.no hcw) (HY.out.no hcw) hn hn4 HB.out).mono ?_); rintro e w3 ⟨v, rfl, ho, hc3⟩)
        rw [HPF.out] at ho
        obtain ⟨A3, c3, rfl, hr⟩ := ho.read
        have HR := hid hr
        clear hr ho
        have K3 := hid (sValidStore _ _ _ _ _ ps w3 HR.out)
        rw [hb3] at K3
        clear hb3
        (go_wp2_with fail; (with_reducible refine K3.out.mono ?_); rintro e w4 ⟨rfl, hc4⟩)
        go_wp2
        go_ret2
        exact ⟨_, by rw [HP.out]; rfl, by (repeat (first | (with_reducible exact Chg.refl _ _) | ((with_reducible refine Chg.setNew ?_ _ ?_); rotate_left; first | (dsimp only; omega) | (simp; done) | (simp; omega)) | (with_reducible refine Chg.alloc ?_ _) | (with_reducible refine Chg.drew ?_) | (with_reducible refine Chg.drewN ?_ _) | (with_reducible refine Chg.no ?_ (by assumption)) | (with_reducible refine Chg.and_ ?_ (by assumption)) | ((with_reducible refine Chg.at_ ?_ (by assumption) ?_); rotate_left; (try simp only [World.size_alloc]); omega))), fun h => (by rw [HP.out] at h; cases h), fun _ => rfl⟩
      | true =>
        rw [hb3] at HP
        go_enter Try.func112, Try.ntmps112
        (go_wp2_with fail; (with_reducible refine (K1.out _ (HX.out.no (by (repeat (first | (with_reducible exact Chg.refl _ _) | ((with_reducible refine Chg.setNew ?_ _ ?_); rotate_left; first | (dsimp only; omega) | (simp; done) | (simp; omega)) | (with_reducible refine Chg.alloc ?_ _) | (with_reducible refine Chg.drew ?_) | (with_reducible refine Chg.drewN ?_ _) | (with_reducible refine Chg.no ?_ (by assumption)) | (with_reducible refine Chg.and_ ?_ (by assumption)) | ((with_reducible refine Chg.at_ ?_ (by assumption) ?_); rotate_left; (try simp only [World.size_alloc]); omega)))))).mono ?_); rintro e w1 ⟨rfl, hc1⟩)
        have q1 := (BX.out.no hc1).f3
        (go_wp2_with fail; (with_reducible refine (K2.out _ (HY.out.no (by (repeat (first | (with_reducible exact Chg.refl _ _) | ((with_reducible refine Chg.setNew ?_ _ ?_); rotate_left; first | (dsimp only; omega) | (simp; done) | (simp; omega)) | (with_reducible refine Chg.alloc ?_ _) | (with_reducible refine Chg.drew ?_) | (with_reducible refine Chg.drewN ?_ _) | (with_reducible refine Chg.no ?_ (by assumption)) | (with_reducible refine Chg.and_ ?_ (by assumption)) | ((with_reducible refine Chg.at_ ?_ (by assumption) ?_); rotate_left; (try simp only [World.size_alloc]); omega)))))).mono ?_); rintro e w2 ⟨rfl, hc2⟩)
        have q2 := (BX.out.no (hc1.no hc2)).f3
        have hcw : Chg No w w2 := by (repeat (first | (with_reducible exact Chg.refl _ _) | ((with_reducible refine Chg.setNew ?_ _ ?_); rotate_left; first | (dsimp only; omega) | (simp; done) | (simp; omega)) | (with_reducible refine Chg.alloc ?_ _) | (with_reducible refine Chg.drew ?_) | (with_reducible refine Chg.drewN ?_ _) | (with_reducible refine Chg.no ?_ (by assumption)) | (with_reducible refine Chg.and_ ?_ (by assumption)) | ((with_reducible refine Chg.at_ ?_ (by assumption) ?_); rotate_left; (try simp only [World.size_alloc]); omega)))
        (go_wp2_with fail; (with_reducible refine (sPut l0 h0 A n c xs l1 h1 A' n' c' key tags xv _ (HX.out.no hcw) (HY.out.no hcw) hn hn4 HB.out).mono ?_); rintro e w3 ⟨v, rfl, ho, hc3⟩)
        rw [HPF.out] at ho
        have HO := hid ho
        obtain ⟨A3, c3, rfl, hr⟩ := ho.read
        have HR := hid hr
        clear hr ho
        have K3 := hid (sValidStore _ _ _ _ _ ps w3 HR.out)
        rw [hb3] at K3
        clear hb3
        (go_wp2_with fail; (with_reducible refine K3.out.mono ?_); rintro e w4 ⟨rfl, hc4⟩)
        have hsz := hcw.size
        go_wp2
        go_ret2
        exact ⟨_, by rw [HP.out]; rfl, by (repeat (first | (with_reducible exact Chg.refl _ _) | ((with_reducible refine Chg.setNew ?_ _ ?_); rotate_left; first | (dsimp only; omega) | (simp; done) | (simp; omega)) | (with_reducible refine Chg.alloc ?_ _) | (with_reducible refine Chg.drew ?_) | (with_reducible refine Chg.drewN ?_ _) | (with_reducible refine Chg.no ?_ (by assumption)) | (with_reducible refine Chg.and_ ?_ (by assumption)) | ((with_reducible refine Chg.at_ ?_ (by assumption) ?_); rotate_left; (try simp only [World.size_alloc]); omega))), fun _ => by rw [HPF.out]; exact (HO.out.no hc4).down hsz, fun h => (by rw [HP.out] at h; cases h)⟩
end Go.Proofs.Ytifdcdpdihfbjaa
