/- The program's nearest: hits appended, sorted, the first ones kept. -/
import Derived.Test.YtifdcdpdihfbjaaSort
import Derived.Test.YtifdcdpdihfbjaaNear
import Derived.Test.YtifdcdpdihfbjaaKind
import Derived.Deep.RegionWith
import Derived.Deep.RegionLaw
import Derived.Deep.DeepCutAuto
import Derived.Deep.RegionHeld3
namespace Go.Proofs.Ytifdcdpdihfbjaa
open Go.RowKit Go.Sort Go.Shelf
set_option linter.unusedVariables false
set_option linter.unusedSimpArgs false
/-- the first hits in order; the slice of hits itself is sorted -/
def RetFirst (A : Option Addr) (n c : Nat) (xs : List (Int × Int)) (w : World) (e : Ending) (w' : World) : Prop := ∃ v, e = .returned v ∧ OHits w' w.heap.size v xs ∧ Chg (fun j => (Value.slice A n c).ownBlock = some j) w w'
set_option maxHeartbeats 2000000 in
theorem iFirstHits (base : Nat) (A : Option Addr) (n c : Nat) (hs : List (Int × Int)) (q : Nat) (w : World) (h : OHits w base (.slice A n c) hs) (hn : n ≤ 1000000) (hq : q ≤ 1000000) :
    Calls Try.prog 88 #[.slice A n c, .int .i64 (q : Int)] w (RetFirst A n c ((sortHits hs).take q) w) := by
  have HO := hid h
  have hlen : hs.length = n := OSl.len h
  obtain ⟨A9, c9, hv9, hr9⟩ := OHits.read h
  rw [hlen] at hv9 hr9
  injection hv9 with e1 _ e3
  subst e1 e3
  have hnc := hr9.le; have hcm := hr9.cap
  have HLN := hid hlen
  have hm0 : 0 ≤ min (q : Int) (n : Int) := by omega
  have hm1 : min (q : Int) (n : Int) ≤ n := by omega
  have hmn : (min (q : Int) (n : Int)).toNat ≤ n := by omega
  have hmc : (min (q : Int) (n : Int)).toNat ≤ c := by omega
  clear h hlen hr9
  go_enter Try.func88, Try.ntmps88
  (go_wp2_with fail; (with_reducible refine (sortFuncH base A n c hs _ HO.out (by omega)).mono ?_); rintro e w1 ⟨rfl, ho1, hc1⟩)
  have s1 := hc1.size
  obtain ⟨S, hS⟩ : ∃ S, sortHits hs = S := ⟨_, rfl⟩
  rw [hS] at ho1
  have HS := hid hS
  have hSl : S.length = n := OSl.len ho1
  obtain ⟨A3, c3, hv3, hr3⟩ := OHits.read ho1
  rw [hSl] at hv3 hr3
  injection hv3 with e1 _ e3
  subst e1 e3
  have HSL := hid hSl
  have HT := hid (RSl.take hr3 (k := (min (q : Int) (n : Int)).toNat) hmn)
  have HTL := hid (show (S.take (min (q : Int) (n : Int)).toNat).length = (min (q : Int) (n : Int)).toNat from by rw [List.length_take, hSl]; omega)
  have HTE := hid (show S.take (min (q : Int) (n : Int)).toNat = S.take q from by
    by_cases hqn : q ≤ n
    · rw [show (min (q : Int) (n : Int)).toNat = q from by omega]
    · rw [List.take_of_length_le (by rw [hSl]; omega), List.take_of_length_le (by rw [hSl]; omega)])
  have HO0 := hid (OSl.lit (T := 39) (sz := 2) (enc := cHit) (w := w1.alloc (.cells #[] 39)) (base := w.heap.size) (n := 0) [] [] (fun _ => rfl) rfl rfl (by omega) s1 (heap_top rfl))
  have HS1 := hid (src_hits (RHits.no HT.out ((Chg.refl No w1).alloc (.cells #[] 39))))
  clear hS hSl hr3 ho1
  go_wp2_with (at_builtin; refine wpList_push _ rfl _ _ 30 rfl 39 2 16 (.agg #[.int .i64 0, .int .i64 0]) cHit Try.underlying30 infoHit rfl (by omega) (by omega) (fun _ => rfl) oneHit w.heap.size _ [] rfl HO0.out A _ c _ rfl HS1.out (by simp; omega) (by simp; omega) ?_; intro v2 w2 ho2 hg2 hb2)
  have hc2 : Chg No w1 w2 := Chg.grown ((Chg.refl No w1).alloc _) hg2 (fun k hk hlt => by injection hk with hk; simp only [] at hk; omega)
  have HR := hid ho2
  clear ho2 hg2 hb2
  go_wp2
  go_ret
  exact ⟨_, rfl, by rw [HS.out, ← HTE.out]; have h9 := HR.out; rw [List.nil_append] at h9; exact h9, hc1.trans hc2 (fun _ _ h => by cases h)⟩
set_option maxHeartbeats 4000000 in
theorem iNearest (l0 h0 : Nat) (A : Option Addr) (n c : Nat) (xs : List It) (l1 h1 : Nat) (A' : Option Addr) (n' c' : Nat) (at_ : List Int) (kind kk : Int) (w : World) (hx : RItems w l0 h0 A n c xs) (hy : RInts w l1 h1 A' n' c' at_) (hn : n ≤ 1000)
    (hs : ∀ x ∈ xs, vecB x.vec = true) (ha : vecB at_ = true) (hk1 : 1 ≤ kind) (hk4 : kind ≤ 4) (hkk0 : 0 ≤ kk) (hkk1 : kk ≤ 1000000) :
    Calls Try.prog 63 #[.slice A n c, .int .i64 kind, .slice A' n' c', .int .i64 kk] w (RetHits (nearestF xs kind at_ kk) w) := by
  have hnc := hx.le; have hcm := hx.cap
  have HX := hid hx
  have HY := hid hy
  have HS := hid hs
  have HA := hid ha
  obtain ⟨q, rfl⟩ := Int.eq_ofNat_of_zero_le hkk0
  have hn4 : n' = 4 := by have h9 : at_.length = n' := hy.len; have := vecB_len ha; omega
  subst hn4
  have HO0 := hid (show OHits (w.alloc (.cells #[] 39)) w.heap.size (.slice (some ⟨w.heap.size, 0, none⟩) 0 0) [] from OSl.lit (enc := cHit) (n := 0) [] [] (fun _ => rfl) rfl rfl (by omega) (Nat.le_refl _) (heap_top rfl))
  clear hx hy hs ha
  go_enter Try.func63, Try.ntmps63
  go_wp2
  go_loopw [9, 15] (fun v i wr => ∃ k : Nat, k ≤ n ∧ i = .int .i64 k ∧ Chg No w wr ∧ Hid (OHits wr w.heap.size v (hitsOf kind at_ (xs.take k)))) (fun _ i _ => n - (intOf i).toNat)
  case atStart => exact ⟨0, Nat.zero_le _, rfl, by (repeat (first | (with_reducible exact Chg.refl _ _) | ((with_reducible refine Chg.setNew ?_ _ ?_); rotate_left; first | (dsimp only; omega) | (simp; done) | (simp; omega)) | (with_reducible refine Chg.alloc ?_ _) | (with_reducible refine Chg.drew ?_) | (with_reducible refine Chg.drewN ?_ _) | (with_reducible refine Chg.no ?_ (by assumption)) | (with_reducible refine Chg.and_ ?_ (by assumption)) | ((with_reducible refine Chg.at_ ?_ (by assumption) ?_); rotate_left; (try simp only [World.size_alloc]); omega))), HO0⟩
  case round =>
    obtain ⟨k, hk, rfl, hc, HO⟩ := hrel
    obtain ⟨wo, rfl⟩ : ∃ W : World, W = wr := ⟨_, rfl⟩
    have hlen9 : (hitsOf kind at_ (xs.take k)).length = k := by
      rw [hitsOf_length, List.length_take]
      have := HX.out.len
      omega
    by_cases hlt : k < n
    · obtain ⟨b, o, z, rfl, _, _, hzk, hE⟩ := (HX.out.no hc).at_ hlt
      obtain ⟨zk, zv, zt⟩ := z
      obtain ⟨hE1, ⟨A1, n1, c1, hE2, hv⟩, hE3⟩ := hE
      have f1 : wo.cell? ⟨b, o + k * 3, none⟩ = some (.int .i64 zk) := hE1
      have f2 : wo.cell? ⟨b, o + k * 3 + 1, none⟩ = some (.slice A1 n1 c1) := hE2
      have f3 : wo.cell? ⟨b, o + k * 3 + 2, none⟩ = some (.int .i64 zt) := hE3
      have hzv := HS.out _ (List.mem_of_getElem? hzk)
      have hn1 : n1 = 4 := by have h9 : zv.length = n1 := hv.len; have := vecB_len hzv; simp only [] at this; omega
      subst hn1
      have HV := hid hv
      have HD := hid (hitsOf_snoc (kind := kind) (at_ := at_) hzk)
      have HSM := hid (vecB_small hzv)
      obtain ⟨A9, c9, hv9, hr9⟩ := OHits.read HO.out
      rw [hlen9] at hv9
      subst hv9
      have HR := hid hr9
      clear hzk hE1 hE2 hE3 hv hzv hr9
      generalize hacc : hitsOf kind at_ (xs.take k) = acc at *
      have HAC := hid hacc
      clear hacc
      go_wp2_with fail
      have BZ := hid (Box.new (w := wo) [.int .i64 zk, .slice A1 4 c1, .int .i64 zt] 36 rfl)
      have KD := hid (fun W (h : Chg No wo W) => iDistance _ _ _ _ _ _ _ _ _ _ zv at_ kind W (HV.out.no h) (HY.out.no (hc.no h)) (by omega) (by omega) HSM.out (vecB_small HA.out) hk1 hk4)
      obtain ⟨dd, hdd⟩ : ∃ dd, distF kind zv at_ = dd := ⟨_, rfl⟩
      rw [hdd] at KD HD
      clear hdd
      have so := hc.size
      go_region_law (first | ((go_simp; go_at_call 58; (with_reducible refine (KD.out _ (by (repeat (first | (with_reducible exact Chg.refl _ _) | ((with_reducible refine Chg.setNew ?_ _ ?_); rotate_left; first | (dsimp only; omega) | (simp; done) | (simp; omega)) | (with_reducible refine Chg.alloc ?_ _) | (with_reducible refine Chg.drew ?_) | (with_reducible refine Chg.drewN ?_ _) | (with_reducible refine Chg.no ?_ (by assumption)) | (with_reducible refine Chg.and_ ?_ (by assumption)) | ((with_reducible refine Chg.at_ ?_ (by assumption) ?_); rotate_left; (try simp only [World.size_alloc]); omega))))).mono ?_); rintro e w1 ⟨rfl, hcA⟩; have hc1 : Chg No wo w1 := (by (repeat (first | (with_reducible exact Chg.refl _ _) | ((with_reducible refine Chg.setNew ?_ _ ?_); rotate_left; first | (dsimp only; omega) | (simp; done) | (simp; omega)) | (with_reducible refine Chg.alloc ?_ _) | (with_reducible refine Chg.drew ?_) | (with_reducible refine Chg.drewN ?_ _) | (with_reducible refine Chg.no ?_ (by assumption)) | (with_reducible refine Chg.and_ ?_ (by assumption)) | ((with_reducible refine Chg.at_ ?_ (by assumption) ?_); rotate_left; (try simp only [World.size_alloc]); omega))) : Chg No wo w1); have q1 := (BZ.out.no (Chg.no (by (repeat (first | (with_reducible exact Chg.refl _ _) | ((with_reducible refine Chg.setNew ?_ _ ?_); rotate_left; first | (dsimp only; omega) | (simp; done) | (simp; omega)) | (with_reducible refine Chg.alloc ?_ _) | (with_reducible refine Chg.drew ?_) | (with_reducible refine Chg.drewN ?_ _) | (with_reducible refine Chg.no ?_ (by assumption)) | (with_reducible refine Chg.and_ ?_ (by assumption)) | ((with_reducible refine Chg.at_ ?_ (by assumption) ?_); rotate_left; (try simp only [World.size_alloc]); omega)))) hcA)).f3; have HX1 := hid (Src.one (sz := 2) (enc := cHit) (y := (zk, dd)) (Box.new (w := w1) [.int .i64 zk, .int .i64 dd] 39 rfl) rfl); have HH := hid (OSl.alloc (OSl.no HO.out hc1) (.cells #[.int .i64 zk, .int .i64 dd] 39)); have s1 := hc1.size)) | ((refine step_push _ rfl (.tmp 19) (.tmp 28) 30 rfl 39 2 16 (.agg #[.int .i64 0, .int .i64 0]) cHit Try.underlying30 infoHit rfl (by omega) (by omega) (fun _ => rfl) oneHit w.heap.size _ acc rfl HH.out _ 1 1 [(zk, dd)] rfl HX1.out (by omega) (by simp; omega) ?_; intro v2 w2 ho2 hg2 hb2; have hcB : Chg No w w2 := Chg.pushed ((hc.no hc1).alloc _) hg2 HH.out (Nat.le_refl _))))
      all_goals
        have HO8 := hid (show OHits w2 w.heap.size v2 (hitsOf kind at_ (xs.take (k + 1))) from by rw [HD.out]; exact ho2)
        clear ho2 hg2 hb2
        go_wp2
        go_roundw
        case rel => exact ⟨k + 1, by omega, by go_num, hcB, HO8⟩
        case measure => simp [intOf]; omega
    · have h9 := HO.out
      have hxl := HX.out.len
      rw [List.take_of_length_le (by omega)] at h9
      obtain ⟨A9, c9, hv9, hr9⟩ := OHits.read h9
      have hl8 : (hitsOf kind at_ xs).length = n := by rw [hitsOf_length]; omega
      rw [hl8] at hv9
      subst hv9
      have hp9 := hr9.cap; have hk9 := hr9.le
      rw [hl8] at hk9
      have HO8 := hid h9
      have hz := hc.size
      have K := hid (fun W (hW : Chg No wo W) => iFirstHits w.heap.size A9 n c9 (hitsOf kind at_ xs) q W (OSl.no HO8.out hW) (by omega) (by omega))
      have hT : (sortHits (hitsOf kind at_ xs)).take q = nearestF xs kind at_ (q : Int) := by have h7 := nearest_sort xs kind at_ (q : Int); simpa using h7
      rw [hT] at K
      clear h9 hr9 hlen9 hl8 HO hT
      (go_wp2_with fail; (with_reducible refine (K.out _ (by (repeat (first | (with_reducible exact Chg.refl _ _) | ((with_reducible refine Chg.setNew ?_ _ ?_); rotate_left; first | (dsimp only; omega) | (simp; done) | (simp; omega)) | (with_reducible refine Chg.alloc ?_ _) | (with_reducible refine Chg.drew ?_) | (with_reducible refine Chg.drewN ?_ _) | (with_reducible refine Chg.no ?_ (by assumption)) | (with_reducible refine Chg.and_ ?_ (by assumption)) | ((with_reducible refine Chg.at_ ?_ (by assumption) ?_); rotate_left; (try simp only [World.size_alloc]); omega))))).mono ?_); rintro e w2 ⟨v2, rfl, ho2, hc2⟩)
      have HF := hid (OSl.down ho2 (base' := w.heap.size) hz)
      have hcw : Chg No w w2 := hc.trans hc2 (fun i hi h => by have := (World.ownsRow.lt HO8.out i h).1; omega)
      clear ho2 hc2
      go_wp2
      go_ret
      exact ⟨_, rfl, HF.out, hcw⟩
end Go.Proofs.Ytifdcdpdihfbjaa
