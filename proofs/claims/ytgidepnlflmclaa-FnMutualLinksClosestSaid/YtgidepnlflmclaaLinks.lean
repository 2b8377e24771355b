/- Links: the rows of neighbours' keys, the program's and the reference's. -/
import Derived.Test.YtgidepnlflmclaaNearJ
import Derived.Test.YtgidepnlflmclaaPLinks
import Derived.Test.YtgidepnlflmclaaItems
import Derived.Deep.RegionLaw
import Derived.Deep.RegionWith
import Derived.Deep.DeepCutAuto
namespace Go.Proofs.Ytgidepnlflmclaa
open Go.RowKit Go.Shelf
set_option linter.unusedVariables false
set_option linter.unusedSimpArgs false
theorem Src.no {α : Type} {sz : Nat} {enc : α → List Value} {w w' : World} {A : Option Addr} {n : Nat} {xs : List α} (h : Src sz enc w A n xs) (hc : Chg No w w') : Src sz enc w' A n xs :=
  ⟨h.1, fun h0 => by
    obtain ⟨b, o, hA, hx⟩ := h.2 h0
    exact ⟨b, o, hA, fun j x hj i u hu => cell_keep hc (hx j x hj i u hu) (fun e => e)⟩⟩
/-- links are asked of a valid store, a kind, 1 to 5 neighbours -/
def linkB (l : List It) (kind many : Int) : Bool := storeB l && (kindB kind && decide (1 ≤ many ∧ many ≤ 5))
def LinksF (l : List It) (kind many : Int) : List (List Int) := if linkB l kind many = true then linksL l kind many else []
theorem LinksF_no {l : List It} {kind many : Int} (h : linkB l kind many = false) : LinksF l kind many = [] := by unfold LinksF; rw [h]; rfl
theorem LinksF_ok {l : List It} {kind many : Int} (h : linkB l kind many = true) : LinksF l kind many = linksL l kind many := by unfold LinksF; rw [h]; rfl
structure LinkOk (l : List It) (kind many : Int) : Prop where
  store : storeB l = true
  kind1 : 1 ≤ kind
  kind4 : kind ≤ 4
  many1 : 1 ≤ many
  many5 : many ≤ 5
theorem linkB_ok {l : List It} {kind many : Int} (h : linkB l kind many = true) : LinkOk l kind many := by
  unfold linkB kindB at h
  simp only [Bool.and_eq_true, decide_eq_true_eq] at h
  exact ⟨h.1, h.2.1.1, h.2.1.2, h.2.2.1, h.2.2.2⟩
theorem LinkOk.b {l : List It} {kind many : Int} (h : LinkOk l kind many) : linkB l kind many = true := by
  unfold linkB kindB
  rw [h.store, decide_eq_true ⟨h.kind1, h.kind4⟩, decide_eq_true ⟨h.many1, h.many5⟩]; rfl
theorem cut_snoc {l : List It} {i k : Nat} {x : It} (h : l[k]? = some x) : cutL (l.take (k + 1)) i = if k = i then cutL (l.take k) i else cutL (l.take k) i ++ [x] := by
  have hk := (List.getElem?_eq_some_iff.1 h).1
  unfold cutL
  by_cases e : k = i
  · subst e
    rw [if_pos rfl, List.take_take, List.take_take, List.drop_eq_nil_of_le (by rw [List.length_take]; omega), List.drop_eq_nil_of_le (by rw [List.length_take]; omega)]
    congr 1
    congr 1
    omega
  · rw [if_neg e]
    by_cases hlt : k < i
    · rw [List.take_of_length_le (l := l.take (k + 1)) (by rw [List.length_take]; omega), List.take_of_length_le (l := l.take k) (by rw [List.length_take]; omega), List.drop_eq_nil_of_le (by rw [List.length_take]; omega), List.drop_eq_nil_of_le (by rw [List.length_take]; omega), take_snoc h]
      simp
    · rw [take_snoc h, List.take_append_of_le_length (by rw [List.length_take]; omega), List.drop_append_of_le_length (by rw [List.length_take]; omega), List.append_assoc]
set_option maxRecDepth 100000 in
set_option maxHeartbeats 8000000 in
theorem iLinksL (l0 h0 : Nat) (A : Option Addr) (n c : Nat) (xs : List It) (kind many : Int) (w : World) (hx : RItems w l0 h0 A n c xs) (hL : LinkOk xs kind many) :
    Calls Try.prog 48 #[.slice A n c, .int .i64 kind, .int .i64 many] w (RetRows (linksL xs kind many) w) := by
  have hnc := hx.le; have hcm := hx.cap
  have hxl : xs.length = n := hx.len
  have hn16 : n ≤ 16 := by have := storeB_len hL.store; omega
  have HX := hid hx
  have HL := hid hL
  have hmany1 := hL.many1; have hmany5 := hL.many5
  have HO0 := hid (show ORows (w.alloc (.cells #[] 23)) w.heap.size (.slice (some ⟨w.heap.size, 0, none⟩) 0 0) [] from
    ⟨[], rfl, OSl.lit (enc := cRow) (n := 0) [] [] (fun _ => rfl) rfl rfl (by omega) (Nat.le_refl _) (heap_top rfl), (fun p hp => by cases hp), List.Pairwise.nil⟩)
  clear hx hL hxl
  go_enter Try.func48, Try.ntmps48
  go_wp2
  go_loopw [7, 17] (fun v i wr => ∃ k : Nat, k ≤ n ∧ i = .int .i64 k ∧ Chg No w wr ∧ Hid (ORows wr w.heap.size v ((List.range k).map (linkAt xs kind many)))) (fun _ i _ => n - (intOf i).toNat)
  case atStart => exact ⟨0, Nat.zero_le _, rfl, by (repeat (first | (with_reducible exact Chg.refl _ _) | ((with_reducible refine Chg.setNew ?_ _ ?_); rotate_left; first | (dsimp only; omega) | (simp; done) | (simp; omega)) | (with_reducible refine Chg.alloc ?_ _) | (with_reducible refine Chg.drew ?_) | (with_reducible refine Chg.drewN ?_ _) | (with_reducible refine Chg.no ?_ (by assumption)) | (with_reducible refine Chg.and_ ?_ (by assumption)) | ((with_reducible refine Chg.at_ ?_ (by assumption) ?_); rotate_left; (try simp only [World.size_alloc]); omega))), HO0⟩
  case round =>
    clear HO0
    obtain ⟨k, hk, rfl, hc, HO⟩ := hrel
    obtain ⟨wo, rfl⟩ : ∃ W : World, W = wr := ⟨_, rfl⟩
    have so := hc.size
    by_cases hlt : k < n
    · obtain ⟨b, o, z, rfl, _, _, hzk, hE⟩ := (HX.out.no hc).at_ hlt
      obtain ⟨zk, zv, zt⟩ := z
      obtain ⟨hE1, ⟨A1, n1, c1, hE2, hv⟩, hE3⟩ := hE
      have f1 : wo.cell? ⟨b, o + k * 3, none⟩ = some (.int .i64 zk) := hE1
      have f2 : wo.cell? ⟨b, o + k * 3 + 1, none⟩ = some (.slice A1 n1 c1) := hE2
      have f3 : wo.cell? ⟨b, o + k * 3 + 2, none⟩ = some (.int .i64 zt) := hE3
      have hzv := storeB_vec HL.out.store (List.mem_of_getElem? hzk)
      simp only [] at hzv
      have HZV := hid hzv
      have HV := hid hv
      have hxl := HX.out.len
      have HLK := hid (show (nearestF (cutL xs k) kind zv many).map Prod.fst = linkAt xs kind many k from (linkAt_eq hzk).symm)
      have hcl : (cutL xs k).length = n - 1 := by rw [cutL_len (by omega)]; omega
      have hHl : (nearestF (cutL xs k) kind zv many).length ≤ 16 := by rw [nearestF_length]; omega
      clear hE1 hE2 hE3 hv hzv
      have HXo := hid (HX.out.no hc)
      have HS1 := hid (items_ps (RSl.take HXo.out (k := k) (by omega)))
      obtain ⟨ps1, hp11, hs1, hi1⟩ := HS1.out
      have HD0 := RSl.drop HXo.out (k := k + 1) (by omega)
      obtain ⟨AD, hAD⟩ : ∃ AD, (if c = k + 1 then some ⟨b, o, none⟩ else (some (⟨b, o, none⟩ : Addr)).map (·.add ((k + 1) * 3))) = AD := ⟨_, rfl⟩
      rw [hAD] at HD0
      obtain ⟨ps2, hp21, hs2, hi2⟩ := items_ps HD0
      have HAD := hid hAD
      have HPC := hid (show (ps1 ++ ps2).map (·.it) = cutL xs k from by rw [List.map_append, hp11, hp21]; rfl)
      have HPI := hid (show ∀ p ∈ ps1 ++ ps2, RInts wo l0 h0 p.A p.n p.c p.it.vec from fun p hp => by
        rcases List.mem_append.1 hp with h | h
        · exact hi1 p h
        · exact hi2 p h)
      have hpl1 : ps1.length = k := hs1.1
      have hpl2 : ps2.length = n - (k + 1) := hs2.1
      have HP1 := hid hs1
      have HP2 := hid hs2
      obtain ⟨wz, hwz⟩ : ∃ W, wo.alloc (.cells #[.int .i64 zk, .slice A1 n1 c1, .int .i64 zt] 48) = W := ⟨_, rfl⟩
      have hcz : Chg No wo wz := by rw [← hwz]; exact (Chg.refl No wo).alloc _
      have BZ := hid (show Box wz wo.heap.size [.int .i64 zk, .slice A1 n1 c1, .int .i64 zt] from by rw [← hwz]; exact Box.new _ _ rfl)
      have sz := hcz.size
      have i1 : IntKind.i64.wrap ((k : Int) + 1) = (k : Int) + 1 := by rw [IntKind.wrap_i64]; omega
      have i2 : ((k : Int) + 1).toNat = k + 1 := by omega
      have i3 : (k : Int) + 1 ≤ n := by omega
      have i4 : (k : Int) + 1 ≤ c := by omega
      have i5 : 0 ≤ (k : Int) + 1 := by omega
      have i6 : (k : Int) ≤ (k : Int) + 1 := by omega
      have i7 : k ≤ c := by omega
      have i8 : (k : Int) ≤ (c : Int) := by omega
      clear HS1 hp11 hs1 hi1 hAD hp21 hs2 hi2 HD0 hzk
      have hAD := HAD.out
      simp only [Option.map_some, Addr.add_lit] at hAD
      go_wp2_with fail
      clear hwz
      go_cut [10] (fun s10 wx => ∃ (A4 : Option Addr) (c4 : Nat), s10 = .slice A4 (n - 1) c4 ∧ Chg No wz wx ∧ Hid (RItems wx 0 (h0 + wx.heap.size) A4 (n - 1) c4 (cutL xs k)))
      case first =>
        go_region_law (first | (((refine step_push _ rfl (.tmp 22) (.tmp 25) 27 rfl 48 3 40 (.agg #[.int .i64 0, .slice none 0 0, .int .i64 0]) cItem Try.underlying27 infoItem rfl (by omega) (by omega) (fun _ => rfl) oneItem wz.heap.size (.slice (some ⟨_, 0, none⟩) 0 0) [] rfl ?_ (some ⟨b, o, none⟩) k _ ps1 rfl ?_ ?_ ?_ ?_); (refine OSl.lit (enc := cItem) (n := 0) [] [] (fun _ => rfl) rfl rfl (by omega) (Nat.le_refl _) ?_); (first | exact heap_top1 rfl | exact heap_top rfl); (refine Src.no HP1.out ?_); (repeat (first | (with_reducible exact Chg.refl _ _) | ((with_reducible refine Chg.setNew ?_ _ ?_); rotate_left; first | (dsimp only; omega) | (simp; done) | (simp; omega)) | (with_reducible refine Chg.alloc ?_ _) | (with_reducible refine Chg.drew ?_) | (with_reducible refine Chg.drewN ?_ _) | (with_reducible refine Chg.no ?_ (by assumption)) | (with_reducible refine Chg.and_ ?_ (by assumption)) | ((with_reducible refine Chg.at_ ?_ (by assumption) ?_); rotate_left; (try simp only [World.size_alloc]); omega))); (simp; omega); simp; intro v3 w3 ho3 hg3 hb3; have hcA : Chg No wz w3 := Chg.grown (by (repeat (first | (with_reducible exact Chg.refl _ _) | ((with_reducible refine Chg.setNew ?_ _ ?_); rotate_left; first | (dsimp only; omega) | (simp; done) | (simp; omega)) | (with_reducible refine Chg.alloc ?_ _) | (with_reducible refine Chg.drew ?_) | (with_reducible refine Chg.drewN ?_ _) | (with_reducible refine Chg.no ?_ (by assumption)) | (with_reducible refine Chg.and_ ?_ (by assumption)) | ((with_reducible refine Chg.at_ ?_ (by assumption) ?_); rotate_left; (try simp only [World.size_alloc]); omega)))) hg3 (fun j hj hlt => by injection hj with hj; (try simp only [] at hj); omega))) | (((refine step_push _ rfl (.tmp 26) (.tmp 30) 27 rfl 48 3 40 (.agg #[.int .i64 0, .slice none 0 0, .int .i64 0]) cItem Try.underlying27 infoItem rfl (by omega) (by omega) (fun _ => rfl) oneItem wz.heap.size _ ([] ++ ps1) rfl ho3 (AD) ((n - (k + 1))) _ ps2 rfl ?_ ?_ ?_ ?_); exact Src.no HP2.out (hcz.no hcA); (simp; omega); exact hcA.size; intro v4 w4 ho4 hg4 hb4; have hcB : Chg No wz w4 := Chg.pushed hcA hg4 ho3 (Nat.le_refl _); obtain ⟨A4, c4, hv4, hr4⟩ := read_ps ho4 (fun p hp => (HPI.out p (by simpa using hp)).no (hcz.no hcB)); rw [List.nil_append, HPC.out, hcl] at hv4 hr4; subst hv4; have HR4' := hid hr4; clear hr4)))
        all_goals
          go_wp2_with fail
          go_meet
          exact ⟨_, _, rfl, hcB, HR4'⟩
      case rest =>
        obtain ⟨A4, c4, rfl, hcc, HR4⟩ := hcut
        have hp4 := HR4.out.cap; have hq4 := HR4.out.le
        have b4 := (BZ.out.no hcc).f3
        have l4 := (BZ.out.no hcc).lt
        have hco4 : Chg No wo wc := hcz.no hcc
        have sc := hco4.size
        have HK00 := hid (OSl.lit (T := 3) (sz := 1) (enc := cInt) (w := wc.alloc (.cells #[] 3)) (base := wc.heap.size) (n := 0) [] [] (fun _ => rfl) rfl rfl (by omega) (Nat.le_refl _) (heap_top rfl))
        have hcl4 : Chg No wo (wc.alloc (.cells #[] 3)) := hco4.alloc _
        have KN := hid (fun W hh A c (h : RItems W 0 hh A (n - 1) c (cutL xs k)) (h2 : Chg No wo W) => iNearest 0 hh A (n - 1) c (cutL xs k) l0 h0 A1 n1 c1 zv kind many W h (HV.out.no h2) (by omega) (fun x hx => storeB_vec HL.out.store ((cutL_sub xs k).subset hx)) HZV.out HL.out.kind1 HL.out.kind4 (by omega) (by omega))
        obtain ⟨H, hH⟩ : ∃ H, nearestF (cutL xs k) kind zv many = H := ⟨_, rfl⟩
        rw [hH] at KN HLK hHl
        clear hH
        (go_wp2_with fail; (with_reducible refine (KN.out _ _ _ _ (HR4.out.no ((Chg.refl No wc).alloc _)) hcl4).mono ?_); rintro e w5 ⟨v5, rfl, ho5, hc5⟩)
        obtain ⟨A5, c5, rfl, hr5⟩ := OHits.read ho5
        have hp5 := hr5.cap; have hq5 := hr5.le
        simp only [World.size_alloc] at hr5
        have HR5 := hid hr5
        have HK0 := hid (OSl.no HK00.out hc5)
        have h05 : Chg No wo w5 := hcl4.no hc5
        have s5 := hc5.size
        simp only [World.size_alloc] at s5
        have HB0 := hid (show ∀ b, (Value.slice (some ⟨wc.heap.size, 0, none⟩) 0 0).ownBlock = some b → b = wc.heap.size ∨ w5.heap.size ≤ b from fun b hb => by injection hb with hb; exact Or.inl hb.symm)
        clear ho5 hr5 HK00 HR4 hcc
        go_wp2
        go_loopw [11, 40] (fun v i wr => ∃ j : Nat, j ≤ H.length ∧ i = .int .i64 j ∧ Chg (fun b => b = wc.heap.size) w5 wr ∧ Hid (OInts wr wc.heap.size v ((H.take j).map Prod.fst)) ∧ Hid (∀ b, v.ownBlock = some b → b = wc.heap.size ∨ w5.heap.size ≤ b)) (fun _ i _ => H.length - (intOf i).toNat)
        case atStart => exact ⟨0, Nat.zero_le _, rfl, Chg.refl _ _, HK0, HB0⟩
        case round =>
          clear HK0 HB0
          obtain ⟨j, hj, rfl, hcj, HKO, HKB⟩ := hrel
          obtain ⟨wi, rfl⟩ : ∃ W : World, W = wr := ⟨_, rfl⟩
          have si := hcj.size
          by_cases hlj : j < H.length
          · obtain ⟨b5, o5, x, rfl, _, _, hxj, hEj⟩ := (HR5.out.keep hcj (fun b h1 h2 (h3 : b = wc.heap.size) => by omega)).at_ hlj
            obtain ⟨x1, x2⟩ := x
            have e1 : wi.cell? ⟨b5, o5 + j * 2, none⟩ = some (.int .i64 x1) := hEj.1
            have e2 : wi.cell? ⟨b5, o5 + j * 2 + 1, none⟩ = some (.int .i64 x2) := hEj.2
            have HD := hid (show (H.take (j + 1)).map Prod.fst = (H.take j).map Prod.fst ++ [x1] from by rw [take_snoc hxj, List.map_append]; rfl)
            have hl := List.length_take_le j H
            have hl2 : ((H.take j).map Prod.fst).length ≤ 1000 := by rw [List.length_map]; omega
            generalize (H.take j).map Prod.fst = T at *
            obtain ⟨A8, c8, hv8, hr8⟩ := OInts.read HKO.out
            subst hv8
            have hp8 := hr8.cap; have hq8 := hr8.le
            have HH := hid (OSl.alloc (OSl.alloc HKO.out (.cells #[.int .i64 x1, .int .i64 x2] 43)) (.cells #[.int .i64 x1] 3)); have HX1 := hid (Src.one (sz := 1) (enc := cInt) (y := x1) (Box.new (w := wi.alloc (.cells #[.int .i64 x1, .int .i64 x2] 43)) (g := wi.heap.size + 1) [.int .i64 x1] 3 (by simp)) rfl)
            clear hxj hEj hr8 hl
            go_wp2_with (at_builtin; refine wpList_push _ rfl _ _ 23 rfl 3 1 8 (.int .i64 0) cInt Try.underlying23 infoInt rfl (by omega) (by omega) (fun _ => rfl) oneInt wc.heap.size _ T rfl HH.out _ 1 1 [x1] rfl HX1.out (by omega) (by simp; omega) ?_; intro v' w6 hoJ hgJ hbJ)
            have hc7 : Chg (fun b => b = wc.heap.size) w5 w6 := Chg.grown ((hcj.alloc _).alloc _) hgJ (fun b hb hlt => by
              rcases HKB.out b hb with h | h
              · exact h
              · omega)
            have HB7 : Hid (∀ b, v'.ownBlock = some b → b = wc.heap.size ∨ w5.heap.size ≤ b) := fun b hb => by
              rcases hbJ b hb with h | h
              · exact HKB.out b h
              · simp only [World.size_alloc] at h; exact Or.inr (by omega)
            have HO5 : Hid (OInts w6 wc.heap.size v' ((H.take (j + 1)).map Prod.fst)) := by show OInts _ _ _ _; rw [HD.out]; exact hoJ
            clear hoJ hgJ hbJ HX1 HH HKO HKB
            go_wp2
            go_roundw
            case rel => exact ⟨j + 1, by omega, by go_num, hc7, HO5, HB7⟩
            case measure => simp [intOf]; omega
          · have h9 := HKO.out
            rw [List.take_of_length_le (by omega), HLK.out] at h9
            obtain ⟨A8, c8, rfl, ht8⟩ := OInts.typed h9
            have hp8 := ht8.1.cap; have hq8 := ht8.1.le
            have hc58 : Chg No wo wi := h05.trans hcj (fun b hb (h : b = wc.heap.size) => by omega)
            obtain ⟨ps, hps, hoo, hii, haa⟩ := HO.out
            have hpl : ps.length = k := by have h8 := congrArg List.length hps; rw [List.length_map, List.length_map, List.length_range] at h8; exact h8
            have HLT := hid (ORows.lt hii)
            have HGE := hid (tints_ge (ht8.wide (lo' := wo.heap.size) (by omega) (Nat.le_refl _)))
            have s58 := hc58.size
            obtain ⟨R, hR⟩ : ∃ R, linkAt xs kind many k = R := ⟨_, rfl⟩
            rw [hR] at ht8 HGE hq8
            have hRl : R.length ≤ 1000 := by rw [← hR, linkAt_len (by omega)]; omega
            rw [hR]
            have HO1 := hid ((OSl.no hoo hc58).alloc (.cells #[.slice A8 R.length c8] 23))
            have HX := hid (Src.one (sz := 1) (enc := cRow) (y := ⟨R, A8, R.length, c8⟩) (Box.new (w := wi) [.slice A8 R.length c8] 23 rfl) rfl)
            have HII := hid (show ∀ p ∈ ps, TInts (wi.alloc (.cells #[.slice A8 R.length c8] 23)) w.heap.size (wi.alloc (.cells #[.slice A8 R.length c8] 23)).heap.size p.A p.n p.c p.row from fun p hp => (((hii p hp).keep hc58 (fun j h1 _ e => e)).keep ((Chg.refl No wi).alloc (.cells #[.slice A8 R.length c8] 23)) (fun _ _ _ e => e)).wide (Nat.le_refl _) (by simp only [World.size_alloc]; omega))
            have HT1 := hid ((ht8.keep ((Chg.refl No wi).alloc (.cells #[.slice A8 R.length c8] 23)) (fun _ _ _ e => e)).wide (lo' := w.heap.size) (hi' := (wi.alloc (.cells #[.slice A8 R.length c8] 23)).heap.size) (by omega) (by simp))
            have HAA := hid haa
            have HPS := hid hps
            have HRR := hid hR
            obtain ⟨A9, c9, hv9, hl9, hm9, _⟩ := OSl.form hoo
            rw [hpl] at hv9
            subst hv9
            clear hoo hii haa hps h9 ht8 hR hm9
            go_wp2_with (at_builtin; refine wpList_push _ rfl _ _ 44 rfl 23 1 24 (.slice none 0 0) cRow Try.underlying44 infoRow rfl (by omega) (by omega) (fun _ => rfl) oneRow w.heap.size _ ps rfl HO1.out _ 1 1 [⟨R, A8, R.length, c8⟩] rfl HX.out (by omega) (by simp; omega) ?_; intro v' w7 ho hg2 hb2)
            have hc7 : Chg No w w7 := Chg.pushed (a := w) ((hc.no hc58).alloc _) hg2 HO1.out (Nat.le_refl _)
            have HO3 := hid (ORows.push (B := wo.heap.size) HPS.out HO1.out HII.out HT1.out ho hg2 HAA.out HLT.out HGE.out)
            have HO4 : Hid (ORows w7 w.heap.size v' ((List.range (k + 1)).map (linkAt xs kind many))) := by
              show ORows _ _ _ _
              rw [range_snoc, HRR.out]; exact HO3.out
            clear ho hg2 hb2 HX HO1 HII HT1 HAA HPS HLT HGE HO
            go_wp2
            go_roundw
            case rel => exact ⟨k + 1, by omega, by go_num, hc7, HO4⟩
            case measure => simp [intOf]; omega
    · have hkn : k = n := by omega
      have h9 := HO.out
      rw [show (List.range k).map (linkAt xs kind many) = linksL xs kind many from by unfold linksL; rw [HX.out.len, hkn]] at h9
      have HO5 := hid h9
      obtain ⟨A9, c9, hv9, hr9⟩ := ORows.read h9
      subst hv9
      clear HO h9 hr9
      go_wp2
      go_ret
      exact ⟨_, rfl, HO5.out, hc⟩
theorem sHit (l0 h0 l1 h1 : Nat) (A A' : Option Addr) (n c n' c' : Nat) (key tags : Int) (a b : List Int) (kind : Int) (w : World) (ha : RInts w l0 h0 A n c a) (hb : RInts w l1 h1 A' n' c' b) (hva : vecB a = true) (hvb : vecB b = true) (hk1 : 1 ≤ kind) (hk4 : kind ≤ 4) :
    Calls Try.prog 42 #[.agg #[.int .i64 key, .slice A n c, .int .i64 tags], .int .i64 kind, .slice A' n' c'] w fun e w' => e = .returned (.agg #[.int .i64 key, .int .i64 (distF kind a b)]) ∧ Chg No w w' := by
  have HA := hid ha; have HB := hid hb
  have hn : a.length = n := ha.len
  have hn' : b.length = n' := hb.len
  have h4 := vecB_len hva
  have h4' := vecB_len hvb
  have BX := hid (Box.new (w := w) [.int .i64 key, .slice A n c, .int .i64 tags] 48 rfl)
  have K4 := hid (fun W (h : RInts W l0 h0 A n c a) (h2 : RInts W l1 h1 A' n' c' b) => sDist l0 h0 l1 h1 A A' n c n' c' a b kind W h h2 (by omega) (by omega) (vecB_small hva) (vecB_small hvb) hk1 hk4)
  clear ha hb hva hvb h4 h4' hn hn'
  go_enter Try.func42, Try.ntmps42
  go_wp2_with fail
  have BX2 := hid (BX.out.alloc (.cells #[.int .i64 0, .int .i64 0] 43))
  have BY := hid (Box.new (w := w.alloc (.cells #[.int .i64 key, .slice A n c, .int .i64 tags] 48)) (g := w.heap.size + 1) [.int .i64 0, .int .i64 0] 43 (by simp))
  first | (go_region_with (go_at_call 71; (with_reducible refine (K4.out _ (HA.out.no (by (repeat (first | (with_reducible exact Chg.refl _ _) | ((with_reducible refine Chg.setNew ?_ _ ?_); rotate_left; first | (dsimp only; omega) | (simp; done) | (simp; omega)) | (with_reducible refine Chg.alloc ?_ _) | (with_reducible refine Chg.drew ?_) | (with_reducible refine Chg.drewN ?_ _) | (with_reducible refine Chg.no ?_ (by assumption)) | (with_reducible refine Chg.and_ ?_ (by assumption)) | ((with_reducible refine Chg.at_ ?_ (by assumption) ?_); rotate_left; (try simp only [World.size_alloc]); omega))))) (HB.out.no (by (repeat (first | (with_reducible exact Chg.refl _ _) | ((with_reducible refine Chg.setNew ?_ _ ?_); rotate_left; first | (dsimp only; omega) | (simp; done) | (simp; omega)) | (with_reducible refine Chg.alloc ?_ _) | (with_reducible refine Chg.drew ?_) | (with_reducible refine Chg.drewN ?_ _) | (with_reducible refine Chg.no ?_ (by assumption)) | (with_reducible refine Chg.and_ ?_ (by assumption)) | ((with_reducible refine Chg.at_ ?_ (by assumption) ?_); rotate_left; (try simp only [World.size_alloc]); omega)))))).mono ?_); rintro e w3 ⟨rfl, hc3⟩; have q1 := (BX2.out.no (Chg.no (by (repeat (first | (with_reducible exact Chg.refl _ _) | ((with_reducible refine Chg.setNew ?_ _ ?_); rotate_left; first | (dsimp only; omega) | (simp; done) | (simp; omega)) | (with_reducible refine Chg.alloc ?_ _) | (with_reducible refine Chg.drew ?_) | (with_reducible refine Chg.drewN ?_ _) | (with_reducible refine Chg.no ?_ (by assumption)) | (with_reducible refine Chg.and_ ?_ (by assumption)) | ((with_reducible refine Chg.at_ ?_ (by assumption) ?_); rotate_left; (try simp only [World.size_alloc]); omega)))) hc3)).f3; have q2 := (BY.out.no (Chg.no (by (repeat (first | (with_reducible exact Chg.refl _ _) | ((with_reducible refine Chg.setNew ?_ _ ?_); rotate_left; first | (dsimp only; omega) | (simp; done) | (simp; omega)) | (with_reducible refine Chg.alloc ?_ _) | (with_reducible refine Chg.drew ?_) | (with_reducible refine Chg.drewN ?_ _) | (with_reducible refine Chg.no ?_ (by assumption)) | (with_reducible refine Chg.and_ ?_ (by assumption)) | ((with_reducible refine Chg.at_ ?_ (by assumption) ?_); rotate_left; (try simp only [World.size_alloc]); omega)))) hc3)).f2; have q3 := (BX2.out.no (Chg.no (by (repeat (first | (with_reducible exact Chg.refl _ _) | ((with_reducible refine Chg.setNew ?_ _ ?_); rotate_left; first | (dsimp only; omega) | (simp; done) | (simp; omega)) | (with_reducible refine Chg.alloc ?_ _) | (with_reducible refine Chg.drew ?_) | (with_reducible refine Chg.drewN ?_ _) | (with_reducible refine Chg.no ?_ (by assumption)) | (with_reducible refine Chg.and_ ?_ (by assumption)) | ((with_reducible refine Chg.at_ ?_ (by assumption) ?_); rotate_left; (try simp only [World.size_alloc]); omega)))) hc3)).lt; have q4 := (BY.out.no (Chg.no (by (repeat (first | (with_reducible exact Chg.refl _ _) | ((with_reducible refine Chg.setNew ?_ _ ?_); rotate_left; first | (dsimp only; omega) | (simp; done) | (simp; omega)) | (with_reducible refine Chg.alloc ?_ _) | (with_reducible refine Chg.drew ?_) | (with_reducible refine Chg.drewN ?_ _) | (with_reducible refine Chg.no ?_ (by assumption)) | (with_reducible refine Chg.and_ ?_ (by assumption)) | ((with_reducible refine Chg.at_ ?_ (by assumption) ?_); rotate_left; (try simp only [World.size_alloc]); omega)))) hc3)).lt)) | fail
  all_goals go_wp2
  all_goals (refine bodyPost_ret (by simp [results, Try.results42, go_sem, *]; rfl) rfl ?_)
  all_goals exact ⟨rfl, by (repeat (first | (with_reducible exact Chg.refl _ _) | ((with_reducible refine Chg.setNew ?_ _ ?_); rotate_left; first | (dsimp only; omega) | (simp; done) | (simp; omega)) | (with_reducible refine Chg.alloc ?_ _) | (with_reducible refine Chg.drew ?_) | (with_reducible refine Chg.drewN ?_ _) | (with_reducible refine Chg.no ?_ (by assumption)) | (with_reducible refine Chg.and_ ?_ (by assumption)) | ((with_reducible refine Chg.at_ ?_ (by assumption) ?_); rotate_left; (try simp only [World.size_alloc]); omega)))⟩
set_option maxRecDepth 100000 in
set_option maxHeartbeats 8000000 in
theorem sLinksL (l0 h0 : Nat) (A : Option Addr) (n c : Nat) (xs : List It) (kind many : Int) (w : World) (hx : RItems w l0 h0 A n c xs) (hL : LinkOk xs kind many) :
    Calls Try.prog 41 #[.slice A n c, .int .i64 kind, .int .i64 many] w (RetRows (linksL xs kind many) w) := by
  have hnc := hx.le; have hcm := hx.cap
  have hxl : xs.length = n := hx.len
  have hn16 : n ≤ 16 := by have := storeB_len hL.store; omega
  have HX := hid hx
  have HL := hid hL
  have hmany1 := hL.many1; have hmany5 := hL.many5
  have HO0 := hid (show ORows (w.alloc (.cells #[] 23)) w.heap.size (.slice (some ⟨w.heap.size, 0, none⟩) 0 0) [] from
    ⟨[], rfl, OSl.lit (enc := cRow) (n := 0) [] [] (fun _ => rfl) rfl rfl (by omega) (Nat.le_refl _) (heap_top rfl), (fun p hp => by cases hp), List.Pairwise.nil⟩)
  clear hx hL hxl
  go_enter Try.func41, Try.ntmps41
  go_wp2
  go_loopw [7, 8] (fun v i wr => ∃ k : Nat, k ≤ n ∧ i = .int .i64 k ∧ Chg No w wr ∧ Hid (ORows wr w.heap.size v ((List.range k).map (linkAt xs kind many)))) (fun _ i _ => n - (intOf i).toNat)
  case atStart => exact ⟨0, Nat.zero_le _, rfl, by (repeat (first | (with_reducible exact Chg.refl _ _) | ((with_reducible refine Chg.setNew ?_ _ ?_); rotate_left; first | (dsimp only; omega) | (simp; done) | (simp; omega)) | (with_reducible refine Chg.alloc ?_ _) | (with_reducible refine Chg.drew ?_) | (with_reducible refine Chg.drewN ?_ _) | (with_reducible refine Chg.no ?_ (by assumption)) | (with_reducible refine Chg.and_ ?_ (by assumption)) | ((with_reducible refine Chg.at_ ?_ (by assumption) ?_); rotate_left; (try simp only [World.size_alloc]); omega))), HO0⟩
  case round =>
    clear HO0
    obtain ⟨k, hk, rfl, hc, HO⟩ := hrel
    obtain ⟨wo, rfl⟩ : ∃ W : World, W = wr := ⟨_, rfl⟩
    have so := hc.size
    by_cases hlt : k < n
    · obtain ⟨b, o, z, rfl, _, _, hzk, hE⟩ := (HX.out.no hc).at_ hlt
      obtain ⟨zk, zv, zt⟩ := z
      obtain ⟨hE1, ⟨A1, n1, c1, hE2, hv⟩, hE3⟩ := hE
      have f1 : wo.cell? ⟨b, o + k * 3, none⟩ = some (.int .i64 zk) := hE1
      have f2 : wo.cell? ⟨b, o + k * 3 + 1, none⟩ = some (.slice A1 n1 c1) := hE2
      have f3 : wo.cell? ⟨b, o + k * 3 + 2, none⟩ = some (.int .i64 zt) := hE3
      have hzv := storeB_vec HL.out.store (List.mem_of_getElem? hzk)
      simp only [] at hzv
      have HZV := hid hzv
      have HV := hid hv
      have hxl := HX.out.len
      have HLK := hid (show (nearestF (cutL xs k) kind zv many).map Prod.fst = linkAt xs kind many k from (linkAt_eq hzk).symm)
      have hcl : (cutL xs k).length = n - 1 := by rw [cutL_len (by omega)]; omega
      have hHl : (nearestF (cutL xs k) kind zv many).length ≤ 16 := by rw [nearestF_length]; omega
      clear hE1 hE2 hE3 hv hzv
      have HA0 := hid (show OHits (wo.alloc (.cells #[] 43)) wo.heap.size (.slice (some ⟨wo.heap.size, 0, none⟩) 0 0) [] from OSl.lit (enc := cHit) (n := 0) [] [] (fun _ => rfl) rfl rfl (by omega) (Nat.le_refl _) (heap_top rfl))
      clear hzk
      go_wp2
      go_loopw [9, 10] (fun v i wr => ∃ q : Nat, q ≤ n ∧ i = .int .i64 q ∧ Chg No wo wr ∧ Hid (OHits wr wo.heap.size v (addAll many (hitsOf kind zv (cutL (xs.take q) k))))) (fun _ i _ => n - (intOf i).toNat)
      case atStart => exact ⟨0, Nat.zero_le _, rfl, by (repeat (first | (with_reducible exact Chg.refl _ _) | ((with_reducible refine Chg.setNew ?_ _ ?_); rotate_left; first | (dsimp only; omega) | (simp; done) | (simp; omega)) | (with_reducible refine Chg.alloc ?_ _) | (with_reducible refine Chg.drew ?_) | (with_reducible refine Chg.drewN ?_ _) | (with_reducible refine Chg.no ?_ (by assumption)) | (with_reducible refine Chg.and_ ?_ (by assumption)) | ((with_reducible refine Chg.at_ ?_ (by assumption) ?_); rotate_left; (try simp only [World.size_alloc]); omega))), by (show OHits _ _ _ _; rw [show addAll many (hitsOf kind zv (cutL (xs.take 0) k)) = [] from by (have e : cutL (xs.take 0) k = [] := by (unfold cutL; simp)); rw [e]; rfl]; exact HA0.out)⟩
      case round =>
        clear HA0
        obtain ⟨q, hq, rfl, hcq, HQ⟩ := hrel
        obtain ⟨wp, rfl⟩ : ∃ W : World, W = wr := ⟨_, rfl⟩
        have sp := hcq.size
        obtain ⟨A6, c6, hv6, hr6⟩ := OHits.read HQ.out
        have hlen6 : (addAll many (hitsOf kind zv (cutL (xs.take q) k))).length ≤ 1000 := by
          have h1 := addAll_length many (hitsOf kind zv (cutL (xs.take q) k))
          rw [hitsOf_length] at h1
          have h2 := (cutL_sub (xs.take q) k).length_le
          rw [List.length_take] at h2
          omega
        by_cases hlq : q < n
        · obtain ⟨b', o', y, hA', _, _, hyk, hE⟩ := (HX.out.no (hc.no hcq)).at_ hlq
          injection hA' with hA'
          injection hA' with e1 e2 _
          subst e1 e2
          obtain ⟨yk, yv, yt⟩ := y
          obtain ⟨hE1, ⟨A7, n7, c7, hE2, hv7⟩, hE3⟩ := hE
          have g1 : wp.cell? ⟨b, o + q * 3, none⟩ = some (.int .i64 yk) := hE1
          have g2 : wp.cell? ⟨b, o + q * 3 + 1, none⟩ = some (.slice A7 n7 c7) := hE2
          have g3 : wp.cell? ⟨b, o + q * 3 + 2, none⟩ = some (.int .i64 yt) := hE3
          have g4 : wp.cell? ⟨b, o + k * 3 + 1, none⟩ = some (.slice A1 n1 c1) := cell_keep hcq f2 (fun e => e)
          have hyv := storeB_vec HL.out.store (List.mem_of_getElem? hyk)
          simp only [] at hyv
          have HYV := hid hyv
          have HV7 := hid hv7
          have HCS := hid (cut_snoc (i := k) hyk)
          have hp6 := hr6.cap; have hq6 := hr6.le
          have HR6 := hid hr6
          subst hv6
          clear hE1 hE2 hE3 hv7 hyv hyk hr6
          by_cases hqk : q = k
          · have d1 : ((q : Int) != (k : Int)) = false := by simp [hqk]
            have HCS2 := HCS.out
            rw [if_pos hqk] at HCS2
            have HCS3 := hid HCS2
            have HQ2 := hid (Eq.mp (congrArg (fun l => OSl 43 2 cHit wp wo.heap.size (.slice A6 (addAll many (hitsOf kind zv (cutL (xs.take q) k))).length c6) (addAll many (hitsOf kind zv l))) HCS3.out.symm) HQ.out)
            clear HCS HCS2 hqk
            go_wp2
            go_roundw
            case rel => exact ⟨q + 1, by omega, by go_num, hcq, HQ2⟩
            case measure => simp [intOf]; omega
          · have d1 : ((q : Int) != (k : Int)) = true := by simp; omega
            have HCS2 := HCS.out
            rw [if_neg hqk] at HCS2
            have HAD := hid (show addAll many (hitsOf kind zv (cutL (xs.take (q + 1)) k)) = addHitF (addAll many (hitsOf kind zv (cutL (xs.take q) k))) (yk, distF kind yv zv) many from by
              rw [HCS2]
              unfold hitsOf
              rw [List.map_append, List.map_cons, List.map_nil, addAll_snoc])
            clear HCS HCS2 hqk
            obtain ⟨ac, hac⟩ : ∃ ac, addAll many (hitsOf kind zv (cutL (xs.take q) k)) = ac := ⟨_, rfl⟩
            rw [hac] at HR6 HAD HQ hlen6 hq6
            have hac' := hac
            clear hac'
            have KH := hid (fun W (h : Chg No wp W) => sHit _ _ _ _ A7 A1 n7 c7 n1 c1 yk yt yv zv kind W (HV7.out.no h) (HV.out.no (hcq.no h)) HYV.out HZV.out HL.out.kind1 HL.out.kind4)
            obtain ⟨dd, hdd⟩ : ∃ dd, distF kind yv zv = dd := ⟨_, rfl⟩
            rw [hdd] at KH HAD
            have KA := hid (fun W (h : Chg No wp W) => sAddHit _ _ A6 ac.length c6 ac yk dd many W (HR6.out.no h) (by omega) (by omega) (by omega))
            have hacl : (addAll many (hitsOf kind zv (cutL (xs.take q) k))).length = ac.length := by rw [hac]
            have HACL := hid hacl
            clear hdd hac
            rw [HACL.out]
            clear hacl
            go_wp2_with fail
            first | (go_region_with (first | (go_at_call 42; (with_reducible refine (KH.out _ (by (repeat (first | (with_reducible exact Chg.refl _ _) | ((with_reducible refine Chg.setNew ?_ _ ?_); rotate_left; first | (dsimp only; omega) | (simp; done) | (simp; omega)) | (with_reducible refine Chg.alloc ?_ _) | (with_reducible refine Chg.drew ?_) | (with_reducible refine Chg.drewN ?_ _) | (with_reducible refine Chg.no ?_ (by assumption)) | (with_reducible refine Chg.and_ ?_ (by assumption)) | ((with_reducible refine Chg.at_ ?_ (by assumption) ?_); rotate_left; (try simp only [World.size_alloc]); omega))))).mono ?_); rintro e w8 ⟨rfl, hcA⟩) | (go_at_call 70; (with_reducible refine (KA.out _ (by (repeat (first | (with_reducible exact Chg.refl _ _) | ((with_reducible refine Chg.setNew ?_ _ ?_); rotate_left; first | (dsimp only; omega) | (simp; done) | (simp; omega)) | (with_reducible refine Chg.alloc ?_ _) | (with_reducible refine Chg.drew ?_) | (with_reducible refine Chg.drewN ?_ _) | (with_reducible refine Chg.no ?_ (by assumption)) | (with_reducible refine Chg.and_ ?_ (by assumption)) | ((with_reducible refine Chg.at_ ?_ (by assumption) ?_); rotate_left; (try simp only [World.size_alloc]); omega))))).mono ?_); rintro e w9 ⟨v9, rfl, hoB, hcB⟩))) | fail
            all_goals
              have hc9 : Chg No wp w9 := by (repeat (first | (with_reducible exact Chg.refl _ _) | ((with_reducible refine Chg.setNew ?_ _ ?_); rotate_left; first | (dsimp only; omega) | (simp; done) | (simp; omega)) | (with_reducible refine Chg.alloc ?_ _) | (with_reducible refine Chg.drew ?_) | (with_reducible refine Chg.drewN ?_ _) | (with_reducible refine Chg.no ?_ (by assumption)) | (with_reducible refine Chg.and_ ?_ (by assumption)) | ((with_reducible refine Chg.at_ ?_ (by assumption) ?_); rotate_left; (try simp only [World.size_alloc]); omega)))
              have hc8 : Chg No wo w9 := hcq.no hc9
              have s8 := (show Chg No wp w8 from by (repeat (first | (with_reducible exact Chg.refl _ _) | ((with_reducible refine Chg.setNew ?_ _ ?_); rotate_left; first | (dsimp only; omega) | (simp; done) | (simp; omega)) | (with_reducible refine Chg.alloc ?_ _) | (with_reducible refine Chg.drew ?_) | (with_reducible refine Chg.drewN ?_ _) | (with_reducible refine Chg.no ?_ (by assumption)) | (with_reducible refine Chg.and_ ?_ (by assumption)) | ((with_reducible refine Chg.at_ ?_ (by assumption) ?_); rotate_left; (try simp only [World.size_alloc]); omega)))).size
              have HB9 := hid (show OHits w9 wo.heap.size v9 (addAll many (hitsOf kind zv (cutL (xs.take (q + 1)) k))) from by
                rw [HAD.out]; exact OSl.down hoB (base' := wo.heap.size) (by omega))
              clear hoB hcB
              go_wp2
              go_roundw
              case rel => exact ⟨q + 1, by omega, by go_num, hc8, HB9⟩
              case measure => simp [intOf]; omega
        · have hqn : q = n := by omega
          rw [hqn, List.take_of_length_le (by omega), nearest_add] at hv6 hr6
          subst hv6
          obtain ⟨H, hH⟩ : ∃ H, nearestF (cutL xs k) kind zv many = H := ⟨_, rfl⟩
          rw [hH] at HLK hHl hr6
          rw [hH]
          have hp5 := hr6.cap; have hq5 := hr6.le
          obtain ⟨w5, hw5⟩ : ∃ W, wp.alloc (.cells #[] 3) = W := ⟨_, rfl⟩
          have hc5 : Chg No wp w5 := by rw [← hw5]; exact (Chg.refl No wp).alloc _
          have HR5 := hid (hr6.no hc5)
          have HK0 := hid (show OInts w5 wp.heap.size (.slice (some ⟨wp.heap.size, 0, none⟩) 0 0) [] from by rw [← hw5]; exact OSl.lit (T := 3) (sz := 1) (enc := cInt) (w := wp.alloc (.cells #[] 3)) (base := wp.heap.size) (n := 0) [] [] (fun _ => rfl) rfl rfl (by omega) (Nat.le_refl _) (heap_top rfl))
          have h05 : Chg No wo w5 := hcq.no hc5
          have s5 : wp.heap.size + 1 = w5.heap.size := by rw [← hw5]; simp
          have HB0 := hid (show ∀ b, (Value.slice (some ⟨wp.heap.size, 0, none⟩) 0 0).ownBlock = some b → b = wp.heap.size ∨ w5.heap.size ≤ b from fun b hb => by injection hb with hb; exact Or.inl hb.symm)
          have HS5 := hid s5
          have s5' : wp.heap.size + 1 ≤ w5.heap.size := by omega
          clear hr6 hH HQ hlen6 s5 hqn
          go_wp2
          clear hw5
          go_loopw [11, 12] (fun v i wr => ∃ j : Nat, j ≤ H.length ∧ i = .int .i64 j ∧ Chg (fun b => b = wp.heap.size) w5 wr ∧ Hid (OInts wr wp.heap.size v ((H.take j).map Prod.fst)) ∧ Hid (∀ b, v.ownBlock = some b → b = wp.heap.size ∨ w5.heap.size ≤ b)) (fun _ i _ => H.length - (intOf i).toNat)
          case atStart => exact ⟨0, Nat.zero_le _, rfl, Chg.refl _ _, HK0, HB0⟩
          case round =>
            clear HK0 HB0
            obtain ⟨j, hj, rfl, hcj, HKO, HKB⟩ := hrel
            obtain ⟨wi, rfl⟩ : ∃ W : World, W = wr := ⟨_, rfl⟩
            have si := hcj.size
            by_cases hlj : j < H.length
            · obtain ⟨b5, o5, x, rfl, _, _, hxj, hEj⟩ := (HR5.out.keep hcj (fun b h1 h2 (h3 : b = wp.heap.size) => by omega)).at_ hlj
              obtain ⟨x1, x2⟩ := x
              have e1 : wi.cell? ⟨b5, o5 + j * 2, none⟩ = some (.int .i64 x1) := hEj.1
              have e2 : wi.cell? ⟨b5, o5 + j * 2 + 1, none⟩ = some (.int .i64 x2) := hEj.2
              have HD := hid (show (H.take (j + 1)).map Prod.fst = (H.take j).map Prod.fst ++ [x1] from by rw [take_snoc hxj, List.map_append]; rfl)
              have hl := List.length_take_le j H
              have hl2 : ((H.take j).map Prod.fst).length ≤ 1000 := by rw [List.length_map]; omega
              generalize (H.take j).map Prod.fst = T at *
              obtain ⟨A8, c8, hv8, hr8⟩ := OInts.read HKO.out
              subst hv8
              have hp8 := hr8.cap; have hq8 := hr8.le
              have HH := hid (OSl.alloc HKO.out (.cells #[.int .i64 x1] 3)); have HX1 := hid (Src.one (sz := 1) (enc := cInt) (y := x1) (Box.new (w := wi) (g := wi.heap.size) [.int .i64 x1] 3 rfl) rfl)
              clear hxj hEj hr8 hl
              go_wp2_with (at_builtin; refine wpList_push _ rfl _ _ 23 rfl 3 1 8 (.int .i64 0) cInt Try.underlying23 infoInt rfl (by omega) (by omega) (fun _ => rfl) oneInt wp.heap.size _ T rfl HH.out _ 1 1 [x1] rfl HX1.out (by omega) (by simp; omega) ?_; intro v' w6 hoJ hgJ hbJ)
              have hc7 : Chg (fun b => b = wp.heap.size) w5 w6 := Chg.grown (hcj.alloc _) hgJ (fun b hb hlt => by
                rcases HKB.out b hb with h | h
                · exact h
                · omega)
              have HB7 : Hid (∀ b, v'.ownBlock = some b → b = wp.heap.size ∨ w5.heap.size ≤ b) := fun b hb => by
                rcases hbJ b hb with h | h
                · exact HKB.out b h
                · simp only [World.size_alloc] at h; exact Or.inr (by omega)
              have HO5 : Hid (OInts w6 wp.heap.size v' ((H.take (j + 1)).map Prod.fst)) := by show OInts _ _ _ _; rw [HD.out]; exact hoJ
              clear hoJ hgJ hbJ HX1 HH HKO HKB
              go_wp2
              go_roundw
              case rel => exact ⟨j + 1, by omega, by go_num, hc7, HO5, HB7⟩
              case measure => simp [intOf]; omega
            · have h9 := HKO.out
              rw [List.take_of_length_le (by omega), HLK.out] at h9
              obtain ⟨A8, c8, rfl, ht8⟩ := OInts.typed h9
              have hp8 := ht8.1.cap; have hq8 := ht8.1.le
              have hc58 : Chg No wo wi := h05.trans hcj (fun b hb (h : b = wp.heap.size) => by omega)
              obtain ⟨ps, hps, hoo, hii, haa⟩ := HO.out
              have hpl : ps.length = k := by have h8 := congrArg List.length hps; rw [List.length_map, List.length_map, List.length_range] at h8; exact h8
              have HLT := hid (ORows.lt hii)
              have HGE := hid (tints_ge (ht8.wide (lo' := wo.heap.size) (by omega) (Nat.le_refl _)))
              have s58 := hc58.size
              obtain ⟨R, hR⟩ : ∃ R, linkAt xs kind many k = R := ⟨_, rfl⟩
              rw [hR] at ht8 HGE hq8
              have hRl : R.length ≤ 1000 := by rw [← hR, linkAt_len (by omega)]; omega
              rw [hR]
              have HO1 := hid ((OSl.no hoo hc58).alloc (.cells #[.slice A8 R.length c8] 23))
              have HX := hid (Src.one (sz := 1) (enc := cRow) (y := ⟨R, A8, R.length, c8⟩) (Box.new (w := wi) [.slice A8 R.length c8] 23 rfl) rfl)
              have HII := hid (show ∀ p ∈ ps, TInts (wi.alloc (.cells #[.slice A8 R.length c8] 23)) w.heap.size (wi.alloc (.cells #[.slice A8 R.length c8] 23)).heap.size p.A p.n p.c p.row from fun p hp => (((hii p hp).keep hc58 (fun j h1 _ e => e)).keep ((Chg.refl No wi).alloc (.cells #[.slice A8 R.length c8] 23)) (fun _ _ _ e => e)).wide (Nat.le_refl _) (by simp only [World.size_alloc]; omega))
              have HT1 := hid ((ht8.keep ((Chg.refl No wi).alloc (.cells #[.slice A8 R.length c8] 23)) (fun _ _ _ e => e)).wide (lo' := w.heap.size) (hi' := (wi.alloc (.cells #[.slice A8 R.length c8] 23)).heap.size) (by omega) (by simp))
              have HAA := hid haa
              have HPS := hid hps
              have HRR := hid hR
              obtain ⟨A9, c9, hv9, hl9, hm9, _⟩ := OSl.form hoo
              rw [hpl] at hv9
              subst hv9
              clear hoo hii haa hps h9 ht8 hR hm9
              go_wp2_with (at_builtin; refine wpList_push _ rfl _ _ 44 rfl 23 1 24 (.slice none 0 0) cRow Try.underlying44 infoRow rfl (by omega) (by omega) (fun _ => rfl) oneRow w.heap.size _ ps rfl HO1.out _ 1 1 [⟨R, A8, R.length, c8⟩] rfl HX.out (by omega) (by simp; omega) ?_; intro v' w7 ho hg2 hb2)
              have hc7 : Chg No w w7 := Chg.pushed (a := w) ((hc.no hc58).alloc _) hg2 HO1.out (Nat.le_refl _)
              have HO3 := hid (ORows.push (B := wo.heap.size) HPS.out HO1.out HII.out HT1.out ho hg2 HAA.out HLT.out HGE.out)
              have HO4 : Hid (ORows w7 w.heap.size v' ((List.range (k + 1)).map (linkAt xs kind many))) := by
                show ORows _ _ _ _
                rw [range_snoc, HRR.out]; exact HO3.out
              clear ho hg2 hb2 HX HO1 HII HT1 HAA HPS HLT HGE HO
              go_wp2
              go_roundw
              case rel => exact ⟨k + 1, by omega, by go_num, hc7, HO4⟩
              case measure => simp [intOf]; omega
    · have hkn : k = n := by omega
      have h9 := HO.out
      rw [show (List.range k).map (linkAt xs kind many) = linksL xs kind many from by unfold linksL; rw [HX.out.len, hkn]] at h9
      have HO5 := hid h9
      obtain ⟨A9, c9, hv9, hr9⟩ := ORows.read h9
      subst hv9
      clear HO h9 hr9
      go_wp2
      go_ret
      exact ⟨_, rfl, HO5.out, hc⟩
end Go.Proofs.Ytgidepnlflmclaa
