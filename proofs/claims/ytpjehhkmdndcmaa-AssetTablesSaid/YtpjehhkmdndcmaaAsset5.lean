/- Assets: contracts of asset.byId, BinarySearchFunc, Clone, Insert. -/
import Derived.Test.YtpjehhkmdndcmaaAsset4
import Derived.Test.YtpjehhkmdndcmaaWide2
import Derived.Deep.RegionLaw
import Derived.Outline
namespace Go.Proofs.Ytpjehhkmdndcmaa
open Go.RowKit
set_option maxHeartbeats 400000 in
theorem cmpInt (a b : Int) (w : World) :
    Calls Try.prog 105 #[.int .i64 a, .int .i64 b] w fun e w' => e = .returned (.int .i64 (ord a b)) ∧ w = w' := by
  go_enter Try.func105, Try.ntmps105
  go_wp2
  all_goals (go_ret; exact ⟨ret_int (by unfold ord; repeat' split <;> omega), rfl⟩)
set_option maxRecDepth 100000 in
set_option maxHeartbeats 400000 in
theorem assetById (x : Asset) (id : Int) (w : World) :
    Calls Try.prog 86 #[.agg #[.int .i64 x.id, .int .i64 x.price, .int .i64 x.hair], .int .i64 id] w fun e w' => e = .returned (.int .i64 (ord x.id id)) ∧ Below w.heap.size w w' := by
  go_enter Try.func86, Try.ntmps86
  go_wp2_with (go_at_call 105; (with_reducible refine (cmpInt _ _ _).mono ?_); rintro e w1 ⟨rfl, rfl⟩)
  go_ret
  exact ⟨rfl, by (repeat' (first | (with_reducible exact Below.refl _ _) | (with_reducible assumption) | (with_reducible refine Below.alloc ?_ ?_ _) | (with_reducible refine Below.setCell ?_ ?_ _) | (with_reducible refine Below.drew ?_) | (with_reducible refine below_drewN ?_ _) | (with_reducible refine below_via ?_ (by with_reducible assumption) ?_) | omega | (simp; done) | (simp; omega)))⟩
set_option maxRecDepth 100000 in
set_option maxHeartbeats 4000000 in
theorem assetSearch (l : List Asset) (id : Int) (A : Option Addr) (c : Nat) (w : World) (hl : l.length ≤ 1048576) (hr : Rd w A 3 (l.map encAsset)) (hs : ∀ i j (_ : i < j) (hj : j < l.length), (fun x : Asset => decide (ord x.id id < 0)) l[j] = true → (fun x : Asset => decide (ord x.id id < 0)) l[i] = true) :
    Calls Try.prog 85 #[.slice A l.length c, .int .i64 id, .func (Fn.func 86) #[] #[]] w fun e w' => e = .returned (.tuple #[.int .i64 ((l.takeWhile (fun x : Asset => decide (ord x.id id < 0))).length : Nat), .bool (atB (fun x : Asset => (ord x.id id == 0)) l (l.takeWhile (fun x : Asset => decide (ord x.id id < 0))).length)]) ∧ Below w.heap.size w w' := by
  have HR := Lib.hid hr
  have HSO := Lib.hid hs
  clear hr hs
  go_enter Try.func85, Try.ntmps85
  go_wp2_with fail
  go_loopw [9, 10] (fun i j wr => ∃ (a b : Nat), a ≤ b ∧ b ≤ l.length ∧ i = .int .i64 a ∧ j = .int .i64 b ∧ (∀ q (_ : q < l.length), q < a → (fun x : Asset => decide (ord x.id id < 0)) l[q] = true) ∧ (∀ q (_ : q < l.length), b ≤ q → (fun x : Asset => decide (ord x.id id < 0)) l[q] = false) ∧ Below w.heap.size w wr) (fun i j _ => (intOf j).toNat - (intOf i).toNat)
  case atStart => exact ⟨0, l.length, Nat.zero_le _, Nat.le_refl _, rfl, rfl, fun q _ h => absurd h (by omega), fun q h1 h2 => absurd h1 (by omega), Below.refl _ _⟩
  case round =>
    obtain ⟨p, q, hpq, hql, rfl, rfl, hlo, hhi, hbl⟩ := hrel
    have Hlo := Lib.hid hlo
    have Hhi := Lib.hid hhi
    have Hbl := Lib.hid hbl
    have hz := hbl.size
    clear hlo hhi hbl
    by_cases hlt : p < q
    · have d1 : decide ((p : Int) < (q : Int)) = true := by simpa using hlt
      obtain ⟨h, hh⟩ : ∃ h, h = (p + q) / 2 := ⟨_, rfl⟩
      have hhp : p ≤ h ∧ h < q := by omega
      have hhl : h < l.length := by omega
      have hhi : ((p : Int) + (q : Int)) / 2 < (l.length : Int) := by omega
      have w9 : IntKind.i64.wrap ((p : Int) + (q : Int)) = (p : Int) + (q : Int) := by rw [IntKind.wrap_i64]; omega
      have w8 : IntKind.u64.wrap ((p : Int) + (q : Int)) = (p : Int) + (q : Int) := by rw [IntKind.wrap_u64]; omega
      obtain ⟨b, o, rfl, hb, hc⟩ := HR.out h (encAsset l[h]) (by simp [hhl])
      have e0 := (Hbl.out.cell (p := ⟨b, o + h * 3 + 0, none⟩) hb).trans (hc 0 _ rfl)
      have e1 := (Hbl.out.cell (p := ⟨b, o + h * 3 + 1, none⟩) hb).trans (hc 1 _ rfl)
      have e2 := (Hbl.out.cell (p := ⟨b, o + h * 3 + 2, none⟩) hb).trans (hc 2 _ rfl)
      simp only [Nat.add_zero] at e0
      clear hc
      subst hh
      cases hm : decide (ord l[(p + q) / 2].id id < 0)
      · have Hm := Lib.hid hm
        go_wp2_with (go_at_call 86; (with_reducible refine (assetById l[(p + q) / 2] id _).mono ?_); rintro e w3 ⟨rfl, hb3⟩; have hz3 := hb3.size; have Hb3 := Lib.hid hb3; clear hb3)
        go_roundw
        case rel =>
          refine ⟨p, (p + q) / 2, by omega, by omega, rfl, by go_num, Hlo.out, ?_, Hbl.out.trans (Hb3.out.mono hz)⟩
          intro q' hq' h1
          cases h2 : decide (ord l[q'].id id < 0)
          · rfl
          · exfalso
            by_cases h3 : (p + q) / 2 < q'
            · have h4 := HSO.out ((p + q) / 2) q' h3 hq' h2
              have h5 : decide (ord l[(p + q) / 2].id id < 0) = true := h4
              rw [Hm.out] at h5; cases h5
            · have h6 : q' = (p + q) / 2 := by omega
              subst h6
              rw [Hm.out] at h2; cases h2
        case measure => simp [intOf]; omega
      · have Hm := Lib.hid hm
        have w5 : IntKind.i64.wrap (((p : Int) + (q : Int)) / 2 + 1) = ((p : Int) + (q : Int)) / 2 + 1 := by rw [IntKind.wrap_i64]; omega
        go_wp2_with (go_at_call 86; (with_reducible refine (assetById l[(p + q) / 2] id _).mono ?_); rintro e w3 ⟨rfl, hb3⟩; have hz3 := hb3.size; have Hb3 := Lib.hid hb3; clear hb3)
        go_roundw
        case rel =>
          refine ⟨(p + q) / 2 + 1, q, by omega, by omega, by go_num, rfl, ?_, Hhi.out, Hbl.out.trans (Hb3.out.mono hz)⟩
          intro q' hq' h1
          by_cases h3 : q' < (p + q) / 2
          · exact HSO.out q' ((p + q) / 2) h3 hhl Hm.out
          · have h6 : q' = (p + q) / 2 := by omega
            subst h6
            exact Hm.out
        case measure => simp [intOf]; omega
    · obtain rfl : p = q := by omega
      have d1 : decide ((p : Int) < (p : Int)) = false := by simp
      have hw := while_cut (p := fun x : Asset => decide (ord x.id id < 0)) (fun j hj h => Hlo.out j hj h) hql (fun h => Hhi.out p h (Nat.le_refl _))
      have hlen : (l.takeWhile (fun x : Asset => decide (ord x.id id < 0))).length = p := by rw [hw.1, List.length_take]; omega
      have HL := Lib.hid hlen
      clear hw hlen
      by_cases hpl : p < l.length
      · have d2 : decide ((p : Int) < (l.length : Int)) = true := by simpa using hpl
        have hpi : (p : Int) < (l.length : Int) := by omega
        obtain ⟨b, o, rfl, hb, hc⟩ := HR.out p (encAsset l[p]) (by simp [hpl])
        have e0 := (Hbl.out.cell (p := ⟨b, o + p * 3 + 0, none⟩) hb).trans (hc 0 _ rfl)
        have e1 := (Hbl.out.cell (p := ⟨b, o + p * 3 + 1, none⟩) hb).trans (hc 1 _ rfl)
        have e2 := (Hbl.out.cell (p := ⟨b, o + p * 3 + 2, none⟩) hb).trans (hc 2 _ rfl)
        simp only [Nat.add_zero] at e0
        clear hc
        obtain ⟨h, hh⟩ : ∃ h, h = p := ⟨_, rfl⟩
        have HG := Lib.hid (atB_some (p := fun x : Asset => (ord x.id id == 0)) hpl)
        go_wp2_with (go_at_call 86; (with_reducible refine (assetById l[p] id _).mono ?_); rintro e w3 ⟨rfl, hb3⟩; have hz3 := hb3.size; have Hb3 := Lib.hid hb3; clear hb3)
        go_ret2
        exact ⟨by rw [HL.out, HG.out]; rfl, Hbl.out.trans (Hb3.out.mono hz)⟩
      · have d2 : decide ((p : Int) < (l.length : Int)) = false := by simpa using hpl
        have HG := Lib.hid (atB_none (p := fun x : Asset => (ord x.id id == 0)) (Nat.le_of_not_lt hpl))
        go_wp2_with fail
        go_ret2
        exact ⟨by rw [HL.out, HG.out]; rfl, Hbl.out⟩
set_option maxRecDepth 100000 in
set_option maxHeartbeats 1000000 in
theorem assetClone (l : List Asset) (A : Option Addr) (c : Nat) (w : World) (hl : l.length ≤ 1099511627776) (hr : Rs w 3 (l.map encAsset) A c) :
    Calls Try.prog 88 #[.slice A l.length c] w fun e w' => ∃ v, e = .returned v ∧ Own w' w.heap.size 51 3 v (l.map encAsset) ∧ Below w.heap.size w w' := by
  have Hr := Lib.hid hr
  have hnil := fun W : World => Lib.run_eql_slice_nil (P := Try.prog) W 71 51 A l.length c 0 0 Try.underlying71
  rcases A with _ | ad
  · have hl0 : l = [] := List.map_eq_nil_iff.1 hr.nilrows
    have hc0 : c = 0 := hr.nil rfl
    subst hl0 hc0
    simp only [List.length_nil] at hnil ⊢
    clear hr
    go_enter Try.func88, Try.ntmps88
    go_wp2_with fail
    go_ret
    exact ⟨_, rfl, Own.nil _ _ _ _, by (repeat' (first | (with_reducible exact Below.refl _ _) | (with_reducible assumption) | (with_reducible refine Below.alloc ?_ ?_ _) | (with_reducible refine Below.setCell ?_ ?_ _) | (with_reducible refine Below.drew ?_) | (with_reducible refine below_drewN ?_ _) | (with_reducible refine below_via ?_ (by with_reducible assumption) ?_) | omega | (simp; done) | (simp; omega)))⟩
  · clear hr
    go_enter Try.func88, Try.ntmps88
    go_wp2_with (at_builtin; refine wpList_app rfl _ _ _ rfl elAsset w.heap.size _ [] rfl (Own.made w (Nat.le_refl _)) (some ad) l.length c rfl (l.map encAsset) (by simp) (fun h => by cases h) (Hr.out.keep ((Below.refl _ _).alloc (Nat.le_refl _) _)).rd (rowsAsset l) (by unfold maxLen; simp; omega) (by simp; omega) (by simp) ?_; intro v' w3 hown3 hb3)
    go_ret
    exact ⟨v', rfl, by simpa using hown3, ((Below.refl _ _).alloc (Nat.le_refl _) _).trans hb3⟩
theorem zone_Asset (z : Value) (h : (Try.prog.info? 51).bind (·.zero) = some z) : ∀ u ∈ z.cells, u.oneCell' = true := by
  have e : (Try.prog.info? 51).bind (·.zero) = some (.agg #[.int .i64 0, .int .i64 0, .int .i64 0]) := by kernel_rfl
  rw [h] at e
  injection e with e
  subst e
  simp [Value.cells]
  decide
theorem own_put3 {w : World} {base E : Nat} {v : Value} {rows : List (List Value)} (h : Own w base E 3 v rows) {g n c : Nat} (hv : v = .slice (some ⟨g, 0, none⟩) n c) {i : Nat} (hi : i < rows.length) (v0 v1 v2 : Value) :
    Own (((w.setCell ⟨g, i * 3, none⟩ v0).setCell ⟨g, i * 3 + 1, none⟩ v1).setCell ⟨g, i * 3 + 2, none⟩ v2) base E 3 v (rows.set i [v0, v1, v2]) := by
  have hr := h.1 _ (List.getElem_mem hi)
  obtain ⟨p0, p1, p2, he⟩ : ∃ p0 p1 p2, rows[i] = [p0, p1, p2] := by
    match h4 : rows[i], hr with
    | [p0, p1, p2], _ => exact ⟨p0, p1, p2, rfl⟩
  have h0 := h.put hv (List.getElem?_eq_getElem hi) (show 0 < 3 from by omega) v0
  have h1 := h0.put hv (List.getElem?_set_self (by simpa using hi)) (show 1 < 3 from by omega) v1
  have h2 := h1.put hv (List.getElem?_set_self (by simpa using hi)) (show 2 < 3 from by omega) v2
  simp only [List.set_set, he, List.set_cons_zero, List.set_cons_succ, Nat.add_zero] at h2
  exact h2
theorem insAssetAt_over (w : World) (gv g o lb cb m vc : Nat) (x : Asset) (cur : Array Value) (hv : Blk w gv 51 #[.int .i64 x.id, .int .i64 x.price, .int .i64 x.hair]) (hg : Blk w g 51 cur) (hne : gv ≠ g) (hc : cur.size ≠ 0) :
    (callFunc 106 #[.slice (some ⟨gv, 0, none⟩) m vc, .slice (some ⟨g, o, none⟩) lb cb]).run Try.prog w = .ok (.value (.bool false)) w := by
  rw [run_callFunc_extern Try.func106 (by kernel_rfl) (by kernel_rfl) (by kernel_rfl) (e := Extern.SlicesOverlaps.overlaps #[71, 71] #[4]) (by kernel_rfl),
    Lib.run_overlaps_apart w 71 4 51 Try.underlying71 3 (fun _ => by kernel_rfl) ⟨gv, 0, none⟩ ⟨g, o, none⟩ m vc lb cb hne _ _ _ _ hv.shape hg.shape hc (hv.frozen 0) (hv.frozen _)]
  rfl
set_option maxRecDepth 100000 in
set_option maxHeartbeats 4000000 in
theorem insAssetAt (l : List Asset) (x : Asset) (i : Nat) (v : Value) (base gv : Nat) (w : World) (hi : i ≤ l.length) (hl : l.length ≤ 1048576) (hbs : base ≤ w.heap.size) (hown : Own w base 51 3 v (l.map encAsset)) (hv : Blk w gv 51 #[.int .i64 x.id, .int .i64 x.price, .int .i64 x.hair]) (hne : v.ownBlock ≠ some gv) :
    Calls Try.prog 87 #[v, .int .i64 i, .slice (some ⟨gv, 0, none⟩) 1 1] w fun e w' => ∃ v', e = .returned v' ∧ Own w' base 51 3 v' ((l.take i ++ x :: l.drop i).map encAsset) ∧ Below base w w' := by
  have HOWN := Lib.hid hown
  have HV := Lib.hid hv
  have hil : (i : Int) ≤ (l.length : Int) := by omega
  obtain ⟨A, c, hv0, hrs, hform⟩ := hown.rs
  have hcap := hrs.cap
  have hroom := hrs.room
  rw [List.length_map] at hv0 hcap
  unfold maxLen at hroom
  subst hv0
  have HRD := Lib.hid hrs.rd
  clear hown hrs hv
  cases he : ((i : Int) == (l.length : Int))
  rotate_left
  · have hie : i = l.length := by have := eq_of_beq he; omega
    have HE := Lib.hid (show (l.take i ++ x :: l.drop i).map encAsset = l.map encAsset ++ [encAsset x] from by rw [hie, List.take_length, List.drop_length]; simp)
    have hie1 : i ≤ l.length ∧ l.length ≤ i := by omega
    clear hie
    have tailc : (A = none ∧ l.length = 0 ∧ c = 0 ∧ i = 0) ∨ (∃ g, A = some ⟨g, 0, none⟩ ∧ c = i) ∨ (∃ g, A = some ⟨g, 0, none⟩ ∧ ¬ c = i) := by
      rcases hform with ⟨h1, h2, h3⟩ | ⟨g, h1, _⟩
      · left; exact ⟨h1, by simpa using congrArg List.length h2, h3, by have := congrArg List.length h2; simp at this; rw [this] at hie1; simpa using hie1.1⟩
      · right
        by_cases h : c = i
        · left; exact ⟨g, h1, h⟩
        · right; exact ⟨g, h1, h⟩
    rcases tailc with ⟨rfl, hl0, rfl, rfl⟩ | ⟨g, rfl, hc⟩ | ⟨g, rfl, hc⟩
    · have hl1 : l = [] := List.eq_nil_of_length_eq_zero hl0
      subst hl1
      simp only [List.length_nil]
      go_enter Try.func87, Try.ntmps87
      go_wp2_with (at_builtin; refine wpList_app rfl _ _ _ rfl elAsset base _ [] rfl (Own.nil _ _ _ _) (some ⟨gv, 0, none⟩) 1 1 rfl [encAsset x] rfl (fun h => by cases h) HV.out.rd (rowsAsset [x]) (by unfold maxLen; first | (simp; done) | omega | (simp; omega)) (by first | (simp; done) | omega | (simp; omega)) hbs ?_; intro v' w3 hown3 hb3)
      go_ret
      exact ⟨v', rfl, by simpa using hown3, hb3⟩
    · have hc' : ¬ c < i := by omega
      have hc2 : c ≤ i ∧ i ≤ c := by omega
      subst hc
      go_enter Try.func87, Try.ntmps87
      go_wp2_with (at_builtin; refine wpList_app rfl _ _ _ rfl elAsset base _ (l.map encAsset) rfl HOWN.out (some ⟨gv, 0, none⟩) 1 1 rfl [encAsset x] rfl (fun h => by cases h) HV.out.rd (rowsAsset [x]) (by unfold maxLen; first | (simp; done) | omega | (simp; omega)) (by first | (simp; done) | omega | (simp; omega)) hbs ?_; intro v' w3 hown3 hb3)
      go_ret
      exact ⟨v', rfl, by rw [HE.out]; exact hown3, hb3⟩
    · have hc' : ¬ i = c := by omega
      go_enter Try.func87, Try.ntmps87
      go_wp2_with (at_builtin; refine wpList_app rfl _ _ _ rfl elAsset base _ (l.map encAsset) rfl HOWN.out (some ⟨gv, 0, none⟩) 1 1 rfl [encAsset x] rfl (fun h => by cases h) HV.out.rd (rowsAsset [x]) (by unfold maxLen; first | (simp; done) | omega | (simp; omega)) (by first | (simp; done) | omega | (simp; omega)) hbs ?_; intro v' w3 hown3 hb3)
      go_ret
      exact ⟨v', rfl, by rw [HE.out]; exact hown3, hb3⟩
  have hlt : i < l.length := by
    rcases Nat.lt_or_ge i l.length with h | h
    · exact h
    · exfalso
      have e : (i : Int) = (l.length : Int) := by omega
      rw [e] at he
      simp at he
  obtain ⟨g, rfl, hgb, hgl⟩ : ∃ g, A = some ⟨g, 0, none⟩ ∧ base ≤ g ∧ g < w.heap.size := by
    rcases hform with ⟨_, h2, _⟩ | h
    · exfalso; have := congrArg List.length h2; simp at this; rw [this] at hlt; simp at hlt
    · exact h
  have hgne : g ≠ gv := by simpa [Value.ownBlock] using hne
  have hci : ¬ c = i := by omega
  have hci' : ¬ i = c := by omega
  have HX : Hid ((l.take i ++ x :: l.drop i).map encAsset = (l.map encAsset).take i ++ encAsset x :: (l.map encAsset).drop i) := by unfold Hid; simp [List.map_take, List.map_drop]
  have hrl : i < (l.map encAsset).length := by rw [List.length_map]; exact hlt
  have il : (i : Int) < (l.length : Int) := by omega
  by_cases hgrow : c < l.length + 1
  · have hg1 : decide ((c : Int) < (l.length : Int) + 1) = true := by simp; omega
    have RT := Lib.hid (rd_take' HRD.out i)
    have rdr := rd_dropR HRD.out i
    rw [Nat.zero_add] at rdr
    have RDR := Lib.hid rdr
    clear rdr
    have lt1 : ((l.map encAsset).take i).length = i := by rw [List.length_take]; omega
    have LT1 := Lib.hid lt1
    have LD1 := Lib.hid (show ((l.map encAsset).drop i).length = l.length - i from by simp)
    have HRW := Lib.hid (rowsAsset l)
    clear hform lt1
    go_enter Try.func87, Try.ntmps87
    go_wp2_with (first | (at_builtin; refine wpList_appZ rfl _ _ _ _ (kn := .i64) (by kernel_rfl) rfl elAsset (sLen := i) (sCap := c) (m := l.length + 1 - i) (N := l.length + 1) rfl rfl (by omega) LT1.out RT.out (fun r hr => (HRW.out r (List.mem_of_mem_take hr)).1) (by omega) (by omega) (by omega) (by unfold maxLen; omega) (by omega) ?_; intro w3 c3 junk hj hown3 hb3; have HJ := Lib.hid hj; have hc3 := hown3.rd.2.2; have hjl : l.length + 1 ≤ c3 := (by have := hown3.rd.2.1; omega); have hm3 : c3 ≤ 9223372036854775807 := (by have := hc3.2; unfold maxLen at this; omega); have HO3 := Lib.hid hown3; have Hb3 := Lib.hid hb3; have hz3 := hb3.size; have hi3 : ¬ c3 = i := (by omega); have hi3' : ¬ i = c3 := (by omega); clear hj hown3 hc3 hb3) | (refine wpList_copyR rfl _ _ _ _ rfl elAsset (base := w.heap.size) (g := w.heap.size) (n := l.length + 1) (d := i) (sLen := 1) (src := [encAsset x]) rfl rfl HO3.out (by change 1 = min _ _; omega) (by change i + 1 ≤ _; omega) (HV.out.below Hb3.out HV.out.lt).rd (rowsAsset [x]) ?_; intro w4 hown4 ho4; have HO4 := Lib.hid hown4; have Ho4 := Lib.hid ho4; have hz4 := ho4.size; clear hown4 ho4))
    have S1 := Lib.hid (show ((l.map encAsset).drop i).length = Nat.min (l.length - i) (l.length - i) from by rw [LD1.out]; change _ = min _ _; omega)
    have S2 := Lib.hid (show i + 1 + ((l.map encAsset).drop i).length ≤ l.length + 1 from by rw [LD1.out]; omega)
    have S3 := Lib.hid (show g ≠ w.heap.size from by omega)
    have wk : IntKind.i64.wrap ((i : Int) + 1) = (i : Int) + 1 := IntWalk.i64_in _ (by omega)
    have tk : ((i : Int) + 1).toNat = i + 1 := by omega
    have nk : (0 : Int) ≤ (i : Int) + 1 := by omega
    have ck : ¬ c3 = i + 1 := by omega
    have il1 : (i : Int) ≤ (l.length : Int) + 1 := by omega
    go_region_law (refine step_copyR rfl (.tmp 50) (.tmp 53) 71 71 rfl elAsset (base := w.heap.size) (g := w.heap.size) (n := l.length + 1) (c := c3) (d := i + 1) (dLen := l.length - i) (dCap := c3 - (i + 1)) (sLen := l.length - i) (sCap := c - i) (ad := ⟨g, i * 3, none⟩) (rows := lay ((l.map encAsset).take i ++ junk) [encAsset x] i) (src := (l.map encAsset).drop i) ?_ ?_ HO4.out.drew S1.out S2.out ((RDR.out.keep Hb3.out).only rfl Ho4.out S3.out).drew (fun r hr => HRW.out r (List.mem_of_mem_drop hr)) ?_; go_simp; go_simp; intro w5 hown5 ho5; have HO5 := Lib.hid hown5; have Ho5 := Lib.hid ho5.undrew; clear hown5 ho5)
    clear wk tk nk
    go_wp2_with fail
    go_ret
    refine ⟨_, rfl, ?_, ?_⟩
    · rw [HX.out, ← ins_grow hrl (by rw [HJ.out, List.length_map])]
      exact HO5.out.mono hbs
    · exact below_only (below_only (Hb3.out.mono hbs) Ho4.out (by omega) hbs) Ho5.out (by omega) hbs
  · have hg1 : decide ((c : Int) < (l.length : Int) + 1) = false := by simp; omega
    obtain ⟨junk, hj, hfull⟩ := HOWN.out.full
    have hhead := hfull.head (m := l.length + 1) (by omega)
    obtain ⟨cur, hcur⟩ := HOWN.out.blk rfl
    have hcs : cur.size ≠ 0 := by
      obtain ⟨cur', h1, _, _, _, _, h2, _⟩ := HOWN.out.raw
      unfold Blk at hcur
      rw [hcur] at h1
      injection h1 with h1
      injection h1 with h1 _ _
      subst h1
      omega
    have HJ := Lib.hid (show 0 < junk.length from by omega)
    have HH := Lib.hid hhead
    have hov := fun lb cb => insAssetAt_over w gv g ((i + 1) * 3) lb cb 1 1 x cur HV.out hcur (fun e => hgne e.symm) hcs
    have LD1 := Lib.hid (show ((l.map encAsset).drop i).length = l.length - i from by simp)
    have HRW := Lib.hid (rowsAsset l)
    have rdr := rd_dropR HRD.out i
    rw [Nat.zero_add] at rdr
    have RDR := Lib.hid rdr
    clear rdr
    clear hform hfull hhead hcur hcs hj
    go_enter Try.func87, Try.ntmps87
    go_wp2_with fail
    clear hov
    have S1 := Lib.hid (show ((l.map encAsset).drop i).length = Nat.min (l.length + 1 - i) (l.length - i) from by rw [LD1.out]; change _ = min _ _; omega)
    have S2 := Lib.hid (show i + 1 + ((l.map encAsset).drop i).length ≤ l.length + 1 from by rw [LD1.out]; omega)
    have wk : IntKind.i64.wrap ((i : Int) + 1) = (i : Int) + 1 := IntWalk.i64_in _ (by omega)
    have tk : ((i : Int) + 1).toNat = i + 1 := by omega
    have nk : (0 : Int) ≤ (i : Int) + 1 := by omega
    have ck : ¬ c = i + 1 := by omega
    have il1 : (i : Int) ≤ (l.length : Int) + 1 := by omega
    go_region_law (refine step_copyR rfl (.tmp 73) (.tmp 76) 71 71 rfl elAsset (base := base) (g := g) (n := l.length + 1) (c := c) (d := i + 1) (dLen := l.length - i) (dCap := c - (i + 1)) (sLen := l.length + 1 - i) (sCap := c - i) (ad := ⟨g, i * 3, none⟩) (rows := (l.map encAsset ++ junk).take (l.length + 1)) (src := (l.map encAsset).drop i) ?_ ?_ HH.out.drew S1.out S2.out RDR.out.drew (fun r hr => HRW.out r (List.mem_of_mem_drop hr)) ?_; go_simp; go_simp; intro w5 hown5 ho5; have HO5 := Lib.hid hown5; have Ho5 := Lib.hid ho5.undrew; clear hown5 ho5)
    clear wk tk nk
    go_wp2_with (refine wpList_copyR rfl _ _ _ _ rfl elAsset (base := base) (g := g) (n := l.length + 1) (c := c) (d := i) (sLen := 1) (src := [encAsset x]) rfl rfl HO5.out (by change 1 = min _ _; omega) (by change i + 1 ≤ _; omega) (HV.out.only Ho5.out (fun e => hgne e.symm)).rd (rowsAsset [x]) ?_; intro w6 hown6 ho6; have HO6 := Lib.hid hown6; have Ho6 := Lib.hid ho6; clear hown6 ho6)
    go_ret
    refine ⟨_, rfl, ?_, ?_⟩
    · rw [HX.out, ← ins_room hrl HJ.out, List.length_map]
      exact HO6.out
    · exact below_only (below_only (Below.refl _ _) Ho5.out hbs hgb) Ho6.out (by have := Ho5.out.size; omega) hgb
end Go.Proofs.Ytpjehhkmdndcmaa
