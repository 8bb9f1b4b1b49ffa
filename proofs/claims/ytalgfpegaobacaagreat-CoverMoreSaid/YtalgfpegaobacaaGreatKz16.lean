/- Joined: Bk2, BkO, Grd2, Ref24, Ref24b. -/
import Derived.Test.YtalgfpegaobacaaGreatKz15
import Derived.Test.YtalgfpegaobacaaGreatKz8
import Derived.Test.YtalgfpegaobacaaGreatKz11
import Derived.Test.YtalgfpegaobacaaGreatKz2
import Derived.Test.YtalgfpegaobacaaGreatKz9
/- Books: contracts of book.Of, the reference's book.Of, Same; the law's Few. -/
namespace Go.Proofs.YtalgfpegaobacaaGreat
open Go.RowKit
set_option maxRecDepth 100000 in
set_option maxHeartbeats 1000000 in
theorem legClone (l : List Leg) (A : Option Addr) (c : Nat) (w : World) (hl : l.length ≤ 1099511627776) (hr : Rs w 2 (l.map encLeg) A c) :
    Calls Tryz.prog 97 #[.slice A l.length c] w fun e w' => ∃ v, e = .returned v ∧ Own w' w.heap.size 162 2 v (l.map encLeg) ∧ Below w.heap.size w w' := by
  have Hr := Lib.hid hr
  have hnil := fun W : World => Lib.run_eql_slice_nil (P := Tryz.prog) W 92 162 A l.length c 0 0 Tryz.underlying92
  rcases A with _ | ad
  · have hl0 : l = [] := List.map_eq_nil_iff.1 hr.nilrows
    have hc0 : c = 0 := hr.nil rfl
    subst hl0 hc0
    simp only [List.length_nil] at hnil ⊢
    clear hr
    go_enter Tryz.func97, Tryz.ntmps97
    go_wp2_with fail
    go_ret
    exact ⟨_, rfl, Own.nil _ _ _ _, by (repeat' (first | (with_reducible exact Below.refl _ _) | (with_reducible assumption) | (with_reducible refine Below.alloc ?_ ?_ _) | (with_reducible refine Below.setCell ?_ ?_ _) | (with_reducible refine Below.drew ?_) | (with_reducible refine below_drewN ?_ _) | (with_reducible refine below_via ?_ (by with_reducible assumption) ?_) | omega | (simp; done) | (simp; omega)))⟩
  · clear hr
    go_enter Tryz.func97, Tryz.ntmps97
    go_wp2_with (at_builtin; refine wpList_app rfl _ _ _ rfl elLeg w.heap.size _ [] rfl (Own.made w (Nat.le_refl _)) (some ad) l.length c rfl (l.map encLeg) (by simp) (fun h => by cases h) (Hr.out.keep ((Below.refl _ _).alloc (Nat.le_refl _) _)).rd (rowsLeg l) (by unfold maxLen; simp; omega) (by simp; omega) (by simp) ?_; intro v' w3 hown3 hb3)
    go_ret
    exact ⟨v', rfl, by simpa using hown3, ((Below.refl _ _).alloc (Nat.le_refl _) _).trans hb3⟩
theorem few_inPosV (l : List Leg) (m : Nat) (hm : (l.take 12).length = m) (A : Option Addr) (c : Nat) (w : World) (hr : Rs w 2 (l.map encLeg) A c) :
    Calls Tryz.prog 41 #[.slice A l.length c] w fun e w' => e = .returned (.slice A m c) ∧ Below w.heap.size w w' :=
  (law11FewN l m (Lib.hid hm) A c w (by have h1 := hr.cap; have h2 := hr.room; rw [List.length_map] at h1; omega) hr).mono fun e w' h => ⟨h.1, by rw [← h.2]; exact Below.refl _ _⟩
set_option maxRecDepth 100000 in
set_option maxHeartbeats 8000000 in
theorem bookOf (l : List PosV) (u : Un) (A : Option Addr) (c : Nat) (w : World) (hl : l.length ≤ 1000000) (hr : Rd w A 3 (l.map encPosV)) (hg : ∀ x ∈ l, GoodPosV w x) :
    Calls Tryz.prog 82 #[.slice A l.length c, .agg #[.int .i64 u.acc, .int .i64 u.cli]] w fun e w' => ∃ v, e = .returned v ∧ Own w' w.heap.size 162 2 v ((ofK (l.map lgPosV) u).map encLeg) ∧ Below w.heap.size w w' := by
  have HR := Lib.hid hr
  have HG := Lib.hid hg
  clear hr hg
  go_enter Tryz.func82, Tryz.ntmps82
  go_wp2_with fail
  go_loopw [9] (fun i wr => ∃ k : Nat, k ≤ l.length ∧ i = .int .i64 k ∧ ofK (l.map lgPosV) u = ofK ((l.drop k).map lgPosV) u ∧ Below w.heap.size w wr ∧ w.heap.size < wr.heap.size ∧ wr.cell? ⟨w.heap.size, 0, none⟩ = some (.int .i64 u.acc) ∧ wr.cell? ⟨w.heap.size, 1, none⟩ = some (.int .i64 u.cli)) (fun i _ => l.length - (intOf i).toNat)
  case atStart => exact ⟨0, Nat.zero_le _, rfl, rfl, by (repeat' (first | (with_reducible exact Below.refl _ _) | (with_reducible assumption) | (with_reducible refine Below.alloc ?_ ?_ _) | (with_reducible refine Below.setCell ?_ ?_ _) | (with_reducible refine Below.drew ?_) | (with_reducible refine below_drewN ?_ _) | (with_reducible refine below_via ?_ (by with_reducible assumption) ?_) | omega | (simp; done) | (simp; omega))), by simp, by simp [go_sem], by simp [go_sem]⟩
  case round =>
    obtain ⟨k, hk, rfl, hv, hbl, hsz, g0, g1⟩ := hrel
    have HV := Lib.hid hv
    have Hbl := Lib.hid hbl
    have hz := hbl.size
    clear hv hbl
    by_cases hlt : k < l.length
    · have kl : (k : Int) < (l.length : Int) := by omega
      have dl : decide ((k : Int) < (l.length : Int)) = true := by simpa using hlt
      have hgk := HG.out l[k] (List.getElem_mem hlt)
      have hli := hgk.1
      have HGK := Lib.hid (hgk.2.keep Hbl.out)
      have hd := lg_atPosV hlt
      clear hgk
      obtain ⟨b, o, rfl, hb, hc⟩ := HR.out k (encPosV l[k]) (by simp [hlt])
      have e0 := (Hbl.out.cell (p := ⟨b, o + k * 3 + 0, none⟩) hb).trans (hc 0 _ rfl)
      have e1 := (Hbl.out.cell (p := ⟨b, o + k * 3 + 1, none⟩) hb).trans (hc 1 _ rfl)
      have e2 := (Hbl.out.cell (p := ⟨b, o + k * 3 + 2, none⟩) hb).trans (hc 2 _ rfl)
      simp only [Nat.add_zero] at e0
      clear hc
      have hbw : b < wr.heap.size := by omega
      rcases un_tPosV (x := l[k].unit) (u := u) with h | h
      · have HN := Lib.hid (show ofK (l.map lgPosV) u = l[k].legs.val from by rw [HV.out, hd]; unfold ofK; rw [if_pos (show (lgPosV l[k]).unit = u from h)]; rfl)
        rw [h] at e0 e1
        clear hd h
        go_wp2_with (first | (go_at_call 97; (with_reducible refine (legClone l[k].legs.val l[k].legs.A l[k].legs.c _ (by omega) (HGK.out.keep (by (repeat' (first | (with_reducible exact Below.refl _ _) | (with_reducible assumption) | (with_reducible refine Below.alloc ?_ ?_ _) | (with_reducible refine Below.setCell ?_ ?_ _) | (with_reducible refine Below.drew ?_) | (with_reducible refine below_drewN ?_ _) | (with_reducible refine below_via ?_ (by with_reducible assumption) ?_) | omega | (simp; done) | (simp; omega)))))).mono ?_); rintro e w3 ⟨v3, rfl, hown3, hb3⟩; obtain ⟨fc3, fg3, hc3, hf3, hz3⟩ := bget hb3; (try simp at hz3)) | fail)
        go_ret
        exact ⟨_, rfl, by rw [HN.out]; exact hown3.mono (by first | omega | (simp; done) | (simp; omega)), by have hbl := Hbl.out; (repeat' (first | (with_reducible exact Below.refl _ _) | (with_reducible assumption) | (with_reducible refine Below.alloc ?_ ?_ _) | (with_reducible refine Below.setCell ?_ ?_ _) | (with_reducible refine Below.drew ?_) | (with_reducible refine below_drewN ?_ _) | (with_reducible refine below_via ?_ (by with_reducible assumption) ?_) | omega | (simp; done) | (simp; omega)))⟩
      · have HN := Lib.hid (show ofK (l.map lgPosV) u = ofK ((l.drop (k + 1)).map lgPosV) u from by rw [HV.out, hd, ofK, if_neg (show ¬ (lgPosV l[k]).unit = u from un_dPosV h)])
        clear hd
        rcases h with h | h
        all_goals
          go_wp2_with fail
          go_roundw
          case rel => exact ⟨k + 1, by omega, by go_num, HN.out, by have hbl := Hbl.out; (repeat' (first | (with_reducible exact Below.refl _ _) | (with_reducible assumption) | (with_reducible refine Below.alloc ?_ ?_ _) | (with_reducible refine Below.setCell ?_ ?_ _) | (with_reducible refine Below.drew ?_) | (with_reducible refine below_drewN ?_ _) | (with_reducible refine below_via ?_ (by with_reducible assumption) ?_) | omega | (simp; done) | (simp; omega))), by simp; omega, by simp [go_sem, g0, hsz], by simp [go_sem, g1, hsz]⟩
          case measure => simp [intOf]; omega
    · have dl : decide ((k : Int) < (l.length : Int)) = false := by simpa using hlt
      have HD := Lib.hid (drop_all (l := l) (k := k) (by omega))
      go_wp2_with fail
      go_ret
      exact ⟨_, rfl, by rw [HV.out, HD.out]; exact Own.nil _ _ _ _, by have hbl := Hbl.out; (repeat' (first | (with_reducible exact Below.refl _ _) | (with_reducible assumption) | (with_reducible refine Below.alloc ?_ ?_ _) | (with_reducible refine Below.setCell ?_ ?_ _) | (with_reducible refine Below.drew ?_) | (with_reducible refine below_drewN ?_ _) | (with_reducible refine below_via ?_ (by with_reducible assumption) ?_) | omega | (simp; done) | (simp; omega)))⟩
theorem row3PosV (a b : Int) (A : Option Addr) (n m : Nat) : ∀ r ∈ [[Value.int .i64 a, .int .i64 b, .slice A n m]], r.length = 3 ∧ ∀ u ∈ r, u.oneCell' = true := by
  intro r hr
  simp only [List.mem_singleton] at hr
  subst hr
  refine ⟨rfl, ?_⟩
  simp only [List.mem_cons, List.not_mem_nil, or_false, forall_eq_or_imp, forall_eq]
  exact ⟨rfl, rfl, rfl⟩
/-- A row with at most so many of its list. -/
def fewPosV (x : PosV) : PosV := { x with legs := ⟨x.legs.A, x.legs.c, x.legs.val.take 12⟩ }
theorem fewPosV_good {w : World} {x : PosV} (h : Rs w 2 (x.legs.val.map encLeg) x.legs.A x.legs.c) : GoodPosV w (fewPosV x) ∧ (fewPosV x).legs.val.length ≤ 12 := by
  have h1 : (fewPosV x).legs.val.length ≤ 12 := by simp [fewPosV]; omega
  refine ⟨⟨by omega, ?_⟩, h1⟩
  have := h.take 12
  rw [← List.map_take] at this
  exact this
set_option maxRecDepth 100000 in
set_option maxHeartbeats 8000000 in
theorem law19Few (l : List PosV) (A : Option Addr) (c : Nat) (w : World) (hl : l.length ≤ maxLen) (hr : Rd w A 3 (l.map encPosV)) (hg : ∀ x ∈ l, Rs w 2 (x.legs.val.map encLeg) x.legs.A x.legs.c) :
    Calls Tryz.prog 16 #[.slice A l.length c] w fun e w' => ∃ v, e = .returned v ∧ Own w' w.heap.size 94 3 v (((l.take 12).map fewPosV).map encPosV) ∧ Below w.heap.size w w' := by
  have HR := Lib.hid hr
  have HG := Lib.hid hg
  have hml : (l.length : Int) ≤ 9223372036854775807 := by unfold maxLen at hl; omega
  clear hr hg hl
  go_enter Tryz.func16, Tryz.ntmps16
  go_wp2_with fail
  go_loopw [3, 4] (fun v i wr => ∃ q : Nat, q ≤ l.length ∧ q ≤ 12 ∧ i = .int .i64 q ∧ Own wr w.heap.size 94 3 v (((l.take q).map fewPosV).map encPosV) ∧ Below w.heap.size w wr) (fun _ i _ => l.length - (intOf i).toNat)
  case atStart => exact ⟨0, Nat.zero_le _, Nat.zero_le _, rfl, Own.nil _ _ _ _, by (repeat' (first | (with_reducible exact Below.refl _ _) | (with_reducible assumption) | (with_reducible refine Below.alloc ?_ ?_ _) | (with_reducible refine Below.setCell ?_ ?_ _) | (with_reducible refine Below.drew ?_) | (with_reducible refine below_drewN ?_ _) | (with_reducible refine below_via ?_ (by with_reducible assumption) ?_) | omega | (simp; done) | (simp; omega)))⟩
  case round =>
    obtain ⟨k, hq, hq10, rfl, hown, hbl⟩ := hrel
    have Hown := Lib.hid hown
    have Hbl := Lib.hid hbl
    have hz := hbl.size
    clear hown hbl
    by_cases hgo : k < l.length ∧ k < 12
    · obtain ⟨hlt, h10⟩ := hgo
      have hqi : (k : Int) < (l.length : Int) := by omega
      have dl : decide ((k : Int) < (l.length : Int)) = true := by simpa using hlt
      have d10 : decide ((k : Int) < 12) = true := by simp; omega
      have hlen : ((l.take k).map fewPosV).length ≤ 12 := by simp; omega
      have hx := HG.out l[k] (List.getElem_mem hlt)
      obtain ⟨b, o, rfl, hb, hc⟩ := HR.out k (encPosV l[k]) (by simp [hlt])
      have e0 := (Hbl.out.cell (p := ⟨b, o + k * 3 + 0, none⟩) hb).trans (hc 0 _ rfl)
      have e1 := (Hbl.out.cell (p := ⟨b, o + k * 3 + 1, none⟩) hb).trans (hc 1 _ rfl)
      have e2 := (Hbl.out.cell (p := ⟨b, o + k * 3 + 2, none⟩) hb).trans (hc 2 _ rfl)
      simp only [Nat.add_zero] at e0
      clear hc
      have hbw : b < wr.heap.size := by omega
      obtain ⟨m, hm⟩ : ∃ m, (l[k].legs.val.take 12).length = m := ⟨_, rfl⟩
      have CF := Lib.hid (fun W (h : Below w.heap.size w W) => few_inPosV l[k].legs.val m hm l[k].legs.A l[k].legs.c W (hx.keep h))
      have HS : Hid (((l.take (k + 1)).map fewPosV).map encPosV = ((l.take k).map fewPosV).map encPosV ++ [[.int .i64 l[k].unit.acc, .int .i64 l[k].unit.cli, .slice l[k].legs.A m l[k].legs.c]]) := by
        unfold Hid
        rw [map_snoc hlt fewPosV, List.map_append]
        congr 1
        simp only [List.map_cons, List.map_nil, encPosV, fewPosV, hm]
      clear hx hm
      go_wp2_with fail
      go_region_held3 (fun w' => (w'.cell? ⟨b, o + k * 3, none⟩ = some (.int .i64 l[k].unit.acc) ∧ w'.cell? ⟨b, o + k * 3 + 1, none⟩ = some (.int .i64 l[k].unit.cli) ∧ w'.cell? ⟨b, o + k * 3 + 2, none⟩ = some (.slice l[k].legs.A l[k].legs.val.length l[k].legs.c))) (first | (simp [go_sem]; done) | (repeat' (first | (with_reducible assumption) | (with_reducible refine And.intro ?_ ?_) | (with_reducible refine cell_drew ?_) | (with_reducible refine cell_via (by with_reducible assumption) ?_ ?_) | (simp [*]; done) | (simp [go_sem]; done) | (with_reducible refine cell_alloc ?_ ?_) | (with_reducible refine cell_set_far ?_ ?_) | omega | (simp; omega)))) (first | (go_at_call 41; (with_reducible refine (CF.out _ (by have hbl := Hbl.out; (repeat' (first | (with_reducible exact Below.refl _ _) | (with_reducible assumption) | (with_reducible refine Below.alloc ?_ ?_ _) | (with_reducible refine Below.setCell ?_ ?_ _) | (with_reducible refine Below.drew ?_) | (with_reducible refine below_drewN ?_ _) | (with_reducible refine below_via ?_ (by with_reducible assumption) ?_) | omega | (simp; done) | (simp; omega))))).mono ?_); rintro e w1 ⟨rfl, hb1⟩; obtain ⟨fc1, fg1, hc1, hf1, hz1⟩ := bget hb1; (try simp at hz1)) | (refine step_app rfl _ _ _ rfl elPosV w.heap.size _ _ rfl (Hown.out.keep (by (repeat' (first | (with_reducible exact Below.refl _ _) | (with_reducible assumption) | (with_reducible refine Below.alloc ?_ ?_ _) | (with_reducible refine Below.setCell ?_ ?_ _) | (with_reducible refine Below.drew ?_) | (with_reducible refine below_drewN ?_ _) | (with_reducible refine below_via ?_ (by with_reducible assumption) ?_) | omega | (simp; done) | (simp; omega))))) (some ⟨_, 0, none⟩) 1 1 rfl [[.int .i64 l[k].unit.acc, .int .i64 l[k].unit.cli, .slice l[k].legs.A m l[k].legs.c]] rfl (fun h => by cases h) (rd_oneN (by simp)) (row3PosV _ _ _ _ _) (by unfold maxLen; simp; omega) (by simp; omega) (by first | omega | (simp; done) | (simp; omega)) ?_; intro v4 w4 hown4 hb4; have HO4 := Lib.hid hown4; clear hown4; obtain ⟨fc4, fg4, hc4, hf4, hz4⟩ := bget hb4; (try simp at hz4)) | fail)
      all_goals
        go_wp2_with fail
        go_roundw
        case rel => exact ⟨k + 1, by omega, by omega, by go_num, by rw [HS.out]; exact HO4.out, by have hbl := Hbl.out; (repeat' (first | (with_reducible exact Below.refl _ _) | (with_reducible assumption) | (with_reducible refine Below.alloc ?_ ?_ _) | (with_reducible refine Below.setCell ?_ ?_ _) | (with_reducible refine Below.drew ?_) | (with_reducible refine below_drewN ?_ _) | (with_reducible refine below_via ?_ (by with_reducible assumption) ?_) | omega | (simp; done) | (simp; omega)))⟩
        case measure => simp [intOf]; omega
    · have HT := Lib.hid (show l.take k = l.take 12 from by
        rcases Nat.lt_or_ge k 12 with h | h
        · rw [List.take_of_length_le (by omega), List.take_of_length_le (by omega)]
        · rw [show k = 12 by omega])
      by_cases hlt : k < l.length
      · have dl : decide ((k : Int) < (l.length : Int)) = true := by simpa using hlt
        have d10 : decide ((k : Int) < 12) = false := by simp; omega
        go_wp2_with fail
        go_ret
        exact ⟨_, rfl, by rw [← HT.out]; exact Hown.out, Hbl.out⟩
      · have dl : decide ((k : Int) < (l.length : Int)) = false := by simpa using hlt
        go_wp2_with fail
        go_ret
        exact ⟨_, rfl, by rw [← HT.out]; exact Hown.out, Hbl.out⟩
end Go.Proofs.YtalgfpegaobacaaGreat

/- Books: rows of 64 bits, how long a unit's is. -/
namespace Go.Proofs.YtalgfpegaobacaaGreat
open Go.RowKit
def L64 (L : List (Row Leg)) : Prop := ∀ r ∈ L, Legs64 r.rows
theorem of64 {L : List (Row Leg)} (h : L64 L) (u : Un) : Legs64 (ofK L u) := by
  rcases ofK_mem (l := L) (u := u) with ⟨x, hx, _, e⟩ | ⟨_, e⟩
  · rw [e]; exact h x hx
  · rw [e]; intro y hy; cases hy
theorem of_len {l : List PosV} {w : World} (hg : ∀ x ∈ l, GoodPosV w x) (u : Un) : (ofK (l.map lgPosV) u).length ≤ 1000000 := by
  rcases ofK_mem (l := l.map lgPosV) (u := u) with ⟨x, hx, _, e⟩ | ⟨_, e⟩
  · obtain ⟨y, hy, rfl⟩ := List.mem_map.1 hx
    rw [e]; exact (hg y hy).1
  · rw [e]; simp
end Go.Proofs.YtalgfpegaobacaaGreat

/- Layer 24: contracts of grid.Loss, losses, worst, Margin, Worst. -/
namespace Go.Proofs.YtalgfpegaobacaaGreat
open Go.RowKit
theorem rowsG (l : List Int) : ∀ r ∈ l.map encW, r.length = 2 ∧ ∀ u ∈ r, u.oneCell' = true := by
  intro r hr
  obtain ⟨m, _, rfl⟩ := List.mem_map.1 hr
  refine ⟨rfl, ?_⟩
  simp only [encW, List.mem_cons, List.not_mem_nil, or_false, forall_eq_or_imp, forall_eq]
  exact ⟨rfl, rfl⟩
theorem instShockV (x : InstV) (q s : Int) (A : Option Addr) (c : Nat) (w : World) (hq : In64 q) (hl : x.moves.val.length ≤ 1099511627776) (hr : Rd w A 1 (x.moves.val.map encI)) :
    Calls Tryz.prog 115 #[.agg #[.int .i64 x.id, .int .i64 x.mult, .int .i64 x.price, .int .i64 x.next, .slice A x.moves.val.length c], .int .i64 q, .int .i64 s] w fun e w' => e = .returned (.agg #[.int .i64 (whi (shockI (lgI x) q s)), .int .u64 (wlo (shockI (lgI x) q s))]) ∧ Below w.heap.size w w' :=
  instShock (lgI x) q s A c w hq hl hr
theorem find_moves {t : List InstV} {id : Int} (h : ∀ x ∈ t, x.moves.val.length ≤ 1048576) : (findInstV t id).1.moves.val.length ≤ 1048576 := by
  rcases idx_findV t id with ⟨k, hk, _, _, _, hf⟩ | ⟨_, _, hf⟩
  · rw [hf]; exact h t[k] (List.getElem_mem hk)
  · rw [hf]; simp
theorem known_snoc {t : List InstV} {l : List Leg} {k : Nat} (h : k < l.length) : known t (l.take (k + 1)) = (known t (l.take k) && (findInstV t l[k].inst).2) := by
  unfold known
  rw [List.take_succ_eq_append_getElem h, List.all_append]
  simp
theorem known_no {t : List InstV} {l : List Leg} {k : Nat} (h : k < l.length) (hf : (findInstV t l[k].inst).2 = false) : known t l = false := by
  cases hk : known t l
  · rfl
  · rw [known_mem hk (List.getElem_mem h)] at hf; cases hf
set_option maxRecDepth 100000 in
set_option maxHeartbeats 8000000 in
theorem gridLoss (t : List InstV) (l : List Leg) (s : Int) (A B : Option Addr) (c d : Nat) (w : World) (ht : t.length ≤ 1000000) (hl : l.length ≤ 1000) (h64 : Legs64 l) (hrt : Rd w A 5 (t.map encInstV)) (hgt : ∀ x ∈ t, x.moves.val.length ≤ 1048576 ∧ GoodI w x) (hrl : Rd w B 2 (l.map encLeg)) :
    Calls Tryz.prog 101 #[.slice A t.length c, .slice B l.length d, .int .i64 s] w fun e w' => e = .returned (.tuple #[(.agg #[.int .i64 (whi (lossN t l s)), .int .u64 (wlo (lossN t l s))]), .int .i64 (lossC t l)]) ∧ Below w.heap.size w w' := by
  have HL := Lib.hid hrl
  have H64 := Lib.hid h64
  have hgi := gain_in (t := t) (s := s) h64 hl
  have HGI := Lib.hid hgi
  have HT := Lib.hid (fun W (h : Below w.heap.size w W) id => instFind t id A c W ht (hrt.keep h) (fun x hx => ⟨(hgt x hx).1, (hgt x hx).2.keep h⟩))
  have HM := Lib.hid (fun id => find_moves (t := t) (id := id) fun x hx => (hgt x hx).1)
  have CI := Lib.hid (fun W h => vecIs l B d W (by omega) h)
  clear hrl h64 hrt hgt hgi
  cases hv : isV l
  · have HC := Lib.hid (show lossC t l = 3 from by unfold lossC; rw [hv]; rfl)
    have HN := Lib.hid (show lossN t l s = 0 from by unfold lossN; rw [hv]; rfl)
    rw [hv] at CI
    clear hv
    go_enter Tryz.func101, Tryz.ntmps101
    go_wp2_with (first | (go_at_call 79; (with_reducible refine (CI.out _ (HL.out.keep (by (repeat' (first | (with_reducible exact Below.refl _ _) | (with_reducible assumption) | (with_reducible refine Below.alloc ?_ ?_ _) | (with_reducible refine Below.setCell ?_ ?_ _) | (with_reducible refine Below.drew ?_) | (with_reducible refine below_drewN ?_ _) | (with_reducible refine below_via ?_ (by with_reducible assumption) ?_) | omega | (simp; done) | (simp; omega)))))).mono ?_); rintro e w1 ⟨rfl, hb1⟩; obtain ⟨fc1, fg1, hc1, hf1, hz1⟩ := bget hb1; (try simp at hz1)) | fail)
    rw [HC.out, HN.out, whi_zero, wlo_zero]
    refine bodyPost_ret (by simp [results, Tryz.results101, go_sem, hc1]; try rfl) rfl ⟨rfl, ?_⟩
    (repeat' (first | (with_reducible exact Below.refl _ _) | (with_reducible assumption) | (with_reducible refine Below.alloc ?_ ?_ _) | (with_reducible refine Below.setCell ?_ ?_ _) | (with_reducible refine Below.drew ?_) | (with_reducible refine below_drewN ?_ _) | (with_reducible refine below_via ?_ (by with_reducible assumption) ?_) | omega | (simp; done) | (simp; omega)))
  have HV := Lib.hid hv
  rw [hv] at CI
  clear hv
  go_enter Tryz.func101, Tryz.ntmps101
  go_wp2_with (first | (go_at_call 79; (with_reducible refine (CI.out _ (HL.out.keep (by (repeat' (first | (with_reducible exact Below.refl _ _) | (with_reducible assumption) | (with_reducible refine Below.alloc ?_ ?_ _) | (with_reducible refine Below.setCell ?_ ?_ _) | (with_reducible refine Below.drew ?_) | (with_reducible refine below_drewN ?_ _) | (with_reducible refine below_via ?_ (by with_reducible assumption) ?_) | omega | (simp; done) | (simp; omega)))))).mono ?_); rintro e w1 ⟨rfl, hb1⟩; obtain ⟨fc1, fg1, hc1, hf1, hz1⟩ := bget hb1; (try simp at hz1)) | fail)
  have Hb0 := Lib.hid (show Below w.heap.size w w1 from by (repeat' (first | (with_reducible exact Below.refl _ _) | (with_reducible assumption) | (with_reducible refine Below.alloc ?_ ?_ _) | (with_reducible refine Below.setCell ?_ ?_ _) | (with_reducible refine Below.drew ?_) | (with_reducible refine below_drewN ?_ _) | (with_reducible refine below_via ?_ (by with_reducible assumption) ?_) | omega | (simp; done) | (simp; omega))))
  have x0 : w1.cell? ⟨w.heap.size, 0, none⟩ = some (.int .i64 0) := by simp [hc1, go_sem]
  have x1 : w1.cell? ⟨w.heap.size, 1, none⟩ = some (.int .u64 0) := by simp [hc1, go_sem]
  have x2 : w1.frozen? ⟨w.heap.size, 0, none⟩ = false := by simp [hf1, go_sem]
  have x3 : w1.frozen? ⟨w.heap.size, 1, none⟩ = false := by simp [hf1, go_sem]
  have X := Lib.hid (And.intro x0 (And.intro x1 (And.intro x2 x3)))
  clear x0 x1 x2 x3 hc1 hf1 hb1
  go_loopw [8, 23] (fun v i wr => ∃ k : Nat, k ≤ l.length ∧ i = .int .i64 k ∧ known t (l.take k) = true ∧ Own wr (w.heap.size + 1) 110 2 v (((l.take k).map (legS t s)).map encW) ∧ Below w.heap.size w wr ∧ w.heap.size < wr.heap.size ∧ (wr.cell? ⟨w.heap.size, 0, none⟩ = some (.int .i64 0) ∧ wr.cell? ⟨w.heap.size, 1, none⟩ = some (.int .u64 0)) ∧ wr.frozen? ⟨w.heap.size, 0, none⟩ = false ∧ wr.frozen? ⟨w.heap.size, 1, none⟩ = false) (fun _ i _ => l.length - (intOf i).toNat)
  case atStart => exact ⟨0, Nat.zero_le _, rfl, rfl, Own.nil _ _ _ _, Hb0.out, by omega, ⟨X.out.1, X.out.2.1⟩, X.out.2.2.1, X.out.2.2.2⟩
  case round =>
    clear X Hb0
    obtain ⟨k, hk, rfl, hkn, hown, hbl, hsz, ⟨z0, z1⟩, y0, y1⟩ := hrel
    have Hown := Lib.hid hown
    have Hbl := Lib.hid hbl
    have HKN := Lib.hid hkn
    have hz := hbl.size
    clear hown hbl hkn
    by_cases hlt : k < l.length
    · have kl : (k : Int) < (l.length : Int) := by omega
      have dl : decide ((k : Int) < (l.length : Int)) = true := by simpa using hlt
      obtain ⟨be, oe, rfl, hbe, hqe⟩ := HL.out k (encLeg l[k]) (by simp [hlt])
      replace hqe := fun j v hv => (Hbl.out.cell (p := ⟨be, oe + k * 2 + j, none⟩) hbe).trans (hqe j v hv)
      have e0 := hqe 0 _ rfl
      have e1 := hqe 1 _ rfl
      simp only [Nat.add_zero] at e0
      clear hqe
      have hbw : be < wr.heap.size := by omega
      have hq64 := Lib.hid (H64.out l[k] (List.getElem_mem hlt))
      have hlen : ((l.take k).map (legS t s)).length ≤ 1000 := by simp; omega
      have hns := map_snoc hlt (legS t s)
      have hno := known_no (t := t) hlt
      have hsn := known_snoc (t := t) hlt
      have hfm := HM.out l[k].inst
      have hcf := fun W (h : Below w.heap.size w W) => HT.out W h l[k].inst
      have hls : legS t s l[k] = shockI (lgI (findInstV t l[k].inst).1) l[k].qty s := rfl
      generalize findInstV t l[k].inst = ff at *
      obtain ⟨fz, fb⟩ := ff
      simp only at hno hsn hfm hcf hls
      obtain ⟨n, hn⟩ : ∃ n, n = legS t s l[k] := ⟨_, rfl⟩
      rw [← hn] at hls hns
      have CF := Lib.hid hcf
      have CS := Lib.hid (fun W A c h => hls ▸ instShockV fz l[k].qty s A c W hq64.out (by omega) h)
      have HNS := Lib.hid hns
      have HNO := Lib.hid hno
      have HSN := Lib.hid hsn
      clear hns hno hsn hcf hls hn hfm
      cases fb
      · have HC := Lib.hid (show lossC t l = 11 from by unfold lossC; rw [HV.out, HNO.out rfl]; rfl)
        have HN := Lib.hid (show lossN t l s = 0 from by unfold lossN; rw [HV.out, HNO.out rfl]; rfl)
        go_wp2_with (first | (go_at_call 114; (with_reducible refine (CF.out _ (by have hbl := Hbl.out; (repeat' (first | (with_reducible exact Below.refl _ _) | (with_reducible assumption) | (with_reducible refine Below.alloc ?_ ?_ _) | (with_reducible refine Below.setCell ?_ ?_ _) | (with_reducible refine Below.drew ?_) | (with_reducible refine below_drewN ?_ _) | (with_reducible refine below_via ?_ (by with_reducible assumption) ?_) | omega | (simp; done) | (simp; omega))))).mono ?_); rintro e w1 ⟨⟨yi, ym, yp, yn, yA, yc, yv⟩, rfl, hl1, hg1, hb1⟩; (simp only [lgI, Inst.mk.injEq] at hl1); obtain ⟨rfl, rfl, rfl, rfl, rfl⟩ := hl1; have G1 := Lib.hid (show Rs w1 1 (fz.moves.val.map encI) yA yc from hg1); clear hg1; obtain ⟨fc1, fg1, hc1, hf1, hz1⟩ := bget hb1; (try simp at hz1)) | fail)
        have hbl := Hbl.out
        rw [HC.out, HN.out, whi_zero, wlo_zero]
        refine bodyPost_ret (by simp [results, Tryz.results101, go_sem, hc1, z0, z1, hsz, ↓IntWalk.iteOmega]; try rfl) rfl ⟨rfl, ?_⟩
        (repeat' (first | (with_reducible exact Below.refl _ _) | (with_reducible assumption) | (with_reducible refine Below.alloc ?_ ?_ _) | (with_reducible refine Below.setCell ?_ ?_ _) | (with_reducible refine Below.drew ?_) | (with_reducible refine below_drewN ?_ _) | (with_reducible refine below_via ?_ (by with_reducible assumption) ?_) | omega | (simp; done) | (simp; omega)))
      · go_wp2_with (first | (go_at_call 114; (with_reducible refine (CF.out _ (by have hbl := Hbl.out; (repeat' (first | (with_reducible exact Below.refl _ _) | (with_reducible assumption) | (with_reducible refine Below.alloc ?_ ?_ _) | (with_reducible refine Below.setCell ?_ ?_ _) | (with_reducible refine Below.drew ?_) | (with_reducible refine below_drewN ?_ _) | (with_reducible refine below_via ?_ (by with_reducible assumption) ?_) | omega | (simp; done) | (simp; omega))))).mono ?_); rintro e w1 ⟨⟨yi, ym, yp, yn, yA, yc, yv⟩, rfl, hl1, hg1, hb1⟩; (simp only [lgI, Inst.mk.injEq] at hl1); obtain ⟨rfl, rfl, rfl, rfl, rfl⟩ := hl1; have G1 := Lib.hid (show Rs w1 1 (fz.moves.val.map encI) yA yc from hg1); clear hg1; obtain ⟨fc1, fg1, hc1, hf1, hz1⟩ := bget hb1; (try simp at hz1)) | (go_at_call 115; (with_reducible refine (CS.out _ _ _ (G1.out.keep (by (repeat' (first | (with_reducible exact Below.refl _ _) | (with_reducible assumption) | (with_reducible refine Below.alloc ?_ ?_ _) | (with_reducible refine Below.setCell ?_ ?_ _) | (with_reducible refine Below.drew ?_) | (with_reducible refine below_drewN ?_ _) | (with_reducible refine below_via ?_ (by with_reducible assumption) ?_) | omega | (simp; done) | (simp; omega))))).rd).mono ?_); rintro e w2 ⟨rfl, hb2⟩; obtain ⟨fc2, fg2, hc2, hf2, hz2⟩ := bget hb2; (try simp at hz2)) | (at_builtin; refine wpList_app rfl _ _ _ rfl elW (w.heap.size + 1) _ _ rfl ((Hown.out.keep (by (repeat' (first | (with_reducible exact Below.refl _ _) | (with_reducible assumption) | (with_reducible refine Below.alloc ?_ ?_ _) | (with_reducible refine Below.setCell ?_ ?_ _) | (with_reducible refine Below.drew ?_) | (with_reducible refine below_drewN ?_ _) | (with_reducible refine below_via ?_ (by with_reducible assumption) ?_) | omega | (simp; done) | (simp; omega))))).alloc _) (some ⟨_, 0, none⟩) 1 1 rfl [encW n] rfl (fun h => by cases h) (rd_oneN (by simp)) (rowsG [n]) (by unfold maxLen; first | (simp; done) | omega | (simp; omega)) (by first | (simp; done) | omega | (simp; omega)) (by first | omega | (simp; done) | (simp; omega)) ?_; intro v3 w3 hown3 hb3; obtain ⟨fc3, fg3, hc3, hf3, hz3⟩ := bget hb3; (try simp at hz3)) | fail)
        go_roundw
        case rel => exact ⟨k + 1, by omega, by go_num, by rw [HSN.out, HKN.out]; rfl, by rw [HNS.out, List.map_append]; exact hown3, by have hbl := Hbl.out; (repeat' (first | (with_reducible exact Below.refl _ _) | (with_reducible assumption) | (with_reducible refine Below.alloc ?_ ?_ _) | (with_reducible refine Below.setCell ?_ ?_ _) | (with_reducible refine Below.drew ?_) | (with_reducible refine below_drewN ?_ _) | (with_reducible refine below_via ?_ (by with_reducible assumption) ?_) | omega | (simp; done) | (simp; omega))), by first | omega | (simp at hz3; omega), by simp [hc3, hc2, hc1, go_sem, z0, z1, hsz, ↓IntWalk.iteOmega], by simp [hf3, hf2, hf1, go_sem, y0, y1, hsz, ↓IntWalk.iteOmega]; exact ⟨fun h => absurd h (by omega), fun h => absurd h (by omega)⟩⟩
        case measure => simp [intOf]; omega
    · have dl : decide ((k : Int) < (l.length : Int)) = false := by simpa using hlt
      have HTK := Lib.hid (show l.take k = l from List.take_of_length_le (by omega))
      have hown := Hown.out
      rw [HTK.out] at hown
      obtain ⟨A9, c9, hv9, hrs9, _⟩ := hown.rs
      rw [List.length_map] at hv9
      subst hv9
      have hkn := HKN.out
      rw [HTK.out] at hkn
      have HC := Lib.hid (show lossC t l = 0 from by unfold lossC; rw [HV.out, hkn]; rfl)
      have HN := Lib.hid (show lossN t l s = - gnN t l s from by unfold lossN; rw [HV.out, hkn]; rfl)
      have CA := Lib.hid (fun W (h : Below wr.heap.size wr W) => wideAddYes (l.map (legS t s)) A9 c9 W (by simp; omega) (fun z hz => by obtain ⟨y, hy, rfl⟩ := List.mem_map.1 hz; exact legS_in (H64.out y hy)) (hrs9.keep h).rd HGI.out.1)
      have CN := Lib.hid (fun W => wideNegYes (gnN t l s) W HGI.out.1 HGI.out.2)
      have HG : Hid ((l.map (legS t s)).sum = gnN t l s) := rfl
      rw [HG.out] at CA
      clear hown hrs9 hkn
      generalize l.map (legS t s) = z at *
      generalize gnN t l s = g at *
      go_wp2_with (first | (go_at_call 56; (with_reducible refine (CA.out _ (by (repeat' (first | (with_reducible exact Below.refl _ _) | (with_reducible assumption) | (with_reducible refine Below.alloc ?_ ?_ _) | (with_reducible refine Below.setCell ?_ ?_ _) | (with_reducible refine Below.drew ?_) | (with_reducible refine below_drewN ?_ _) | (with_reducible refine below_via ?_ (by with_reducible assumption) ?_) | omega | (simp; done) | (simp; omega))))).mono ?_); rintro e w1 ⟨rfl, hb1⟩; obtain ⟨fc1, fg1, hc1, hf1, hz1⟩ := bget hb1; (try simp at hz1)) | (go_at_call 116; (with_reducible refine (CN.out _).mono ?_); rintro e w2 ⟨rfl, hb2⟩; obtain ⟨fc2, fg2, hc2, hf2, hz2⟩ := bget hb2; (try simp at hz2)) | fail)
      have hbl := Hbl.out
      rw [HC.out, HN.out]
      refine bodyPost_ret (by simp [results, Tryz.results101, go_sem, hc1, hc2, z0, z1, hsz, ↓IntWalk.iteOmega]; try rfl) rfl ⟨rfl, ?_⟩
      (repeat' (first | (with_reducible exact Below.refl _ _) | (with_reducible assumption) | (with_reducible refine Below.alloc ?_ ?_ _) | (with_reducible refine Below.setCell ?_ ?_ _) | (with_reducible refine Below.drew ?_) | (with_reducible refine below_drewN ?_ _) | (with_reducible refine below_via ?_ (by with_reducible assumption) ?_) | omega | (simp; done) | (simp; omega)))
/-- The losses in all eight scenarios. -/
def losses8 (f : Int → Int) (k : Nat) : List Int := (List.range k).map fun (j : Nat) => f j
theorem losses8_succ (f : Int → Int) (k : Nat) : losses8 f (k + 1) = losses8 f k ++ [f k] := by
  unfold losses8
  rw [List.range_succ, List.map_append]; rfl
def lossesL (t : List InstV) (l : List Leg) : List Int := if lossC t l = 0 then losses8 (lossN t l) 8 else []
theorem most_losses (f : Int → Int) : ∀ n m, n ≤ m → mostN (fun s => (losses8 f m).getD s.toNat 0) n = mostN f n
  | 0, _, _ => rfl
  | n + 1, m, h => by
    have e : (losses8 f m).getD ((n : Nat) : Int).toNat 0 = f n := by
      unfold losses8
      rw [List.getD_eq_getElem?_getD, Int.toNat_natCast, List.getElem?_map, List.getElem?_range (by omega)]
      rfl
    unfold mostN
    rw [most_losses f n m (by omega), e]
set_option maxRecDepth 100000 in
set_option maxHeartbeats 8000000 in
theorem gridLosses (t : List InstV) (l : List Leg) (A B : Option Addr) (c d : Nat) (w : World) (ht : t.length ≤ 1000000) (hl : l.length ≤ 1000) (h64 : Legs64 l) (hrt : Rd w A 5 (t.map encInstV)) (hgt : ∀ x ∈ t, x.moves.val.length ≤ 1048576 ∧ GoodI w x) (hrl : Rd w B 2 (l.map encLeg)) :
    Calls Tryz.prog 84 #[.slice A t.length c, .slice B l.length d] w fun e w' => ∃ v, e = .returned (.tuple #[v, .int .i64 (lossC t l)]) ∧ Own w' w.heap.size 110 2 v ((lossesL t l).map encW) ∧ Below w.heap.size w w' := by
  have CL := Lib.hid (fun W (h : Below w.heap.size w W) s => gridLoss t l s A B c d W ht hl h64 (hrt.keep h) (fun x hx => ⟨(hgt x hx).1, (hgt x hx).2.keep h⟩) (hrl.keep h))
  have HLL := Lib.hid (show lossesL t l = if lossC t l = 0 then losses8 (lossN t l) 8 else [] from rfl)
  generalize lossesL t l = L at *
  generalize lossN t l = f at *
  generalize lossC t l = code at *
  clear ht hl h64 hrt hgt hrl
  by_cases h0 : code = 0
  · subst h0
    have HL8 := Lib.hid (show L = losses8 f 8 from by rw [HLL.out]; rfl)
    clear HLL
    go_enter Tryz.func84, Tryz.ntmps84
    go_wp2_with fail
    go_loopw [6, 10] (fun v i wr => ∃ k : Nat, k ≤ 8 ∧ i = .int .i64 k ∧ Own wr w.heap.size 110 2 v ((losses8 f k).map encW) ∧ Below w.heap.size w wr) (fun _ i _ => 8 - (intOf i).toNat)
    case atStart => exact ⟨0, Nat.zero_le _, rfl, Own.nil _ _ _ _, by (repeat' (first | (with_reducible exact Below.refl _ _) | (with_reducible assumption) | (with_reducible refine Below.alloc ?_ ?_ _) | (with_reducible refine Below.setCell ?_ ?_ _) | (with_reducible refine Below.drew ?_) | (with_reducible refine below_drewN ?_ _) | (with_reducible refine below_via ?_ (by with_reducible assumption) ?_) | omega | (simp; done) | (simp; omega)))⟩
    case round =>
      obtain ⟨k, hk, rfl, hown, hbl⟩ := hrel
      have Hown := Lib.hid hown
      have Hbl := Lib.hid hbl
      have hz := hbl.size
      clear hown hbl
      by_cases hlt : k < 8
      · have dl : decide ((k : Int) < 8) = true := by simp; omega
        have hlen : (losses8 f k).length ≤ 8 := by unfold losses8; simp; omega
        have HS := Lib.hid (losses8_succ f k)
        have CK := Lib.hid (fun W (h : Below w.heap.size w W) => CL.out W h k)
        obtain ⟨n, hn⟩ : ∃ n, n = f (k : Int) := ⟨_, rfl⟩
        rw [← hn] at CK HS
        clear hn
        go_wp2_with (first | (go_at_call 101; (with_reducible refine (CK.out _ (by have hbl := Hbl.out; (repeat' (first | (with_reducible exact Below.refl _ _) | (with_reducible assumption) | (with_reducible refine Below.alloc ?_ ?_ _) | (with_reducible refine Below.setCell ?_ ?_ _) | (with_reducible refine Below.drew ?_) | (with_reducible refine below_drewN ?_ _) | (with_reducible refine below_via ?_ (by with_reducible assumption) ?_) | omega | (simp; done) | (simp; omega))))).mono ?_); rintro e w1 ⟨rfl, hb1⟩; obtain ⟨fc1, fg1, hc1, hf1, hz1⟩ := bget hb1; (try simp at hz1)) | (at_builtin; refine wpList_app rfl _ _ _ rfl elW w.heap.size _ _ rfl ((Hown.out.keep (by (repeat' (first | (with_reducible exact Below.refl _ _) | (with_reducible assumption) | (with_reducible refine Below.alloc ?_ ?_ _) | (with_reducible refine Below.setCell ?_ ?_ _) | (with_reducible refine Below.drew ?_) | (with_reducible refine below_drewN ?_ _) | (with_reducible refine below_via ?_ (by with_reducible assumption) ?_) | omega | (simp; done) | (simp; omega))))).alloc _) (some ⟨_, 0, none⟩) 1 1 rfl [encW n] rfl (fun h => by cases h) (rd_oneN (by simp)) (rowsG [n]) (by unfold maxLen; first | (simp; done) | omega | (simp; omega)) (by first | (simp; done) | omega | (simp; omega)) (by first | omega | (simp; done) | (simp; omega)) ?_; intro v3 w3 hown3 hb3; obtain ⟨fc3, fg3, hc3, hf3, hz3⟩ := bget hb3; (try simp at hz3)) | fail)
        go_roundw
        case rel => exact ⟨k + 1, by omega, by go_num, by rw [HS.out, List.map_append]; exact hown3, by have hbl := Hbl.out; (repeat' (first | (with_reducible exact Below.refl _ _) | (with_reducible assumption) | (with_reducible refine Below.alloc ?_ ?_ _) | (with_reducible refine Below.setCell ?_ ?_ _) | (with_reducible refine Below.drew ?_) | (with_reducible refine below_drewN ?_ _) | (with_reducible refine below_via ?_ (by with_reducible assumption) ?_) | omega | (simp; done) | (simp; omega)))⟩
        case measure => simp [intOf]; omega
      · obtain rfl : k = 8 := by omega
        go_wp2_with fail
        go_ret2
        exact ⟨_, rfl, by rw [HL8.out]; exact Hown.out, by have hbl := Hbl.out; (repeat' (first | (with_reducible exact Below.refl _ _) | (with_reducible assumption) | (with_reducible refine Below.alloc ?_ ?_ _) | (with_reducible refine Below.setCell ?_ ?_ _) | (with_reducible refine Below.drew ?_) | (with_reducible refine below_drewN ?_ _) | (with_reducible refine below_via ?_ (by with_reducible assumption) ?_) | omega | (simp; done) | (simp; omega)))⟩
  · have HL0 := Lib.hid (show L = [] from by rw [HLL.out, if_neg h0])
    have d0 : (code == 0) = false := by simpa using h0
    have CK := Lib.hid (fun W (h : Below w.heap.size w W) => CL.out W h 0)
    generalize f 0 = n at *
    clear HLL h0 CL
    go_enter Tryz.func84, Tryz.ntmps84
    go_wp2_with fail
    go_loopw [6, 10] (fun v i wr => v = .slice none 0 0 ∧ i = .int .i64 0 ∧ wr = w) (fun _ i _ => 8 - (intOf i).toNat)
    case atStart => exact ⟨rfl, rfl, rfl⟩
    case round =>
      obtain ⟨rfl, rfl, rfl⟩ := hrel
      go_wp2_with (first | (go_at_call 101; (with_reducible refine (CK.out _ (by (repeat' (first | (with_reducible exact Below.refl _ _) | (with_reducible assumption) | (with_reducible refine Below.alloc ?_ ?_ _) | (with_reducible refine Below.setCell ?_ ?_ _) | (with_reducible refine Below.drew ?_) | (with_reducible refine below_drewN ?_ _) | (with_reducible refine below_via ?_ (by with_reducible assumption) ?_) | omega | (simp; done) | (simp; omega))))).mono ?_); rintro e w1 ⟨rfl, hb1⟩; obtain ⟨fc1, fg1, hc1, hf1, hz1⟩ := bget hb1; (try simp at hz1)) | fail)
      go_ret2
      exact ⟨_, rfl, by rw [HL0.out]; exact Own.nil _ _ _ _, by (repeat' (first | (with_reducible exact Below.refl _ _) | (with_reducible assumption) | (with_reducible refine Below.alloc ?_ ?_ _) | (with_reducible refine Below.setCell ?_ ?_ _) | (with_reducible refine Below.drew ?_) | (with_reducible refine below_drewN ?_ _) | (with_reducible refine below_via ?_ (by with_reducible assumption) ?_) | omega | (simp; done) | (simp; omega)))⟩
set_option maxRecDepth 100000 in
set_option maxHeartbeats 8000000 in
theorem gridWorst (l : List Int) (A : Option Addr) (c : Nat) (w : World) (hl : l.length ≤ 1000) (h128 : ∀ z ∈ l, In128 z) (hr : Rd w A 2 (l.map encW)) :
    Calls Tryz.prog 85 #[.slice A l.length c] w fun e w' => e = .returned (.tuple #[(.agg #[.int .i64 (whi ((mostN (fun s => l.getD s.toNat 0) l.length).1)), .int .u64 (wlo ((mostN (fun s => l.getD s.toNat 0) l.length).1))]), .int .i64 (mostN (fun s => l.getD s.toNat 0) l.length).2]) ∧ Below w.heap.size w w' := by
  have HL := Lib.hid hr
  have H128 := Lib.hid h128
  have HMI := Lib.hid (fun k => most_in (f := fun s => l.getD s.toNat 0) (fun s => by
    show In128 (l.getD s.toNat 0)
    rw [List.getD_eq_getElem?_getD]
    cases h : l[s.toNat]? with
    | none => exact (show In128 0 from by unfold In128; omega)
    | some z => exact h128 z (List.mem_of_getElem? h)) k)
  have HST := Lib.hid (fun k (hk : k < l.length) => show mostN (fun s => l.getD s.toNat 0) (k + 1) = if (mostN (fun s => l.getD s.toNat 0) k).1 < l[k] then (l[k], (k : Int)) else mostN (fun s => l.getD s.toNat 0) k from by
    rw [mostN, show l.getD ((k : Nat) : Int).toNat 0 = l[k] from by rw [Int.toNat_natCast, getD_at hk]])
  have HS0 := Lib.hid (show mostN (fun s => l.getD s.toNat 0) 0 = (0, -1) from rfl)
  generalize mostN (fun s => l.getD s.toNat 0) = M at *
  clear hr h128
  go_enter Tryz.func85, Tryz.ntmps85
  go_wp2_with fail
  go_loopw [5, 11] (fun a i wr => ∃ k : Nat, k ≤ l.length ∧ i = .int .i64 k ∧ a = .int .i64 (M k).2 ∧ Blk wr (w.heap.size + 1) 110 #[.int .i64 (whi (M k).1), .int .u64 (wlo (M k).1)] ∧ Below (w.heap.size + 1) (w.alloc (.cells #[.int .i64 0, .int .u64 0] 110)) wr) (fun _ i _ => l.length - (intOf i).toNat)
  case atStart => exact ⟨0, Nat.zero_le _, rfl, by rw [HS0.out], by rw [HS0.out, whi_zero, wlo_zero]; (repeat' (first | (with_reducible assumption) | (with_reducible refine Blk.drew ?_) | (with_reducible refine Blk.here ?_) | (with_reducible refine Blk.alloc ?_ _) | (with_reducible refine Blk.far ?_ ?_ _) | (with_reducible refine Blk.below ?_ (by with_reducible assumption) ?_) | omega | (simp; done) | (simp; omega))), by (repeat' (first | (with_reducible exact Below.refl _ _) | (with_reducible assumption) | (with_reducible refine Below.alloc ?_ ?_ _) | (with_reducible refine Below.setCell ?_ ?_ _) | (with_reducible refine Below.drew ?_) | (with_reducible refine below_drewN ?_ _) | (with_reducible refine below_via ?_ (by with_reducible assumption) ?_) | omega | (simp; done) | (simp; omega)))⟩
  case round =>
    obtain ⟨k, hk, rfl, rfl, hB, hbl⟩ := hrel
    have HB := Lib.hid hB
    have Hbl := Lib.hid hbl
    have hz := hbl.size
    simp at hz
    have b0 := hB.cell 0
    have b1 := hB.cell 1
    have y0 := hB.frozen 0
    have y1 := hB.frozen 1
    have hlt2 := hB.lt
    simp at b0 b1
    clear hB hbl
    by_cases hlt : k < l.length
    · have kl : (k : Int) < (l.length : Int) := by omega
      have dl : decide ((k : Int) < (l.length : Int)) = true := by simpa using hlt
      obtain ⟨b, o, rfl, hb, hc⟩ := HL.out k (encW l[k]) (by simp [hlt])
      have c0 := (Hbl.out.cell (p := ⟨b, o + k * 2 + 0, none⟩) (by exact Nat.lt_succ_of_lt hb)).trans (cell_alloc hb (hc 0 _ rfl))
      have c1 := (Hbl.out.cell (p := ⟨b, o + k * 2 + 1, none⟩) (by exact Nat.lt_succ_of_lt hb)).trans (cell_alloc hb (hc 1 _ rfl))
      simp only [Nat.add_zero] at c0
      have hbw : b < wr.heap.size := by omega
      clear hc
      have CC := Lib.hid (fun W => wideCmp l[k] (M k).1 W (H128.out _ (List.getElem_mem hlt)) (HMI.out k))
      have hst := HST.out k hlt
      by_cases hm : (M k).1 < l[k]
      · rw [if_pos hm] at hst
        have HSK := Lib.hid hst
        have ho : ord l[k] (M k).1 = 1 := by unfold ord; rw [if_neg (by omega), if_pos hm]
        rw [ho] at CC
        generalize M k = m at *
        clear hst ho hm
        go_wp2_with (first | (go_at_call 102; (with_reducible refine (CC.out _).mono ?_); rintro e w1 ⟨rfl, hb1⟩; obtain ⟨fc1, fg1, hc1, hf1, hz1⟩ := bget hb1; (try simp at hz1)) | fail)
        go_roundw
        case rel =>
          refine ⟨k + 1, by omega, by go_num, by rw [HSK.out], ?_, ?_⟩
          · rw [HSK.out]
            have hB := HB.out
            have h1 := ((hB.below (show Below wr.heap.size wr w1 from by (repeat' (first | (with_reducible exact Below.refl _ _) | (with_reducible assumption) | (with_reducible refine Below.alloc ?_ ?_ _) | (with_reducible refine Below.setCell ?_ ?_ _) | (with_reducible refine Below.drew ?_) | (with_reducible refine below_drewN ?_ _) | (with_reducible refine below_via ?_ (by with_reducible assumption) ?_) | omega | (simp; done) | (simp; omega)))) (by omega)).set 0 (.int .i64 (whi l[k]))).set 1 (.int .u64 (wlo l[k]))
            simpa using h1
          · have hbl := Hbl.out
            (repeat' (first | (with_reducible exact Below.refl _ _) | (with_reducible assumption) | (with_reducible refine Below.alloc ?_ ?_ _) | (with_reducible refine Below.setCell ?_ ?_ _) | (with_reducible refine Below.drew ?_) | (with_reducible refine below_drewN ?_ _) | (with_reducible refine below_via ?_ (by with_reducible assumption) ?_) | omega | (simp; done) | (simp; omega)))
        case measure => simp [intOf]; omega
      · rw [if_neg hm] at hst
        have HSK := Lib.hid hst
        have ho : decide (0 < ord l[k] (M k).1) = false := by unfold ord; rw [if_neg hm]; split <;> simp
        generalize ord l[k] (M k).1 = oo at *
        generalize M k = m at *
        clear hst hm
        go_wp2_with (first | (go_at_call 102; (with_reducible refine (CC.out _).mono ?_); rintro e w1 ⟨rfl, hb1⟩; obtain ⟨fc1, fg1, hc1, hf1, hz1⟩ := bget hb1; (try simp at hz1)) | fail)
        go_roundw
        case rel =>
          refine ⟨k + 1, by omega, by go_num, by rw [HSK.out], ?_, ?_⟩
          · rw [HSK.out]
            exact HB.out.below (show Below wr.heap.size wr w1 from by (repeat' (first | (with_reducible exact Below.refl _ _) | (with_reducible assumption) | (with_reducible refine Below.alloc ?_ ?_ _) | (with_reducible refine Below.setCell ?_ ?_ _) | (with_reducible refine Below.drew ?_) | (with_reducible refine below_drewN ?_ _) | (with_reducible refine below_via ?_ (by with_reducible assumption) ?_) | omega | (simp; done) | (simp; omega)))) (by omega)
          · have hbl := Hbl.out
            (repeat' (first | (with_reducible exact Below.refl _ _) | (with_reducible assumption) | (with_reducible refine Below.alloc ?_ ?_ _) | (with_reducible refine Below.setCell ?_ ?_ _) | (with_reducible refine Below.drew ?_) | (with_reducible refine below_drewN ?_ _) | (with_reducible refine below_via ?_ (by with_reducible assumption) ?_) | omega | (simp; done) | (simp; omega)))
        case measure => simp [intOf]; omega
    · obtain rfl : k = l.length := by omega
      obtain ⟨hfc, hff⟩ : (∀ b o, b < w.heap.size + 1 → wr.cell? ⟨b, o, none⟩ = (w.alloc (.cells #[.int .i64 0, .int .u64 0] 110)).cell? ⟨b, o, none⟩) ∧ (∀ b o, b < w.heap.size + 1 → wr.frozen? ⟨b, o, none⟩ = (w.alloc (.cells #[.int .i64 0, .int .u64 0] 110)).frozen? ⟨b, o, none⟩) := ⟨fun b o h => Hbl.out.cell (p := ⟨b, o, none⟩) h, fun b o h => Hbl.out.frozen (p := ⟨b, o, none⟩) h⟩
      have r0 := hfc w.heap.size 0 (by omega)
      have r1 := hfc w.heap.size 1 (by omega)
      have z0 := hff w.heap.size 0 (by omega)
      have z1 := hff w.heap.size 1 (by omega)
      simp at r0 r1 z0 z1
      clear hfc hff
      go_wp2_with fail
      refine bodyPost_ret (by simp [results, Tryz.results85, go_sem, r0, r1]; try rfl) rfl ⟨rfl, ?_⟩
      have hb := Hbl.out.mono (B' := w.heap.size) (by omega)
      have hb2 : Below w.heap.size w wr := ((Below.refl _ _).alloc (Nat.le_refl _) _).trans hb
      (repeat' (first | (with_reducible exact Below.refl _ _) | (with_reducible assumption) | (with_reducible refine Below.alloc ?_ ?_ _) | (with_reducible refine Below.setCell ?_ ?_ _) | (with_reducible refine Below.drew ?_) | (with_reducible refine below_drewN ?_ _) | (with_reducible refine below_via ?_ (by with_reducible assumption) ?_) | omega | (simp; done) | (simp; omega)))
end Go.Proofs.YtalgfpegaobacaaGreat

/- Layer 24: contracts of the reference's Loss, Most, Margin. -/
namespace Go.Proofs.YtalgfpegaobacaaGreat
open Go.RowKit
end Go.Proofs.YtalgfpegaobacaaGreat

/- Layer 24: contracts of the reference's Most, Margin; of grid.Margin, Worst. -/
namespace Go.Proofs.YtalgfpegaobacaaGreat
open Go.RowKit
theorem most_lossesL (t : List InstV) (l : List Leg) : mostN (fun s => (lossesL t l).getD s.toNat 0) (lossesL t l).length = mostN (lossN t l) 8 := by
  unfold lossesL
  by_cases h : lossC t l = 0
  · rw [if_pos h, show (losses8 (lossN t l) 8).length = 8 from by unfold losses8; simp, most_losses _ 8 8 (Nat.le_refl _)]
  · rw [if_neg h, most_zero (loss_no h)]; rfl
theorem lossesL_in {t : List InstV} {l : List Leg} (h : Legs64 l) (hl : l.length ≤ 1000) : (∀ z ∈ lossesL t l, In128 z) ∧ (lossesL t l).length ≤ 8 := by
  unfold lossesL
  split
  · refine ⟨fun z hz => ?_, by unfold losses8; simp⟩
    unfold losses8 at hz
    obtain ⟨k, _, rfl⟩ := List.mem_map.1 hz
    exact loss_in h hl
  · exact ⟨fun z hz => absurd hz (by simp), by simp⟩
set_option maxRecDepth 100000 in
set_option maxHeartbeats 8000000 in
theorem gridMargin (t : List InstV) (l : List Leg) (A B : Option Addr) (c d : Nat) (w : World) (ht : t.length ≤ 1000000) (hl : l.length ≤ 1000) (h64 : Legs64 l) (hrt : Rd w A 5 (t.map encInstV)) (hgt : ∀ x ∈ t, x.moves.val.length ≤ 1048576 ∧ GoodI w x) (hrl : Rd w B 2 (l.map encLeg)) :
    Calls Tryz.prog 51 #[.slice A t.length c, .slice B l.length d] w fun e w' => e = .returned (.tuple #[.int .i64 (marginN t l), .int .i64 (marginC t l)]) ∧ Below w.heap.size w w' := by
  have CL := Lib.hid (fun W (h : Below w.heap.size w W) => gridLosses t l A B c d W ht hl h64 (hrt.keep h) (fun x hx => ⟨(hgt x hx).1, (hgt x hx).2.keep h⟩) (hrl.keep h))
  have hll := lossesL_in (t := t) h64 hl
  have cw := fun W A1 c1 h => most_lossesL t l ▸ gridWorst (lossesL t l) A1 c1 W (by omega) hll.1 h
  have hmi := most_in (fun s => loss_in (t := t) (s := s) h64 hl) 8
  have hmn : marginN t l = if lossC t l = 0 then (if in64 (mostN (lossN t l) 8).1 then (mostN (lossN t l) 8).1 else 0) else 0 := rfl
  have hmc : marginC t l = if lossC t l = 0 then (if in64 (mostN (lossN t l) 8).1 then 0 else 7) else lossC t l := rfl
  generalize marginN t l = mn at *
  generalize marginC t l = mc at *
  generalize mostN (lossN t l) 8 = M at *
  obtain ⟨m, at_⟩ := M
  simp only at cw hmn hmc hmi
  have CW := Lib.hid cw
  clear cw hll
  generalize lossesL t l = L at *
  generalize lossC t l = code at *
  clear ht hl h64 hrt hgt hrl
  by_cases h0 : code = 0
  · subst h0
    rw [if_pos rfl] at hmn hmc
    cases h64 : in64 m
    · rw [h64] at hmn hmc
      simp only [Bool.false_eq_true, if_false] at hmn hmc
      subst hmn hmc
      have CI := Lib.hid (fun W => wideIntNo m W hmi (in64_no h64))
      clear h64 hmi
      go_enter Tryz.func51, Tryz.ntmps51
      go_wp2_with (first | (go_at_call 84; (with_reducible refine (CL.out _ (by (repeat' (first | (with_reducible exact Below.refl _ _) | (with_reducible assumption) | (with_reducible refine Below.alloc ?_ ?_ _) | (with_reducible refine Below.setCell ?_ ?_ _) | (with_reducible refine Below.drew ?_) | (with_reducible refine below_drewN ?_ _) | (with_reducible refine below_via ?_ (by with_reducible assumption) ?_) | omega | (simp; done) | (simp; omega))))).mono ?_); rintro e w1 ⟨v1, rfl, hown1, hb1⟩; obtain ⟨A1, c1, rfl, hrs1, _⟩ := hown1.rs; (rw [List.length_map]); have HR1 := Lib.hid hrs1.rd; clear hown1 hrs1; obtain ⟨fc1, fg1, hc1, hf1, hz1⟩ := bget hb1; (try simp at hz1)) | (go_at_call 85; (with_reducible refine (CW.out _ _ _ (HR1.out.keep (by (repeat' (first | (with_reducible exact Below.refl _ _) | (with_reducible assumption) | (with_reducible refine Below.alloc ?_ ?_ _) | (with_reducible refine Below.setCell ?_ ?_ _) | (with_reducible refine Below.drew ?_) | (with_reducible refine below_drewN ?_ _) | (with_reducible refine below_via ?_ (by with_reducible assumption) ?_) | omega | (simp; done) | (simp; omega)))))).mono ?_); rintro e w2 ⟨rfl, hb2⟩; obtain ⟨fc2, fg2, hc2, hf2, hz2⟩ := bget hb2; (try simp at hz2)) | (go_at_call 86; (with_reducible refine (CI.out _).mono ?_); rintro e w3 ⟨rfl, hb3⟩; obtain ⟨fc3, fg3, hc3, hf3, hz3⟩ := bget hb3; (try simp at hz3)) | fail)
      go_ret2
      exact ⟨rfl, by (repeat' (first | (with_reducible exact Below.refl _ _) | (with_reducible assumption) | (with_reducible refine Below.alloc ?_ ?_ _) | (with_reducible refine Below.setCell ?_ ?_ _) | (with_reducible refine Below.drew ?_) | (with_reducible refine below_drewN ?_ _) | (with_reducible refine below_via ?_ (by with_reducible assumption) ?_) | omega | (simp; done) | (simp; omega)))⟩
    · rw [h64] at hmn hmc
      simp only [if_true] at hmn hmc
      subst hmn hmc
      have CI := Lib.hid (fun W => wideIntYes mn W (in64_iff.1 h64))
      clear h64 hmi
      go_enter Tryz.func51, Tryz.ntmps51
      go_wp2_with (first | (go_at_call 84; (with_reducible refine (CL.out _ (by (repeat' (first | (with_reducible exact Below.refl _ _) | (with_reducible assumption) | (with_reducible refine Below.alloc ?_ ?_ _) | (with_reducible refine Below.setCell ?_ ?_ _) | (with_reducible refine Below.drew ?_) | (with_reducible refine below_drewN ?_ _) | (with_reducible refine below_via ?_ (by with_reducible assumption) ?_) | omega | (simp; done) | (simp; omega))))).mono ?_); rintro e w1 ⟨v1, rfl, hown1, hb1⟩; obtain ⟨A1, c1, rfl, hrs1, _⟩ := hown1.rs; (rw [List.length_map]); have HR1 := Lib.hid hrs1.rd; clear hown1 hrs1; obtain ⟨fc1, fg1, hc1, hf1, hz1⟩ := bget hb1; (try simp at hz1)) | (go_at_call 85; (with_reducible refine (CW.out _ _ _ (HR1.out.keep (by (repeat' (first | (with_reducible exact Below.refl _ _) | (with_reducible assumption) | (with_reducible refine Below.alloc ?_ ?_ _) | (with_reducible refine Below.setCell ?_ ?_ _) | (with_reducible refine Below.drew ?_) | (with_reducible refine below_drewN ?_ _) | (with_reducible refine below_via ?_ (by with_reducible assumption) ?_) | omega | (simp; done) | (simp; omega)))))).mono ?_); rintro e w2 ⟨rfl, hb2⟩; obtain ⟨fc2, fg2, hc2, hf2, hz2⟩ := bget hb2; (try simp at hz2)) | (go_at_call 86; (with_reducible refine (CI.out _).mono ?_); rintro e w3 ⟨rfl, hb3⟩; obtain ⟨fc3, fg3, hc3, hf3, hz3⟩ := bget hb3; (try simp at hz3)) | fail)
      go_ret2
      exact ⟨rfl, by (repeat' (first | (with_reducible exact Below.refl _ _) | (with_reducible assumption) | (with_reducible refine Below.alloc ?_ ?_ _) | (with_reducible refine Below.setCell ?_ ?_ _) | (with_reducible refine Below.drew ?_) | (with_reducible refine below_drewN ?_ _) | (with_reducible refine below_via ?_ (by with_reducible assumption) ?_) | omega | (simp; done) | (simp; omega)))⟩
  · rw [if_neg h0] at hmn hmc
    subst hmn hmc
    have d0 : (mc == 0) = false := by simpa using h0
    clear h0 hmi
    go_enter Tryz.func51, Tryz.ntmps51
    go_wp2_with (first | (go_at_call 84; (with_reducible refine (CL.out _ (by (repeat' (first | (with_reducible exact Below.refl _ _) | (with_reducible assumption) | (with_reducible refine Below.alloc ?_ ?_ _) | (with_reducible refine Below.setCell ?_ ?_ _) | (with_reducible refine Below.drew ?_) | (with_reducible refine below_drewN ?_ _) | (with_reducible refine below_via ?_ (by with_reducible assumption) ?_) | omega | (simp; done) | (simp; omega))))).mono ?_); rintro e w1 ⟨v1, rfl, hown1, hb1⟩; obtain ⟨A1, c1, rfl, hrs1, _⟩ := hown1.rs; (rw [List.length_map]); have HR1 := Lib.hid hrs1.rd; clear hown1 hrs1; obtain ⟨fc1, fg1, hc1, hf1, hz1⟩ := bget hb1; (try simp at hz1)) | fail)
    go_ret2
    exact ⟨rfl, by (repeat' (first | (with_reducible exact Below.refl _ _) | (with_reducible assumption) | (with_reducible refine Below.alloc ?_ ?_ _) | (with_reducible refine Below.setCell ?_ ?_ _) | (with_reducible refine Below.drew ?_) | (with_reducible refine below_drewN ?_ _) | (with_reducible refine below_via ?_ (by with_reducible assumption) ?_) | omega | (simp; done) | (simp; omega)))⟩
end Go.Proofs.YtalgfpegaobacaaGreat
