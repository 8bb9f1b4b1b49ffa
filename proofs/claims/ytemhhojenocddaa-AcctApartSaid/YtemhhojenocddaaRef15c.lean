/- Accounts: contract of the reference's Bind. -/
import Derived.Test.YtemhhojenocddaaRef15b
import Derived.Outline
namespace Go.Proofs.Ytemhhojenocddaa
open Go.RowKit
theorem tw_lt {l : List Int} {t : Int} {j : Nat} (hj : j < l.length) (h : j < (l.takeWhile (fun x => decide (x < t))).length) : l[j] < t := by
  have h1 := List.all_eq_true.1 (List.all_takeWhile (p := fun x : Int => decide (x < t)) (l := l)) _ (List.getElem_mem h)
  have h2 : (l.takeWhile (fun x => decide (x < t)))[j] = l[j] := by
    have h3 := tw_take (fun x : Int => decide (x < t)) l
    have h4 := congrArg (fun z => z[j]?) h3
    simp only [List.getElem?_eq_getElem h, List.getElem?_take, if_pos h, List.getElem?_eq_getElem hj, Option.some.injEq] at h4
    exact h4
  rw [h2] at h1
  simpa using h1
theorem mem_cut {l : List Int} (hs : l.Pairwise (· < ·)) {t : Int} (hm : t ∈ l) : ∃ h : (l.takeWhile (fun x => decide (x < t))).length < l.length, l[(l.takeWhile (fun x => decide (x < t))).length] = t ∧ ∀ j (_ : j < l.length), j < (l.takeWhile (fun x => decide (x < t))).length → l[j] < t := by
  have ha := at_mem hs t
  rw [decide_eq_true hm] at ha
  have hlt : (l.takeWhile (fun x => decide (x < t))).length < l.length := by
    rcases Nat.lt_or_ge (l.takeWhile (fun x => decide (x < t))).length l.length with h | h
    · exact h
    · rw [atB_none h] at ha; cases ha
  refine ⟨hlt, ?_, fun j hj h => tw_lt hj h⟩
  rw [atB_some hlt] at ha
  simpa using ha
theorem nomem_cut {l : List Int} (hs : l.Pairwise (· < ·)) {t : Int} (hm : t ∉ l) : (∀ j (_ : j < l.length), j < (l.takeWhile (fun x => decide (x < t))).length → l[j] < t) ∧ ∀ j (_ : j < l.length), (l.takeWhile (fun x => decide (x < t))).length ≤ j → t < l[j] := by
  refine ⟨fun j hj h => tw_lt hj h, fun j hj h => ?_⟩
  have hne : l[j] ≠ t := fun e => hm (by rw [← e]; exact List.getElem_mem hj)
  have hp := List.pairwise_iff_getElem.1 hs
  have hn : (l.takeWhile (fun x => decide (x < t))).length < l.length := by omega
  have h0 : ¬ l[(l.takeWhile (fun x => decide (x < t))).length] < t := by
    have h5 : 0 < (l.dropWhile (fun x => decide (x < t))).length := by rw [dw_drop, List.length_drop]; omega
    have h6 := List.head_dropWhile_not (p := fun x : Int => decide (x < t)) (l := l) (List.ne_nil_of_length_pos h5)
    have h7 : (l.dropWhile (fun x => decide (x < t))).head (List.ne_nil_of_length_pos h5) = l[(l.takeWhile (fun x => decide (x < t))).length] := by
      have h8 := dw_drop (fun x : Int => decide (x < t)) l
      have h9 : (l.dropWhile (fun x => decide (x < t))).head? = some l[(l.takeWhile (fun x => decide (x < t))).length] := by
        rw [h8, List.head?_drop, List.getElem?_eq_getElem hn]
      rw [List.head?_eq_some_head (List.ne_nil_of_length_pos h5)] at h9
      exact Option.some.inj h9
    rw [h7] at h6
    simpa using h6
  rcases Nat.lt_or_ge (l.takeWhile (fun x => decide (x < t))).length j with h1 | h1
  · have := hp _ j hn hj h1; omega
  · obtain rfl : j = (l.takeWhile (fun x => decide (x < t))).length := by omega
    omega
theorem ins_step {l : List Int} {t : Int} {n k : Nat} (hn : n ≤ k) (hk : k < l.length) : (l.take n ++ t :: l.drop n).take (k + 2) = (l.take n ++ t :: l.drop n).take (k + 1) ++ [l[k]] := by
  have hlen : k + 1 < (l.take n ++ t :: l.drop n).length := by simp; omega
  rw [List.take_succ_eq_append_getElem hlen]
  congr 2
  have h1 : (l.take n ++ t :: l.drop n)[k + 1]? = l[k]? := by
    rw [List.getElem?_append_right (by simp; omega), List.length_take, Nat.min_eq_left (by omega), show k + 1 - n = (k - n) + 1 from by omega, List.getElem?_cons_succ, List.getElem?_drop]
    congr 1; omega
  rw [List.getElem?_eq_getElem hlen, List.getElem?_eq_getElem hk] at h1
  exact Option.some.inj h1
theorem ins_here {l : List Int} {t : Int} {n : Nat} (hn : n ≤ l.length) : (l.take n ++ t :: l.drop n).take (n + 1) = l.take n ++ [t] := by
  rw [List.take_append, List.length_take, Nat.min_eq_left hn, List.take_take, Nat.min_eq_right (by omega), show n + 1 - n = 1 from by omega]; rfl
set_option maxRecDepth 100000 in
set_option maxHeartbeats 16000000 in
theorem ref15Bind (x : AcctV) (t : Int) (w : World) (hl : x.clients.val.length ≤ 1000000) (hg : GoodA w x) :
    Calls Try.prog 19 #[.agg #[.int .i64 x.id, .int .i64 x.member, .int .i64 x.kind, .slice x.clients.A x.clients.val.length x.clients.c], .int .i64 t] w (BindPost w (lgA x) t) := by
  have HR := Lib.hid (show Rs w 1 (x.clients.val.map encI) x.clients.A x.clients.c from hg).rd
  have c1 := fun W (h : Below w.heap.size w W) => ref15IsV x W (by omega) (hg.keep h)
  clear hg
  by_cases hok : okA (lgA x)
  rotate_left
  · rw [show okAV x = false from decide_eq_false hok] at c1
    have C1 := Lib.hid c1
    have hq : bindC (lgA x) t = 2 := by unfold bindC; rw [if_neg hok]
    clear c1 hok
    have HQ := Lib.hid hq
    have HP := Lib.hid (bindA_no (x := lgA x) (c := t) (by rw [hq]; decide))
    clear hq
    go_enter Try.func19, Try.ntmps19
    go_wp2_with (first | (go_at_call 12; (with_reducible refine (C1.out _ (by (repeat' (first | (with_reducible exact Below.refl _ _) | (with_reducible assumption) | (with_reducible refine Below.alloc ?_ ?_ _) | (with_reducible refine Below.setCell ?_ ?_ _) | (with_reducible refine Below.drew ?_) | (with_reducible refine below_drewN ?_ _) | (with_reducible refine below_via ?_ (by with_reducible assumption) ?_) | omega | (simp; done) | (simp; omega))))).mono ?_); rintro e w1 ⟨rfl, hb1⟩; obtain ⟨fc1, fg1, hc1, hf1, hz1⟩ := bget hb1; try simp at hz1) | fail)
    refine bodyPost_ret (v := .tuple #[.agg #[.int .i64 0, .int .i64 0, .int .i64 0, .slice none 0 0], .int .i64 (bindC (lgA x) t)]) (by rw [HQ.out]; simp [results, Try.results19, go_sem, hc1]; try rfl) rfl ⟨⟨0, 0, 0, ⟨none, 0, []⟩⟩, rfl, by rw [HP.out]; rfl, Rs.empty _ _, ?_⟩
    (repeat' (first | (with_reducible exact Below.refl _ _) | (with_reducible assumption) | (with_reducible refine Below.alloc ?_ ?_ _) | (with_reducible refine Below.setCell ?_ ?_ _) | (with_reducible refine Below.drew ?_) | (with_reducible refine below_drewN ?_ _) | (with_reducible refine below_via ?_ (by with_reducible assumption) ?_) | omega | (simp; done) | (simp; omega)))
  rw [show okAV x = true from decide_eq_true hok] at c1
  have hpair : x.clients.val.Pairwise (· < ·) := (risC_pair hok.2.2.2.2).1
  have C1 := Lib.hid c1
  have hq0 : bindC (lgA x) t = (if x.kind = 1 then 17 else if t < 1 ∨ 16 < t then 2 else if t ∈ x.clients.val then 12 else if mostA x.kind ≤ x.clients.val.length then 10 else 0) := by unfold bindC; rw [if_pos hok]; rfl
  clear c1
  by_cases hk : x.kind = 1
  · rw [if_pos hk] at hq0
    have bk : (x.kind == 1) = true := by simpa using hk
    have hq := hq0
    clear hk hq0 hok
    have HQ := Lib.hid hq
    have HP := Lib.hid (bindA_no (x := lgA x) (c := t) (by rw [hq]; decide))
    clear hq
    go_enter Try.func19, Try.ntmps19
    go_wp2_with (first | (go_at_call 12; (with_reducible refine (C1.out _ (by (repeat' (first | (with_reducible exact Below.refl _ _) | (with_reducible assumption) | (with_reducible refine Below.alloc ?_ ?_ _) | (with_reducible refine Below.setCell ?_ ?_ _) | (with_reducible refine Below.drew ?_) | (with_reducible refine below_drewN ?_ _) | (with_reducible refine below_via ?_ (by with_reducible assumption) ?_) | omega | (simp; done) | (simp; omega))))).mono ?_); rintro e w1 ⟨rfl, hb1⟩; obtain ⟨fc1, fg1, hc1, hf1, hz1⟩ := bget hb1; try simp at hz1) | fail)
    refine bodyPost_ret (v := .tuple #[.agg #[.int .i64 0, .int .i64 0, .int .i64 0, .slice none 0 0], .int .i64 (bindC (lgA x) t)]) (by rw [HQ.out]; simp [results, Try.results19, go_sem, hc1]; try rfl) rfl ⟨⟨0, 0, 0, ⟨none, 0, []⟩⟩, rfl, by rw [HP.out]; rfl, Rs.empty _ _, ?_⟩
    (repeat' (first | (with_reducible exact Below.refl _ _) | (with_reducible assumption) | (with_reducible refine Below.alloc ?_ ?_ _) | (with_reducible refine Below.setCell ?_ ?_ _) | (with_reducible refine Below.drew ?_) | (with_reducible refine below_drewN ?_ _) | (with_reducible refine below_via ?_ (by with_reducible assumption) ?_) | omega | (simp; done) | (simp; omega)))
  rw [if_neg hk] at hq0
  have bk : (x.kind == 1) = false := by simpa using hk
  by_cases ht1 : t < 1
  · have b1 := decide_eq_true ht1
    have hq : bindC (lgA x) t = 2 := by rw [hq0, if_pos (.inl ht1)]
    clear hq0 hok
    have HQ := Lib.hid hq
    have HP := Lib.hid (bindA_no (x := lgA x) (c := t) (by rw [hq]; decide))
    clear hq
    go_enter Try.func19, Try.ntmps19
    go_wp2_with (first | (go_at_call 12; (with_reducible refine (C1.out _ (by (repeat' (first | (with_reducible exact Below.refl _ _) | (with_reducible assumption) | (with_reducible refine Below.alloc ?_ ?_ _) | (with_reducible refine Below.setCell ?_ ?_ _) | (with_reducible refine Below.drew ?_) | (with_reducible refine below_drewN ?_ _) | (with_reducible refine below_via ?_ (by with_reducible assumption) ?_) | omega | (simp; done) | (simp; omega))))).mono ?_); rintro e w1 ⟨rfl, hb1⟩; obtain ⟨fc1, fg1, hc1, hf1, hz1⟩ := bget hb1; try simp at hz1) | fail)
    refine bodyPost_ret (v := .tuple #[.agg #[.int .i64 0, .int .i64 0, .int .i64 0, .slice none 0 0], .int .i64 (bindC (lgA x) t)]) (by rw [HQ.out]; simp [results, Try.results19, go_sem, hc1]; try rfl) rfl ⟨⟨0, 0, 0, ⟨none, 0, []⟩⟩, rfl, by rw [HP.out]; rfl, Rs.empty _ _, ?_⟩
    (repeat' (first | (with_reducible exact Below.refl _ _) | (with_reducible assumption) | (with_reducible refine Below.alloc ?_ ?_ _) | (with_reducible refine Below.setCell ?_ ?_ _) | (with_reducible refine Below.drew ?_) | (with_reducible refine below_drewN ?_ _) | (with_reducible refine below_via ?_ (by with_reducible assumption) ?_) | omega | (simp; done) | (simp; omega)))
  have b1 := decide_eq_false ht1
  by_cases ht2 : 16 < t
  · have b2 := decide_eq_true ht2
    have hq : bindC (lgA x) t = 2 := by rw [hq0, if_pos (.inr ht2)]
    clear hq0 hok
    have HQ := Lib.hid hq
    have HP := Lib.hid (bindA_no (x := lgA x) (c := t) (by rw [hq]; decide))
    clear hq
    go_enter Try.func19, Try.ntmps19
    go_wp2_with (first | (go_at_call 12; (with_reducible refine (C1.out _ (by (repeat' (first | (with_reducible exact Below.refl _ _) | (with_reducible assumption) | (with_reducible refine Below.alloc ?_ ?_ _) | (with_reducible refine Below.setCell ?_ ?_ _) | (with_reducible refine Below.drew ?_) | (with_reducible refine below_drewN ?_ _) | (with_reducible refine below_via ?_ (by with_reducible assumption) ?_) | omega | (simp; done) | (simp; omega))))).mono ?_); rintro e w1 ⟨rfl, hb1⟩; obtain ⟨fc1, fg1, hc1, hf1, hz1⟩ := bget hb1; try simp at hz1) | fail)
    refine bodyPost_ret (v := .tuple #[.agg #[.int .i64 0, .int .i64 0, .int .i64 0, .slice none 0 0], .int .i64 (bindC (lgA x) t)]) (by rw [HQ.out]; simp [results, Try.results19, go_sem, hc1]; try rfl) rfl ⟨⟨0, 0, 0, ⟨none, 0, []⟩⟩, rfl, by rw [HP.out]; rfl, Rs.empty _ _, ?_⟩
    (repeat' (first | (with_reducible exact Below.refl _ _) | (with_reducible assumption) | (with_reducible refine Below.alloc ?_ ?_ _) | (with_reducible refine Below.setCell ?_ ?_ _) | (with_reducible refine Below.drew ?_) | (with_reducible refine below_drewN ?_ _) | (with_reducible refine below_via ?_ (by with_reducible assumption) ?_) | omega | (simp; done) | (simp; omega)))
  have b2 := decide_eq_false ht2
  rw [if_neg (by omega)] at hq0
  have hnl := tw_len (fun y : Int => decide (y < t)) x.clients.val
  by_cases hm : t ∈ x.clients.val
  · have hq : bindC (lgA x) t = 12 := by rw [hq0, if_pos hm]
    have HQ := Lib.hid hq
    have HP := Lib.hid (bindA_no (x := lgA x) (c := t) (by rw [hq]; decide))
    obtain ⟨hlt, hat, hlo⟩ := mem_cut hpair hm
    generalize (x.clients.val.takeWhile (fun y : Int => decide (y < t))).length = n at *
    have HAT := Lib.hid hat
    have HLO := Lib.hid hlo
    clear hq hq0 hok hm hpair hat hlo
    go_enter Try.func19, Try.ntmps19
    go_wp2_with (first | (go_at_call 12; (with_reducible refine (C1.out _ (by (repeat' (first | (with_reducible exact Below.refl _ _) | (with_reducible assumption) | (with_reducible refine Below.alloc ?_ ?_ _) | (with_reducible refine Below.setCell ?_ ?_ _) | (with_reducible refine Below.drew ?_) | (with_reducible refine below_drewN ?_ _) | (with_reducible refine below_via ?_ (by with_reducible assumption) ?_) | omega | (simp; done) | (simp; omega))))).mono ?_); rintro e w1 ⟨rfl, hb1⟩; obtain ⟨fc1, fg1, hc1, hf1, hz1⟩ := bget hb1; try simp at hz1) | fail)
    go_loopw [6, 7, 8] (fun v d i wr => ∃ q : Nat, q ≤ n ∧ i = .int .i64 q ∧ d = .bool false ∧ Own wr (w.heap.size + 2) 3 1 v ((x.clients.val.take q).map encI) ∧ Below w.heap.size w wr ∧ w.heap.size + 2 ≤ wr.heap.size ∧ (wr.cell? ⟨w.heap.size, 0, none⟩ = some (.int .i64 x.id) ∧ wr.cell? ⟨w.heap.size, 1, none⟩ = some (.int .i64 x.member) ∧ wr.cell? ⟨w.heap.size, 2, none⟩ = some (.int .i64 x.kind) ∧ wr.cell? ⟨w.heap.size, 3, none⟩ = some (.slice x.clients.A x.clients.val.length x.clients.c) ∧ wr.frozen? ⟨w.heap.size, 3, none⟩ = false) ∧ wr.cell? ⟨w.heap.size + 1, 0, none⟩ = some (.int .i64 0) ∧ wr.cell? ⟨w.heap.size + 1, 1, none⟩ = some (.int .i64 0) ∧ wr.cell? ⟨w.heap.size + 1, 2, none⟩ = some (.int .i64 0) ∧ wr.cell? ⟨w.heap.size + 1, 3, none⟩ = some (.slice none 0 0) ∧ wr.frozen? ⟨w.heap.size + 1, 0, none⟩ = false ∧ wr.frozen? ⟨w.heap.size + 1, 1, none⟩ = false ∧ wr.frozen? ⟨w.heap.size + 1, 2, none⟩ = false ∧ wr.frozen? ⟨w.heap.size + 1, 3, none⟩ = false) (fun _ _ i _ => n - (intOf i).toNat)
    case atStart => exact ⟨0, Nat.zero_le _, rfl, rfl, Own.nil _ _ _ _, by (repeat' (first | (with_reducible exact Below.refl _ _) | (with_reducible assumption) | (with_reducible refine Below.alloc ?_ ?_ _) | (with_reducible refine Below.setCell ?_ ?_ _) | (with_reducible refine Below.drew ?_) | (with_reducible refine below_drewN ?_ _) | (with_reducible refine below_via ?_ (by with_reducible assumption) ?_) | omega | (simp; done) | (simp; omega))), (by first | omega | (simp; done) | (simp; omega)), by simp [go_sem, hc1, hf1, ↓IntWalk.iteOmega]⟩
    case round =>
      obtain ⟨q, hq, rfl, rfl, hown, hbl, hsz, ⟨b0, b1, b2, b3, y3⟩, z0, z1, z2, z3, y4, y5, y6, y7⟩ := hrel
      have Hown := Lib.hid hown
      have Hbl := Lib.hid hbl
      have hz := hbl.size
      clear hown hbl hc1 hf1 hb1 hz1
      have hql : q < x.clients.val.length := by omega
      have qi : (q : Int) < (x.clients.val.length : Int) := by omega
      have dl : decide ((q : Int) < (x.clients.val.length : Int)) = true := by simpa using hql
      obtain ⟨b, o, hA, hb, hc⟩ := HR.out q (encI x.clients.val[q]) (by simp [hql])
      have e0 := (Hbl.out.cell (p := ⟨b, o + q * 1 + 0, none⟩) hb).trans (hc 0 _ rfl)
      simp only [Nat.add_zero, Nat.mul_one] at e0
      rw [hA] at b3
      have HAA := Lib.hid hA
      clear hc hA
      by_cases hqn : q < n
      · have h1 := HLO.out q hql hqn
        have g1 : (x.clients.val[q] == t) = false := by rw [beq_eq_false_iff_ne]; omega
        have g2 : decide (t < x.clients.val[q]) = false := decide_eq_false (by omega)
        have HS := Lib.hid (map_snoc hql encI)
        have hsl : (x.clients.val.take q).length ≤ 1000000 := by rw [List.length_take]; omega
        go_wp2_with (first | (at_builtin; refine wpList_app rfl _ _ _ rfl elN (w.heap.size + 2) _ _ rfl (Hown.out.alloc _) (some ⟨_, 0, none⟩) 1 1 rfl [encI x.clients.val[q]] rfl (fun h => by cases h) (rd_oneN (by simp)) (rowsJ [x.clients.val[q]]) (by unfold maxLen; first | (simp; done) | omega | (simp; omega)) (by first | (simp; done) | omega | (simp; omega)) (by first | omega | (simp; done) | (simp; omega)) ?_; intro v3 w3 hown3 hb3; obtain ⟨fc3, fg3, hc3, hf3, hz3⟩ := bget hb3; (try simp at hz3)) | fail)
        go_roundw
        case rel => exact ⟨q + 1, by omega, by go_num, rfl, by rw [HS.out]; exact hown3, by have hbl := Hbl.out; (repeat' (first | (with_reducible exact Below.refl _ _) | (with_reducible assumption) | (with_reducible refine Below.alloc ?_ ?_ _) | (with_reducible refine Below.setCell ?_ ?_ _) | (with_reducible refine Below.drew ?_) | (with_reducible refine below_drewN ?_ _) | (with_reducible refine below_via ?_ (by with_reducible assumption) ?_) | omega | (simp; done) | (simp; omega))), (by first | omega | (simp; done) | (simp; omega)), by rw [HAA.out]; simp [hc3, hf3, go_sem, b0, b1, b2, b3, y3, z0, z1, z2, z3, y4, y5, y6, y7, ↓IntWalk.iteOmega]⟩
        case measure => simp [intOf]; omega
      · obtain rfl : q = n := by omega
        have g1 : (x.clients.val[q] == t) = true := by simpa using HAT.out
        go_wp2_with fail
        have hbl := Hbl.out
        refine bodyPost_ret (v := .tuple #[.agg #[.int .i64 0, .int .i64 0, .int .i64 0, .slice none 0 0], .int .i64 (bindC (lgA x) t)]) (by rw [HQ.out]; simp [results, Try.results19, go_sem, z0, z1, z2, z3]; try rfl) rfl ⟨⟨0, 0, 0, ⟨none, 0, []⟩⟩, rfl, by rw [HP.out]; rfl, Rs.empty _ _, ?_⟩
        (repeat' (first | (with_reducible exact Below.refl _ _) | (with_reducible assumption) | (with_reducible refine Below.alloc ?_ ?_ _) | (with_reducible refine Below.setCell ?_ ?_ _) | (with_reducible refine Below.drew ?_) | (with_reducible refine below_drewN ?_ _) | (with_reducible refine below_via ?_ (by with_reducible assumption) ?_) | omega | (simp; done) | (simp; omega)))
  rw [if_neg hm] at hq0
  have hroom := bind_room (x := lgA x) hok (c := t) hk (by omega) hm
  obtain ⟨hlo, hhi⟩ := nomem_cut hpair hm
  have hins := insC_at x.clients.val t
  generalize (x.clients.val.takeWhile (fun y : Int => decide (y < t))).length = n at *
  obtain ⟨L, hL⟩ : ∃ L, L = x.clients.val.take n ++ t :: x.clients.val.drop n := ⟨_, rfl⟩
  have hLl : L.length = x.clients.val.length + 1 := by rw [hL]; simp; omega
  have HLL := Lib.hid hLl
  have HLO := Lib.hid hlo
  have HHI := Lib.hid hhi
  have HST := Lib.hid (fun k (h1 : n ≤ k) (h2 : k < x.clients.val.length) => show L.take (k + 2) = L.take (k + 1) ++ [x.clients.val[k]] from by rw [hL]; exact ins_step h1 h2)
  have HHE := Lib.hid (show L.take (n + 1) = x.clients.val.take n ++ [t] from by rw [hL]; exact ins_here hnl)
  have HIN := Lib.hid (show bindC (lgA x) t = 0 → bindA (lgA x) t = ⟨x.id, x.member, x.kind, L⟩ from fun h => by unfold bindA; rw [if_pos h, hL, ← hins]; rfl)
  have HQ0 := Lib.hid hq0
  have HROOM := Lib.hid (show (mostA x.kind ≤ x.clients.val.length) ↔ (x.kind = 4 ∧ 0 < x.clients.val.length) from hroom)
  clear hq0 hok hm hpair hlo hhi hins hL hroom hLl
  go_enter Try.func19, Try.ntmps19
  go_wp2_with (first | (go_at_call 12; (with_reducible refine (C1.out _ (by (repeat' (first | (with_reducible exact Below.refl _ _) | (with_reducible assumption) | (with_reducible refine Below.alloc ?_ ?_ _) | (with_reducible refine Below.setCell ?_ ?_ _) | (with_reducible refine Below.drew ?_) | (with_reducible refine below_drewN ?_ _) | (with_reducible refine below_via ?_ (by with_reducible assumption) ?_) | omega | (simp; done) | (simp; omega))))).mono ?_); rintro e w1 ⟨rfl, hb1⟩; obtain ⟨fc1, fg1, hc1, hf1, hz1⟩ := bget hb1; try simp at hz1) | fail)
  go_loopw [6, 7, 8] (fun v d i wr => ∃ q : Nat, q ≤ x.clients.val.length ∧ i = .int .i64 q ∧ (q ≤ n ∧ d = .bool false ∧ Own wr (w.heap.size + 2) 3 1 v ((x.clients.val.take q).map encI) ∨ n < q ∧ d = .bool true ∧ Own wr (w.heap.size + 2) 3 1 v ((L.take (q + 1)).map encI)) ∧ Below w.heap.size w wr ∧ w.heap.size + 2 ≤ wr.heap.size ∧ (wr.cell? ⟨w.heap.size, 0, none⟩ = some (.int .i64 x.id) ∧ wr.cell? ⟨w.heap.size, 1, none⟩ = some (.int .i64 x.member) ∧ wr.cell? ⟨w.heap.size, 2, none⟩ = some (.int .i64 x.kind) ∧ wr.cell? ⟨w.heap.size, 3, none⟩ = some (.slice x.clients.A x.clients.val.length x.clients.c) ∧ wr.frozen? ⟨w.heap.size, 3, none⟩ = false) ∧ wr.cell? ⟨w.heap.size + 1, 0, none⟩ = some (.int .i64 0) ∧ wr.cell? ⟨w.heap.size + 1, 1, none⟩ = some (.int .i64 0) ∧ wr.cell? ⟨w.heap.size + 1, 2, none⟩ = some (.int .i64 0) ∧ wr.cell? ⟨w.heap.size + 1, 3, none⟩ = some (.slice none 0 0) ∧ wr.frozen? ⟨w.heap.size + 1, 0, none⟩ = false ∧ wr.frozen? ⟨w.heap.size + 1, 1, none⟩ = false ∧ wr.frozen? ⟨w.heap.size + 1, 2, none⟩ = false ∧ wr.frozen? ⟨w.heap.size + 1, 3, none⟩ = false) (fun _ _ i _ => x.clients.val.length - (intOf i).toNat)
  case atStart => exact ⟨0, Nat.zero_le _, rfl, .inl ⟨Nat.zero_le _, rfl, Own.nil _ _ _ _⟩, by (repeat' (first | (with_reducible exact Below.refl _ _) | (with_reducible assumption) | (with_reducible refine Below.alloc ?_ ?_ _) | (with_reducible refine Below.setCell ?_ ?_ _) | (with_reducible refine Below.drew ?_) | (with_reducible refine below_drewN ?_ _) | (with_reducible refine below_via ?_ (by with_reducible assumption) ?_) | omega | (simp; done) | (simp; omega))), (by first | omega | (simp; done) | (simp; omega)), by simp [go_sem, hc1, hf1, ↓IntWalk.iteOmega]⟩
  case round =>
    obtain ⟨q, hq, rfl, hown, hbl, hsz, ⟨b0, b1, b2, b3, y3⟩, z0, z1, z2, z3, y4, y5, y6, y7⟩ := hrel
    have Hbl := Lib.hid hbl
    have hz := hbl.size
    clear hbl hc1 hf1 hb1 hz1
    by_cases hql : q < x.clients.val.length
    · have qi : (q : Int) < (x.clients.val.length : Int) := by omega
      have dl : decide ((q : Int) < (x.clients.val.length : Int)) = true := by simpa using hql
      obtain ⟨b, o, hA, hb, hc⟩ := HR.out q (encI x.clients.val[q]) (by simp [hql])
      have e0 := (Hbl.out.cell (p := ⟨b, o + q * 1 + 0, none⟩) hb).trans (hc 0 _ rfl)
      simp only [Nat.add_zero, Nat.mul_one] at e0
      rw [hA] at b3
      have HAA := Lib.hid hA
      clear hc hA
      have hbw : b < wr.heap.size := by omega
      rcases hown with ⟨hqn, rfl, hown⟩ | ⟨hqn, rfl, hown⟩
      · have Hown := Lib.hid hown
        clear hown
        have hsl : (x.clients.val.take q).length ≤ 1000000 := by rw [List.length_take]; omega
        by_cases hqn2 : q < n
        · have h1 := HLO.out q hql hqn2
          have g1 : (x.clients.val[q] == t) = false := by rw [beq_eq_false_iff_ne]; omega
          have g2 : decide (t < x.clients.val[q]) = false := decide_eq_false (by omega)
          have HS := Lib.hid (map_snoc hql encI)
          go_wp2_with (first | (at_builtin; refine wpList_app rfl _ _ _ rfl elN (w.heap.size + 2) _ _ rfl (Hown.out.alloc _) (some ⟨_, 0, none⟩) 1 1 rfl [encI x.clients.val[q]] rfl (fun h => by cases h) (rd_oneN (by simp)) (rowsJ [x.clients.val[q]]) (by unfold maxLen; first | (simp; done) | omega | (simp; omega)) (by first | (simp; done) | omega | (simp; omega)) (by first | omega | (simp; done) | (simp; omega)) ?_; intro v3 w3 hown3 hb3; obtain ⟨fc3, fg3, hc3, hf3, hz3⟩ := bget hb3; (try simp at hz3)) | fail)
          go_roundw
          case rel => exact ⟨q + 1, by omega, by go_num, .inl ⟨by omega, rfl, by rw [HS.out]; exact hown3⟩, by have hbl := Hbl.out; (repeat' (first | (with_reducible exact Below.refl _ _) | (with_reducible assumption) | (with_reducible refine Below.alloc ?_ ?_ _) | (with_reducible refine Below.setCell ?_ ?_ _) | (with_reducible refine Below.drew ?_) | (with_reducible refine below_drewN ?_ _) | (with_reducible refine below_via ?_ (by with_reducible assumption) ?_) | omega | (simp; done) | (simp; omega))), (by first | omega | (simp; done) | (simp; omega)), by rw [HAA.out]; simp [hc3, hf3, go_sem, b0, b1, b2, b3, y3, z0, z1, z2, z3, y4, y5, y6, y7, ↓IntWalk.iteOmega]⟩
          case measure => simp [intOf]; omega
        · obtain rfl : q = n := by omega
          have h1 := HHI.out q hql (Nat.le_refl _)
          have g1 : (x.clients.val[q] == t) = false := by rw [beq_eq_false_iff_ne]; omega
          have g2 : decide (t < x.clients.val[q]) = true := decide_eq_true h1
          go_wp2_with (first | (at_builtin; refine wpList_app rfl _ _ _ rfl elN (w.heap.size + 2) _ _ rfl (Hown.out.alloc _) (some ⟨_, 0, none⟩) 1 1 rfl [encI t] rfl (fun h => by cases h) (rd_oneN (by simp)) (rowsJ [t]) (by unfold maxLen; first | (simp; done) | omega | (simp; omega)) (by first | (simp; done) | omega | (simp; omega)) (by first | omega | (simp; done) | (simp; omega)) ?_; intro v3 w3 hown3 hb3; obtain ⟨fc3, fg3, hc3, hf3, hz3⟩ := bget hb3; (try simp at hz3)) | (at_builtin; refine wpList_app rfl _ _ _ rfl elN (w.heap.size + 2) _ _ rfl (hown3.alloc _) (some ⟨_, 0, none⟩) 1 1 rfl [encI x.clients.val[q]] rfl (fun h => by cases h) (rd_oneN (by simp)) (rowsJ [x.clients.val[q]]) (by unfold maxLen; first | (simp; done) | omega | (simp; omega)) (by first | (simp; done) | omega | (simp; omega)) (by first | omega | (simp; done) | (simp; omega)) ?_; intro v4 w4 hown4 hb4; obtain ⟨fc4, fg4, hc4, hf4, hz4⟩ := bget hb4; (try simp at hz4)) | fail)
          go_roundw
          case rel => exact ⟨q + 1, by omega, by go_num, .inr ⟨by omega, rfl, by rw [HST.out q (Nat.le_refl _) hql, HHE.out, List.map_append, List.map_append]; exact hown4⟩, by have hbl := Hbl.out; (repeat' (first | (with_reducible exact Below.refl _ _) | (with_reducible assumption) | (with_reducible refine Below.alloc ?_ ?_ _) | (with_reducible refine Below.setCell ?_ ?_ _) | (with_reducible refine Below.drew ?_) | (with_reducible refine below_drewN ?_ _) | (with_reducible refine below_via ?_ (by with_reducible assumption) ?_) | omega | (simp; done) | (simp; omega))), (by first | omega | (simp; done) | (simp; omega)), by rw [HAA.out]; simp [hc4, hf4, hc3, hf3, go_sem, b0, b1, b2, b3, y3, z0, z1, z2, z3, y4, y5, y6, y7, ↓IntWalk.iteOmega]⟩
          case measure => simp [intOf]; omega
      · have Hown := Lib.hid hown
        clear hown
        have h1 := HHI.out q hql (by omega)
        have g1 : (x.clients.val[q] == t) = false := by rw [beq_eq_false_iff_ne]; omega
        have g2 : decide (t < x.clients.val[q]) = true := decide_eq_true h1
        have hsl : (L.take (q + 1)).length ≤ 1000001 := by rw [List.length_take]; omega
        go_wp2_with (first | (at_builtin; refine wpList_app rfl _ _ _ rfl elN (w.heap.size + 2) _ _ rfl (Hown.out.alloc _) (some ⟨_, 0, none⟩) 1 1 rfl [encI x.clients.val[q]] rfl (fun h => by cases h) (rd_oneN (by simp)) (rowsJ [x.clients.val[q]]) (by unfold maxLen; first | (simp; done) | omega | (simp; omega)) (by first | (simp; done) | omega | (simp; omega)) (by first | omega | (simp; done) | (simp; omega)) ?_; intro v3 w3 hown3 hb3; obtain ⟨fc3, fg3, hc3, hf3, hz3⟩ := bget hb3; (try simp at hz3)) | fail)
        go_roundw
        case rel => exact ⟨q + 1, by omega, by go_num, .inr ⟨by omega, rfl, by rw [HST.out q (by omega) hql, List.map_append]; exact hown3⟩, by have hbl := Hbl.out; (repeat' (first | (with_reducible exact Below.refl _ _) | (with_reducible assumption) | (with_reducible refine Below.alloc ?_ ?_ _) | (with_reducible refine Below.setCell ?_ ?_ _) | (with_reducible refine Below.drew ?_) | (with_reducible refine below_drewN ?_ _) | (with_reducible refine below_via ?_ (by with_reducible assumption) ?_) | omega | (simp; done) | (simp; omega))), (by first | omega | (simp; done) | (simp; omega)), by rw [HAA.out]; simp [hc3, hf3, go_sem, b0, b1, b2, b3, y3, z0, z1, z2, z3, y4, y5, y6, y7, ↓IntWalk.iteOmega]⟩
        case measure => simp [intOf]; omega
    · have dl : decide ((q : Int) < (x.clients.val.length : Int)) = false := by simpa using hql
      by_cases hk4 : x.kind = 4 ∧ 0 < x.clients.val.length
      · have g1 : (x.kind == 4) = true := by simpa using hk4.1
        have g2 : decide (0 < (x.clients.val.length : Int)) = true := decide_eq_true (by omega)
        have g3 : decide (0 < x.clients.val.length) = true := decide_eq_true (by omega)
        have hq10 : bindC (lgA x) t = 10 := by rw [HQ0.out, if_pos (HROOM.out.2 hk4)]
        have HQ := Lib.hid hq10
        have HP := Lib.hid (bindA_no (x := lgA x) (c := t) (by rw [hq10]; decide))
        clear hq10 hown
        go_wp2_with fail
        have hbl := Hbl.out
        refine bodyPost_ret (v := .tuple #[.agg #[.int .i64 0, .int .i64 0, .int .i64 0, .slice none 0 0], .int .i64 (bindC (lgA x) t)]) (by rw [HQ.out]; simp [results, Try.results19, go_sem, z0, z1, z2, z3]; try rfl) rfl ⟨⟨0, 0, 0, ⟨none, 0, []⟩⟩, rfl, by rw [HP.out]; rfl, Rs.empty _ _, ?_⟩
        (repeat' (first | (with_reducible exact Below.refl _ _) | (with_reducible assumption) | (with_reducible refine Below.alloc ?_ ?_ _) | (with_reducible refine Below.setCell ?_ ?_ _) | (with_reducible refine Below.drew ?_) | (with_reducible refine below_drewN ?_ _) | (with_reducible refine below_via ?_ (by with_reducible assumption) ?_) | omega | (simp; done) | (simp; omega)))
      · have hq0 : bindC (lgA x) t = 0 := by rw [HQ0.out, if_neg (fun h => hk4 (HROOM.out.1 h))]
        have HQ := Lib.hid hq0
        have HBA := Lib.hid (HIN.out hq0)
        clear hq0
        have hLT : L.take (q + 1) = L := List.take_of_length_le (by have := HLL.out; omega)
        have hp : ((x.kind == 4) = false ∧ True) ∨ ((x.kind == 4) = true ∧ decide (0 < x.clients.val.length) = false) := by
          by_cases h : x.kind = 4
          · exact .inr ⟨by simpa using h, decide_eq_false (by omega)⟩
          · exact .inl ⟨by simpa using h, trivial⟩
        rcases hp with ⟨p1, p2⟩ | ⟨p1, p2⟩
        all_goals
          rcases hown with ⟨hqn, rfl, hown⟩ | ⟨hqn, rfl, hown⟩
          · obtain rfl : q = n := by omega
            have HO3 := Lib.hid hown
            have HLE := Lib.hid (show x.clients.val.take q ++ [t] = L from by rw [← HHE.out, hLT])
            have hsl : (x.clients.val.take q).length ≤ 1000000 := by rw [List.length_take]; omega
            clear hown hLT
            go_wp2_with (first | (at_builtin; refine wpList_app rfl _ _ _ rfl elN (w.heap.size + 2) _ _ rfl (HO3.out.alloc _) (some ⟨_, 0, none⟩) 1 1 rfl [encI t] rfl (fun h => by cases h) (rd_oneN (by simp)) (rowsJ [t]) (by unfold maxLen; first | (simp; done) | omega | (simp; omega)) (by first | (simp; done) | omega | (simp; omega)) (by first | omega | (simp; done) | (simp; omega)) ?_; intro v9 w9 hown9 hb9; rw [show (x.clients.val.take q).map encI ++ [encI t] = L.map encI from by rw [← HLE.out, List.map_append]; rfl] at hown9; obtain ⟨A9, c9, hv9, hrs9, hform9⟩ := hown9.rs; rw [List.length_map] at hv9; subst hv9; have HO9 := Lib.hid hown9; clear hown9 hrs9 hform9; obtain ⟨fc9, fg9, hc9, hf9, hz9⟩ := bget hb9; (try simp at hz9)) | fail)
            refine bodyPost_ret (v := .tuple #[.agg #[.int .i64 x.id, .int .i64 x.member, .int .i64 x.kind, .slice A9 L.length c9], .int .i64 (bindC (lgA x) t)]) (by rw [HQ.out]; simp [results, Try.results19, go_sem, z0, z1, z2, z3, hc9, ↓IntWalk.iteOmega]; first | done | rfl | omega) rfl ⟨⟨x.id, x.member, x.kind, ⟨A9, c9, L⟩⟩, rfl, by rw [HBA.out]; rfl, ?_, ?_⟩
            · have h0 := HO9.out
              refine Own.good (base := w.heap.size + 2) (E := 3) (n := L.length) ?_
              (repeat' (first | (with_reducible assumption) | (with_reducible refine Own.farLow ?_ ?_ _) | (simp; done) | omega | (simp; omega)))
            · have hbl := Hbl.out
              (repeat' (first | (with_reducible exact Below.refl _ _) | (with_reducible assumption) | (with_reducible refine Below.alloc ?_ ?_ _) | (with_reducible refine Below.setCell ?_ ?_ _) | (with_reducible refine Below.drew ?_) | (with_reducible refine below_drewN ?_ _) | (with_reducible refine below_via ?_ (by with_reducible assumption) ?_) | omega | (simp; done) | (simp; omega)))
          · rw [hLT] at hown
            obtain ⟨A9, c9, hv9, hrs9, hform9⟩ := hown.rs
            rw [List.length_map] at hv9
            subst hv9
            have HO9 := Lib.hid hown
            clear hown hLT hrs9 hform9
            go_wp2_with fail
            refine bodyPost_ret (v := .tuple #[.agg #[.int .i64 x.id, .int .i64 x.member, .int .i64 x.kind, .slice A9 L.length c9], .int .i64 (bindC (lgA x) t)]) (by rw [HQ.out]; simp [results, Try.results19, go_sem, z0, z1, z2, z3]; first | done | rfl | omega) rfl ⟨⟨x.id, x.member, x.kind, ⟨A9, c9, L⟩⟩, rfl, by rw [HBA.out]; rfl, ?_, ?_⟩
            · have h0 := HO9.out
              refine Own.good (base := w.heap.size + 2) (E := 3) (n := L.length) ?_
              (repeat' (first | (with_reducible assumption) | (with_reducible refine Own.farLow ?_ ?_ _) | (simp; done) | omega | (simp; omega)))
            · have hbl := Hbl.out
              (repeat' (first | (with_reducible exact Below.refl _ _) | (with_reducible assumption) | (with_reducible refine Below.alloc ?_ ?_ _) | (with_reducible refine Below.setCell ?_ ?_ _) | (with_reducible refine Below.drew ?_) | (with_reducible refine below_drewN ?_ _) | (with_reducible refine below_via ?_ (by with_reducible assumption) ?_) | omega | (simp; done) | (simp; omega)))
end Go.Proofs.Ytemhhojenocddaa
