/- Choices: DeleteFunc, Drop. -/
import Derived.Test.YtffmljkpbgohkaaElect2
import Derived.Test.YtffmljkpbgohkaaList2
import Derived.Outline
namespace Go.Proofs.Ytffmljkpbgohkaa
open Go.RowKit
theorem own_put5 {w : World} {base E : Nat} {v : Value} {rows : List (List Value)} (h : Own w base E 5 v rows) {g n c : Nat} (hv : v = .slice (some ⟨g, 0, none⟩) n c) {i : Nat} (hi : i < rows.length) (v0 v1 v2 v3 v4 : Value) :
    Own (((((w.setCell ⟨g, i * 5, none⟩ v0).setCell ⟨g, i * 5 + 1, none⟩ v1).setCell ⟨g, i * 5 + 2, none⟩ v2).setCell ⟨g, i * 5 + 3, none⟩ v3).setCell ⟨g, i * 5 + 4, none⟩ v4) base E 5 v (rows.set i [v0, v1, v2, v3, v4]) := by
  have hr := h.1 _ (List.getElem_mem hi)
  obtain ⟨p0, p1, p2, p3, p4, he⟩ : ∃ p0 p1 p2 p3 p4, rows[i] = [p0, p1, p2, p3, p4] := by
    match h4 : rows[i], hr with
    | [p0, p1, p2, p3, p4], _ => exact ⟨p0, p1, p2, p3, p4, rfl⟩
  have h0 := h.put hv (List.getElem?_eq_getElem hi) (show 0 < 5 from by omega) v0
  have h1 := h0.put hv (List.getElem?_set_self (by simpa using hi)) (show 1 < 5 from by omega) v1
  have h2 := h1.put hv (List.getElem?_set_self (by simpa using hi)) (show 2 < 5 from by omega) v2
  have h3 := h2.put hv (List.getElem?_set_self (by simpa using hi)) (show 3 < 5 from by omega) v3
  have h4 := h3.put hv (List.getElem?_set_self (by simpa using hi)) (show 4 < 5 from by omega) v4
  simp only [List.set_set, he, List.set_cons_zero, List.set_cons_succ, Nat.add_zero] at h4
  exact h4
theorem zone_Choice (z : Value) (h : (Try.prog.info? 76).bind (·.zero) = some z) : ∀ u ∈ z.cells, u.oneCell' = true := by
  have e : (Try.prog.info? 76).bind (·.zero) = some (.agg #[.int .i64 0, .int .i64 0, .int .i64 0, .int .i64 0, .bool false]) := by kernel_rfl
  rw [h] at e
  injection e with e
  subst e
  simp [Value.cells]
  decide
set_option maxRecDepth 100000 in
set_option maxHeartbeats 4000000 in
theorem delDropU (l : List Choice) (u : Un) (v : Value) (base g : Nat) (w : World) (hl : l.length ≤ 1048576) (hbs : base ≤ w.heap.size) (hown : Own w base 76 5 v (l.map encChoice)) (hcap : CapC w g (encUn u)) (hgb : g < base) :
    Calls Try.prog 76 #[v, .func (Fn.func 78) #[] #[.pointer (some ⟨g, 0, none⟩)]] w fun e w' => ∃ v', e = .returned v' ∧ Own w' base 76 5 v' ((l.filter (fun x : Choice => !decide (x.frm = u))).map encChoice) ∧ Below base w w' := by
  have HOWN := Lib.hid hown
  have HC := Lib.hid hcap
  obtain ⟨A, c, hv0, hrs, hform⟩ := hown.rs
  have hcc := hrs.cap
  have hroom := hrs.room
  rw [List.length_map] at hv0 hcc
  unfold maxLen at hroom
  subst hv0
  have HRD := Lib.hid hrs.rd
  have c1 := fun W h hc => idxDropU l u A c g W (by omega) h hc
  clear hown hcap hrs
  rcases idxCases (fun x : Choice => decide (x.frm = u)) l with ⟨k, hk, hm, hn, he⟩ | ⟨hn, he⟩
  rotate_left
  · have HF := Lib.hid (show l.filter (fun x : Choice => !decide (x.frm = u)) = l from by
      rw [List.filter_eq_self]
      intro x hx
      obtain ⟨j, hj, rfl⟩ := List.mem_iff_getElem.1 hx
      have h3 : (fun x : Choice => decide (x.frm = u)) l[j] = false := hn j hj
      show (!((fun x : Choice => decide (x.frm = u)) l[j])) = true
      rw [h3]; rfl)
    rw [he] at c1
    have C1 := Lib.hid c1
    clear c1 he hn hform
    go_enter Try.func76, Try.ntmps76
    go_wp2_with (go_at_call 79; (with_reducible refine (C1.out _ HRD.out HC.out).mono ?_); rintro e w1 ⟨rfl, hb1⟩)
    go_ret
    exact ⟨_, rfl, by rw [HF.out]; exact HOWN.out.keep hb1, hb1.mono hbs⟩
  rw [he] at c1
  have C1 := Lib.hid c1
  have HM := Lib.hid hm
  have HN := Lib.hid hn
  obtain ⟨g0, rfl, hg0, hg1⟩ : ∃ g0, A = some ⟨g0, 0, none⟩ ∧ base ≤ g0 ∧ g0 < w.heap.size := by
    rcases hform with ⟨_, h2, _⟩ | h
    · exfalso; have := congrArg List.length h2; simp at this; rw [this] at hk; simp at hk
    · exact h
  have kb : ((k : Int) == -1) = false := by rw [beq_eq_false_iff_ne]; omega
  clear c1 hform hn he hm
  go_enter Try.func76, Try.ntmps76
  go_wp2_with (go_at_call 79; (with_reducible refine (C1.out _ HRD.out HC.out).mono ?_); rintro e w1 ⟨rfl, hb1⟩; have hz1 := hb1.size; have Hb1 := Lib.hid hb1; clear hb1)
  go_loopw [5, 6] (fun i j wr => ∃ (n m : Nat) (rows : List (List Value)), n ≤ l.length ∧ m < n ∧ j = .int .i64 n ∧ i = .int .i64 m ∧ Own wr base 76 5 (.slice (some ⟨g0, 0, none⟩) l.length c) rows ∧ rows.take m = ((l.take n).filter (fun x : Choice => !decide (x.frm = u))).map encChoice ∧ rows.drop n = (l.drop n).map encChoice ∧ Below base w wr) (fun _ j _ => l.length - (intOf j).toNat)
  case atStart =>
    have hft : (l.take (k + 1)).filter (fun x : Choice => !decide (x.frm = u)) = l.take k := by
      rw [List.take_succ_eq_append_getElem hk, List.filter_append]
      have h1 : (l.take k).filter (fun x : Choice => !decide (x.frm = u)) = l.take k := by
        rw [List.filter_eq_self]
        intro x hx
        obtain ⟨j, hj, rfl⟩ := List.mem_iff_getElem.1 hx
        rw [List.length_take] at hj
        have h3 : (fun x : Choice => decide (x.frm = u)) l[j] = false := HN.out j (by omega) (by omega)
        show (!((fun x : Choice => decide (x.frm = u)) (l.take k)[j])) = true
        rw [List.getElem_take, h3]; rfl
      have h2 : (fun x : Choice => decide (x.frm = u)) l[k] = true := HM.out
      rw [h1, List.filter_cons]
      simp [h2]
    exact ⟨k + 1, k, l.map encChoice, by omega, by omega, by go_num, rfl, HOWN.out.keep Hb1.out, by rw [hft, List.map_take], by rw [List.map_drop], Hb1.out.mono hbs⟩
  case round =>
    obtain ⟨n, m, rows, hn, hmn, rfl, rfl, hown, htk, hdr, hbl⟩ := hrel
    have Hown := Lib.hid hown
    have Htk := Lib.hid htk
    have Hdr := Lib.hid hdr
    have Hbl := Lib.hid hbl
    have hz := hbl.size
    have hrl := hown.rd.2.1
    have hrl2 : rows.length ≤ l.length ∧ l.length ≤ rows.length := by omega
    have ml : (m : Int) < (l.length : Int) := by omega
    have HCr := Lib.hid (HC.out.low hgb hbl)
    obtain ⟨cur, hblk⟩ := hown.blk rfl
    have fz := fun i => hblk.frozen i
    have hg0l := hblk.lt
    clear hown htk hdr hbl hrl hblk
    by_cases hlt : n < l.length
    · have hrow : rows[n]? = some (encChoice l[n]) := by
        have := congrArg (fun z => z[0]?) Hdr.out
        simpa [List.getElem?_drop, hlt] using this
      obtain ⟨b, o, e, hb, hc⟩ := (Hown.out.rd).1 n _ hrow
      injection e with e
      injection e with e1 e2 _
      subst e1 e2
      have c0 := hc 0 _ rfl
      have c1 := hc 1 _ rfl
      have c2 := hc 2 _ rfl
      have c3 := hc 3 _ rfl
      have c4 := hc 4 _ rfl
      simp only [Nat.add_zero, Nat.zero_add] at c0 c1 c2 c3 c4
      have HS := Lib.hid (show (l.take (n + 1)).filter (fun x : Choice => !decide (x.frm = u)) = (l.take n).filter (fun x : Choice => !decide (x.frm = u)) ++ [l[n]].filter (fun x : Choice => !decide (x.frm = u)) from by rw [List.take_succ_eq_append_getElem hlt, List.filter_append])
      have HD1 := Lib.hid (show rows.drop (n + 1) = (l.drop (n + 1)).map encChoice from by
        have := congrArg (List.drop 1) Hdr.out
        rw [List.drop_drop, ← List.map_drop, List.drop_drop] at this; exact this)
      clear hc hrow
      cases hm : (fun x : Choice => decide (x.frm = u)) l[n]
      · have HF1 := Lib.hid (show [l[n]].filter (fun x : Choice => !decide (x.frm = u)) = [l[n]] from by have h2 := hm; simp at h2; simp [h2])
        have Hm := Lib.hid hm
        have hmr : m < rows.length := by omega
        have HPU := Lib.hid (fun W (h : Own W base 76 5 (.slice (some ⟨g0, 0, none⟩) l.length c) rows) => own_put5 h rfl hmr (.int .i64 l[n].frm.acc) (.int .i64 l[n].frm.cli) (.int .i64 l[n].too.acc) (.int .i64 l[n].too.cli) (.bool l[n].con))
        have hr5 := Hown.out.1 _ (List.getElem_mem hmr)
        obtain ⟨p0, p1, p2, p3, p4, he5⟩ : ∃ p0 p1 p2 p3 p4, rows[m] = [p0, p1, p2, p3, p4] := by
          match h4 : rows[m], hr5 with
          | [p0, p1, p2, p3, p4], _ => exact ⟨p0, p1, p2, p3, p4, rfl⟩
        obtain ⟨b5, o5, e5, _, hcm⟩ := (Hown.out.rd).1 m [p0, p1, p2, p3, p4] (by rw [List.getElem?_eq_getElem hmr, he5])
        injection e5 with e5
        injection e5 with e1 e2 _
        subst e1 e2
        have d0 := hcm 0 _ rfl
        have d1 := hcm 1 _ rfl
        have d2 := hcm 2 _ rfl
        have d3 := hcm 3 _ rfl
        have d4 := hcm 4 _ rfl
        simp only [Nat.add_zero, Nat.zero_add] at d0 d1 d2 d3 d4
        clear hm hcm he5 hr5
        go_wp2_with (go_at_call 78; (with_reducible refine (electDropFn l[n] u g _ (HCr.out.keep (by (repeat' (first | (with_reducible exact Below.refl _ _) | (with_reducible assumption) | (with_reducible refine Below.alloc ?_ ?_ _) | (with_reducible refine Below.setCell ?_ ?_ _) | (with_reducible refine Below.drew ?_) | (with_reducible refine below_drewN ?_ _) | (with_reducible refine below_via ?_ (by with_reducible assumption) ?_) | omega | (simp; done) | (simp; omega)))))).mono ?_); rw [Hm.out]; rintro e w2 ⟨rfl, hb2⟩; obtain ⟨fc2, fg2, hc2, hf2, hz2⟩ := bget hb2; (try simp at hz2); have Hb2 := Lib.hid hb2; clear hb2)
        go_roundw
        case rel =>
          refine ⟨n + 1, m + 1, rows.set m (encChoice l[n]), by omega, by omega, by go_num, by go_num, ?_, ?_, ?_, ?_⟩
          · exact HPU.out _ ((Hown.out.alloc _).keep Hb2.out)
          · rw [HS.out, HF1.out, List.map_append, ← Htk.out, List.take_succ_eq_append_getElem (by rw [List.length_set]; exact hmr), List.getElem_set_self, List.take_set_of_le (Nat.le_refl _)]
            rfl
          · rw [List.drop_set_of_lt (by omega)]; exact HD1.out
          · have hbl := Hbl.out; have hb2 := Hb2.out; (repeat' (first | (with_reducible exact Below.refl _ _) | (with_reducible assumption) | (with_reducible refine Below.alloc ?_ ?_ _) | (with_reducible refine Below.setCell ?_ ?_ _) | (with_reducible refine Below.drew ?_) | (with_reducible refine below_drewN ?_ _) | (with_reducible refine below_via ?_ (by with_reducible assumption) ?_) | omega | (simp; done) | (simp; omega)))
        case measure => simp [intOf]; omega
      · have HF1 := Lib.hid (show [l[n]].filter (fun x : Choice => !decide (x.frm = u)) = [] from by have h2 := hm; simp at h2; simp [h2])
        have Hm := Lib.hid hm
        clear hm
        go_wp2_with (go_at_call 78; (with_reducible refine (electDropFn l[n] u g _ (HCr.out.keep (by (repeat' (first | (with_reducible exact Below.refl _ _) | (with_reducible assumption) | (with_reducible refine Below.alloc ?_ ?_ _) | (with_reducible refine Below.setCell ?_ ?_ _) | (with_reducible refine Below.drew ?_) | (with_reducible refine below_drewN ?_ _) | (with_reducible refine below_via ?_ (by with_reducible assumption) ?_) | omega | (simp; done) | (simp; omega)))))).mono ?_); rw [Hm.out]; rintro e w2 ⟨rfl, hb2⟩; have hz2 := hb2.size; have Hb2 := Lib.hid hb2; clear hb2)
        go_roundw
        case rel => exact ⟨n + 1, m, rows, by omega, by omega, by go_num, rfl, (Hown.out.alloc _).keep Hb2.out, by rw [HS.out, HF1.out, List.append_nil]; exact Htk.out, HD1.out, by have hbl := Hbl.out; have hb2 := Hb2.out; (repeat' (first | (with_reducible exact Below.refl _ _) | (with_reducible assumption) | (with_reducible refine Below.alloc ?_ ?_ _) | (with_reducible refine Below.setCell ?_ ?_ _) | (with_reducible refine Below.drew ?_) | (with_reducible refine below_drewN ?_ _) | (with_reducible refine below_via ?_ (by with_reducible assumption) ?_) | omega | (simp; done) | (simp; omega)))⟩
        case measure => simp [intOf]; omega
    · have HT := Lib.hid (show l.take n = l from List.take_of_length_le (by omega))
      have d1 : decide ((n : Int) < (l.length : Int)) = false := by simp; omega
      have cm : ¬ c = m := by omega
      have cm' : ¬ m = c := by omega
      have z1 := Lib.hid (fun (z : Value) (h : (Try.prog.info? 76).bind (·.zero) = some z) => zone_Choice z h)
      go_wp2_with (refine wpList_clearR rfl _ _ rfl elChoice z1.out (base := base) (g := g0) (n := l.length) (c := c) (i := m) rfl (fun _ => rfl) rfl (by omega) Hown.out ?_; intro w3 hown3 ho3; have HO3 := Lib.hid hown3; have Ho3 := Lib.hid ho3; clear hown3 ho3)
      go_ret
      exact ⟨_, rfl, by rw [← HT.out, ← Htk.out]; exact HO3.out, below_only Hbl.out Ho3.out (by omega) hg0⟩
end Go.Proofs.Ytffmljkpbgohkaa
