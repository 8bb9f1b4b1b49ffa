/- Choices: contracts of the reference's set. -/
import Derived.Test.YtffmljkpbgohkaaElect11
namespace Go.Proofs.Ytffmljkpbgohkaa
open Go.RowKit
/-- The reference's choices with one in its place. -/
def insR (d : List Choice) (x : Choice) : List Choice := d.takeWhile (fun y => lessU y.frm x.frm) ++ x :: d.dropWhile (fun y => lessU y.frm x.frm)
def setR (l : List Choice) (x : Choice) : List Choice := insR (dropL l x.frm) x
theorem insR_at {d : List Choice} {x : Choice} {k : Nat} (h : ∀ j (_ : j < d.length), j < k → lessU d[j].frm x.frm = true) (hk : k ≤ d.length) (hn : ∀ h : k < d.length, lessU d[k].frm x.frm = false) : insR d x = d.take k ++ [x] ++ d.drop k := by
  have hw := while_at' (p := fun y : Choice => lessU y.frm x.frm) h hk hn
  unfold insR
  rw [hw.1, hw.2]
  simp
set_option maxRecDepth 100000 in
set_option maxHeartbeats 4000000 in
theorem ref16Set (l : List Choice) (x : Choice) (A : Option Addr) (c : Nat) (w : World) (hl : l.length ≤ 1000000) (hr : Rd w A 5 (l.map encChoice)) :
    Calls Try.prog 82 #[.slice A l.length c, .agg #[.int .i64 x.frm.acc, .int .i64 x.frm.cli, .int .i64 x.too.acc, .int .i64 x.too.cli, .bool x.con]] w (ChoPost w (setR l x)) := by
  have HR := Lib.hid hr
  have c1 := fun W (h : Rd W A 5 (l.map encChoice)) => ref16Drop l x.frm A c W (by omega) h
  have HS := Lib.hid (show setR l x = insR (dropL l x.frm) x from rfl)
  have hdl := dropL_len l x.frm
  obtain ⟨d, hd⟩ : ∃ d, d = dropL l x.frm := ⟨_, rfl⟩
  rw [← hd] at c1 HS hdl
  have C1 := Lib.hid c1
  clear hr c1 hd
  go_enter Try.func82, Try.ntmps82
  go_wp2_with (first | (go_at_call 48; (with_reducible refine (C1.out _ (HR.out.keep (by (repeat' (first | (with_reducible exact Below.refl _ _) | (with_reducible assumption) | (with_reducible refine Below.alloc ?_ ?_ _) | (with_reducible refine Below.setCell ?_ ?_ _) | (with_reducible refine Below.drew ?_) | (with_reducible refine below_drewN ?_ _) | (with_reducible refine below_via ?_ (by with_reducible assumption) ?_) | omega | (simp; done) | (simp; omega)))))).mono ?_); rintro e w2 ⟨v2, rfl, hown2, hb2⟩; obtain ⟨A2, c2, rfl, hrs2, hf2⟩ := hown2.rs; have HRS2 := Lib.hid hrs2; have HO2 := Lib.hid hown2; have HF2 := Lib.hid hf2; rw [List.length_map] at HO2; rw [List.length_map]; clear hown2 hrs2 hf2; obtain ⟨fc2, fg2, hc2, hf2, hz2⟩ := bget hb2; (try simp at hz2)))
  have x0 : w2.cell? ⟨w.heap.size, 0, none⟩ = some (.int .i64 x.frm.acc) := by simp [go_sem, hc2]
  have x1 : w2.cell? ⟨w.heap.size, 1, none⟩ = some (.int .i64 x.frm.cli) := by simp [go_sem, hc2]
  have x2 : w2.cell? ⟨w.heap.size, 2, none⟩ = some (.int .i64 x.too.acc) := by simp [go_sem, hc2]
  have x3 : w2.cell? ⟨w.heap.size, 3, none⟩ = some (.int .i64 x.too.cli) := by simp [go_sem, hc2]
  have x4 : w2.cell? ⟨w.heap.size, 4, none⟩ = some (.bool x.con) := by simp [go_sem, hc2]
  have HB2 : Hid (Below w.heap.size w w2) := by unfold Hid; (repeat' (first | (with_reducible exact Below.refl _ _) | (with_reducible assumption) | (with_reducible refine Below.alloc ?_ ?_ _) | (with_reducible refine Below.setCell ?_ ?_ _) | (with_reducible refine Below.drew ?_) | (with_reducible refine below_drewN ?_ _) | (with_reducible refine below_via ?_ (by with_reducible assumption) ?_) | omega | (simp; done) | (simp; omega)))
  clear hc2 hf2 hb2
  rcases HF2.out with ⟨rfl, h0, rfl⟩ | ⟨g, rfl, hg1, hg2⟩
  · obtain rfl : d = [] := by simpa using h0
    have HIN := Lib.hid (show insR [] x = [x] from rfl)
    simp only [List.length_nil]
    refine wp_loop_rounds 1 ?_
    rw [rounds_succ]
    go_wp2_with fail
    go_quiet (fail)
    go_wp2_with (first | (at_builtin; refine wpList_app rfl _ _ _ rfl elChoice w2.heap.size _ [] rfl (Own.nil _ _ _ _) none 0 0 rfl [] rfl (fun _ => rfl) (fun i r h => by simp at h) (fun r h => by simp at h) (by unfold maxLen; simp) (by simp) (by first | omega | (simp; done) | (simp; omega)) ?_; intro v1 w3 hown1 hb3; obtain ⟨fc3, fg3, hc3, hf3, hz3⟩ := bget hb3; (try simp at hz3)) | (at_builtin; refine wpList_app rfl _ _ _ rfl elChoice w2.heap.size _ _ rfl (hown1.alloc _) (some ⟨w3.heap.size, 0, none⟩) 1 1 rfl [encChoice x] rfl (fun h => by cases h) rd_one (rowsChoice [x]) (by unfold maxLen; first | (simp; done) | omega | (simp; omega)) (by first | (simp; done) | omega | (simp; omega)) (by first | omega | (simp; done) | (simp; omega)) ?_; intro v2 w4 hown2 hb4; obtain ⟨fc4, fg4, hc4, hf4, hz4⟩ := bget hb4; (try simp at hz4)) | (at_builtin; refine wpList_app rfl _ _ _ rfl elChoice w2.heap.size _ _ rfl hown2 none 0 0 rfl [] rfl (fun _ => rfl) (fun i r h => by simp at h) (fun r h => by simp at h) (by unfold maxLen; simp) (by simp) (by first | omega | (simp; done) | (simp; omega)) ?_; intro v3 w5 hown3 hb5))
    go_ret
    exact ⟨_, rfl, by rw [HS.out, HIN.out]; exact (by simpa using hown3.mono (by first | omega | (simp; done) | (simp; omega))), by have hb2 := HB2.out; (repeat' (first | (with_reducible exact Below.refl _ _) | (with_reducible assumption) | (with_reducible refine Below.alloc ?_ ?_ _) | (with_reducible refine Below.setCell ?_ ?_ _) | (with_reducible refine Below.drew ?_) | (with_reducible refine below_drewN ?_ _) | (with_reducible refine below_via ?_ (by with_reducible assumption) ?_) | omega | (simp; done) | (simp; omega)))⟩
  · have hlc := HRS2.out.cap
    have hcm := HRS2.out.room
    rw [List.length_map] at hlc
    go_loopw [7] (fun i wr => ∃ k : Nat, k ≤ d.length ∧ i = .int .i64 k ∧ Below w2.heap.size w2 wr ∧ ∀ j (_ : j < d.length), j < k → lessU d[j].frm x.frm = true) (fun i _ => d.length - (intOf i).toNat)
    case atStart => exact ⟨0, Nat.zero_le _, rfl, Below.refl _ _, fun j _ h => absurd h (by omega)⟩
    case round =>
      obtain ⟨k, hk, rfl, hbl, hno⟩ := hrel
      have Hbl := Lib.hid hbl
      have Hno := Lib.hid hno
      have hz := hbl.size
      have y0 := (hbl.cell (p := ⟨w.heap.size, 0, none⟩) (by simp at hz2 ⊢; omega)).trans x0
      have y1 := (hbl.cell (p := ⟨w.heap.size, 1, none⟩) (by simp at hz2 ⊢; omega)).trans x1
      have y2 := (hbl.cell (p := ⟨w.heap.size, 2, none⟩) (by simp at hz2 ⊢; omega)).trans x2
      have y3 := (hbl.cell (p := ⟨w.heap.size, 3, none⟩) (by simp at hz2 ⊢; omega)).trans x3
      have y4 := (hbl.cell (p := ⟨w.heap.size, 4, none⟩) (by simp at hz2 ⊢; omega)).trans x4
      clear hbl hno
      have kl : (k : Int) ≤ (d.length : Int) := by omega
      by_cases hlt : k < d.length
      · obtain ⟨b', o', e, hb, hc⟩ := HRS2.out.rd k (encChoice d[k]) (by simp [hlt])
        injection e with e
        injection e with e1 e2 _
        subst e1 e2
        have d0 := (Hbl.out.cell (p := ⟨g, 0 + k * 5 + 0, none⟩) hb).trans (hc 0 _ rfl)
        have d1 := (Hbl.out.cell (p := ⟨g, 0 + k * 5 + 1, none⟩) hb).trans (hc 1 _ rfl)
        simp only [Nat.add_zero, Nat.zero_add] at d0 d1
        clear hc
        have hck : ¬ c2 = k := by omega
        have hck' : ¬ k = c2 := by omega
        have kl' : (k : Int) < (d.length : Int) := by omega
        have kd : decide ((k : Int) < (d.length : Int)) = true := by simpa using hlt
        cases hm : lessU d[k].frm x.frm
        · have HIN := Lib.hid (insR_at Hno.out hk (fun _ => hm))
          have HM := Lib.hid hm
          clear hm
          go_wp2_with fail
          go_region_held3 (fun w' => w'.cell? ⟨w.heap.size, 0, none⟩ = some (.int .i64 x.frm.acc) ∧ w'.cell? ⟨w.heap.size, 1, none⟩ = some (.int .i64 x.frm.cli) ∧ w'.cell? ⟨g, k * 5, none⟩ = some (.int .i64 d[k].frm.acc) ∧ w'.cell? ⟨g, k * 5 + 1, none⟩ = some (.int .i64 d[k].frm.cli)) (first | (simp [go_sem]; done) | (repeat' (first | (with_reducible assumption) | (with_reducible refine And.intro ?_ ?_) | (with_reducible refine cell_drew ?_) | (with_reducible refine cell_via (by with_reducible assumption) ?_ ?_) | (simp [*]; done) | (simp [go_sem]; done) | (with_reducible refine cell_alloc ?_ ?_) | (with_reducible refine cell_set_far ?_ ?_) | omega | (simp; omega)))) (first | (go_at_call 75; (with_reducible refine (ref15Less d[k].frm x.frm _).mono ?_); rw [HM.out]; rintro e w1 ⟨rfl, hb1⟩; obtain ⟨fc1, fg1, hc1, hf1, hz1⟩ := bget hb1; (try simp at hz1)))
          all_goals
            go_wp2_with (first | (at_builtin; refine wpList_app rfl _ _ _ rfl elChoice w2.heap.size _ [] rfl (Own.nil _ _ _ _) (some ⟨g, 0, none⟩) (k) _ rfl ((d.take (k)).map encChoice) (by simp; try omega) (fun h => by cases h) (by rw [List.map_take]; exact rd_take' (HRS2.out.rd.keep (by have hbl := Hbl.out; (repeat' (first | (with_reducible exact Below.refl _ _) | (with_reducible assumption) | (with_reducible refine Below.alloc ?_ ?_ _) | (with_reducible refine Below.setCell ?_ ?_ _) | (with_reducible refine Below.drew ?_) | (with_reducible refine below_drewN ?_ _) | (with_reducible refine below_via ?_ (by with_reducible assumption) ?_) | omega | (simp; done) | (simp; omega))))) (k)) (rowsChoice _) (by unfold maxLen; first | (simp; done) | omega | (simp; omega)) (by first | (simp; done) | omega | (simp; omega)) (by first | omega | (simp; done) | (simp; omega)) ?_; intro v1 w3 hown1 hb3; obtain ⟨fc3, fg3, hc3, hf3, hz3⟩ := bget hb3; (try simp at hz3)) | (at_builtin; refine wpList_app rfl _ _ _ rfl elChoice w2.heap.size _ _ rfl (hown1.alloc _) (some ⟨w3.heap.size, 0, none⟩) 1 1 rfl [encChoice x] rfl (fun h => by cases h) rd_one (rowsChoice [x]) (by unfold maxLen; first | (simp; done) | omega | (simp; omega)) (by first | (simp; done) | omega | (simp; omega)) (by first | omega | (simp; done) | (simp; omega)) ?_; intro v2 w4 hown2 hb4; obtain ⟨fc4, fg4, hc4, hf4, hz4⟩ := bget hb4; (try simp at hz4)) | (at_builtin; refine wpList_app rfl _ _ _ rfl elChoice w2.heap.size _ _ rfl hown2 (some ⟨g, k * 5, none⟩) (d.length - k) (c2 - k) rfl ((d.drop k).map encChoice) (by simp) (fun h => by cases h) (by rw [List.map_drop]; have h9 := rd_dropR (HRS2.out.rd.keep (w' := w4) (by have hbl := Hbl.out; (repeat' (first | (with_reducible exact Below.refl _ _) | (with_reducible assumption) | (with_reducible refine Below.alloc ?_ ?_ _) | (with_reducible refine Below.setCell ?_ ?_ _) | (with_reducible refine Below.drew ?_) | (with_reducible refine below_drewN ?_ _) | (with_reducible refine below_via ?_ (by with_reducible assumption) ?_) | omega | (simp; done) | (simp; omega))))) k; rw [Nat.zero_add] at h9; exact h9) (rowsChoice _) (by unfold maxLen; first | (simp; done) | omega | (simp; omega)) (by first | (simp; done) | omega | (simp; omega)) (by first | omega | (simp; done) | (simp; omega)) ?_; intro v3 w5 hown3 hb5))
            go_ret
            exact ⟨_, rfl, by rw [HS.out, HIN.out]; exact (by simpa using hown3.mono (by first | omega | (simp; done) | (simp; omega))), by have hb2 := HB2.out; have hbl := Hbl.out; (repeat' (first | (with_reducible exact Below.refl _ _) | (with_reducible assumption) | (with_reducible refine Below.alloc ?_ ?_ _) | (with_reducible refine Below.setCell ?_ ?_ _) | (with_reducible refine Below.drew ?_) | (with_reducible refine below_drewN ?_ _) | (with_reducible refine below_via ?_ (by with_reducible assumption) ?_) | omega | (simp; done) | (simp; omega)))⟩
        · have HM := Lib.hid hm
          clear hm
          go_wp2_with fail
          go_region_held3 (fun w' => w'.cell? ⟨w.heap.size, 0, none⟩ = some (.int .i64 x.frm.acc) ∧ w'.cell? ⟨w.heap.size, 1, none⟩ = some (.int .i64 x.frm.cli) ∧ w'.cell? ⟨g, k * 5, none⟩ = some (.int .i64 d[k].frm.acc) ∧ w'.cell? ⟨g, k * 5 + 1, none⟩ = some (.int .i64 d[k].frm.cli)) (first | (simp [go_sem]; done) | (repeat' (first | (with_reducible assumption) | (with_reducible refine And.intro ?_ ?_) | (with_reducible refine cell_drew ?_) | (with_reducible refine cell_via (by with_reducible assumption) ?_ ?_) | (simp [*]; done) | (simp [go_sem]; done) | (with_reducible refine cell_alloc ?_ ?_) | (with_reducible refine cell_set_far ?_ ?_) | omega | (simp; omega)))) (first | (go_at_call 75; (with_reducible refine (ref15Less d[k].frm x.frm _).mono ?_); rw [HM.out]; rintro e w1 ⟨rfl, hb1⟩; obtain ⟨fc1, fg1, hc1, hf1, hz1⟩ := bget hb1; (try simp at hz1)))
          all_goals
            go_wp2_with fail
            go_roundw
            case rel => exact ⟨k + 1, by omega, by go_num, by have hbl := Hbl.out; (repeat' (first | (with_reducible exact Below.refl _ _) | (with_reducible assumption) | (with_reducible refine Below.alloc ?_ ?_ _) | (with_reducible refine Below.setCell ?_ ?_ _) | (with_reducible refine Below.drew ?_) | (with_reducible refine below_drewN ?_ _) | (with_reducible refine below_via ?_ (by with_reducible assumption) ?_) | omega | (simp; done) | (simp; omega))), fun j hj h => by
              rcases Nat.lt_or_ge j k with h1 | h1
              · exact Hno.out j hj h1
              · obtain rfl : j = k := by omega
                exact HM.out⟩
            case measure => simp [intOf]; omega
      · have HIN := Lib.hid (insR_at Hno.out hk (fun h => absurd h hlt))
        have kd : decide ((k : Int) < (d.length : Int)) = false := by simp; omega
        by_cases hck : c2 = k
        · obtain rfl : k = c2 := hck.symm
          go_wp2_with fail
          go_quiet (fail)
          go_wp2_with (first | (at_builtin; refine wpList_app rfl _ _ _ rfl elChoice w2.heap.size _ [] rfl (Own.nil _ _ _ _) (some ⟨g, 0, none⟩) (k) _ rfl ((d.take (k)).map encChoice) (by simp; try omega) (fun h => by cases h) (by rw [List.map_take]; exact rd_take' (HRS2.out.rd.keep (by have hbl := Hbl.out; (repeat' (first | (with_reducible exact Below.refl _ _) | (with_reducible assumption) | (with_reducible refine Below.alloc ?_ ?_ _) | (with_reducible refine Below.setCell ?_ ?_ _) | (with_reducible refine Below.drew ?_) | (with_reducible refine below_drewN ?_ _) | (with_reducible refine below_via ?_ (by with_reducible assumption) ?_) | omega | (simp; done) | (simp; omega))))) (k)) (rowsChoice _) (by unfold maxLen; first | (simp; done) | omega | (simp; omega)) (by first | (simp; done) | omega | (simp; omega)) (by first | omega | (simp; done) | (simp; omega)) ?_; intro v1 w3 hown1 hb3; obtain ⟨fc3, fg3, hc3, hf3, hz3⟩ := bget hb3; (try simp at hz3)) | (at_builtin; refine wpList_app rfl _ _ _ rfl elChoice w2.heap.size _ _ rfl (hown1.alloc _) (some ⟨w3.heap.size, 0, none⟩) 1 1 rfl [encChoice x] rfl (fun h => by cases h) rd_one (rowsChoice [x]) (by unfold maxLen; first | (simp; done) | omega | (simp; omega)) (by first | (simp; done) | omega | (simp; omega)) (by first | omega | (simp; done) | (simp; omega)) ?_; intro v2 w4 hown2 hb4; obtain ⟨fc4, fg4, hc4, hf4, hz4⟩ := bget hb4; (try simp at hz4)) | (at_builtin; refine wpList_app rfl _ _ _ rfl elChoice w2.heap.size _ _ rfl hown2 (some ⟨g, k * 5, none⟩) (d.length - k) (c2 - k) rfl ((d.drop k).map encChoice) (by simp) (fun h => by cases h) (by rw [List.map_drop]; have h9 := rd_dropR (HRS2.out.rd.keep (w' := w4) (by have hbl := Hbl.out; (repeat' (first | (with_reducible exact Below.refl _ _) | (with_reducible assumption) | (with_reducible refine Below.alloc ?_ ?_ _) | (with_reducible refine Below.setCell ?_ ?_ _) | (with_reducible refine Below.drew ?_) | (with_reducible refine below_drewN ?_ _) | (with_reducible refine below_via ?_ (by with_reducible assumption) ?_) | omega | (simp; done) | (simp; omega))))) k; rw [Nat.zero_add] at h9; exact h9) (rowsChoice _) (by unfold maxLen; first | (simp; done) | omega | (simp; omega)) (by first | (simp; done) | omega | (simp; omega)) (by first | omega | (simp; done) | (simp; omega)) ?_; intro v3 w5 hown3 hb5) | (at_builtin; refine wpList_app rfl _ _ _ rfl elChoice w2.heap.size _ _ rfl hown2 (some ⟨g, 0, none⟩) 0 0 rfl [] rfl (fun h => by cases h) (fun i r h => by simp at h) (fun r h => by simp at h) (by unfold maxLen; first | (simp; done) | omega | (simp; omega)) (by first | (simp; done) | omega | (simp; omega)) (by first | omega | (simp; done) | (simp; omega)) ?_; intro v3 w5 hown3 hb5))
          go_ret
          exact ⟨_, rfl, by rw [HS.out, HIN.out, List.drop_eq_nil_of_le (show d.length ≤ k from by omega)]; exact (by simpa using hown3.mono (by first | omega | (simp; done) | (simp; omega))), by have hb2 := HB2.out; have hbl := Hbl.out; (repeat' (first | (with_reducible exact Below.refl _ _) | (with_reducible assumption) | (with_reducible refine Below.alloc ?_ ?_ _) | (with_reducible refine Below.setCell ?_ ?_ _) | (with_reducible refine Below.drew ?_) | (with_reducible refine below_drewN ?_ _) | (with_reducible refine below_via ?_ (by with_reducible assumption) ?_) | omega | (simp; done) | (simp; omega)))⟩
        · have hck' : ¬ k = c2 := fun h => hck h.symm
          go_wp2_with fail
          go_quiet (fail)
          go_wp2_with (first | (at_builtin; refine wpList_app rfl _ _ _ rfl elChoice w2.heap.size _ [] rfl (Own.nil _ _ _ _) (some ⟨g, 0, none⟩) (k) _ rfl ((d.take (k)).map encChoice) (by simp; try omega) (fun h => by cases h) (by rw [List.map_take]; exact rd_take' (HRS2.out.rd.keep (by have hbl := Hbl.out; (repeat' (first | (with_reducible exact Below.refl _ _) | (with_reducible assumption) | (with_reducible refine Below.alloc ?_ ?_ _) | (with_reducible refine Below.setCell ?_ ?_ _) | (with_reducible refine Below.drew ?_) | (with_reducible refine below_drewN ?_ _) | (with_reducible refine below_via ?_ (by with_reducible assumption) ?_) | omega | (simp; done) | (simp; omega))))) (k)) (rowsChoice _) (by unfold maxLen; first | (simp; done) | omega | (simp; omega)) (by first | (simp; done) | omega | (simp; omega)) (by first | omega | (simp; done) | (simp; omega)) ?_; intro v1 w3 hown1 hb3; obtain ⟨fc3, fg3, hc3, hf3, hz3⟩ := bget hb3; (try simp at hz3)) | (at_builtin; refine wpList_app rfl _ _ _ rfl elChoice w2.heap.size _ _ rfl (hown1.alloc _) (some ⟨w3.heap.size, 0, none⟩) 1 1 rfl [encChoice x] rfl (fun h => by cases h) rd_one (rowsChoice [x]) (by unfold maxLen; first | (simp; done) | omega | (simp; omega)) (by first | (simp; done) | omega | (simp; omega)) (by first | omega | (simp; done) | (simp; omega)) ?_; intro v2 w4 hown2 hb4; obtain ⟨fc4, fg4, hc4, hf4, hz4⟩ := bget hb4; (try simp at hz4)) | (at_builtin; refine wpList_app rfl _ _ _ rfl elChoice w2.heap.size _ _ rfl hown2 (some ⟨g, k * 5, none⟩) (d.length - k) (c2 - k) rfl ((d.drop k).map encChoice) (by simp) (fun h => by cases h) (by rw [List.map_drop]; have h9 := rd_dropR (HRS2.out.rd.keep (w' := w4) (by have hbl := Hbl.out; (repeat' (first | (with_reducible exact Below.refl _ _) | (with_reducible assumption) | (with_reducible refine Below.alloc ?_ ?_ _) | (with_reducible refine Below.setCell ?_ ?_ _) | (with_reducible refine Below.drew ?_) | (with_reducible refine below_drewN ?_ _) | (with_reducible refine below_via ?_ (by with_reducible assumption) ?_) | omega | (simp; done) | (simp; omega))))) k; rw [Nat.zero_add] at h9; exact h9) (rowsChoice _) (by unfold maxLen; first | (simp; done) | omega | (simp; omega)) (by first | (simp; done) | omega | (simp; omega)) (by first | omega | (simp; done) | (simp; omega)) ?_; intro v3 w5 hown3 hb5))
          go_ret
          exact ⟨_, rfl, by rw [HS.out, HIN.out]; exact (by simpa using hown3.mono (by first | omega | (simp; done) | (simp; omega))), by have hb2 := HB2.out; have hbl := Hbl.out; (repeat' (first | (with_reducible exact Below.refl _ _) | (with_reducible assumption) | (with_reducible refine Below.alloc ?_ ?_ _) | (with_reducible refine Below.setCell ?_ ?_ _) | (with_reducible refine Below.drew ?_) | (with_reducible refine below_drewN ?_ _) | (with_reducible refine below_via ?_ (by with_reducible assumption) ?_) | omega | (simp; done) | (simp; omega)))⟩
end Go.Proofs.Ytffmljkpbgohkaa
