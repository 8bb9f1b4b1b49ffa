/- Joined: Cv5, Cv6, Grd1, CvM0. -/
import Derived.Test.YtalgfpegaobacaaGreatJz16
import Derived.Test.YtalgfpegaobacaaGreatJz8
import Derived.Test.YtalgfpegaobacaaGreatJz5
/- Which have too little: contracts of need.Units (in memory of its own), cover.Calls. -/
namespace Go.Proofs.YtalgfpegaobacaaGreat
open Go.RowKit
set_option maxRecDepth 100000 in
set_option maxHeartbeats 8000000 in
theorem acctUnitsF (x : Acct) (A : Option Addr) (c : Nat) (w : World) (hl : x.clients.length ≤ 1048576) (hr : Rd w A 1 (x.clients.map encI)) :
    Calls Tryz.prog 52 #[.agg #[.int .i64 x.id, .int .i64 x.member, .int .i64 x.kind, .slice A x.clients.length c]] w fun e w' => ∃ A c, e = .returned (.slice A (unitsA x).length c) ∧ Rs w' 2 ((unitsA x).map encUn) A c ∧ (∀ a, A = some a → w.heap.size ≤ a.block) ∧ Below w.heap.size w w' := by
  have HR := Lib.hid hr
  clear hr
  by_cases hk1 : x.kind = 1
  · have b1 : (x.kind == 1) = true := by simpa using hk1
    have HU := Lib.hid (show unitsA x = [⟨x.id, 0⟩] from if_pos hk1)
    clear hk1
    go_enter Tryz.func52, Tryz.ntmps52
    go_wp2_with (fail)
    go_ret
    rw [HU.out]
    exact ⟨_, _, rfl, rd_lit (by simp) (by simp [go_sem]) (by simp [go_sem]), fun a ha => by injection ha with ha; subst ha; simp, by (repeat' (first | (with_reducible exact Below.refl _ _) | (with_reducible assumption) | (with_reducible refine Below.alloc ?_ ?_ _) | (with_reducible refine Below.setCell ?_ ?_ _) | (with_reducible refine Below.drew ?_) | (with_reducible refine below_drewN ?_ _) | (with_reducible refine below_via ?_ (by with_reducible assumption) ?_) | omega | (simp; done) | (simp; omega)))⟩
  · have b1 : (x.kind == 1) = false := by simpa using hk1
    have HU := Lib.hid (show unitsA x = x.clients.map (fun c => ⟨x.id, c⟩) from if_neg hk1)
    clear hk1
    go_enter Tryz.func52, Tryz.ntmps52
    go_wp2_with (fail)
    go_loopw [3, 16] (fun v i wr => ∃ k : Nat, k ≤ x.clients.length ∧ i = .int .i64 k ∧ Own wr (w.heap.size + 1) 41 2 v (((x.clients.take k).map (fun c => (⟨x.id, c⟩ : Un))).map encUn) ∧ Below w.heap.size w wr ∧ w.heap.size < wr.heap.size ∧ wr.cell? ⟨w.heap.size, 0, none⟩ = some (.int .i64 x.id)) (fun _ i _ => x.clients.length - (intOf i).toNat)
    case atStart => exact ⟨0, Nat.zero_le _, rfl, Own.nil _ _ _ _, by (repeat' (first | (with_reducible exact Below.refl _ _) | (with_reducible assumption) | (with_reducible refine Below.alloc ?_ ?_ _) | (with_reducible refine Below.setCell ?_ ?_ _) | (with_reducible refine Below.drew ?_) | (with_reducible refine below_drewN ?_ _) | (with_reducible refine below_via ?_ (by with_reducible assumption) ?_) | omega | (simp; done) | (simp; omega))), by simp, by simp [go_sem]⟩
    case round =>
      obtain ⟨k, hk, rfl, hown, hbl, hsz, h0⟩ := hrel
      have Hown := Lib.hid hown
      have Hbl := Lib.hid hbl
      have hz := hbl.size
      clear hown hbl
      by_cases hlt : k < x.clients.length
      · have kl : (k : Int) < (x.clients.length : Int) := by omega
        have dl : decide ((k : Int) < (x.clients.length : Int)) = true := by simpa using hlt
        obtain ⟨b, o, rfl, hb, hc⟩ := HR.out k (encI x.clients[k]) (by simp [hlt])
        have e0 := (Hbl.out.cell (p := ⟨b, o + k * 1 + 0, none⟩) hb).trans (hc 0 _ rfl)
        simp only [Nat.add_zero, Nat.mul_one] at e0
        have HS := Lib.hid (map_snoc hlt (fun c => (⟨x.id, c⟩ : Un)))
        clear hc
        go_wp2_with (first | (at_builtin; refine wpList_app rfl _ _ _ rfl elUn (w.heap.size + 1) _ _ rfl (Hown.out.alloc _) (some ⟨_, 0, none⟩) 1 1 rfl [encUn ⟨x.id, x.clients[k]⟩] rfl (fun h => by cases h) (rd_oneN (by simp)) (rowsUn [⟨x.id, x.clients[k]⟩]) (by unfold maxLen; first | (simp; done) | omega | (simp; omega)) (by first | (simp; done) | omega | (simp; omega)) (by first | omega | (simp; done) | (simp; omega)) ?_; intro v3 w3 hown3 hb3) | fail)
        go_roundw
        case rel => exact ⟨k + 1, by omega, by go_num, by rw [HS.out, List.map_append]; exact hown3, (Hbl.out.alloc hz _).trans (hb3.mono (by omega)), by have := hb3.size; simp at this; omega, by rw [hb3.cell (p := ⟨w.heap.size, 0, none⟩) (by simp)]; simp [go_sem, h0, hsz]⟩
        case measure => simp [intOf]; omega
      · have dl : decide ((k : Int) < (x.clients.length : Int)) = false := by simpa using hlt
        have HT := Lib.hid (show x.clients.take k = x.clients from List.take_of_length_le (by omega))
        go_wp2_with (fail)
        go_ret
        have := Hown.out
        rw [HT.out] at this
        obtain ⟨A2, c2, rfl, hrs2, hf2⟩ := this.rs
        rw [List.length_map]
        exact ⟨_, _, by rw [HU.out]; rfl, by rw [HU.out]; exact hrs2, fun a ha => by
          rcases hf2 with ⟨h, _, _⟩ | ⟨g, h, hg, _⟩
          · rw [h] at ha; cases ha
          · rw [h] at ha; injection ha with ha; subst ha; show w.heap.size ≤ g; omega, Hbl.out⟩
set_option maxRecDepth 100000 in
set_option maxHeartbeats 4000000 in
theorem needUnitsF (x : AcctV) (w : World) (hl : x.clients.val.length ≤ 1000000) (hg : GoodA w x) :
    Calls Tryz.prog 38 #[.agg #[.int .i64 x.id, .int .i64 x.member, .int .i64 x.kind, .slice x.clients.A x.clients.val.length x.clients.c]] w fun e w' => ∃ A c, e = .returned (.slice A (unitsN (lgA x)).length c) ∧ Rs w' 2 ((unitsN (lgA x)).map encUn) A c ∧ (∀ a, A = some a → w.heap.size ≤ a.block) ∧ Below w.heap.size w w' := by
  have HG := Lib.hid hg
  clear hg
  by_cases hk : x.kind = 2
  · have b1 : (x.kind == 2) = true := by simpa using hk
    have HU := Lib.hid (show unitsN (lgA x) = [⟨x.id, 0⟩] from if_pos hk)
    rw [HU.out]
    clear hk
    go_enter Tryz.func38, Tryz.ntmps38
    go_wp2_with (first | (go_at_call 70; (with_reducible refine (needWhole x _).mono ?_); rintro e w1 ⟨rfl, hb1⟩; obtain ⟨fc1, fg1, hc1, hf1, hz1⟩ := bget hb1; (try simp at hz1)) | fail)
    go_ret
    exact ⟨_, _, rfl, rd_lit (by simp) (by simp [go_sem]) (by simp [go_sem]), fun a ha => by injection ha with ha; subst ha; show w.heap.size ≤ w1.heap.size; omega, by (repeat' (first | (with_reducible exact Below.refl _ _) | (with_reducible assumption) | (with_reducible refine Below.alloc ?_ ?_ _) | (with_reducible refine Below.setCell ?_ ?_ _) | (with_reducible refine Below.drew ?_) | (with_reducible refine below_drewN ?_ _) | (with_reducible refine below_via ?_ (by with_reducible assumption) ?_) | omega | (simp; done) | (simp; omega)))⟩
  · have b1 : (x.kind == 2) = false := by simpa using hk
    have HU := Lib.hid (show unitsN (lgA x) = unitsA (lgA x) from if_neg hk)
    rw [HU.out]
    have cu := fun W (h : GoodA W x) => (show Calls Tryz.prog 52 #[.agg #[.int .i64 x.id, .int .i64 x.member, .int .i64 x.kind, .slice x.clients.A x.clients.val.length x.clients.c]] W fun e w' => ∃ A c, e = .returned (.slice A (unitsA (lgA x)).length c) ∧ Rs w' 2 ((unitsA (lgA x)).map encUn) A c ∧ (∀ a, A = some a → W.heap.size ≤ a.block) ∧ Below W.heap.size W w' from acctUnitsF (lgA x) x.clients.A x.clients.c W (show x.clients.val.length ≤ 1048576 by omega) h.rd)
    have CU := Lib.hid cu
    clear hk cu
    go_enter Tryz.func38, Tryz.ntmps38
    go_wp2_with (first | (go_at_call 52; (with_reducible refine (CU.out _ (HG.out.keep (by (repeat' (first | (with_reducible exact Below.refl _ _) | (with_reducible assumption) | (with_reducible refine Below.alloc ?_ ?_ _) | (with_reducible refine Below.setCell ?_ ?_ _) | (with_reducible refine Below.drew ?_) | (with_reducible refine below_drewN ?_ _) | (with_reducible refine below_via ?_ (by with_reducible assumption) ?_) | omega | (simp; done) | (simp; omega)))))).mono ?_); rintro e w1 ⟨A1, c1, rfl, hrs1, hfr1, hb1⟩; have HS1 := Lib.hid hrs1; have HF1 := Lib.hid hfr1; clear hrs1 hfr1; obtain ⟨fc1, fg1, hc1, hf1, hz1⟩ := bget hb1; (try simp at hz1)) | fail)
    go_ret
    exact ⟨_, _, rfl, HS1.out, fun a ha => by have := HF1.out a ha; (first | omega | (simp at this; omega)), by (repeat' (first | (with_reducible exact Below.refl _ _) | (with_reducible assumption) | (with_reducible refine Below.alloc ?_ ?_ _) | (with_reducible refine Below.setCell ?_ ?_ _) | (with_reducible refine Below.drew ?_) | (with_reducible refine below_drewN ?_ _) | (with_reducible refine below_via ?_ (by with_reducible assumption) ?_) | omega | (simp; done) | (simp; omega)))⟩
end Go.Proofs.YtalgfpegaobacaaGreat

/- Which have too little: contract of cover.Calls. -/
namespace Go.Proofs.YtalgfpegaobacaaGreat
open Go.RowKit
def callOne (S : SideL) (x : Acct) (u : Un) : List Flow := if excN S x u < 0 then [⟨u, excN S x u⟩] else []
def callU (S : SideL) (x : Acct) : List Un → List Flow
  | [] => []
  | u :: us => callOne S x u ++ callU S x us
def callsL (S : SideL) : List AcctV → List Flow
  | [] => []
  | x :: t => callU S (lgA x) (unitsN (lgA x)) ++ callsL S t
def callsC (S : SideL) : List AcctV → Int
  | [] => 0
  | x :: t => if firstC (excC S (lgA x)) (unitsN (lgA x)) = 0 then callsC S t else firstC (excC S (lgA x)) (unitsN (lgA x))
def callsR (S : SideL) (l : List AcctV) : List Flow := if callsC S l = 0 then callsL S l else []
theorem callU_app (S : SideL) (x : Acct) : ∀ (l m : List Un), callU S x (l ++ m) = callU S x l ++ callU S x m
  | [], _ => rfl
  | u :: l, m => by show callOne S x u ++ callU S x (l ++ m) = _; rw [callU_app S x l m, ← List.append_assoc]; rfl
theorem callU_snoc {S : SideL} {x : Acct} {us : List Un} {k : Nat} (h : k < us.length) : callU S x (us.take (k + 1)) = callU S x (us.take k) ++ callOne S x us[k] := by
  rw [List.take_succ_eq_append_getElem h, callU_app]
  show _ ++ (callOne S x us[k] ++ []) = _
  rw [List.append_nil]
theorem callsL_app (S : SideL) : ∀ (l m : List AcctV), callsL S (l ++ m) = callsL S l ++ callsL S m
  | [], _ => rfl
  | x :: l, m => by show _ ++ callsL S (l ++ m) = _; rw [callsL_app S l m, ← List.append_assoc]; rfl
theorem callsL_snoc {S : SideL} {l : List AcctV} {k : Nat} (h : k < l.length) : callsL S (l.take (k + 1)) = callsL S (l.take k) ++ callU S (lgA l[k]) (unitsN (lgA l[k])) := by
  rw [List.take_succ_eq_append_getElem h, callsL_app]
  show _ ++ (_ ++ []) = _
  rw [List.append_nil]
theorem callU_len (S : SideL) (x : Acct) : ∀ us : List Un, (callU S x us).length ≤ us.length
  | [] => Nat.le_refl _
  | u :: us => by
    have h := callU_len S x us
    have h1 : (callOne S x u).length ≤ 1 := by unfold callOne; split <;> simp
    show (callOne S x u ++ callU S x us).length ≤ us.length + 1
    rw [List.length_append]; omega
theorem callsL_len (S : SideL) : ∀ l : List AcctV, (∀ x ∈ l, x.clients.val.length ≤ 1000) → (callsL S l).length ≤ 1001 * l.length
  | [], _ => Nat.le_refl _
  | x :: t, hx => by
    have h := callsL_len S t fun y hy => hx y (List.mem_cons_of_mem _ hy)
    have h1 := callU_len S (lgA x) (unitsN (lgA x))
    have h2 := unitsN_len (lgA x)
    have h3 := hx x (List.mem_cons_self ..)
    rw [show (lgA x).clients.length = x.clients.val.length from rfl] at h2
    show (callU S (lgA x) (unitsN (lgA x)) ++ callsL S t).length ≤ 1001 * (t.length + 1)
    rw [List.length_append]; omega
theorem callsC_step {S : SideL} {x : AcctV} {t : List AcctV} (h : firstC (excC S (lgA x)) (unitsN (lgA x)) = 0) : callsC S (x :: t) = callsC S t := by
  show (if _ then _ else _) = _
  rw [if_pos h]
theorem callsC_stop {S : SideL} {x : AcctV} {t : List AcctV} (h : firstC (excC S (lgA x)) (unitsN (lgA x)) ≠ 0) : callsC S (x :: t) = firstC (excC S (lgA x)) (unitsN (lgA x)) := by
  show (if _ then _ else _) = _
  rw [if_neg h]
set_option maxRecDepth 100000 in
set_option maxHeartbeats 64000000 in
theorem coverCalls (s : SideV) (l : List AcctV) (B : Option Addr) (d : Nat) (w : World) (hg : GoodS w s) (hl : l.length ≤ 100) (hr : Rd w B 4 (l.map encAcctV)) (hga : ∀ x ∈ l, x.clients.val.length ≤ 1000 ∧ GoodA w x) :
    Calls Tryz.prog 13 #[.agg #[.slice (s).ats.A (s).ats.val.length (s).ats.c, .slice (s).ins.A (s).ins.val.length (s).ins.c, .slice (s).bk.A (s).bk.val.length (s).bk.c, .slice (s).pu.A (s).pu.val.length (s).pu.c, .slice (s).ho.A (s).ho.val.length (s).ho.c], .slice B l.length d] w fun e w' => ∃ v, e = .returned (.tuple #[v, .int .i64 (callsC (sideL s) l)]) ∧ Own w' w.heap.size 50 3 v ((callsR (sideL s) l).map encFlow) ∧ Below w.heap.size w w' := by
  have HG := Lib.hid hg
  have HR := Lib.hid hr
  have HGA := Lib.hid hga
  have HRR := Lib.hid (show callsR (sideL s) l = if callsC (sideL s) l = 0 then callsL (sideL s) l else [] from rfl)
  have HLN := Lib.hid (fun k => callsL_len (sideL s) (l.take k) fun x hx => (hga x (List.mem_of_mem_take hx)).1)
  have CE0 := fun x u W (h : GoodS W s) (h2 : GoodA W x) (h3 : x.clients.val.length ≤ 1000) => coverExcess s x u W h h2 h3
  have HCE := Lib.hid CE0
  clear CE0 hg hr hga
  generalize sideL s = S at *
  go_enter Tryz.func13, Tryz.ntmps13
  go_wp2_with fail
  have x0 : (w.alloc (.cells #[.slice s.ats.A s.ats.val.length s.ats.c, .slice s.ins.A s.ins.val.length s.ins.c, .slice s.bk.A s.bk.val.length s.bk.c, .slice s.pu.A s.pu.val.length s.pu.c, .slice s.ho.A s.ho.val.length s.ho.c] 34)).heap.size = w.heap.size + 1 := by simp
  have HB := Lib.hid (show _ ∧ _ ∧ _ ∧ _ ∧ _ from ⟨(show (w.alloc (.cells #[.slice s.ats.A s.ats.val.length s.ats.c, .slice s.ins.A s.ins.val.length s.ins.c, .slice s.bk.A s.bk.val.length s.bk.c, .slice s.pu.A s.pu.val.length s.pu.c, .slice s.ho.A s.ho.val.length s.ho.c] 34)).cell? ⟨w.heap.size, 0, none⟩ = some (.slice s.ats.A s.ats.val.length s.ats.c) by simp [go_sem]), (show (w.alloc (.cells #[.slice s.ats.A s.ats.val.length s.ats.c, .slice s.ins.A s.ins.val.length s.ins.c, .slice s.bk.A s.bk.val.length s.bk.c, .slice s.pu.A s.pu.val.length s.pu.c, .slice s.ho.A s.ho.val.length s.ho.c] 34)).cell? ⟨w.heap.size, 1, none⟩ = some (.slice s.ins.A s.ins.val.length s.ins.c) by simp [go_sem]), (show (w.alloc (.cells #[.slice s.ats.A s.ats.val.length s.ats.c, .slice s.ins.A s.ins.val.length s.ins.c, .slice s.bk.A s.bk.val.length s.bk.c, .slice s.pu.A s.pu.val.length s.pu.c, .slice s.ho.A s.ho.val.length s.ho.c] 34)).cell? ⟨w.heap.size, 2, none⟩ = some (.slice s.bk.A s.bk.val.length s.bk.c) by simp [go_sem]), (show (w.alloc (.cells #[.slice s.ats.A s.ats.val.length s.ats.c, .slice s.ins.A s.ins.val.length s.ins.c, .slice s.bk.A s.bk.val.length s.bk.c, .slice s.pu.A s.pu.val.length s.pu.c, .slice s.ho.A s.ho.val.length s.ho.c] 34)).cell? ⟨w.heap.size, 3, none⟩ = some (.slice s.pu.A s.pu.val.length s.pu.c) by simp [go_sem]), (show (w.alloc (.cells #[.slice s.ats.A s.ats.val.length s.ats.c, .slice s.ins.A s.ins.val.length s.ins.c, .slice s.bk.A s.bk.val.length s.bk.c, .slice s.pu.A s.pu.val.length s.pu.c, .slice s.ho.A s.ho.val.length s.ho.c] 34)).cell? ⟨w.heap.size, 4, none⟩ = some (.slice s.ho.A s.ho.val.length s.ho.c) by simp [go_sem])⟩)
  have Hw1 := Lib.hid (show Below w.heap.size w (w.alloc (.cells #[.slice s.ats.A s.ats.val.length s.ats.c, .slice s.ins.A s.ins.val.length s.ins.c, .slice s.bk.A s.bk.val.length s.bk.c, .slice s.pu.A s.pu.val.length s.pu.c, .slice s.ho.A s.ho.val.length s.ho.c] 34)) by (repeat' (first | (with_reducible exact Below.refl _ _) | (with_reducible assumption) | (with_reducible refine Below.alloc ?_ ?_ _) | (with_reducible refine Below.setCell ?_ ?_ _) | (with_reducible refine Below.drew ?_) | (with_reducible refine below_drewN ?_ _) | (with_reducible refine below_via ?_ (by with_reducible assumption) ?_) | omega | (simp; done) | (simp; omega))))
  generalize hw1e : w.alloc (.cells #[.slice s.ats.A s.ats.val.length s.ats.c, .slice s.ins.A s.ins.val.length s.ins.c, .slice s.bk.A s.bk.val.length s.bk.c, .slice s.pu.A s.pu.val.length s.pu.c, .slice s.ho.A s.ho.val.length s.ho.c] 34) = w1 at *
  have hw1 : w.heap.size < w1.heap.size := by omega
  clear hw1e x0
  go_loopw [6, 15] (fun v i wr => ∃ k : Nat, k ≤ l.length ∧ i = .int .i64 k ∧ callsC S l = callsC S (l.drop k) ∧ Own wr w1.heap.size 50 3 v ((callsL S (l.take k)).map encFlow) ∧ Below w1.heap.size w1 wr) (fun _ i _ => l.length - (intOf i).toNat)
  case atStart => exact ⟨0, Nat.zero_le _, rfl, rfl, Own.nil _ _ _ _, Below.refl _ _⟩
  case round =>
    obtain ⟨i, hi, rfl, hv, hown, hbl⟩ := hrel
    have HV := Lib.hid hv
    have Hown := Lib.hid hown
    have Hbl1 := Lib.hid hbl
    have hz1 := hbl.size
    have HWR := Lib.hid (Hw1.out.trans (hbl.mono (by omega)))
    clear hv hown hbl
    by_cases hlt1 : i < l.length
    · have kl : (i : Int) < (l.length : Int) := by omega
      have dl : decide ((i : Int) < (l.length : Int)) = true := by simpa using hlt1
      obtain ⟨b, o, rfl, hb, hc⟩ := HR.out i (encAcctV l[i]) (by simp [hlt1])
      have e0 := (HWR.out.cell (p := ⟨b, o + i * 4 + 0, none⟩) hb).trans (hc 0 _ rfl)
      have e1 := (HWR.out.cell (p := ⟨b, o + i * 4 + 1, none⟩) hb).trans (hc 1 _ rfl)
      have e2 := (HWR.out.cell (p := ⟨b, o + i * 4 + 2, none⟩) hb).trans (hc 2 _ rfl)
      have e3 := (HWR.out.cell (p := ⟨b, o + i * 4 + 3, none⟩) hb).trans (hc 3 _ rfl)
      simp only [Nat.add_zero] at e0
      clear hc
      have hbw : b < wr.heap.size := by omega
      have hgk := HGA.out l[i] (List.getElem_mem hlt1)
      have hxl := hgk.1
      have HXK := Lib.hid hgk.2
      have HD := Lib.hid (drop_cons' hlt1)
      have HSN := Lib.hid (callsL_snoc (S := S) hlt1)
      have hul := unitsN_len (lgA l[i])
      rw [show (lgA l[i]).clients.length = l[i].clients.val.length from rfl] at hul
      have HST := Lib.hid (callsC_step (S := S) (x := l[i]) (t := l.drop (i + 1)))
      have HSP := Lib.hid (callsC_stop (S := S) (x := l[i]) (t := l.drop (i + 1)))
      have CE1 := Lib.hid (fun u W (h : GoodS W s) (h2 : GoodA W (l[i]'hlt1)) => HCE.out (l[i]'hlt1) u W h h2 hxl)
      have hln := HLN.out i
      rw [List.length_take] at hln
      generalize l[i] = x at *
      have CU := Lib.hid (fun W (h : GoodA W x) => needUnitsF x W (by omega) h)
      clear hgk
      go_wp2_with (first | (go_at_call 38; (with_reducible refine (CU.out _ (HXK.out.keep (by have h1 := HWR.out; (repeat' (first | (with_reducible exact Below.refl _ _) | (with_reducible assumption) | (with_reducible refine Below.alloc ?_ ?_ _) | (with_reducible refine Below.setCell ?_ ?_ _) | (with_reducible refine Below.drew ?_) | (with_reducible refine below_drewN ?_ _) | (with_reducible refine below_via ?_ (by with_reducible assumption) ?_) | omega | (simp; done) | (simp; omega)))))).mono ?_); rintro e w5 ⟨A5, c5, rfl, hrs5, hfr5, hb5⟩; have HS5 := Lib.hid hrs5.rd; have HF5 := Lib.hid hfr5; clear hrs5 hfr5; obtain ⟨fc5, fg5, hc5, hf5, hz5⟩ := bget hb5; (try simp at hz5)) | fail)
      have z0 : w5.cell? ⟨wr.heap.size, 0, none⟩ = some (.int .i64 x.id) := by simp [hc5, go_sem]
      have z1 : w5.cell? ⟨wr.heap.size, 1, none⟩ = some (.int .i64 x.member) := by simp [hc5, go_sem]
      have z2 : w5.cell? ⟨wr.heap.size, 2, none⟩ = some (.int .i64 x.kind) := by simp [hc5, go_sem]
      have z3 : w5.cell? ⟨wr.heap.size, 3, none⟩ = some (.slice x.clients.A x.clients.val.length x.clients.c) := by simp [hc5, go_sem]
      have h05 : Below wr.heap.size wr w5 := by (repeat' (first | (with_reducible exact Below.refl _ _) | (with_reducible assumption) | (with_reducible refine Below.alloc ?_ ?_ _) | (with_reducible refine Below.setCell ?_ ?_ _) | (with_reducible refine Below.drew ?_) | (with_reducible refine below_drewN ?_ _) | (with_reducible refine below_via ?_ (by with_reducible assumption) ?_) | omega | (simp; done) | (simp; omega)))
      have HO5 := Lib.hid (Hown.out.keep h05)
      have HOB := Lib.hid (fun e => (show False from absurd (Hown.out.block wr.heap.size e).2 (Nat.lt_irrefl _)))
      have HOA := Lib.hid (fun b o (hA : A5 = some ⟨b, o, none⟩) e => (show False from by
        have h1 := HF5.out ⟨b, o, none⟩ hA
        have h2 := (Hown.out.block b e).2
        simp at h1
        omega))
      have H15 := Lib.hid (Hbl1.out.trans (h05.mono hz1))
      have hz5 := h05.size
      have hga : wr.heap.size < w5.heap.size := by omega
      have HZ4 := Lib.hid (And.intro z0 (And.intro z1 (And.intro z2 z3)))
      clear z0 z1 z2 z3 h05 hc5 hf5 hb5 e0 e1 e2 e3 hb hbw CU
      generalize hgae : wr.heap.size = ga at *
      clear hgae
      generalize unitsN (lgA x) = us at *
      go_loopw [6, 22] (fun v2 j w2 => ∃ q : Nat, q ≤ us.length ∧ j = .int .i64 q ∧ firstC (excC S (lgA x)) us = firstC (excC S (lgA x)) (us.drop q) ∧ Own w2 w1.heap.size 50 3 v2 ((callsL S (l.take i) ++ callU S (lgA x) (us.take q)).map encFlow) ∧ (v2.ownBlock ≠ some ga ∧ ∀ b o, A5 = some ⟨b, o, none⟩ → v2.ownBlock ≠ some b) ∧ Rd w2 A5 2 (us.map encUn) ∧ (w2.cell? ⟨ga, 0, none⟩ = some (.int .i64 x.id) ∧ w2.cell? ⟨ga, 1, none⟩ = some (.int .i64 x.member) ∧ w2.cell? ⟨ga, 2, none⟩ = some (.int .i64 x.kind) ∧ w2.cell? ⟨ga, 3, none⟩ = some (.slice x.clients.A x.clients.val.length x.clients.c)) ∧ Below w1.heap.size w1 w2 ∧ w5.heap.size ≤ w2.heap.size) (fun _ j _ => us.length - (intOf j).toNat)
      case atStart => exact ⟨0, Nat.zero_le _, rfl, rfl, by rw [show callU S (lgA x) (us.take 0) = [] from rfl, List.append_nil]; exact HO5.out, ⟨fun e => HOB.out e, fun b o hA e => HOA.out b o hA e⟩, HS5.out, HZ4.out, H15.out, Nat.le_refl _⟩
      case round =>
        obtain ⟨q, hq, rfl, hv, hown, ⟨hob, hoa⟩, hrd, ⟨z0, z1, z2, z3⟩, hbl, hz52⟩ := hrel
        have HV2 := Lib.hid hv
        have Hown2 := Lib.hid hown
        have Hob := Lib.hid hob
        have Hoa := Lib.hid hoa
        have Hbl2 := Lib.hid hbl
        have hz2 := hbl.size
        have HWR := Lib.hid (Hw1.out.trans (hbl.mono (by omega)))
        have hgw : ga < wr.heap.size := by omega
        have hww : w.heap.size < wr.heap.size := by omega
        clear hv hown hob hoa
        by_cases hlt2 : q < us.length
        · have kq : (q : Int) < (us.length : Int) := by omega
          have dq : decide ((q : Int) < (us.length : Int)) = true := by simpa using hlt2
          have y0 := (hbl.cell (p := ⟨w.heap.size, 0, none⟩) (by simp; omega)).trans HB.out.1
          have y1 := (hbl.cell (p := ⟨w.heap.size, 1, none⟩) (by simp; omega)).trans HB.out.2.1
          have y2 := (hbl.cell (p := ⟨w.heap.size, 2, none⟩) (by simp; omega)).trans HB.out.2.2.1
          have y3 := (hbl.cell (p := ⟨w.heap.size, 3, none⟩) (by simp; omega)).trans HB.out.2.2.2.1
          have y4 := (hbl.cell (p := ⟨w.heap.size, 4, none⟩) (by simp; omega)).trans HB.out.2.2.2.2
          obtain ⟨b5, o5, rfl, hb5, hc5⟩ := hrd q (encUn us[q]) (by simp [hlt2])
          have f0 := hc5 0 _ rfl
          have f1 := hc5 1 _ rfl
          simp only [Nat.add_zero] at f0
          have HRD := Lib.hid hrd
          have HZ := Lib.hid (And.intro z0 (And.intro z1 (And.intro z2 z3)))
          have HD2 := Lib.hid (drop_cons' hlt2)
          have HSU := Lib.hid (callU_snoc (S := S) (x := lgA x) hlt2)
          have hul2 := callU_len S (lgA x) (us.take q)
          rw [List.length_take] at hul2
          have ce := CE1.out us[q]
          have h1n : callOne S (lgA x) us[q] = if excN S (lgA x) us[q] < 0 then [⟨us[q], excN S (lgA x) us[q]⟩] else [] := rfl
          have hst := firstC_step (f := excC S (lgA x)) (u := us[q]) (us := us.drop (q + 1))
          have hsp := firstC_stop (f := excC S (lgA x)) (u := us[q]) (us := us.drop (q + 1))
          generalize us[q] = u at *
          have HOR := Lib.hid h1n
          clear hc5 hrd hbl h1n
          by_cases h0 : excC S (lgA x) u = 0
          · have HN0 := Lib.hid (show firstC (excC S (lgA x)) us = firstC (excC S (lgA x)) (us.drop (q + 1)) from by rw [HV2.out, HD2.out, hst h0])
            rw [h0] at ce
            clear h0 hst hsp
            generalize excN S (lgA x) u = n at *
            have CE := Lib.hid ce
            clear ce
            by_cases hneg : n < 0
            · have dn : decide (n < 0) = true := by simpa using hneg
              have HM := Lib.hid (show (callsL S (l.take i) ++ callU S (lgA x) (us.take (q + 1))).map encFlow = (callsL S (l.take i) ++ callU S (lgA x) (us.take q)).map encFlow ++ [encFlow ⟨u, n⟩] from by rw [HSU.out, HOR.out, if_pos hneg, ← List.append_assoc, List.map_append]; rfl)
              have hzl : ((callsL S (l.take i) ++ callU S (lgA x) (us.take q)).map encFlow).length ≤ 200000 := by rw [List.length_map, List.length_append]; omega
              clear hneg
              generalize (callsL S (l.take i) ++ callU S (lgA x) (us.take q)).map encFlow = Z at *
              go_wp2_with (first | (go_at_call 9; (with_reducible refine (CE.out _ (HG.out.keep (by have h1 := HWR.out; (repeat' (first | (with_reducible exact Below.refl _ _) | (with_reducible assumption) | (with_reducible refine Below.alloc ?_ ?_ _) | (with_reducible refine Below.setCell ?_ ?_ _) | (with_reducible refine Below.drew ?_) | (with_reducible refine below_drewN ?_ _) | (with_reducible refine below_via ?_ (by with_reducible assumption) ?_) | omega | (simp; done) | (simp; omega))))) (HXK.out.keep (by have h1 := HWR.out; (repeat' (first | (with_reducible exact Below.refl _ _) | (with_reducible assumption) | (with_reducible refine Below.alloc ?_ ?_ _) | (with_reducible refine Below.setCell ?_ ?_ _) | (with_reducible refine Below.drew ?_) | (with_reducible refine below_drewN ?_ _) | (with_reducible refine below_via ?_ (by with_reducible assumption) ?_) | omega | (simp; done) | (simp; omega)))))).mono ?_); rintro e w8 ⟨rfl, hb8⟩; obtain ⟨fc8, fg8, hc8, hf8, hz8⟩ := bget hb8; (try simp at hz8)) | (at_builtin; refine wpList_appAt rfl _ _ _ rfl elFlow w1.heap.size _ _ rfl (Hown2.out.keep (by (repeat' (first | (with_reducible exact Below.refl _ _) | (with_reducible assumption) | (with_reducible refine Below.alloc ?_ ?_ _) | (with_reducible refine Below.setCell ?_ ?_ _) | (with_reducible refine Below.drew ?_) | (with_reducible refine below_drewN ?_ _) | (with_reducible refine below_via ?_ (by with_reducible assumption) ?_) | omega | (simp; done) | (simp; omega))))) ⟨_, 0, none⟩ 1 1 rfl [encFlow ⟨u, n⟩] rfl (rd_oneN (by simp)) (rowsFlow [⟨u, n⟩]) (by unfold maxLen; omega) (by omega) (by first | omega | (simp; done) | (simp; omega)) ?_; intro v9 w9 hown9 hb9 hg9 hat9; have HO9 := Lib.hid hown9; have HG9 := Lib.hid hg9; have HA9 := Lib.hid hat9; clear hown9 hg9 hat9; obtain ⟨fc9, fg9, hc9, hf9, hz9⟩ := bget hb9; (try simp at hz9)) | fail)
              have h08 : Below wr.heap.size wr w8 := by clear hb9; (repeat' (first | (with_reducible exact Below.refl _ _) | (with_reducible assumption) | (with_reducible refine Below.alloc ?_ ?_ _) | (with_reducible refine Below.setCell ?_ ?_ _) | (with_reducible refine Below.drew ?_) | (with_reducible refine below_drewN ?_ _) | (with_reducible refine below_via ?_ (by with_reducible assumption) ?_) | omega | (simp; done) | (simp; omega)))
              have HB8 := Lib.hid h08
              clear h08
              go_roundw
              case rel =>
                have h8a := (Below.refl w8.heap.size w8).alloc (Nat.le_refl _) (.cells #[.int .i64 u.acc, .int .i64 u.cli, .int .i64 n] 50)
                have h8b := HB8.out.trans (h8a.mono HB8.out.size)
                have hs8 := HB8.out.size
                refine ⟨q + 1, by omega, by go_num, HN0.out, by rw [HM.out]; exact HO9.out, ⟨fun e => ?_, fun b' o' hA e => ?_⟩, rd_grown (HRD.out.keep h8b) HG9.out (fun b' o' hA e => Hoa.out b' o' hA e), ⟨?_, ?_, ?_, ?_⟩, ?_, ?_⟩
                · rcases HA9.out with h | h
                  · exact Hob.out (h.symm.trans e)
                  · rw [h] at e
                    injection e with e
                    simp at e
                    omega
                · rcases HA9.out with h | h
                  · exact Hoa.out b' o' hA (h.symm.trans e)
                  · rw [h] at e
                    injection hA with hA
                    injection hA with e1 _ _
                    subst e1
                    injection e with e
                    simp at e
                    omega
                · exact (grown_at HG9.out (g := ga) (by simp; omega) (fun e => Hob.out e) 0).trans ((h8b.cell (p := ⟨ga, 0, none⟩) hgw).trans HZ.out.1)
                · exact (grown_at HG9.out (g := ga) (by simp; omega) (fun e => Hob.out e) 1).trans ((h8b.cell (p := ⟨ga, 1, none⟩) hgw).trans HZ.out.2.1)
                · exact (grown_at HG9.out (g := ga) (by simp; omega) (fun e => Hob.out e) 2).trans ((h8b.cell (p := ⟨ga, 2, none⟩) hgw).trans HZ.out.2.2.1)
                · exact (grown_at HG9.out (g := ga) (by simp; omega) (fun e => Hob.out e) 3).trans ((h8b.cell (p := ⟨ga, 3, none⟩) hgw).trans HZ.out.2.2.2)
                · have h1 := Hbl2.out
                  clear h8a h8b
                  (repeat' (first | (with_reducible exact Below.refl _ _) | (with_reducible assumption) | (with_reducible refine Below.alloc ?_ ?_ _) | (with_reducible refine Below.setCell ?_ ?_ _) | (with_reducible refine Below.drew ?_) | (with_reducible refine below_drewN ?_ _) | (with_reducible refine below_via ?_ (by with_reducible assumption) ?_) | omega | (simp; done) | (simp; omega)))
                · have := HG9.out.size
                  simp at this
                  omega
              case measure => simp [intOf]; omega
            · have dn : decide (n < 0) = false := by simpa using hneg
              have HM := Lib.hid (show (callsL S (l.take i) ++ callU S (lgA x) (us.take (q + 1))).map encFlow = (callsL S (l.take i) ++ callU S (lgA x) (us.take q)).map encFlow from by rw [HSU.out, HOR.out, if_neg hneg, List.append_nil])
              clear hneg
              go_wp2_with (first | (go_at_call 9; (with_reducible refine (CE.out _ (HG.out.keep (by have h1 := HWR.out; (repeat' (first | (with_reducible exact Below.refl _ _) | (with_reducible assumption) | (with_reducible refine Below.alloc ?_ ?_ _) | (with_reducible refine Below.setCell ?_ ?_ _) | (with_reducible refine Below.drew ?_) | (with_reducible refine below_drewN ?_ _) | (with_reducible refine below_via ?_ (by with_reducible assumption) ?_) | omega | (simp; done) | (simp; omega))))) (HXK.out.keep (by have h1 := HWR.out; (repeat' (first | (with_reducible exact Below.refl _ _) | (with_reducible assumption) | (with_reducible refine Below.alloc ?_ ?_ _) | (with_reducible refine Below.setCell ?_ ?_ _) | (with_reducible refine Below.drew ?_) | (with_reducible refine below_drewN ?_ _) | (with_reducible refine below_via ?_ (by with_reducible assumption) ?_) | omega | (simp; done) | (simp; omega)))))).mono ?_); rintro e w8 ⟨rfl, hb8⟩; obtain ⟨fc8, fg8, hc8, hf8, hz8⟩ := bget hb8; (try simp at hz8)) | fail)
              have HB8 := Lib.hid (show Below wr.heap.size wr w8 by (repeat' (first | (with_reducible exact Below.refl _ _) | (with_reducible assumption) | (with_reducible refine Below.alloc ?_ ?_ _) | (with_reducible refine Below.setCell ?_ ?_ _) | (with_reducible refine Below.drew ?_) | (with_reducible refine below_drewN ?_ _) | (with_reducible refine below_via ?_ (by with_reducible assumption) ?_) | omega | (simp; done) | (simp; omega))))
              go_roundw
              case rel => exact ⟨q + 1, by omega, by go_num, HN0.out, by rw [HM.out]; exact Hown2.out.keep HB8.out, ⟨Hob.out, Hoa.out⟩, HRD.out.keep HB8.out, ⟨(HB8.out.cell (p := ⟨ga, 0, none⟩) hgw).trans HZ.out.1, (HB8.out.cell (p := ⟨ga, 1, none⟩) hgw).trans HZ.out.2.1, (HB8.out.cell (p := ⟨ga, 2, none⟩) hgw).trans HZ.out.2.2.1, (HB8.out.cell (p := ⟨ga, 3, none⟩) hgw).trans HZ.out.2.2.2⟩, Hbl2.out.trans (HB8.out.mono hz2), Nat.le_trans hz52 HB8.out.size⟩
              case measure => simp [intOf]; omega
          · have hf : firstC (excC S (lgA x)) us = excC S (lgA x) u := by rw [HV2.out, HD2.out, hsp h0]
            have HC3 := Lib.hid (show callsC S l = excC S (lgA x) u from by rw [HV.out, HD.out, HSP.out (by rw [hf]; exact h0), hf])
            have HC4 := Lib.hid (show ¬ callsC S l = 0 from by rw [HC3.out]; exact h0)
            have n0 : (excC S (lgA x) u != 0) = true := by simpa using h0
            have n1 : (excC S (lgA x) u == 0) = false := by simpa using h0
            clear h0 hst hsp hf
            generalize excC S (lgA x) u = code at *
            generalize excN S (lgA x) u = n at *
            have CE := Lib.hid ce
            clear ce
            go_wp2_with (first | (go_at_call 9; (with_reducible refine (CE.out _ (HG.out.keep (by have h1 := HWR.out; (repeat' (first | (with_reducible exact Below.refl _ _) | (with_reducible assumption) | (with_reducible refine Below.alloc ?_ ?_ _) | (with_reducible refine Below.setCell ?_ ?_ _) | (with_reducible refine Below.drew ?_) | (with_reducible refine below_drewN ?_ _) | (with_reducible refine below_via ?_ (by with_reducible assumption) ?_) | omega | (simp; done) | (simp; omega))))) (HXK.out.keep (by have h1 := HWR.out; (repeat' (first | (with_reducible exact Below.refl _ _) | (with_reducible assumption) | (with_reducible refine Below.alloc ?_ ?_ _) | (with_reducible refine Below.setCell ?_ ?_ _) | (with_reducible refine Below.drew ?_) | (with_reducible refine below_drewN ?_ _) | (with_reducible refine below_via ?_ (by with_reducible assumption) ?_) | omega | (simp; done) | (simp; omega)))))).mono ?_); rintro e w8 ⟨rfl, hb8⟩; obtain ⟨fc8, fg8, hc8, hf8, hz8⟩ := bget hb8; (try simp at hz8)) | fail)
            go_ret2
            exact ⟨_, by rw [HC3.out]; rfl, by rw [HRR.out, if_neg HC4.out]; exact Own.nil _ _ _ _, by have h1 := HWR.out; (repeat' (first | (with_reducible exact Below.refl _ _) | (with_reducible assumption) | (with_reducible refine Below.alloc ?_ ?_ _) | (with_reducible refine Below.setCell ?_ ?_ _) | (with_reducible refine Below.drew ?_) | (with_reducible refine below_drewN ?_ _) | (with_reducible refine below_via ?_ (by with_reducible assumption) ?_) | omega | (simp; done) | (simp; omega)))⟩
        · have dq : decide ((q : Int) < (us.length : Int)) = false := by simpa using hlt2
          have hf : firstC (excC S (lgA x)) us = 0 := by rw [HV2.out, List.drop_eq_nil_of_le (by omega)]; rfl
          have HN0 := Lib.hid (show callsC S l = callsC S (l.drop (i + 1)) from by rw [HV.out, HD.out, HST.out hf])
          have HT := Lib.hid (List.take_of_length_le (show us.length ≤ q by omega))
          clear hf
          go_wp2_with fail
          go_roundw
          case rel => exact ⟨i + 1, by omega, by go_num, HN0.out, by rw [HSN.out, ← HT.out]; exact Hown2.out, Hbl2.out⟩
          case measure => simp [intOf]; omega
    · have dl : decide ((i : Int) < (l.length : Int)) = false := by simpa using hlt1
      have HZ := Lib.hid (show callsC S l = 0 from by rw [HV.out, List.drop_eq_nil_of_le (by omega)]; rfl)
      have HT := Lib.hid (List.take_of_length_le (show l.length ≤ i by omega))
      go_wp2_with fail
      go_ret2
      exact ⟨_, by rw [HZ.out]; rfl, by rw [HRR.out, if_pos HZ.out, ← HT.out]; exact Hown.out.mono (by omega), HWR.out⟩
end Go.Proofs.YtalgfpegaobacaaGreat

/- Layer 20's Insts: a table of instruments that may be, of any. -/
namespace Go.Proofs.YtalgfpegaobacaaGreat
open Go.RowKit
def short9 (x : InstV) : InstV := { x with moves := ⟨x.moves.A, x.moves.c, x.moves.val.take 9⟩ }
theorem good9 {w : World} {x : InstV} (h : GoodI w x) : GoodI w (short9 x) ∧ (short9 x).moves.val.length ≤ 9 := by
  refine ⟨?_, by simp [short9]; omega⟩
  unfold GoodI at *
  have := h.take 9
  rw [← List.map_take] at this
  exact this
def insts10 (l : List InstV) : List InstV := tabInstVN okV ((l.take 10).map short9) 10
theorem put_mem20 {ob : Bool} {t : List InstV} {m x : InstV} (h : x ∈ putInstVL ob t m) : x ∈ t ∨ x = m := by
  unfold putInstVL at h
  split at h
  · unfold insInstV at h
    rcases List.mem_append.1 h with h | h
    · exact .inl ((List.takeWhile_sublist _).subset h)
    · rcases List.mem_cons.1 h with h | h
      · exact .inr h
      · exact .inl ((List.dropWhile_sublist _).subset h)
  · cases h
theorem tab_mem20 (okf : InstV → Bool) (l : List InstV) : ∀ k, ∀ x ∈ tabInstVN okf l k, x ∈ l
  | 0, x, h => by simp [tabInstVN] at h
  | k + 1, x, h => by
    rcases Nat.lt_or_ge k l.length with hk | hk
    · rw [tabInstVN_succ hk] at h
      unfold stepInstV at h
      split at h
      · rcases put_mem20 h with h | h
        · exact tab_mem20 okf l k x h
        · subst h; exact List.getElem_mem hk
      · exact tab_mem20 okf l k x h
    · have e : tabInstVN okf l (k + 1) = tabInstVN okf l k := by unfold tabInstVN; rw [List.take_of_length_le (by omega), List.take_of_length_le hk]
      rw [e] at h
      exact tab_mem20 okf l k x h
theorem insts_good {w : World} {l : List InstV} (h : ∀ x ∈ l, GoodI w x) : ∀ x ∈ insts10 l, x.moves.val.length ≤ 9 ∧ GoodI w x := by
  intro x hx
  have h1 := tab_mem20 _ _ _ x hx
  obtain ⟨y, hy, rfl⟩ := List.mem_map.1 h1
  have := good9 (h y (List.mem_of_mem_take hy))
  exact ⟨this.2, this.1⟩
theorem insts_len (l : List InstV) : (insts10 l).length ≤ 10 := tabInstVN_len _ _ _
theorem row5 (a b c d : Int) (A : Option Addr) (n m : Nat) : ∀ r ∈ [[Value.int .i64 a, .int .i64 b, .int .i64 c, .int .i64 d, .slice A n m]], r.length = 5 ∧ ∀ u ∈ r, u.oneCell' = true := by
  intro r hr
  simp only [List.mem_singleton] at hr
  subst hr
  refine ⟨rfl, ?_⟩
  simp only [List.mem_cons, List.not_mem_nil, or_false, forall_eq_or_imp, forall_eq]
  exact ⟨rfl, rfl, rfl, rfl, rfl⟩
set_option maxRecDepth 100000 in
set_option maxHeartbeats 8000000 in
theorem law20Insts (l : List InstV) (A : Option Addr) (c : Nat) (w : World) (hl : l.length ≤ maxLen) (hr : Rd w A 5 (l.map encInstV)) (hg : ∀ x ∈ l, GoodI w x) :
    Calls Tryz.prog 15 #[.slice A l.length c] w fun e w' => ∃ v, e = .returned v ∧ Own w' w.heap.size 91 5 v ((insts10 l).map encInstV) ∧ Below w.heap.size w w' := by
  have HR := Lib.hid hr
  have HG := Lib.hid hg
  have hml : (l.length : Int) ≤ 9223372036854775807 := by unfold maxLen at hl; omega
  have htb := fun (W : World) (A : Option Addr) (c : Nat) (hb : Below w.heap.size w W) (hrs : Rs W 5 (((l.take 10).map short9).map encInstV) A c) => ref13Table okV ((l.take 10).map short9) A c W (by rw [List.length_map, List.length_take]; unfold maxLen; omega) hrs.rd (fun m hm W' hW' => ref13IsV m W' (by
    obtain ⟨y, hy, rfl⟩ := List.mem_map.1 hm
    have := (good9 (hg y (List.mem_of_mem_take hy))).2; omega) (by
    obtain ⟨y, hy, rfl⟩ := List.mem_map.1 hm
    exact (good9 (hg y (List.mem_of_mem_take hy))).1.keep (hb.trans (hW'.mono hb.size))))
  obtain ⟨fl, hfl⟩ : ∃ fl, fl = (l.take 10).map short9 := ⟨_, rfl⟩
  have hin : insts10 l = tabInstVN okV fl 10 := by unfold insts10; rw [hfl]
  rw [← hfl] at htb
  rw [hin]
  have HFL := Lib.hid hfl
  have HTB := Lib.hid htb
  clear hr hg hl htb hfl hin
  go_enter Tryz.func15, Tryz.ntmps15
  go_wp2_with fail
  go_loopw [3, 4] (fun v i wr => ∃ q : Nat, q ≤ l.length ∧ q ≤ 10 ∧ i = .int .i64 q ∧ Own wr w.heap.size 91 5 v (((l.take q).map short9).map encInstV) ∧ Below w.heap.size w wr) (fun _ i _ => l.length - (intOf i).toNat)
  case atStart => exact ⟨0, Nat.zero_le _, Nat.zero_le _, rfl, Own.nil _ _ _ _, by (repeat' (first | (with_reducible exact Below.refl _ _) | (with_reducible assumption) | (with_reducible refine Below.alloc ?_ ?_ _) | (with_reducible refine Below.setCell ?_ ?_ _) | (with_reducible refine Below.drew ?_) | (with_reducible refine below_drewN ?_ _) | (with_reducible refine below_via ?_ (by with_reducible assumption) ?_) | omega | (simp; done) | (simp; omega)))⟩
  case round =>
    obtain ⟨q, hq, hq10, rfl, hown, hbl⟩ := hrel
    have Hown := Lib.hid hown
    have Hbl := Lib.hid hbl
    have hz := hbl.size
    clear hown hbl
    by_cases hgo : q < l.length ∧ q < 10
    · obtain ⟨hlt, h10⟩ := hgo
      have hqi : (q : Int) < (l.length : Int) := by omega
      have dl : decide ((q : Int) < (l.length : Int)) = true := by simpa using hlt
      have d10 : decide ((q : Int) < 10) = true := by simp; omega
      have hx := HG.out l[q] (List.getElem_mem hlt)
      have hlen : ((l.take q).map short9).length ≤ 10 := by simp; omega
      obtain ⟨b, o, rfl, hb, hc⟩ := HR.out q (encInstV l[q]) (by simp [hlt])
      have e0 := (Hbl.out.cell (p := ⟨b, o + q * 5 + 0, none⟩) hb).trans (hc 0 _ rfl)
      have e1 := (Hbl.out.cell (p := ⟨b, o + q * 5 + 1, none⟩) hb).trans (hc 1 _ rfl)
      have e2 := (Hbl.out.cell (p := ⟨b, o + q * 5 + 2, none⟩) hb).trans (hc 2 _ rfl)
      have e3 := (Hbl.out.cell (p := ⟨b, o + q * 5 + 3, none⟩) hb).trans (hc 3 _ rfl)
      have e4 := (Hbl.out.cell (p := ⟨b, o + q * 5 + 4, none⟩) hb).trans (hc 4 _ rfl)
      simp only [Nat.add_zero] at e0
      clear hc
      have hcap := hx.cap
      have hroom := hx.room
      rw [List.length_map] at hcap
      unfold maxLen at hroom
      by_cases h9 : 9 < l[q].moves.val.length
      · have d9 : decide (9 < (l[q].moves.val.length : Int)) = true := by simp; omega
        obtain ⟨bm, om, hA, hbm, _⟩ := hx.rd 0 (encI (l[q].moves.val[0]'(by omega))) (by rw [List.getElem?_map, List.getElem?_eq_getElem (by omega)]; rfl)
        rw [hA] at e4
        have HS : Hid (((l.take (q + 1)).map short9).map encInstV = ((l.take q).map short9).map encInstV ++ [[.int .i64 l[q].id, .int .i64 l[q].mult, .int .i64 l[q].price, .int .i64 l[q].next, .slice (some ⟨bm, om, none⟩) 9 l[q].moves.c]]) := by
          unfold Hid
          rw [map_snoc hlt short9, List.map_append]
          congr 1
          simp [encInstV, short9, hA]
          omega
        clear hx hA
        have n9 : 9 ≤ l[q].moves.c := by omega
        have n9i : (9 : Int) ≤ (l[q].moves.c : Int) := by omega
        go_wp2_with (at_builtin; refine wpList_app rfl _ _ _ rfl elInstV w.heap.size _ _ rfl (Hown.out.keep (by (repeat' (first | (with_reducible exact Below.refl _ _) | (with_reducible assumption) | (with_reducible refine Below.alloc ?_ ?_ _) | (with_reducible refine Below.setCell ?_ ?_ _) | (with_reducible refine Below.drew ?_) | (with_reducible refine below_drewN ?_ _) | (with_reducible refine below_via ?_ (by with_reducible assumption) ?_) | omega | (simp; done) | (simp; omega))))) (some ⟨_, 0, none⟩) 1 1 rfl [[.int .i64 l[q].id, .int .i64 l[q].mult, .int .i64 l[q].price, .int .i64 l[q].next, .slice (some ⟨bm, om, none⟩) 9 l[q].moves.c]] rfl (fun h => by cases h) (rd_oneN (by simp)) (row5 _ _ _ _ _ _ _) (by unfold maxLen; simp; omega) (by simp; omega) (by first | omega | (simp; done) | (simp; omega)) ?_; intro v3 w3 hown3 hb3)
        go_roundw
        case rel => exact ⟨q + 1, by omega, by omega, by go_num, by rw [HS.out]; exact hown3, by have hbl := Hbl.out; (repeat' (first | (with_reducible exact Below.refl _ _) | (with_reducible assumption) | (with_reducible refine Below.alloc ?_ ?_ _) | (with_reducible refine Below.setCell ?_ ?_ _) | (with_reducible refine Below.drew ?_) | (with_reducible refine below_drewN ?_ _) | (with_reducible refine below_via ?_ (by with_reducible assumption) ?_) | omega | (simp; done) | (simp; omega)))⟩
        case measure => simp [intOf]; omega
      · have d9 : decide (9 < (l[q].moves.val.length : Int)) = false := by simp; omega
        have HS : Hid (((l.take (q + 1)).map short9).map encInstV = ((l.take q).map short9).map encInstV ++ [[.int .i64 l[q].id, .int .i64 l[q].mult, .int .i64 l[q].price, .int .i64 l[q].next, .slice l[q].moves.A l[q].moves.val.length l[q].moves.c]]) := by
          unfold Hid
          rw [map_snoc hlt short9, List.map_append]
          congr 1
          simp [encInstV, short9]
          omega
        clear hx
        go_wp2_with (at_builtin; refine wpList_app rfl _ _ _ rfl elInstV w.heap.size _ _ rfl (Hown.out.keep (by (repeat' (first | (with_reducible exact Below.refl _ _) | (with_reducible assumption) | (with_reducible refine Below.alloc ?_ ?_ _) | (with_reducible refine Below.setCell ?_ ?_ _) | (with_reducible refine Below.drew ?_) | (with_reducible refine below_drewN ?_ _) | (with_reducible refine below_via ?_ (by with_reducible assumption) ?_) | omega | (simp; done) | (simp; omega))))) (some ⟨_, 0, none⟩) 1 1 rfl [[.int .i64 l[q].id, .int .i64 l[q].mult, .int .i64 l[q].price, .int .i64 l[q].next, .slice l[q].moves.A l[q].moves.val.length l[q].moves.c]] rfl (fun h => by cases h) (rd_oneN (by simp)) (row5 _ _ _ _ _ _ _) (by unfold maxLen; simp; omega) (by simp; omega) (by first | omega | (simp; done) | (simp; omega)) ?_; intro v3 w3 hown3 hb3)
        go_roundw
        case rel => exact ⟨q + 1, by omega, by omega, by go_num, by rw [HS.out]; exact hown3, by have hbl := Hbl.out; (repeat' (first | (with_reducible exact Below.refl _ _) | (with_reducible assumption) | (with_reducible refine Below.alloc ?_ ?_ _) | (with_reducible refine Below.setCell ?_ ?_ _) | (with_reducible refine Below.drew ?_) | (with_reducible refine below_drewN ?_ _) | (with_reducible refine below_via ?_ (by with_reducible assumption) ?_) | omega | (simp; done) | (simp; omega)))⟩
        case measure => simp [intOf]; omega
    · have HT := Lib.hid (show (l.take q).map short9 = fl from by
        rw [HFL.out]
        congr 1
        rcases Nat.lt_or_ge q 10 with h | h
        · rw [List.take_of_length_le (by omega), List.take_of_length_le (by omega)]
        · rw [show q = 10 by omega])
      have hown := Hown.out
      rw [HT.out] at hown
      obtain ⟨A4, c4, rfl, hrs4, _⟩ := own_formInstV hown
      have HRS := Lib.hid hrs4
      clear hown hrs4
      by_cases hlt : q < l.length
      · have dl : decide ((q : Int) < (l.length : Int)) = true := by simpa using hlt
        have d10 : decide ((q : Int) < 10) = false := by simp; omega
        go_wp2_with (go_at_call 40; (with_reducible refine (HTB.out _ _ _ (by have hbl := Hbl.out; (repeat' (first | (with_reducible exact Below.refl _ _) | (with_reducible assumption) | (with_reducible refine Below.alloc ?_ ?_ _) | (with_reducible refine Below.setCell ?_ ?_ _) | (with_reducible refine Below.drew ?_) | (with_reducible refine below_drewN ?_ _) | (with_reducible refine below_via ?_ (by with_reducible assumption) ?_) | omega | (simp; done) | (simp; omega)))) (by have h1 := HRS.out; exact h1)).mono ?_); rintro e w5 ⟨v5, rfl, hown5, hb5⟩; obtain ⟨fc5, fg5, hc5, hf5, hz5⟩ := bget hb5; (try simp at hz5))
        go_ret
        exact ⟨_, rfl, hown5.mono (by omega), by have hbl := Hbl.out; (repeat' (first | (with_reducible exact Below.refl _ _) | (with_reducible assumption) | (with_reducible refine Below.alloc ?_ ?_ _) | (with_reducible refine Below.setCell ?_ ?_ _) | (with_reducible refine Below.drew ?_) | (with_reducible refine below_drewN ?_ _) | (with_reducible refine below_via ?_ (by with_reducible assumption) ?_) | omega | (simp; done) | (simp; omega)))⟩
      · have dl : decide ((q : Int) < (l.length : Int)) = false := by simpa using hlt
        go_wp2_with (go_at_call 40; (with_reducible refine (HTB.out _ _ _ (by have hbl := Hbl.out; (repeat' (first | (with_reducible exact Below.refl _ _) | (with_reducible assumption) | (with_reducible refine Below.alloc ?_ ?_ _) | (with_reducible refine Below.setCell ?_ ?_ _) | (with_reducible refine Below.drew ?_) | (with_reducible refine below_drewN ?_ _) | (with_reducible refine below_via ?_ (by with_reducible assumption) ?_) | omega | (simp; done) | (simp; omega)))) (by have h1 := HRS.out; exact h1)).mono ?_); rintro e w5 ⟨v5, rfl, hown5, hb5⟩; obtain ⟨fc5, fg5, hc5, hf5, hz5⟩ := bget hb5; (try simp at hz5))
        go_ret
        exact ⟨_, rfl, hown5.mono (by omega), by have hbl := Hbl.out; (repeat' (first | (with_reducible exact Below.refl _ _) | (with_reducible assumption) | (with_reducible refine Below.alloc ?_ ?_ _) | (with_reducible refine Below.setCell ?_ ?_ _) | (with_reducible refine Below.drew ?_) | (with_reducible refine below_drewN ?_ _) | (with_reducible refine below_via ?_ (by with_reducible assumption) ?_) | omega | (simp; done) | (simp; omega)))⟩
end Go.Proofs.YtalgfpegaobacaaGreat

/- Tables of assets hold such as may be. No program in sight. -/
namespace Go.Proofs.YtalgfpegaobacaaGreat
open Go.RowKit
theorem put_memAs {ob : Bool} {t : List Asset} {m x : Asset} (h : x ∈ putAssetL ob t m) : x ∈ t ∨ (x = m ∧ ob = true) := by
  unfold putAssetL at h
  split at h
  · rename_i hc
    unfold insAsset at h
    rcases List.mem_append.1 h with h | h
    · exact .inl (List.takeWhile_prefix _ |>.subset h)
    · rcases List.mem_cons.1 h with h | h
      · exact .inr ⟨h, hc.1⟩
      · exact .inl ((List.dropWhile_suffix _).subset h)
  · simp at h
theorem tab_okAs (l : List Asset) : ∀ k, ∀ x ∈ tabAssetN (fun x => decide (okA x)) l k, okA x := by
  intro k
  induction k with
  | zero => intro x hx; simp [tabAssetN] at hx
  | succ k ih =>
    intro x hx
    rcases Nat.lt_or_ge k l.length with h | h
    · rw [tabAssetN_succ h] at hx
      unfold stepAsset at hx
      split at hx
      · rcases put_memAs hx with h1 | ⟨h1, h2⟩
        · exact ih x h1
        · rw [h1]; exact of_decide_eq_true h2
      · exact ih x hx
    · rw [show tabAssetN (fun x => decide (okA x)) l (k + 1) = tabAssetN (fun x => decide (okA x)) l k from by unfold tabAssetN; rw [List.take_of_length_le (by omega), List.take_of_length_le h]] at hx
      exact ih x hx
end Go.Proofs.YtalgfpegaobacaaGreat
