/- Layer 15's laws: AcctApart's walk. -/
import Derived.Test.YtemhhojenocddaaAcctL4
namespace Go.Proofs.Ytemhhojenocddaa
open Go.RowKit
theorem acctHasB (x : AcctV) (u : Un) (v : Bool) (h : hasA (lgA x) u = v) (w : World) (hl : x.clients.val.length ≤ 1000000) (hg : GoodA w x) :
    Calls Try.prog 16 #[.agg #[.int .i64 x.id, .int .i64 x.member, .int .i64 x.kind, .slice x.clients.A x.clients.val.length x.clients.c], .agg #[.int .i64 u.acc, .int .i64 u.cli]] w fun e w' => e = .returned (.bool v) ∧ Below w.heap.size w w' := by
  rw [← h]; exact acctHasV x u w hl hg
theorem acctCheckB (x : AcctV) (v : Int) (h : codeA (lgA x) = v) (w : World) (hl : x.clients.val.length ≤ 1000000) (hg : GoodA w x) :
    Calls Try.prog 11 #[.agg #[.int .i64 x.id, .int .i64 x.member, .int .i64 x.kind, .slice x.clients.A x.clients.val.length x.clients.c]] w fun e w' => e = .returned (.int .i64 v) ∧ Below w.heap.size w w' := by
  rw [← h]; exact acctCheckV x w (by omega) hg
theorem acctUnitsB (x : AcctV) (n : Nat) (h : (unitsA (lgA x)).length = n) (w : World) (hl : x.clients.val.length ≤ 1000000) (hg : GoodA w x) :
    Calls Try.prog 14 #[.agg #[.int .i64 x.id, .int .i64 x.member, .int .i64 x.kind, .slice x.clients.A x.clients.val.length x.clients.c]] w fun e w' => ∃ A c, e = .returned (.slice A n c) ∧ Below w.heap.size w w' := by
  rw [← h]; exact (acctUnitsV x w (by omega) hg).mono fun e w' ⟨A, c, h1, _, h2⟩ => ⟨A, c, h1, h2⟩
theorem pred_facts {k : Nat} (h : 1 ≤ k) (hk : k ≤ 1000000) : (0 : Int) ≤ (k : Int) - 1 ∧ ((k : Int) - 1).toNat = k - 1 ∧ IntKind.i64.wrap ((k : Int) - 1) = (k : Int) - 1 :=
  ⟨by omega, by omega, IntWalk.i64_in _ (by omega)⟩
theorem acctLessB (a b : Un) (v : Bool) (h : lessU a b = v) (w : World) :
    Calls Try.prog 24 #[.agg #[.int .i64 a.acc, .int .i64 a.cli], .agg #[.int .i64 b.acc, .int .i64 b.cli]] w fun e w' => e = .returned (.bool v) ∧ Below w.heap.size w w' := by
  rw [← h]; exact acctLess a b w
theorem bind_code {w : World} {x : Acct} {t : Int} {args : Array Value} (hc : Calls Try.prog 18 args w (BindPost w x t)) : Calls Try.prog 18 args w fun e w' => ∃ y : AcctV, e = .returned (.tuple #[.agg #[.int .i64 y.id, .int .i64 y.member, .int .i64 y.kind, .slice y.clients.A y.clients.val.length y.clients.c], .int .i64 (bindC x t)]) ∧ Below w.heap.size w w' :=
  hc.mono fun _ _ ⟨y, h1, _, _, h2⟩ => ⟨y, h1, h2⟩
theorem bind_zero {w : World} {x : Acct} {t : Int} {args : Array Value} (h : bindC x t = 0) (hc : Calls Try.prog 18 args w (BindPost w x t)) : Calls Try.prog 18 args w fun e w' => ∃ y : AcctV, e = .returned (.tuple #[.agg #[.int .i64 y.id, .int .i64 y.member, .int .i64 y.kind, .slice y.clients.A y.clients.val.length y.clients.c], .int .i64 0]) ∧ lgA y = bindA x t ∧ GoodA w' y ∧ Below w.heap.size w w' := by
  unfold BindPost at hc
  rw [h] at hc
  exact hc
set_option maxRecDepth 100000 in
set_option maxHeartbeats 32000000 in
theorem acctApartAt (l0 fl t : List AcctV) (cl : Int) (A : Option Addr) (c : Nat) (w : World)
    (c21 : ∀ W, Below w.heap.size w W → Calls Try.prog 23 #[.slice A l0.length c] W fun e w' => ∃ v, e = .returned v ∧ Own w' W.heap.size 24 4 v (fl.map encAcctV) ∧ Below W.heap.size W w')
    (c22 : ∀ W A c, Rs W 4 (fl.map encAcctV) A c → Below w.heap.size w W → Calls Try.prog 22 #[.slice A fl.length c] W fun e w' => ∃ v, e = .returned v ∧ Own w' W.heap.size 24 4 v (t.map encAcctV) ∧ Below W.heap.size W w')
    (htl : t.length ≤ 20) (htg : ∀ x ∈ t, GoodA w x ∧ x.clients.val.length ≤ 20) (hsort : (flatU t).Pairwise (fun a b => lessU a b = true)) :
    Calls Try.prog 4 #[.slice A l0.length c, .int .i64 cl] w fun e w' => e = .returned (.bool true) ∧ Below w.heap.size w w' := by
  have C21 := Lib.hid c21
  have C22 := Lib.hid c22
  have HTG := Lib.hid htg
  have HSO := Lib.hid hsort
  have HFL := Lib.hid (flatU_len (fun x hx => (htg x hx).2))
  clear c21 c22 htg hsort
  go_enter Try.func4, Try.ntmps4
  go_wp2_with (first | (go_at_call 23; (with_reducible refine (C21.out _ (by (repeat' (first | (with_reducible exact Below.refl _ _) | (with_reducible assumption) | (with_reducible refine Below.alloc ?_ ?_ _) | (with_reducible refine Below.setCell ?_ ?_ _) | (with_reducible refine Below.drew ?_) | (with_reducible refine below_drewN ?_ _) | (with_reducible refine below_via ?_ (by with_reducible assumption) ?_) | omega | (simp; done) | (simp; omega))))).mono ?_); rintro e w2 ⟨v2, rfl, hown2, hb2⟩; obtain ⟨A2, c2, rfl, hrs2, _⟩ := own_formAcctV hown2; have H2 := Lib.hid hrs2; clear hown2 hrs2; obtain ⟨fc2, fg2, hc2, hf2, hz2⟩ := bget hb2; (try simp at hz2)) | (go_at_call 22; (with_reducible refine (C22.out _ _ _ (H2.out.keep (by (repeat' (first | (with_reducible exact Below.refl _ _) | (with_reducible assumption) | (with_reducible refine Below.alloc ?_ ?_ _) | (with_reducible refine Below.setCell ?_ ?_ _) | (with_reducible refine Below.drew ?_) | (with_reducible refine below_drewN ?_ _) | (with_reducible refine below_via ?_ (by with_reducible assumption) ?_) | omega | (simp; done) | (simp; omega))))) (by (repeat' (first | (with_reducible exact Below.refl _ _) | (with_reducible assumption) | (with_reducible refine Below.alloc ?_ ?_ _) | (with_reducible refine Below.setCell ?_ ?_ _) | (with_reducible refine Below.drew ?_) | (with_reducible refine below_drewN ?_ _) | (with_reducible refine below_via ?_ (by with_reducible assumption) ?_) | omega | (simp; done) | (simp; omega))))).mono ?_); rintro e w3 ⟨v3, rfl, hown3, hb3⟩; obtain ⟨A3, c3, rfl, hrs3, hfo3⟩ := own_formAcctV hown3; have H3 := Lib.hid hrs3; clear hown3 hrs3 hfo3; obtain ⟨fc3, fg3, hc3, hf3, hz3⟩ := bget hb3; (try simp at hz3)) | fail)
  have hb30 : Below w.heap.size w w3 := by (repeat' (first | (with_reducible exact Below.refl _ _) | (with_reducible assumption) | (with_reducible refine Below.alloc ?_ ?_ _) | (with_reducible refine Below.setCell ?_ ?_ _) | (with_reducible refine Below.drew ?_) | (with_reducible refine below_drewN ?_ _) | (with_reducible refine below_via ?_ (by with_reducible assumption) ?_) | omega | (simp; done) | (simp; omega)))
  have Hb30 := Lib.hid hb30
  clear hb30 hb2 hc2 hf2 hb3 hc3 hf3
  go_loopw [5, 6] (fun v i wr => ∃ q : Nat, q ≤ t.length ∧ i = .int .i64 q ∧ Own wr w3.heap.size 26 2 v ((flatU (t.take q)).map encUn) ∧ Below w3.heap.size w3 wr) (fun _ i _ => t.length - (intOf i).toNat)
  case atStart => exact ⟨0, Nat.zero_le _, rfl, Own.nil _ _ _ _, Below.refl _ _⟩
  case round =>
    obtain ⟨q, hq, rfl, hown, hbl⟩ := hrel
    have Hown := Lib.hid hown
    have Hbl := Lib.hid hbl
    have hz := hbl.size
    clear hown hbl
    by_cases hlt : q < t.length
    · have hqi : (q : Int) < (t.length : Int) := by omega
      have dl : decide ((q : Int) < (t.length : Int)) = true := by simpa using hlt
      obtain ⟨b, o, rfl, hb, hc⟩ := H3.out.rd q (encAcctV t[q]) (by simp [hlt])
      have e0 := (Hbl.out.cell (p := ⟨b, o + q * 4 + 0, none⟩) hb).trans (hc 0 _ rfl)
      have e1 := (Hbl.out.cell (p := ⟨b, o + q * 4 + 1, none⟩) hb).trans (hc 1 _ rfl)
      have e2 := (Hbl.out.cell (p := ⟨b, o + q * 4 + 2, none⟩) hb).trans (hc 2 _ rfl)
      have e3 := (Hbl.out.cell (p := ⟨b, o + q * 4 + 3, none⟩) hb).trans (hc 3 _ rfl)
      simp only [Nat.add_zero] at e0
      clear hc
      have hbw : b < wr.heap.size := by omega
      have hx := HTG.out t[q] (List.getElem_mem hlt)
      have hg3 := hx.1.keep Hb30.out
      have HS := Lib.hid (flatU_snoc hlt)
      have hfl := HFL.out q
      have hul := units_len (lgA t[q])
      obtain ⟨us, hus⟩ : ∃ us, us = unitsA (lgA t[q]) := ⟨_, rfl⟩
      rw [← hus] at HS hul
      have hul2 : us.length ≤ 21 := Nat.le_trans hul (by have := hx.2; show t[q].clients.val.length + 1 ≤ 21; omega)
      have cu := fun W (h : Below w3.heap.size w3 W) => acctUnitsV t[q] W (by have := hx.2; omega) (hg3.keep h)
      rw [← hus] at cu
      have CU := Lib.hid cu
      have CUX := Lib.hid (fun W (h : Below w3.heap.size w3 W) => acctUnitsB t[q] us.length (by rw [hus]) W (by have := hx.2; omega) (hg3.keep h))
      have CB := Lib.hid (fun W (h : Below w3.heap.size w3 W) => acctBind t[q] cl W (by have := hx.2; omega) (hg3.keep h))
      have hbl2 := bindA_len (lgA t[q]) cl
      have hbl3 : (bindA (lgA t[q]) cl).clients.length ≤ 21 := Nat.le_trans hbl2 (by have := hx.2; show t[q].clients.val.length + 1 ≤ 21; omega)
      have HB3 := Lib.hid hbl3
      have hfb : (flatU (t.take q)).length ≤ 420 := Nat.le_trans hfl (by omega)
      generalize flatU (t.take q) = fu at *
      by_cases hbc : bindC (lgA t[q]) cl = 0
      · have BO := bound_of hbc
        have CHX := Lib.hid (fun W (h : Below w3.heap.size w3 W) => acctHasB t[q] ⟨t[q].id, cl⟩ false BO.hadnt W (by have := hx.2; omega) (hg3.keep h))
        have BH := Lib.hid BO.has
        have BK := Lib.hid BO.ok
        have BL := Lib.hid (show (unitsA (bindA (lgA t[q]) cl)).length = us.length + 1 from by rw [hus]; exact BO.len)
        clear hx hg3 hul hbl2 hbl3 hfl cu BO hus
        have CB := Lib.hid (fun W (h : Below w3.heap.size w3 W) => bind_zero hbc (CB.out W h))
        clear hbc
        go_wp2_with (first | (go_at_call 14; (with_reducible refine (CU.out _ (by have hbl := Hbl.out; (repeat' (first | (with_reducible exact Below.refl _ _) | (with_reducible assumption) | (with_reducible refine Below.alloc ?_ ?_ _) | (with_reducible refine Below.setCell ?_ ?_ _) | (with_reducible refine Below.drew ?_) | (with_reducible refine below_drewN ?_ _) | (with_reducible refine below_via ?_ (by with_reducible assumption) ?_) | omega | (simp; done) | (simp; omega))))).mono ?_); rintro e w4 ⟨A4, c4, rfl, hr4, hb4⟩; have HU4 := Lib.hid hr4; clear hr4; obtain ⟨fc4, fg4, hc4, hf4, hz4⟩ := bget hb4; (try simp at hz4)) | (at_builtin; refine wpList_app rfl _ _ _ rfl elUn w3.heap.size _ _ rfl (Hown.out.keep (by (repeat' (first | (with_reducible exact Below.refl _ _) | (with_reducible assumption) | (with_reducible refine Below.alloc ?_ ?_ _) | (with_reducible refine Below.setCell ?_ ?_ _) | (with_reducible refine Below.drew ?_) | (with_reducible refine below_drewN ?_ _) | (with_reducible refine below_via ?_ (by with_reducible assumption) ?_) | omega | (simp; done) | (simp; omega))))) A4 us.length c4 rfl (us.map encUn) (by simp) HU4.out.nil HU4.out.rd (rowsUn _) (by unfold maxLen; simp; omega) (by simp; omega) (by first | omega | (simp; done) | (simp; omega)) ?_; intro v5 w5 hown5 hb5; have HO5 := Lib.hid hown5; clear hown5; obtain ⟨fc5, fg5, hc5, hf5, hz5⟩ := bget hb5; (try simp at hz5)) | (go_at_call 18; (with_reducible refine (CB.out _ (by have hbl := Hbl.out; (repeat' (first | (with_reducible exact Below.refl _ _) | (with_reducible assumption) | (with_reducible refine Below.alloc ?_ ?_ _) | (with_reducible refine Below.setCell ?_ ?_ _) | (with_reducible refine Below.drew ?_) | (with_reducible refine below_drewN ?_ _) | (with_reducible refine below_via ?_ (by with_reducible assumption) ?_) | omega | (simp; done) | (simp; omega))))).mono ?_); rintro e w6 ⟨y, rfl, hly, hgy, hb6⟩; have hyl : y.clients.val.length ≤ 21 := (by have h1 := HB3.out; rw [← hly] at h1; exact h1); have CHY := Lib.hid (fun W (h : Below w6.heap.size w6 W) => acctHasB y ⟨t[q].id, cl⟩ true (by rw [hly]; exact BH.out) W (by omega) (hgy.keep h)); have CKY := Lib.hid (fun W (h : Below w6.heap.size w6 W) => acctCheckB y 0 (by rw [hly]; exact BK.out) W (by omega) (hgy.keep h)); have CUY := Lib.hid (fun W (h : Below w6.heap.size w6 W) => acctUnitsB y (us.length + 1) (by rw [hly]; exact BL.out) W (by omega) (hgy.keep h)); clear hly hgy; obtain ⟨fc6, fg6, hc6, hf6, hz6⟩ := bget hb6; (try simp at hz6)) | fail)
        have wk : IntKind.i64.wrap ((us.length : Int) + 1) = (us.length : Int) + 1 := IntWalk.i64_in _ (by omega)
        go_region_held3 (fun w' => (w'.cell? ⟨w6.heap.size, 0, none⟩ = some (.int .i64 y.id) ∧ w'.cell? ⟨w6.heap.size, 1, none⟩ = some (.int .i64 y.member) ∧ w'.cell? ⟨w6.heap.size, 2, none⟩ = some (.int .i64 y.kind) ∧ w'.cell? ⟨w6.heap.size, 3, none⟩ = some (.slice y.clients.A y.clients.val.length y.clients.c)) ∧ (w'.cell? ⟨w6.heap.size + 1, 0, none⟩ = some (.int .i64 t[q].id) ∧ w'.cell? ⟨w6.heap.size + 1, 1, none⟩ = some (.int .i64 cl)) ∧ w'.cell? ⟨b, o + q * 4, none⟩ = some (.int .i64 t[q].id) ∧ w'.cell? ⟨b, o + q * 4 + 1, none⟩ = some (.int .i64 t[q].member) ∧ w'.cell? ⟨b, o + q * 4 + 2, none⟩ = some (.int .i64 t[q].kind) ∧ w'.cell? ⟨b, o + q * 4 + 3, none⟩ = some (.slice t[q].clients.A t[q].clients.val.length t[q].clients.c)) (first | (simp [go_sem]; done) | (repeat' (first | (with_reducible assumption) | (with_reducible refine And.intro ?_ ?_) | (with_reducible refine cell_drew ?_) | (with_reducible refine cell_via (by with_reducible assumption) ?_ ?_) | (simp [*]; done) | (simp [go_sem]; done) | (with_reducible refine cell_alloc ?_ ?_) | (with_reducible refine cell_set_far ?_ ?_) | omega | (simp; omega)))) (first | (go_at_call 16; (with_reducible refine (CHY.out _ (by (repeat' (first | (with_reducible exact Below.refl _ _) | (with_reducible assumption) | (with_reducible refine Below.alloc ?_ ?_ _) | (with_reducible refine Below.setCell ?_ ?_ _) | (with_reducible refine Below.drew ?_) | (with_reducible refine below_drewN ?_ _) | (with_reducible refine below_via ?_ (by with_reducible assumption) ?_) | omega | (simp; done) | (simp; omega))))).mono ?_); rintro e w7 ⟨rfl, hb7⟩; obtain ⟨fc7, fg7, hc7, hf7, hz7⟩ := bget hb7; (try simp at hz7)) | (go_at_call 16; (with_reducible refine (CHX.out _ (by have hbl := Hbl.out; (repeat' (first | (with_reducible exact Below.refl _ _) | (with_reducible assumption) | (with_reducible refine Below.alloc ?_ ?_ _) | (with_reducible refine Below.setCell ?_ ?_ _) | (with_reducible refine Below.drew ?_) | (with_reducible refine below_drewN ?_ _) | (with_reducible refine below_via ?_ (by with_reducible assumption) ?_) | omega | (simp; done) | (simp; omega))))).mono ?_); rintro e w8 ⟨rfl, hb8⟩; obtain ⟨fc8, fg8, hc8, hf8, hz8⟩ := bget hb8; (try simp at hz8)) | (go_at_call 11; (with_reducible refine (CKY.out _ (by (repeat' (first | (with_reducible exact Below.refl _ _) | (with_reducible assumption) | (with_reducible refine Below.alloc ?_ ?_ _) | (with_reducible refine Below.setCell ?_ ?_ _) | (with_reducible refine Below.drew ?_) | (with_reducible refine below_drewN ?_ _) | (with_reducible refine below_via ?_ (by with_reducible assumption) ?_) | omega | (simp; done) | (simp; omega))))).mono ?_); rintro e w9 ⟨rfl, hb9⟩; obtain ⟨fc9, fg9, hc9, hf9, hz9⟩ := bget hb9; (try simp at hz9)) | (go_at_call 14; (with_reducible refine (CUY.out _ (by (repeat' (first | (with_reducible exact Below.refl _ _) | (with_reducible assumption) | (with_reducible refine Below.alloc ?_ ?_ _) | (with_reducible refine Below.setCell ?_ ?_ _) | (with_reducible refine Below.drew ?_) | (with_reducible refine below_drewN ?_ _) | (with_reducible refine below_via ?_ (by with_reducible assumption) ?_) | omega | (simp; done) | (simp; omega))))).mono ?_); rintro e w10 ⟨A10, c10, rfl, hb10⟩; obtain ⟨fc10, fg10, hc10, hf10, hz10⟩ := bget hb10; (try simp at hz10)) | (go_at_call 14; (with_reducible refine (CUX.out _ (by have hbl := Hbl.out; (repeat' (first | (with_reducible exact Below.refl _ _) | (with_reducible assumption) | (with_reducible refine Below.alloc ?_ ?_ _) | (with_reducible refine Below.setCell ?_ ?_ _) | (with_reducible refine Below.drew ?_) | (with_reducible refine below_drewN ?_ _) | (with_reducible refine below_via ?_ (by with_reducible assumption) ?_) | omega | (simp; done) | (simp; omega))))).mono ?_); rintro e w11 ⟨A11, c11, rfl, hb11⟩; obtain ⟨fc11, fg11, hc11, hf11, hz11⟩ := bget hb11; (try simp at hz11)) | fail)
        all_goals
          clear wk
          go_wp2_with fail
          go_roundw
          case rel => exact ⟨q + 1, by omega, by go_num, by rw [HS.out, List.map_append]; exact HO5.out.keep (by (repeat' (first | (with_reducible exact Below.refl _ _) | (with_reducible assumption) | (with_reducible refine Below.alloc ?_ ?_ _) | (with_reducible refine Below.setCell ?_ ?_ _) | (with_reducible refine Below.drew ?_) | (with_reducible refine below_drewN ?_ _) | (with_reducible refine below_via ?_ (by with_reducible assumption) ?_) | omega | (simp; done) | (simp; omega)))), by have hbl := Hbl.out; (repeat' (first | (with_reducible exact Below.refl _ _) | (with_reducible assumption) | (with_reducible refine Below.alloc ?_ ?_ _) | (with_reducible refine Below.setCell ?_ ?_ _) | (with_reducible refine Below.drew ?_) | (with_reducible refine below_drewN ?_ _) | (with_reducible refine below_via ?_ (by with_reducible assumption) ?_) | omega | (simp; done) | (simp; omega)))⟩
          case measure => simp [intOf]; omega
      · have bq : (bindC (lgA t[q]) cl == 0) = false := by simpa using hbc
        have HLY0 := Lib.hid hus
        clear hx hg3 hul hbl2 hbl3 hfl cu hus
        have CB := Lib.hid (fun W (h : Below w3.heap.size w3 W) => bind_code (CB.out W h))
        generalize bindC (lgA t[q]) cl = bc at *
        go_wp2_with (first | (go_at_call 14; (with_reducible refine (CU.out _ (by have hbl := Hbl.out; (repeat' (first | (with_reducible exact Below.refl _ _) | (with_reducible assumption) | (with_reducible refine Below.alloc ?_ ?_ _) | (with_reducible refine Below.setCell ?_ ?_ _) | (with_reducible refine Below.drew ?_) | (with_reducible refine below_drewN ?_ _) | (with_reducible refine below_via ?_ (by with_reducible assumption) ?_) | omega | (simp; done) | (simp; omega))))).mono ?_); rintro e w4 ⟨A4, c4, rfl, hr4, hb4⟩; have HU4 := Lib.hid hr4; clear hr4; obtain ⟨fc4, fg4, hc4, hf4, hz4⟩ := bget hb4; (try simp at hz4)) | (at_builtin; refine wpList_app rfl _ _ _ rfl elUn w3.heap.size _ _ rfl (Hown.out.keep (by (repeat' (first | (with_reducible exact Below.refl _ _) | (with_reducible assumption) | (with_reducible refine Below.alloc ?_ ?_ _) | (with_reducible refine Below.setCell ?_ ?_ _) | (with_reducible refine Below.drew ?_) | (with_reducible refine below_drewN ?_ _) | (with_reducible refine below_via ?_ (by with_reducible assumption) ?_) | omega | (simp; done) | (simp; omega))))) A4 us.length c4 rfl (us.map encUn) (by simp) HU4.out.nil HU4.out.rd (rowsUn _) (by unfold maxLen; simp; omega) (by simp; omega) (by first | omega | (simp; done) | (simp; omega)) ?_; intro v5 w5 hown5 hb5; have HO5 := Lib.hid hown5; clear hown5; obtain ⟨fc5, fg5, hc5, hf5, hz5⟩ := bget hb5; (try simp at hz5)) | (go_at_call 18; (with_reducible refine (CB.out _ (by have hbl := Hbl.out; (repeat' (first | (with_reducible exact Below.refl _ _) | (with_reducible assumption) | (with_reducible refine Below.alloc ?_ ?_ _) | (with_reducible refine Below.setCell ?_ ?_ _) | (with_reducible refine Below.drew ?_) | (with_reducible refine below_drewN ?_ _) | (with_reducible refine below_via ?_ (by with_reducible assumption) ?_) | omega | (simp; done) | (simp; omega))))).mono ?_); rintro e w6 ⟨y, rfl, hb6⟩; obtain ⟨fc6, fg6, hc6, hf6, hz6⟩ := bget hb6; (try simp at hz6)) | fail)
        go_quiet (fail)
        go_wp2_with fail
        go_roundw
        case rel => exact ⟨q + 1, by omega, by go_num, by rw [HS.out, List.map_append]; exact HO5.out.keep (by (repeat' (first | (with_reducible exact Below.refl _ _) | (with_reducible assumption) | (with_reducible refine Below.alloc ?_ ?_ _) | (with_reducible refine Below.setCell ?_ ?_ _) | (with_reducible refine Below.drew ?_) | (with_reducible refine below_drewN ?_ _) | (with_reducible refine below_via ?_ (by with_reducible assumption) ?_) | omega | (simp; done) | (simp; omega)))), by have hbl := Hbl.out; (repeat' (first | (with_reducible exact Below.refl _ _) | (with_reducible assumption) | (with_reducible refine Below.alloc ?_ ?_ _) | (with_reducible refine Below.setCell ?_ ?_ _) | (with_reducible refine Below.drew ?_) | (with_reducible refine below_drewN ?_ _) | (with_reducible refine below_via ?_ (by with_reducible assumption) ?_) | omega | (simp; done) | (simp; omega)))⟩
        case measure => simp [intOf]; omega
    · have dl : decide ((q : Int) < (t.length : Int)) = false := by simpa using hlt
      have hT : t.take q = t := List.take_of_length_le (by omega)
      have hown := Hown.out
      rw [hT] at hown
      have hlen := HFL.out q
      rw [hT] at hlen
      have hln : (flatU t).length ≤ 420 := Nat.le_trans hlen (by omega)
      obtain ⟨A9, c9, hv9, hrs9, _⟩ := hown.rs
      rw [List.length_map] at hv9
      subst hv9
      have HRS := Lib.hid hrs9.rd
      have hb0 : Below w.heap.size w wr := Hb30.out.trans (Hbl.out.mono Hb30.out.size)
      have Hb0 := Lib.hid hb0
      clear hT hown hlen hrs9 hb0
      generalize flatU t = L at *
      go_wp2_with fail
      go_loopw [10] (fun i w' => ∃ k : Nat, 1 ≤ k ∧ (k ≤ L.length ∨ k = 1) ∧ i = .int .i64 k ∧ Below wr.heap.size wr w') (fun i _ => L.length - (intOf i).toNat)
      case atStart => exact ⟨1, Nat.le_refl _, .inr rfl, rfl, Below.refl _ _⟩
      case round =>
        obtain ⟨k, hk1, hk, rfl, hbl2⟩ := hrel
        have Hbl2 := Lib.hid hbl2
        have hz2 := hbl2.size
        clear hbl2
        by_cases hlt2 : k < L.length
        · have kl : (k : Int) < (L.length : Int) := by omega
          have dl2 : decide ((k : Int) < (L.length : Int)) = true := by simpa using hlt2
          have hk0 : k - 1 < L.length := by omega
          have hs := List.pairwise_iff_getElem.1 HSO.out (k - 1) k hk0 hlt2 (by omega)
          have CL1 := Lib.hid (fun W => acctLessB L[k - 1] L[k] true hs W)
          have CL2 := Lib.hid (fun W => acctLessB L[k] L[k - 1] false (lessU_asymm hs) W)
          obtain ⟨b, o, rfl, hb, hc⟩ := HRS.out k (encUn L[k]) (by simp [hlt2])
          obtain ⟨b1, o1, q1, hb1, hc1⟩ := HRS.out (k - 1) (encUn L[k - 1]) (by simp [hk0])
          injection q1 with q1
          injection q1 with q1 q2 _
          subst q1 q2
          have e0 := (Hbl2.out.cell (p := ⟨b, o + k * 2 + 0, none⟩) hb).trans (hc 0 _ rfl)
          have e1 := (Hbl2.out.cell (p := ⟨b, o + k * 2 + 1, none⟩) hb).trans (hc 1 _ rfl)
          have f0 := (Hbl2.out.cell (p := ⟨b, o + (k - 1) * 2 + 0, none⟩) hb).trans (hc1 0 _ rfl)
          have f1 := (Hbl2.out.cell (p := ⟨b, o + (k - 1) * 2 + 1, none⟩) hb).trans (hc1 1 _ rfl)
          simp only [Nat.add_zero] at e0 f0
          clear hc hc1 hs
          have lk : (k : Int) - 1 < (L.length : Int) := by omega
          have k1 : (1 : Int) ≤ (k : Int) := by omega
          have lk2 : (k : Int) ≤ (L.length : Int) := by omega
          have lk3 : (k : Int) < (L.length : Int) + 1 := by omega
          have lk4 : k < L.length + 1 := by omega
          obtain ⟨nk, tk, wk⟩ := pred_facts hk1 (by omega)
          generalize L[k] = x1 at *
          generalize L[k - 1] = x2 at *
          go_wp2_with fail
          go_region_held3 (fun w' => (w'.cell? ⟨b, o + k * 2, none⟩ = some (.int .i64 x1.acc) ∧ w'.cell? ⟨b, o + k * 2 + 1, none⟩ = some (.int .i64 x1.cli)) ∧ w'.cell? ⟨b, o + (k - 1) * 2, none⟩ = some (.int .i64 x2.acc) ∧ w'.cell? ⟨b, o + (k - 1) * 2 + 1, none⟩ = some (.int .i64 x2.cli)) (first | (simp [go_sem]; done) | (repeat' (first | (with_reducible assumption) | (with_reducible refine And.intro ?_ ?_) | (with_reducible refine cell_drew ?_) | (with_reducible refine cell_via (by with_reducible assumption) ?_ ?_) | (simp [*]; done) | (simp [go_sem]; done) | (with_reducible refine cell_alloc ?_ ?_) | (with_reducible refine cell_set_far ?_ ?_) | omega | (simp; omega)))) (first | (go_at_call 24; (with_reducible refine (CL1.out _).mono ?_); rintro e w7 ⟨rfl, hb7⟩; obtain ⟨fc7, fg7, hc7, hf7, hz7⟩ := bget hb7; (try simp at hz7)) | (go_at_call 24; (with_reducible refine (CL2.out _).mono ?_); rintro e w8 ⟨rfl, hb8⟩; obtain ⟨fc8, fg8, hc8, hf8, hz8⟩ := bget hb8; (try simp at hz8)) | fail)
          all_goals
            clear wk tk nk
            go_wp2_with fail
            go_roundw
            case rel => exact ⟨k + 1, by omega, by omega, by go_num, by have hbl := Hbl2.out; (repeat' (first | (with_reducible exact Below.refl _ _) | (with_reducible assumption) | (with_reducible refine Below.alloc ?_ ?_ _) | (with_reducible refine Below.setCell ?_ ?_ _) | (with_reducible refine Below.drew ?_) | (with_reducible refine below_drewN ?_ _) | (with_reducible refine below_via ?_ (by with_reducible assumption) ?_) | omega | (simp; done) | (simp; omega)))⟩
            case measure => simp [intOf]; omega
        · have dl2 : decide ((k : Int) < (L.length : Int)) = false := by simp; omega
          go_wp2_with (first | (go_at_call 21; (with_reducible refine (law15lives _).mono ?_); rintro e w7 ⟨rfl, hb7⟩; obtain ⟨fc7, fg7, hc7, hf7, hz7⟩ := bget hb7; (try simp at hz7)) | fail)
          go_ret
          exact ⟨rfl, by have h1 := Hb0.out; have h2 := Hbl2.out; (repeat' (first | (with_reducible exact Below.refl _ _) | (with_reducible assumption) | (with_reducible refine Below.alloc ?_ ?_ _) | (with_reducible refine Below.setCell ?_ ?_ _) | (with_reducible refine Below.drew ?_) | (with_reducible refine below_drewN ?_ _) | (with_reducible refine below_via ?_ (by with_reducible assumption) ?_) | omega | (simp; done) | (simp; omega)))⟩
theorem acctApart (l0 : List AcctV) (cl : Int) (A : Option Addr) (c : Nat) (w : World) (hl : l0.length ≤ maxLen) (hr : Rd w A 4 (l0.map encAcctV)) (hg : ∀ x ∈ l0, GoodA w x) :
    Calls Try.prog 4 #[.slice A l0.length c, .int .i64 cl] w fun e w' => e = .returned (.bool true) ∧ Below w.heap.size w w' := by
  have hfl : ∀ x ∈ (l0.take 20).map shortV, GoodA w x ∧ x.clients.val.length ≤ 20 := fun x hx => by
    obtain ⟨y, hy, rfl⟩ := List.mem_map.1 hx
    exact good_short (hg y (List.mem_of_mem_take hy))
  have hfln : ((l0.take 20).map shortV).length ≤ maxLen := by rw [List.length_map, List.length_take]; unfold maxLen; omega
  exact acctApartAt l0 ((l0.take 20).map shortV) (tabAcctVN okAV ((l0.take 20).map shortV) 20) cl A c w
    (fun W h => law15few l0 A c W hl (hr.keep h) (fun x hx => (hg x hx).keep h))
    (fun W A c hrs h => ref15Table okAV ((l0.take 20).map shortV) A c W hfln hrs.rd (fun m hm W' hW' => ref15IsV m W' (by have := (hfl m hm).2; omega) ((hfl m hm).1.keep (h.trans (hW'.mono h.size)))))
    (tabAcctVN_len okAV _ 20) (fun x hx => hfl x (tab_mem okAV _ 20 x hx))
    (flatU_sort (sorted_tabAcctVN okAV _ 20) (fun x hx => of_decide_eq_true (tab_ok okAV _ 20 x hx)))
end Go.Proofs.Ytemhhojenocddaa
