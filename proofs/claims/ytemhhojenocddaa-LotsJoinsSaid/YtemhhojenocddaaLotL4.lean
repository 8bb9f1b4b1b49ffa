/- Layer 18's laws: LotsJoins' walk. -/
import Derived.Test.YtemhhojenocddaaLotQ2
namespace Go.Proofs.Ytemhhojenocddaa
open Go.RowKit
set_option maxRecDepth 100000 in
set_option maxHeartbeats 32000000 in
theorem lotsJoinsBad (l0 k0 m n : List Lot) (jc : Int) (hne : jc ≠ 0) (A : Option Addr) (c : Nat) (B : Option Addr) (d : Nat) (w : World) (hr0 : Rs w 3 (l0.map encLot) A c) (hk0 : Rs w 3 (k0.map encLot) B d) (hr : Rs w 3 (m.map encLot) A c) (hk : Rs w 3 (n.map encLot) B d)
    (cf : ∀ W, Rs W 3 (l0.map encLot) A c → Calls Try.prog 37 #[.slice A l0.length c] W fun e w' => e = .returned (.slice A m.length c) ∧ Below W.heap.size W w')
    (cg : ∀ W, Rs W 3 (k0.map encLot) B d → Calls Try.prog 37 #[.slice B k0.length d] W fun e w' => e = .returned (.slice B n.length d) ∧ Below W.heap.size W w')
    (c1 : ∀ W A c, RsS 3 encLot W [m, n] A c → Calls Try.prog 54 #[.slice A 2 c] W (LotsPost W [] jc)) :
    Calls Try.prog 8 #[.slice A l0.length c, .slice B k0.length d] w fun e w' => e = .returned (.bool true) ∧ Below w.heap.size w w' := by
  have HR0 := Lib.hid hr0
  have HK0 := Lib.hid hk0
  have HR := Lib.hid hr
  have HK := Lib.hid hk
  have CF := Lib.hid cf
  have CG := Lib.hid cg
  have C1 := Lib.hid c1
  have d1 : (jc == 0) = false := by simpa using hne
  clear hr0 hk0 hr hk cf cg c1
  go_enter Try.func8, Try.ntmps8
  go_wp2_with (first | (go_at_call 37; (with_reducible refine (CF.out _ (HR0.out.keep (by (repeat' (first | (with_reducible exact Below.refl _ _) | (with_reducible assumption) | (with_reducible refine Below.alloc ?_ ?_ _) | (with_reducible refine Below.setCell ?_ ?_ _) | (with_reducible refine Below.drew ?_) | (with_reducible refine below_drewN ?_ _) | (with_reducible refine below_via ?_ (by with_reducible assumption) ?_) | omega | (simp; done) | (simp; omega)))))).mono ?_); rintro e w1 ⟨rfl, hb1⟩; obtain ⟨fc1, fg1, hc1, hf1, hz1⟩ := bget hb1; (try simp at hz1)) | (go_at_call 37; (with_reducible refine (CG.out _ (HK0.out.keep (by (repeat' (first | (with_reducible exact Below.refl _ _) | (with_reducible assumption) | (with_reducible refine Below.alloc ?_ ?_ _) | (with_reducible refine Below.setCell ?_ ?_ _) | (with_reducible refine Below.drew ?_) | (with_reducible refine below_drewN ?_ _) | (with_reducible refine below_via ?_ (by with_reducible assumption) ?_) | omega | (simp; done) | (simp; omega)))))).mono ?_); rintro e w2 ⟨rfl, hb2⟩; obtain ⟨fc2, fg2, hc2, hf2, hz2⟩ := bget hb2; (try simp at hz2)) | (go_at_call 54; (with_reducible refine (C1.out _ _ _ (rss_two (A := A) (B := B) (c := c) (d := d) ?_ ?_ ?_ ?_ ?_)).mono ?_); (focus (first | omega | (simp; done) | (simp; omega))); (focus (simp [go_sem]; done)); (focus (simp [go_sem]; done)); (focus (refine HR.out.keep ?_; (repeat' (first | (with_reducible exact Below.refl _ _) | (with_reducible assumption) | (with_reducible refine Below.alloc ?_ ?_ _) | (with_reducible refine Below.setCell ?_ ?_ _) | (with_reducible refine Below.drew ?_) | (with_reducible refine below_drewN ?_ _) | (with_reducible refine below_via ?_ (by with_reducible assumption) ?_) | omega | (simp; done) | (simp; omega))))); (focus (refine HK.out.keep ?_; (repeat' (first | (with_reducible exact Below.refl _ _) | (with_reducible assumption) | (with_reducible refine Below.alloc ?_ ?_ _) | (with_reducible refine Below.setCell ?_ ?_ _) | (with_reducible refine Below.drew ?_) | (with_reducible refine below_drewN ?_ _) | (with_reducible refine below_via ?_ (by with_reducible assumption) ?_) | omega | (simp; done) | (simp; omega))))); intro e w3 hp; obtain ⟨A3, c3, rfl, hrs3, hb3⟩ := lots_rd hp; have H3 := Lib.hid hrs3; clear hp hrs3; obtain ⟨fc3, fg3, hc3, hf3, hz3⟩ := bget hb3; (try simp at hz3)) | (go_at_call 51; (with_reducible refine (law18lives _).mono ?_); rintro e w17 ⟨rfl, hb17⟩; obtain ⟨fc17, fg17, hc17, hf17, hz17⟩ := bget hb17; (try simp at hz17)) | fail)
  go_ret
  exact ⟨rfl, by (repeat' (first | (with_reducible exact Below.refl _ _) | (with_reducible assumption) | (with_reducible refine Below.alloc ?_ ?_ _) | (with_reducible refine Below.setCell ?_ ?_ _) | (with_reducible refine Below.drew ?_) | (with_reducible refine below_drewN ?_ _) | (with_reducible refine below_via ?_ (by with_reducible assumption) ?_) | omega | (simp; done) | (simp; omega)))⟩
set_option maxRecDepth 100000 in
set_option maxHeartbeats 32000000 in
theorem lotsJoinsOk (l0 k0 m n J : List Lot) (hJ : J.length ≤ 1099511627776) (hs : ∀ i, sumL J i = sumL m i + sumL n i) (A : Option Addr) (c : Nat) (B : Option Addr) (d : Nat) (w : World) (hr0 : Rs w 3 (l0.map encLot) A c) (hk0 : Rs w 3 (k0.map encLot) B d) (hr : Rs w 3 (m.map encLot) A c) (hk : Rs w 3 (n.map encLot) B d)
    (cf : ∀ W, Rs W 3 (l0.map encLot) A c → Calls Try.prog 37 #[.slice A l0.length c] W fun e w' => e = .returned (.slice A m.length c) ∧ Below W.heap.size W w')
    (cg : ∀ W, Rs W 3 (k0.map encLot) B d → Calls Try.prog 37 #[.slice B k0.length d] W fun e w' => e = .returned (.slice B n.length d) ∧ Below W.heap.size W w')
    (c1 : ∀ W A c, RsS 3 encLot W [m, n] A c → Calls Try.prog 54 #[.slice A 2 c] W (LotsPost W J 0))
    (c2 : ∀ W A c, RsS 3 encLot W [n, m] A c → Calls Try.prog 54 #[.slice A 2 c] W (LotsPost W J 0))
    (ci : ∀ W A c, Rs W 3 (J.map encLot) A c → Calls Try.prog 39 #[.slice A J.length c] W fun e w' => e = .returned (.bool true) ∧ Below W.heap.size W w')
    (cj : ∀ i W A c, Rs W 3 (J.map encLot) A c → Calls Try.prog 45 #[.slice A J.length c, .int .i64 i] W (BigPost W (sumL J i) 200))
    (cm : ∀ i W, Rs W 3 (m.map encLot) A c → Calls Try.prog 45 #[.slice A m.length c, .int .i64 i] W (BigPost W (sumL m i) 200))
    (cn : ∀ i W, Rs W 3 (n.map encLot) B d → Calls Try.prog 45 #[.slice B n.length d, .int .i64 i] W (BigPost W (sumL n i) 200)) :
    Calls Try.prog 8 #[.slice A l0.length c, .slice B k0.length d] w fun e w' => e = .returned (.bool true) ∧ Below w.heap.size w w' := by
  have HR0 := Lib.hid hr0
  have HK0 := Lib.hid hk0
  have HR := Lib.hid hr
  have HK := Lib.hid hk
  have CF := Lib.hid cf
  have CG := Lib.hid cg
  have C1 := Lib.hid c1
  have C2 := Lib.hid c2
  have CI := Lib.hid ci
  have CJ0 := Lib.hid cj
  have CM0 := Lib.hid cm
  have CN0 := Lib.hid cn
  have HS0 := Lib.hid hs
  clear hr0 hk0 hr hk cf cg c1 c2 ci cj cm cn hs
  go_enter Try.func8, Try.ntmps8
  go_wp2_with (first | (go_at_call 37; (with_reducible refine (CF.out _ (HR0.out.keep (by (repeat' (first | (with_reducible exact Below.refl _ _) | (with_reducible assumption) | (with_reducible refine Below.alloc ?_ ?_ _) | (with_reducible refine Below.setCell ?_ ?_ _) | (with_reducible refine Below.drew ?_) | (with_reducible refine below_drewN ?_ _) | (with_reducible refine below_via ?_ (by with_reducible assumption) ?_) | omega | (simp; done) | (simp; omega)))))).mono ?_); rintro e w1 ⟨rfl, hb1⟩; obtain ⟨fc1, fg1, hc1, hf1, hz1⟩ := bget hb1; (try simp at hz1)) | (go_at_call 37; (with_reducible refine (CG.out _ (HK0.out.keep (by (repeat' (first | (with_reducible exact Below.refl _ _) | (with_reducible assumption) | (with_reducible refine Below.alloc ?_ ?_ _) | (with_reducible refine Below.setCell ?_ ?_ _) | (with_reducible refine Below.drew ?_) | (with_reducible refine below_drewN ?_ _) | (with_reducible refine below_via ?_ (by with_reducible assumption) ?_) | omega | (simp; done) | (simp; omega)))))).mono ?_); rintro e w2 ⟨rfl, hb2⟩; obtain ⟨fc2, fg2, hc2, hf2, hz2⟩ := bget hb2; (try simp at hz2)) | (go_at_call 54; (with_reducible refine (C1.out _ _ _ (rss_two (A := A) (B := B) (c := c) (d := d) ?_ ?_ ?_ ?_ ?_)).mono ?_); (focus (first | omega | (simp; done) | (simp; omega))); (focus (simp [go_sem]; done)); (focus (simp [go_sem]; done)); (focus (refine HR.out.keep ?_; (repeat' (first | (with_reducible exact Below.refl _ _) | (with_reducible assumption) | (with_reducible refine Below.alloc ?_ ?_ _) | (with_reducible refine Below.setCell ?_ ?_ _) | (with_reducible refine Below.drew ?_) | (with_reducible refine below_drewN ?_ _) | (with_reducible refine below_via ?_ (by with_reducible assumption) ?_) | omega | (simp; done) | (simp; omega))))); (focus (refine HK.out.keep ?_; (repeat' (first | (with_reducible exact Below.refl _ _) | (with_reducible assumption) | (with_reducible refine Below.alloc ?_ ?_ _) | (with_reducible refine Below.setCell ?_ ?_ _) | (with_reducible refine Below.drew ?_) | (with_reducible refine below_drewN ?_ _) | (with_reducible refine below_via ?_ (by with_reducible assumption) ?_) | omega | (simp; done) | (simp; omega))))); intro e w3 hp; obtain ⟨A3, c3, rfl, hrs3, hb3⟩ := lots_rd hp; have H3 := Lib.hid hrs3; clear hp hrs3; obtain ⟨fc3, fg3, hc3, hf3, hz3⟩ := bget hb3; (try simp at hz3)) | (go_at_call 51; (with_reducible refine (law18lives _).mono ?_); rintro e w17 ⟨rfl, hb17⟩; obtain ⟨fc17, fg17, hc17, hf17, hz17⟩ := bget hb17; (try simp at hz17)) | fail)
  have HbA := Lib.hid (show Below w.heap.size w w3 from by (repeat' (first | (with_reducible exact Below.refl _ _) | (with_reducible assumption) | (with_reducible refine Below.alloc ?_ ?_ _) | (with_reducible refine Below.setCell ?_ ?_ _) | (with_reducible refine Below.drew ?_) | (with_reducible refine below_drewN ?_ _) | (with_reducible refine below_via ?_ (by with_reducible assumption) ?_) | omega | (simp; done) | (simp; omega))))
  have hzA : w.heap.size ≤ w3.heap.size := HbA.out.size
  go_loopw [7] (fun i wr => ∃ k : Nat, 1 ≤ k ∧ k ≤ 5 ∧ i = .int .i64 k ∧ Below w3.heap.size w3 wr) (fun i _ => 5 - (intOf i).toNat)
  case atStart => exact ⟨1, by omega, by omega, rfl, Below.refl _ _⟩
  case round =>
    obtain ⟨k, h1k, hk5, rfl, hbl⟩ := hrel
    have Hbl := Lib.hid hbl
    have hz := hbl.size
    have Hbw := Lib.hid (show Below w.heap.size w wr from by have h1 := HbA.out; (repeat' (first | (with_reducible exact Below.refl _ _) | (with_reducible assumption) | (with_reducible refine Below.alloc ?_ ?_ _) | (with_reducible refine Below.setCell ?_ ?_ _) | (with_reducible refine Below.drew ?_) | (with_reducible refine below_drewN ?_ _) | (with_reducible refine below_via ?_ (by with_reducible assumption) ?_) | omega | (simp; done) | (simp; omega))))
    have K3 := Lib.hid (H3.out.keep hbl)
    have KR := Lib.hid (HR.out.keep Hbw.out)
    have KK := Lib.hid (HK.out.keep Hbw.out)
    clear hbl H3 HR HK
    have H3 := K3
    have HR := KR
    have HK := KK
    clear K3 KR KK
    by_cases hlt : k ≤ 4
    · have d4 : decide ((k : Int) ≤ 4) = true := by simp; omega
      have CJ := Lib.hid (fun W A c => CJ0.out k W A c)
      have CM := Lib.hid (fun W => CM0.out k W)
      have CN := Lib.hid (fun W => CN0.out k W)
      have HS := Lib.hid (HS0.out k).symm
      clear CJ0 CM0 CN0 HS0
      generalize sumL J (k : Int) = sj at *
      generalize sumL m (k : Int) = sm at *
      generalize sumL n (k : Int) = sn at *
      go_wp2_with (first | (go_at_call 45; (with_reducible refine (CJ.out _ _ _ (H3.out.keep (by (repeat' (first | (with_reducible exact Below.refl _ _) | (with_reducible assumption) | (with_reducible refine Below.alloc ?_ ?_ _) | (with_reducible refine Below.setCell ?_ ?_ _) | (with_reducible refine Below.drew ?_) | (with_reducible refine below_drewN ?_ _) | (with_reducible refine below_via ?_ (by with_reducible assumption) ?_) | omega | (simp; done) | (simp; omega)))))).mono ?_); rintro e w4 ⟨s4, A4, l4, c4, rfl, hB4, hl4, hb4⟩; have HB4 := Lib.hid hB4; clear hB4; obtain ⟨fc4, fg4, hc4, hf4, hz4⟩ := bget hb4; (try simp at hz4)) | (go_at_call 45; (with_reducible refine (CM.out _ (HR.out.keep (by (repeat' (first | (with_reducible exact Below.refl _ _) | (with_reducible assumption) | (with_reducible refine Below.alloc ?_ ?_ _) | (with_reducible refine Below.setCell ?_ ?_ _) | (with_reducible refine Below.drew ?_) | (with_reducible refine below_drewN ?_ _) | (with_reducible refine below_via ?_ (by with_reducible assumption) ?_) | omega | (simp; done) | (simp; omega)))))).mono ?_); rintro e w5 ⟨s5, A5, l5, c5, rfl, hB5, hl5, hb5⟩; have HB5 := Lib.hid hB5; clear hB5; obtain ⟨fc5, fg5, hc5, hf5, hz5⟩ := bget hb5; (try simp at hz5)) | (go_at_call 45; (with_reducible refine (CN.out _ (HK.out.keep (by (repeat' (first | (with_reducible exact Below.refl _ _) | (with_reducible assumption) | (with_reducible refine Below.alloc ?_ ?_ _) | (with_reducible refine Below.setCell ?_ ?_ _) | (with_reducible refine Below.drew ?_) | (with_reducible refine below_drewN ?_ _) | (with_reducible refine below_via ?_ (by with_reducible assumption) ?_) | omega | (simp; done) | (simp; omega)))))).mono ?_); rintro e w6 ⟨s6, A6, l6, c6, rfl, hB6, hl6, hb6⟩; have HB6 := Lib.hid hB6; clear hB6; obtain ⟨fc6, fg6, hc6, hf6, hz6⟩ := bget hb6; (try simp at hz6)) | (go_at_call 56; (with_reducible refine (bigAdd _ _ s5 s6 l5 l6 A5 A6 c5 c6 200 _ (by omega) (by omega) (by omega) (HB5.out.keep (by (repeat' (first | (with_reducible exact Below.refl _ _) | (with_reducible assumption) | (with_reducible refine Below.alloc ?_ ?_ _) | (with_reducible refine Below.setCell ?_ ?_ _) | (with_reducible refine Below.drew ?_) | (with_reducible refine below_drewN ?_ _) | (with_reducible refine below_via ?_ (by with_reducible assumption) ?_) | omega | (simp; done) | (simp; omega))))) (HB6.out.keep (by (repeat' (first | (with_reducible exact Below.refl _ _) | (with_reducible assumption) | (with_reducible refine Below.alloc ?_ ?_ _) | (with_reducible refine Below.setCell ?_ ?_ _) | (with_reducible refine Below.drew ?_) | (with_reducible refine below_drewN ?_ _) | (with_reducible refine below_via ?_ (by with_reducible assumption) ?_) | omega | (simp; done) | (simp; omega)))))).mono ?_); rintro e w7 ⟨s7, A7, l7, c7, rfl, hB7, hl7, hb7⟩; have HB7 := Lib.hid hB7; clear hB7; obtain ⟨fc7, fg7, hc7, hf7, hz7⟩ := bget hb7; (try simp at hz7)) | (go_at_call 43; (with_reducible refine (bigCmp sj sj s4 s7 l4 l7 A4 A7 c4 c7 201 _ (by omega) (by omega) (by omega) (HB4.out.keep (by (repeat' (first | (with_reducible exact Below.refl _ _) | (with_reducible assumption) | (with_reducible refine Below.alloc ?_ ?_ _) | (with_reducible refine Below.setCell ?_ ?_ _) | (with_reducible refine Below.drew ?_) | (with_reducible refine below_drewN ?_ _) | (with_reducible refine below_via ?_ (by with_reducible assumption) ?_) | omega | (simp; done) | (simp; omega))))) (by have h := (HB7.out.keep (by (repeat' (first | (with_reducible exact Below.refl _ _) | (with_reducible assumption) | (with_reducible refine Below.alloc ?_ ?_ _) | (with_reducible refine Below.setCell ?_ ?_ _) | (with_reducible refine Below.drew ?_) | (with_reducible refine below_drewN ?_ _) | (with_reducible refine below_via ?_ (by with_reducible assumption) ?_) | omega | (simp; done) | (simp; omega))))); rw [HS.out] at h; exact h)).mono ?_); rw [ord_self']; rintro e w8 ⟨rfl, hb8⟩; obtain ⟨fc8, fg8, hc8, hf8, hz8⟩ := bget hb8; (try simp at hz8)) | fail)
      go_roundw
      case rel => exact ⟨k + 1, by omega, by omega, by go_num, by have hbl := Hbl.out; (repeat' (first | (with_reducible exact Below.refl _ _) | (with_reducible assumption) | (with_reducible refine Below.alloc ?_ ?_ _) | (with_reducible refine Below.setCell ?_ ?_ _) | (with_reducible refine Below.drew ?_) | (with_reducible refine below_drewN ?_ _) | (with_reducible refine below_via ?_ (by with_reducible assumption) ?_) | omega | (simp; done) | (simp; omega)))⟩
      case measure => simp [intOf]; omega
    · have d4 : decide ((k : Int) ≤ 4) = false := by simp; omega
      go_wp2_with (first | (go_at_call 54; (with_reducible refine (C2.out _ _ _ (rss_two (A := B) (B := A) (c := d) (d := c) ?_ ?_ ?_ ?_ ?_)).mono ?_); (focus (first | omega | (simp; done) | (simp; omega))); (focus (simp [go_sem]; done)); (focus (simp [go_sem]; done)); (focus (refine HK.out.keep ?_; (repeat' (first | (with_reducible exact Below.refl _ _) | (with_reducible assumption) | (with_reducible refine Below.alloc ?_ ?_ _) | (with_reducible refine Below.setCell ?_ ?_ _) | (with_reducible refine Below.drew ?_) | (with_reducible refine below_drewN ?_ _) | (with_reducible refine below_via ?_ (by with_reducible assumption) ?_) | omega | (simp; done) | (simp; omega))))); (focus (refine HR.out.keep ?_; (repeat' (first | (with_reducible exact Below.refl _ _) | (with_reducible assumption) | (with_reducible refine Below.alloc ?_ ?_ _) | (with_reducible refine Below.setCell ?_ ?_ _) | (with_reducible refine Below.drew ?_) | (with_reducible refine below_drewN ?_ _) | (with_reducible refine below_via ?_ (by with_reducible assumption) ?_) | omega | (simp; done) | (simp; omega))))); intro e w10 hp; obtain ⟨A10, c10, rfl, hrs10, hb10⟩ := lots_rd hp; have H10 := Lib.hid hrs10; clear hp hrs10; obtain ⟨fc10, fg10, hc10, hf10, hz10⟩ := bget hb10; (try simp at hz10)) | (go_at_call 39; (with_reducible refine (CI.out _ _ _ (H3.out.keep (by (repeat' (first | (with_reducible exact Below.refl _ _) | (with_reducible assumption) | (with_reducible refine Below.alloc ?_ ?_ _) | (with_reducible refine Below.setCell ?_ ?_ _) | (with_reducible refine Below.drew ?_) | (with_reducible refine below_drewN ?_ _) | (with_reducible refine below_via ?_ (by with_reducible assumption) ?_) | omega | (simp; done) | (simp; omega)))))).mono ?_); rintro e w11 ⟨rfl, hb11⟩; obtain ⟨fc11, fg11, hc11, hf11, hz11⟩ := bget hb11; (try simp at hz11)) | (go_at_call 50; (with_reducible refine (ref18Same J A10 A3 c10 c3 _ hJ (H10.out.keep (by (repeat' (first | (with_reducible exact Below.refl _ _) | (with_reducible assumption) | (with_reducible refine Below.alloc ?_ ?_ _) | (with_reducible refine Below.setCell ?_ ?_ _) | (with_reducible refine Below.drew ?_) | (with_reducible refine below_drewN ?_ _) | (with_reducible refine below_via ?_ (by with_reducible assumption) ?_) | omega | (simp; done) | (simp; omega))))).rd (H3.out.keep (by (repeat' (first | (with_reducible exact Below.refl _ _) | (with_reducible assumption) | (with_reducible refine Below.alloc ?_ ?_ _) | (with_reducible refine Below.setCell ?_ ?_ _) | (with_reducible refine Below.drew ?_) | (with_reducible refine below_drewN ?_ _) | (with_reducible refine below_via ?_ (by with_reducible assumption) ?_) | omega | (simp; done) | (simp; omega))))).rd).mono ?_); rintro e w12 ⟨rfl, hb12⟩; obtain ⟨fc12, fg12, hc12, hf12, hz12⟩ := bget hb12; (try simp at hz12)) | (go_at_call 51; (with_reducible refine (law18lives _).mono ?_); rintro e w17 ⟨rfl, hb17⟩; obtain ⟨fc17, fg17, hc17, hf17, hz17⟩ := bget hb17; (try simp at hz17)) | fail)
      go_ret
      exact ⟨rfl, by have h1 := Hbw.out; (repeat' (first | (with_reducible exact Below.refl _ _) | (with_reducible assumption) | (with_reducible refine Below.alloc ?_ ?_ _) | (with_reducible refine Below.setCell ?_ ?_ _) | (with_reducible refine Below.drew ?_) | (with_reducible refine below_drewN ?_ _) | (with_reducible refine below_via ?_ (by with_reducible assumption) ?_) | omega | (simp; done) | (simp; omega)))⟩
theorem lotsJoins (l0 k0 : List Lot) (A : Option Addr) (c : Nat) (B : Option Addr) (d : Nat) (w : World) (hl : ∀ y ∈ l0, In64 y.qty) (hk : ∀ y ∈ k0, In64 y.qty) (hr : Rs w 3 (l0.map encLot) A c) (hk0 : Rs w 3 (k0.map encLot) B d) :
    Calls Try.prog 8 #[.slice A l0.length c, .slice B k0.length d] w fun e w' => e = .returned (.bool true) ∧ Below w.heap.size w w' := by
  have h1 : (l0.take 20).length ≤ 20 := by rw [List.length_take]; omega
  have h2 : (k0.take 20).length ≤ 20 := by rw [List.length_take]; omega
  have i1 : ∀ y ∈ l0.take 20, In64 y.qty := fun y hy => hl y (List.mem_of_mem_take hy)
  have i2 : ∀ y ∈ k0.take 20, In64 y.qty := fun y hy => hk y (List.mem_of_mem_take hy)
  have i3 : ∀ y ∈ l0.take 20 ++ k0.take 20, In64 y.qty := fun y hy => (List.mem_append.1 hy).elim (i1 y) (i2 y)
  have i4 : ∀ y ∈ k0.take 20 ++ l0.take 20, In64 y.qty := fun y hy => (List.mem_append.1 hy).elim (i2 y) (i1 y)
  have f1 : ([l0.take 20, k0.take 20]).flatten = l0.take 20 ++ k0.take 20 := by simp
  have f2 : ([k0.take 20, l0.take 20]).flatten = k0.take 20 ++ l0.take 20 := by simp
  have c1 : ∀ W A c, RsS 3 encLot W [l0.take 20, k0.take 20] A c → Calls Try.prog 54 #[.slice A 2 c] W (LotsPost W (joinF [] (l0.take 20 ++ k0.take 20)).1 (joinF [] (l0.take 20 ++ k0.take 20)).2) := fun W A c h => by
    have := lotJoin [l0.take 20, k0.take 20] A c W (by simp) (by rw [f1, List.length_append]; omega) (by rw [f1]; exact i3) h
    rw [f1] at this; exact this
  have c2 : ∀ W A c, RsS 3 encLot W [k0.take 20, l0.take 20] A c → Calls Try.prog 54 #[.slice A 2 c] W (LotsPost W (joinF [] (k0.take 20 ++ l0.take 20)).1 (joinF [] (k0.take 20 ++ l0.take 20)).2) := fun W A c h => by
    have := lotJoin [k0.take 20, l0.take 20] A c W (by simp) (by rw [f2, List.length_append]; omega) (by rw [f2]; exact i4) h
    rw [f2] at this; exact this
  by_cases h0 : (joinF [] (l0.take 20 ++ k0.take 20)).2 = 0
  · obtain ⟨t1, t2, t3⟩ := join_turn i3 h0
    have t4 := (isL_sort t2).2.2
    obtain ⟨_, t5, _, _⟩ := join_fwd isL_nil (fun _ h => by simp at h) i3 h0
    rw [h0] at c1
    rw [t1, h0] at c2
    exact lotsJoinsOk l0 k0 (l0.take 20) (k0.take 20) (joinF [] (l0.take 20 ++ k0.take 20)).1 (by omega) t3 A c B d w hr hk0 (takeLot hr 20) (takeLot hk0 20)
      (fun W h => law18Few l0 A c W h) (fun W h => law18Few k0 B d W h) c1 c2
      (fun W A c h => by have := lotIs _ A c W (by omega) h.rd; rw [t2] at this; exact this)
      (fun i W A c h => ref18Sum _ i A c W (by omega) t5 h.rd) (fun i W h => ref18Sum _ i A c W (by omega) i1 h.rd) (fun i W h => ref18Sum _ i B d W (by omega) i2 h.rd)
  · rw [join_bad h0] at c1
    exact lotsJoinsBad l0 k0 (l0.take 20) (k0.take 20) _ h0 A c B d w hr hk0 (takeLot hr 20) (takeLot hk0 20)
      (fun W h => law18Few l0 A c W h) (fun W h => law18Few k0 B d W h) c1
end Go.Proofs.Ytemhhojenocddaa
