/- Layer 18's laws: LotsPuts' walk. -/
import Derived.Test.YtemhhojenocddaaLotL1
import Derived.Deep.CutRange
import Derived.Deep.DeepCutAuto
namespace Go.Proofs.Ytemhhojenocddaa
open Go.RowKit
theorem ord_self' (n : Int) : ord n n = 0 := by unfold ord; rw [if_neg (by omega), if_neg (by omega)]
theorem lots_rd {w : World} {L : List Lot} {code : Int} {e : Ending} {w' : World} (h : LotsPost w L code e w') : ∃ A c, e = .returned (.tuple #[.slice A L.length c, .int .i64 code]) ∧ Rs w' 3 (L.map encLot) A c ∧ Below w.heap.size w w' := by
  obtain ⟨v, rfl, hown, hb⟩ := h
  obtain ⟨A, c, hv, hrs, _⟩ := hown.rs
  rw [List.length_map] at hv
  subst hv
  exact ⟨A, c, rfl, hrs, hb⟩
set_option maxRecDepth 100000 in
set_option maxHeartbeats 32000000 in
theorem lotsPutsAt (l0 m pl tl : List Lot) (x : Lot) (bi : Bool) (gq sm pc tc : Int) (A : Option Addr) (c : Nat) (w : World) (hr0 : Rs w 3 (l0.map encLot) A c) (hr : Rs w 3 (m.map encLot) A c) (hpl : pl.length ≤ 1099511627776) (htl : tl.length ≤ 1099511627776)
    (cf : ∀ W, Rs W 3 (l0.map encLot) A c → Calls Try.prog 37 #[.slice A l0.length c] W fun e w' => e = .returned (.slice A m.length c) ∧ Below W.heap.size W w')
    (cs : ∀ W, Rs W 3 (m.map encLot) A c → Calls Try.prog 38 #[.slice A m.length c, .int .i64 x.asset] W fun e w' => e = .returned (.agg #[.int .i64 (whi (sm)), .int .u64 (wlo (sm))]) ∧ Below W.heap.size W w')
    (c3 : ∀ W, Rs W 3 (m.map encLot) A c → Calls Try.prog 39 #[.slice A m.length c] W fun e w' => e = .returned (.bool bi) ∧ Below W.heap.size W w')
    (c4 : ∀ W, Rs W 3 (m.map encLot) A c → Calls Try.prog 40 #[.slice A m.length c] W fun e w' => e = .returned (.bool bi) ∧ Below W.heap.size W w')
    (c5 : ∀ W, Rs W 3 (m.map encLot) A c → Calls Try.prog 41 #[.slice A m.length c, .int .i64 x.asset, .int .i64 x.tag] W fun e w' => e = .returned (.int .i64 gq) ∧ Below W.heap.size W w')
    (c6 : ∀ W, Rs W 3 (m.map encLot) A c → Calls Try.prog 42 #[.slice A m.length c, .int .i64 x.asset, .int .i64 x.tag] W fun e w' => e = .returned (.int .i64 gq) ∧ Below W.heap.size W w')
    (c7 : ∀ W, Calls Try.prog 44 #[.int .i64 (whi sm), .int .u64 (wlo sm)] W (BigPost W sm 194))
    (c8 : ∀ W, Rs W 3 (m.map encLot) A c → Calls Try.prog 45 #[.slice A m.length c, .int .i64 x.asset] W (BigPost W sm 200))
    (c10 : ∀ W, Rs W 3 (m.map encLot) A c → Calls Try.prog 46 #[.slice A m.length c, .agg #[.int .i64 x.asset, .int .i64 x.tag, .int .i64 x.qty]] W (LotsPost W pl pc))
    (c11 : ∀ W, Rs W 3 (m.map encLot) A c → Calls Try.prog 47 #[.slice A m.length c, .agg #[.int .i64 x.asset, .int .i64 x.tag, .int .i64 x.qty]] W (LotsPost W pl pc))
    (c12 : ∀ W, Rs W 3 (m.map encLot) A c → Calls Try.prog 48 #[.slice A m.length c, .agg #[.int .i64 x.asset, .int .i64 x.tag, .int .i64 x.qty]] W (LotsPost W tl tc))
    (c13 : ∀ W, Rs W 3 (m.map encLot) A c → Calls Try.prog 49 #[.slice A m.length c, .agg #[.int .i64 x.asset, .int .i64 x.tag, .int .i64 x.qty]] W (LotsPost W tl tc)) :
    Calls Try.prog 6 #[.slice A l0.length c, .agg #[.int .i64 x.asset, .int .i64 x.tag, .int .i64 x.qty]] w fun e w' => e = .returned (.bool true) ∧ Below w.heap.size w w' := by
  have HR0 := Lib.hid hr0
  have HR := Lib.hid hr
  have CF := Lib.hid cf
  have CS := Lib.hid cs
  have C3 := Lib.hid c3
  have C4 := Lib.hid c4
  have C5 := Lib.hid c5
  have C6 := Lib.hid c6
  have C7 := Lib.hid c7
  have C8 := Lib.hid c8
  have C10 := Lib.hid c10
  have C11 := Lib.hid c11
  have C12 := Lib.hid c12
  have C13 := Lib.hid c13
  have HPL := Lib.hid hpl
  have HTL := Lib.hid htl
  clear hr0 hr cf cs c3 c4 c5 c6 c7 c8 c10 c11 c12 c13 hpl htl
  cases bi
  all_goals
    go_enter Try.func6, Try.ntmps6
    go_wp2_with (first | (go_at_call 37; (with_reducible refine (CF.out _ (HR0.out.keep (by (repeat' (first | (with_reducible exact Below.refl _ _) | (with_reducible assumption) | (with_reducible refine Below.alloc ?_ ?_ _) | (with_reducible refine Below.setCell ?_ ?_ _) | (with_reducible refine Below.drew ?_) | (with_reducible refine below_drewN ?_ _) | (with_reducible refine below_via ?_ (by with_reducible assumption) ?_) | omega | (simp; done) | (simp; omega)))))).mono ?_); rintro e w1 ⟨rfl, hb1⟩; obtain ⟨fc1, fg1, hc1, hf1, hz1⟩ := bget hb1; (try simp at hz1)) | (go_at_call 38; (with_reducible refine (CS.out _ (HR.out.keep (by (repeat' (first | (with_reducible exact Below.refl _ _) | (with_reducible assumption) | (with_reducible refine Below.alloc ?_ ?_ _) | (with_reducible refine Below.setCell ?_ ?_ _) | (with_reducible refine Below.drew ?_) | (with_reducible refine below_drewN ?_ _) | (with_reducible refine below_via ?_ (by with_reducible assumption) ?_) | omega | (simp; done) | (simp; omega)))))).mono ?_); rintro e w2 ⟨rfl, hb2⟩; obtain ⟨fc2, fg2, hc2, hf2, hz2⟩ := bget hb2; (try simp at hz2)) | fail)
    go_region_held3 (fun w' => (w'.cell? ⟨w.heap.size, 0, none⟩ = some (.int .i64 x.asset) ∧ w'.cell? ⟨w.heap.size, 1, none⟩ = some (.int .i64 x.tag) ∧ w'.cell? ⟨w.heap.size, 2, none⟩ = some (.int .i64 x.qty)) ∧ w'.cell? ⟨w2.heap.size, 0, none⟩ = some (.int .i64 (whi sm)) ∧ w'.cell? ⟨w2.heap.size, 1, none⟩ = some (.int .u64 (wlo sm))) (first | (simp [go_sem]; done) | (repeat' (first | (with_reducible assumption) | (with_reducible refine And.intro ?_ ?_) | (with_reducible refine cell_drew ?_) | (with_reducible refine cell_via (by with_reducible assumption) ?_ ?_) | (simp [*]; done) | (simp [go_sem]; done) | (with_reducible refine cell_alloc ?_ ?_) | (with_reducible refine cell_set_far ?_ ?_) | omega | (simp; omega)))) (first | (go_at_call 39; (with_reducible refine (C3.out _ (HR.out.keep (by (repeat' (first | (with_reducible exact Below.refl _ _) | (with_reducible assumption) | (with_reducible refine Below.alloc ?_ ?_ _) | (with_reducible refine Below.setCell ?_ ?_ _) | (with_reducible refine Below.drew ?_) | (with_reducible refine below_drewN ?_ _) | (with_reducible refine below_via ?_ (by with_reducible assumption) ?_) | omega | (simp; done) | (simp; omega)))))).mono ?_); rintro e w3 ⟨rfl, hb3⟩; obtain ⟨fc3, fg3, hc3, hf3, hz3⟩ := bget hb3; (try simp at hz3)) | (go_at_call 40; (with_reducible refine (C4.out _ (HR.out.keep (by (repeat' (first | (with_reducible exact Below.refl _ _) | (with_reducible assumption) | (with_reducible refine Below.alloc ?_ ?_ _) | (with_reducible refine Below.setCell ?_ ?_ _) | (with_reducible refine Below.drew ?_) | (with_reducible refine below_drewN ?_ _) | (with_reducible refine below_via ?_ (by with_reducible assumption) ?_) | omega | (simp; done) | (simp; omega)))))).mono ?_); rintro e w4 ⟨rfl, hb4⟩; obtain ⟨fc4, fg4, hc4, hf4, hz4⟩ := bget hb4; (try simp at hz4)) | (go_at_call 41; (with_reducible refine (C5.out _ (HR.out.keep (by (repeat' (first | (with_reducible exact Below.refl _ _) | (with_reducible assumption) | (with_reducible refine Below.alloc ?_ ?_ _) | (with_reducible refine Below.setCell ?_ ?_ _) | (with_reducible refine Below.drew ?_) | (with_reducible refine below_drewN ?_ _) | (with_reducible refine below_via ?_ (by with_reducible assumption) ?_) | omega | (simp; done) | (simp; omega)))))).mono ?_); rintro e w5 ⟨rfl, hb5⟩; obtain ⟨fc5, fg5, hc5, hf5, hz5⟩ := bget hb5; (try simp at hz5)) | (go_at_call 42; (with_reducible refine (C6.out _ (HR.out.keep (by (repeat' (first | (with_reducible exact Below.refl _ _) | (with_reducible assumption) | (with_reducible refine Below.alloc ?_ ?_ _) | (with_reducible refine Below.setCell ?_ ?_ _) | (with_reducible refine Below.drew ?_) | (with_reducible refine below_drewN ?_ _) | (with_reducible refine below_via ?_ (by with_reducible assumption) ?_) | omega | (simp; done) | (simp; omega)))))).mono ?_); rintro e w6 ⟨rfl, hb6⟩; obtain ⟨fc6, fg6, hc6, hf6, hz6⟩ := bget hb6; (try simp at hz6)) | (go_at_call 44; (with_reducible refine (C7.out _).mono ?_); rintro e w7 ⟨s7, A7, l7, c7, rfl, hB7, hl7, hb7⟩; have HB7 := Lib.hid hB7; clear hB7; obtain ⟨fc7, fg7, hc7, hf7, hz7⟩ := bget hb7; (try simp at hz7)) | (go_at_call 45; (with_reducible refine (C8.out _ (HR.out.keep (by (repeat' (first | (with_reducible exact Below.refl _ _) | (with_reducible assumption) | (with_reducible refine Below.alloc ?_ ?_ _) | (with_reducible refine Below.setCell ?_ ?_ _) | (with_reducible refine Below.drew ?_) | (with_reducible refine below_drewN ?_ _) | (with_reducible refine below_via ?_ (by with_reducible assumption) ?_) | omega | (simp; done) | (simp; omega)))))).mono ?_); rintro e w8 ⟨s8, A8, l8, c8, rfl, hB8, hl8, hb8⟩; have HB8 := Lib.hid hB8; clear hB8; obtain ⟨fc8, fg8, hc8, hf8, hz8⟩ := bget hb8; (try simp at hz8)) | (go_at_call 43; (with_reducible refine (bigCmp sm sm s7 s8 l7 l8 A7 A8 c7 c8 200 _ (by omega) (by omega) (by omega) (HB7.out.keep (by (repeat' (first | (with_reducible exact Below.refl _ _) | (with_reducible assumption) | (with_reducible refine Below.alloc ?_ ?_ _) | (with_reducible refine Below.setCell ?_ ?_ _) | (with_reducible refine Below.drew ?_) | (with_reducible refine below_drewN ?_ _) | (with_reducible refine below_via ?_ (by with_reducible assumption) ?_) | omega | (simp; done) | (simp; omega))))) (HB8.out.keep (by (repeat' (first | (with_reducible exact Below.refl _ _) | (with_reducible assumption) | (with_reducible refine Below.alloc ?_ ?_ _) | (with_reducible refine Below.setCell ?_ ?_ _) | (with_reducible refine Below.drew ?_) | (with_reducible refine below_drewN ?_ _) | (with_reducible refine below_via ?_ (by with_reducible assumption) ?_) | omega | (simp; done) | (simp; omega)))))).mono ?_); rw [ord_self']; rintro e w9 ⟨rfl, hb9⟩; obtain ⟨fc9, fg9, hc9, hf9, hz9⟩ := bget hb9; (try simp at hz9)) | fail)
    all_goals
      go_wp2_with (first | (go_at_call 46; (with_reducible refine (C10.out _ (HR.out.keep (by (repeat' (first | (with_reducible exact Below.refl _ _) | (with_reducible assumption) | (with_reducible refine Below.alloc ?_ ?_ _) | (with_reducible refine Below.setCell ?_ ?_ _) | (with_reducible refine Below.drew ?_) | (with_reducible refine below_drewN ?_ _) | (with_reducible refine below_via ?_ (by with_reducible assumption) ?_) | omega | (simp; done) | (simp; omega)))))).mono ?_); intro e w10 hp; obtain ⟨A10, c10, rfl, hrs10, hb10⟩ := lots_rd hp; have H10 := Lib.hid hrs10.rd; clear hp hrs10; obtain ⟨fc10, fg10, hc10, hf10, hz10⟩ := bget hb10; (try simp at hz10)) | (go_at_call 47; (with_reducible refine (C11.out _ (HR.out.keep (by (repeat' (first | (with_reducible exact Below.refl _ _) | (with_reducible assumption) | (with_reducible refine Below.alloc ?_ ?_ _) | (with_reducible refine Below.setCell ?_ ?_ _) | (with_reducible refine Below.drew ?_) | (with_reducible refine below_drewN ?_ _) | (with_reducible refine below_via ?_ (by with_reducible assumption) ?_) | omega | (simp; done) | (simp; omega)))))).mono ?_); intro e w11 hp; obtain ⟨A11, c11, rfl, hrs11, hb11⟩ := lots_rd hp; have H11 := Lib.hid hrs11.rd; clear hp hrs11; obtain ⟨fc11, fg11, hc11, hf11, hz11⟩ := bget hb11; (try simp at hz11)) | (go_at_call 48; (with_reducible refine (C12.out _ (HR.out.keep (by (repeat' (first | (with_reducible exact Below.refl _ _) | (with_reducible assumption) | (with_reducible refine Below.alloc ?_ ?_ _) | (with_reducible refine Below.setCell ?_ ?_ _) | (with_reducible refine Below.drew ?_) | (with_reducible refine below_drewN ?_ _) | (with_reducible refine below_via ?_ (by with_reducible assumption) ?_) | omega | (simp; done) | (simp; omega)))))).mono ?_); intro e w12 hp; obtain ⟨A12, c12, rfl, hrs12, hb12⟩ := lots_rd hp; have H12 := Lib.hid hrs12.rd; clear hp hrs12; obtain ⟨fc12, fg12, hc12, hf12, hz12⟩ := bget hb12; (try simp at hz12)) | (go_at_call 49; (with_reducible refine (C13.out _ (HR.out.keep (by (repeat' (first | (with_reducible exact Below.refl _ _) | (with_reducible assumption) | (with_reducible refine Below.alloc ?_ ?_ _) | (with_reducible refine Below.setCell ?_ ?_ _) | (with_reducible refine Below.drew ?_) | (with_reducible refine below_drewN ?_ _) | (with_reducible refine below_via ?_ (by with_reducible assumption) ?_) | omega | (simp; done) | (simp; omega)))))).mono ?_); intro e w13 hp; obtain ⟨A13, c13, rfl, hrs13, hb13⟩ := lots_rd hp; have H13 := Lib.hid hrs13.rd; clear hp hrs13; obtain ⟨fc13, fg13, hc13, hf13, hz13⟩ := bget hb13; (try simp at hz13)) | (go_at_call 50; (with_reducible refine (ref18Same pl A10 A11 c10 c11 _ HPL.out (H10.out.keep (by (repeat' (first | (with_reducible exact Below.refl _ _) | (with_reducible assumption) | (with_reducible refine Below.alloc ?_ ?_ _) | (with_reducible refine Below.setCell ?_ ?_ _) | (with_reducible refine Below.drew ?_) | (with_reducible refine below_drewN ?_ _) | (with_reducible refine below_via ?_ (by with_reducible assumption) ?_) | omega | (simp; done) | (simp; omega))))) (H11.out.keep (by (repeat' (first | (with_reducible exact Below.refl _ _) | (with_reducible assumption) | (with_reducible refine Below.alloc ?_ ?_ _) | (with_reducible refine Below.setCell ?_ ?_ _) | (with_reducible refine Below.drew ?_) | (with_reducible refine below_drewN ?_ _) | (with_reducible refine below_via ?_ (by with_reducible assumption) ?_) | omega | (simp; done) | (simp; omega)))))).mono ?_); rintro e w14 ⟨rfl, hb14⟩; obtain ⟨fc14, fg14, hc14, hf14, hz14⟩ := bget hb14; (try simp at hz14)) | (go_at_call 50; (with_reducible refine (ref18Same tl A12 A13 c12 c13 _ HTL.out (H12.out.keep (by (repeat' (first | (with_reducible exact Below.refl _ _) | (with_reducible assumption) | (with_reducible refine Below.alloc ?_ ?_ _) | (with_reducible refine Below.setCell ?_ ?_ _) | (with_reducible refine Below.drew ?_) | (with_reducible refine below_drewN ?_ _) | (with_reducible refine below_via ?_ (by with_reducible assumption) ?_) | omega | (simp; done) | (simp; omega))))) (H13.out.keep (by (repeat' (first | (with_reducible exact Below.refl _ _) | (with_reducible assumption) | (with_reducible refine Below.alloc ?_ ?_ _) | (with_reducible refine Below.setCell ?_ ?_ _) | (with_reducible refine Below.drew ?_) | (with_reducible refine below_drewN ?_ _) | (with_reducible refine below_via ?_ (by with_reducible assumption) ?_) | omega | (simp; done) | (simp; omega)))))).mono ?_); rintro e w15 ⟨rfl, hb15⟩; obtain ⟨fc15, fg15, hc15, hf15, hz15⟩ := bget hb15; (try simp at hz15)) | (go_at_call 51; (with_reducible refine (law18lives _).mono ?_); rintro e w16 ⟨rfl, hb16⟩; obtain ⟨fc16, fg16, hc16, hf16, hz16⟩ := bget hb16; (try simp at hz16)) | fail)
      go_ret
      exact ⟨rfl, by (repeat' (first | (with_reducible exact Below.refl _ _) | (with_reducible assumption) | (with_reducible refine Below.alloc ?_ ?_ _) | (with_reducible refine Below.setCell ?_ ?_ _) | (with_reducible refine Below.drew ?_) | (with_reducible refine below_drewN ?_ _) | (with_reducible refine below_via ?_ (by with_reducible assumption) ?_) | omega | (simp; done) | (simp; omega)))⟩
theorem putLL_len (l : List Lot) (x : Lot) : (putLL l x).length ≤ l.length + 1 := by
  have := plL_le l x
  unfold putLL
  split
  · split
    · simp
    · simp; omega
  · simp
theorem takLL_len (l : List Lot) (x : Lot) : (takLL l x).length ≤ l.length := by
  unfold takLL
  split
  · split
    · simp; omega
    · simp
  · simp
theorem lotsPuts (l0 : List Lot) (x : Lot) (A : Option Addr) (c : Nat) (w : World) (hin : ∀ y ∈ l0, In64 y.qty) (hx : In64 x.qty) (hr : Rs w 3 (l0.map encLot) A c) :
    Calls Try.prog 6 #[.slice A l0.length c, .agg #[.int .i64 x.asset, .int .i64 x.tag, .int .i64 x.qty]] w fun e w' => e = .returned (.bool true) ∧ Below w.heap.size w w' := by
  have hml : (l0.take 20).length ≤ 20 := by rw [List.length_take]; omega
  have hmin : ∀ y ∈ l0.take 20, In64 y.qty := fun y hy => hin y (List.mem_of_mem_take hy)
  have hrm : Rs w 3 ((l0.take 20).map encLot) A c := by have := hr.take 20; rw [← List.map_take] at this; exact this
  have hsm := sumL_in (by omega) hmin x.asset
  have h1 := putLL_len (l0.take 20) x
  have h2 := takLL_len (l0.take 20) x
  exact lotsPutsAt l0 (l0.take 20) (putLL (l0.take 20) x) (takLL (l0.take 20) x) x (isL (l0.take 20)) (getL (l0.take 20) x.asset x.tag) (sumL (l0.take 20) x.asset) (putLC (l0.take 20) x) (takLC (l0.take 20) x) A c w hr hrm (by omega) (by omega)
    (fun W h => law18Few l0 A c W h)
    (fun W h => lotSum _ x.asset A c W (by omega) hmin h.rd) (fun W h => lotIs _ A c W (by omega) h.rd) (fun W h => ref18Is _ A c W (by omega) h.rd)
    (fun W h => lotGet _ x.asset x.tag A c W (by omega) h.rd) (fun W h => ref18Get _ x.asset x.tag A c W (by omega) h.rd)
    (fun W => bigWide _ W hsm) (fun W h => ref18Sum _ x.asset A c W (by omega) hmin h.rd)
    (fun W h => lotPut _ x A c W (by omega) hmin hx h) (fun W h => ref18Put _ x A c W (by omega) hmin hx h.rd)
    (fun W h => lotTake _ x A c W (by omega) hmin hx h) (fun W h => ref18Take _ x A c W (by omega) hmin hx h.rd)
end Go.Proofs.Ytemhhojenocddaa
