/- The law VecAdds: its walk. -/
import Derived.Test.YtffmljkpbgohkaaRef11c
import Derived.Outline
namespace Go.Proofs.Ytffmljkpbgohkaa
open Go.RowKit
theorem addL_len (ls : List (List Leg)) : (addL ls).length ≤ 8 := by
  unfold addL vecL
  split
  · split
    · exact sumsL_len _ 8
    · simp
  · simp
theorem few12_len (ls : List (List Leg)) : (few12 ls).length ≤ 10 := by unfold few12; rw [List.length_map, List.length_take]; omega
theorem few12_short (ls : List (List Leg)) : Short (few12 ls) := by
  refine ⟨by have := few12_len ls; omega, fun l hl => ?_⟩
  unfold few12 at hl
  obtain ⟨l', _, rfl⟩ := List.mem_map.1 hl
  rw [List.length_take]; omega
theorem few12_64 {ls : List (List Leg)} (h : ∀ l ∈ ls, Legs64 l) : ∀ l ∈ few12 ls, Legs64 l := by
  intro l hl
  unfold few12 at hl
  obtain ⟨l', h1, rfl⟩ := List.mem_map.1 hl
  intro x hx
  exact h l' (List.mem_of_mem_take h1) x (List.mem_of_mem_take hx)
set_option maxRecDepth 100000 in
set_option maxHeartbeats 4000000 in
theorem vecAdds (ls0 : List (List Leg)) (id : Int) (A0 : Option Addr) (c0 : Nat) (w : World) (hl : ls0.length ≤ maxLen) (hls : ∀ l ∈ ls0, l.length ≤ maxLen) (h64 : ∀ l ∈ ls0, Legs64 l) (hr : RsS 2 encLeg w ls0 A0 c0) :
    Calls Try.prog 3 #[.slice A0 ls0.length c0, .int .i64 id] w fun e w' => e = .returned (.bool true) ∧ Below w.heap.size w w' := by
  have HR := Lib.hid hr
  have HLS := Lib.hid hls
  have HSH := Lib.hid (few12_short ls0)
  have h10 := few12_len ls0
  have H64 := Lib.hid (few12_64 h64)
  have hal := addL_len (few12 ls0)
  obtain ⟨ls, hlse⟩ : ∃ ls, ls = few12 ls0 := ⟨_, rfl⟩
  have c1 := fun W h => law11several ls0 A0 c0 W hl hls h
  rw [← hlse] at HSH h10 H64 hal c1
  have C1 := Lib.hid c1
  clear hr hls h64 hlse c1
  go_enter Try.func3, Try.ntmps3
  go_wp2_with (go_at_call 13; (with_reducible refine (C1.out _ HR.out).mono ?_); rintro e w1 ⟨v1, rfl, hown1, hb1⟩; obtain ⟨A, c, rfl, hrs1⟩ := hown1.rss; have HRS := Lib.hid hrs1; have Hb1 := Lib.hid hb1; have hz1 := hb1.size; clear hown1 hrs1 hb1)
  go_loopw [5] (fun i wr => ∃ k : Nat, k ≤ ls.length ∧ i = .int .i64 k ∧ Below w1.heap.size w1 wr) (fun i _ => ls.length - (intOf i).toNat)
  case atStart => exact ⟨0, Nat.zero_le _, rfl, Below.refl _ _⟩
  case round =>
    obtain ⟨k, hk, rfl, hbl⟩ := hrel
    have Hbl := Lib.hid hbl
    have hz := hbl.size
    clear hbl
    by_cases hlt : k < ls.length
    · obtain ⟨b, o, B, d, rfl, hb, hq, hrk⟩ := HRS.out.row hlt
      have e0 := (Hbl.out.cell (p := ⟨b, o + k, none⟩) hb).trans hq
      have HK := Lib.hid (hrk.keep Hbl.out)
      have HKL := HSH.out.pt hlt
      have hbr : b < wr.heap.size := by omega
      clear hq hrk
      go_wp2_with fail
      go_region_held3 (fun w' => w'.cell? ⟨b, o + k, none⟩ = some (.slice B ls[k].length d)) (first | (simp [go_sem]; done) | (repeat' (first | (with_reducible assumption) | (with_reducible refine And.intro ?_ ?_) | (with_reducible refine cell_drew ?_) | (with_reducible refine cell_via (by with_reducible assumption) ?_ ?_) | (simp [*]; done) | (simp [go_sem]; done) | (with_reducible refine cell_alloc ?_ ?_) | (with_reducible refine cell_set_far ?_ ?_) | omega | (simp; omega)))) (first | (go_at_call 14; (with_reducible refine (vecIs ls[k] B d _ HKL (HK.out.keep (by (repeat' (first | (with_reducible exact Below.refl _ _) | (with_reducible assumption) | (with_reducible refine Below.alloc ?_ ?_ _) | (with_reducible refine Below.setCell ?_ ?_ _) | (with_reducible refine Below.drew ?_) | (with_reducible refine below_drewN ?_ _) | (with_reducible refine below_via ?_ (by with_reducible assumption) ?_) | omega | (simp; done) | (simp; omega))))).rd).mono ?_); rintro e w2 ⟨rfl, hb2⟩; obtain ⟨fc2, fg2, hc2, hf2, hz2⟩ := bget hb2; try simp at hz2) | (go_at_call 15; (with_reducible refine (refIs11 ls[k] B d _ HKL (HK.out.keep (by (repeat' (first | (with_reducible exact Below.refl _ _) | (with_reducible assumption) | (with_reducible refine Below.alloc ?_ ?_ _) | (with_reducible refine Below.setCell ?_ ?_ _) | (with_reducible refine Below.drew ?_) | (with_reducible refine below_drewN ?_ _) | (with_reducible refine below_via ?_ (by with_reducible assumption) ?_) | omega | (simp; done) | (simp; omega))))).rd).mono ?_); rintro e w3 ⟨rfl, hb3⟩; obtain ⟨fc3, fg3, hc3, hf3, hz3⟩ := bget hb3; try simp at hz3) | (go_at_call 16; (with_reducible refine (vecGet ls[k] id B d _ HKL (HK.out.keep (by (repeat' (first | (with_reducible exact Below.refl _ _) | (with_reducible assumption) | (with_reducible refine Below.alloc ?_ ?_ _) | (with_reducible refine Below.setCell ?_ ?_ _) | (with_reducible refine Below.drew ?_) | (with_reducible refine below_drewN ?_ _) | (with_reducible refine below_via ?_ (by with_reducible assumption) ?_) | omega | (simp; done) | (simp; omega))))).rd).mono ?_); rintro e w4 ⟨rfl, hb4⟩; obtain ⟨fc4, fg4, hc4, hf4, hz4⟩ := bget hb4; try simp at hz4) | (go_at_call 17; (with_reducible refine (refGet11 ls[k] id B d _ HKL (HK.out.keep (by (repeat' (first | (with_reducible exact Below.refl _ _) | (with_reducible assumption) | (with_reducible refine Below.alloc ?_ ?_ _) | (with_reducible refine Below.setCell ?_ ?_ _) | (with_reducible refine Below.drew ?_) | (with_reducible refine below_drewN ?_ _) | (with_reducible refine below_via ?_ (by with_reducible assumption) ?_) | omega | (simp; done) | (simp; omega))))).rd).mono ?_); rintro e w5 ⟨rfl, hb5⟩; obtain ⟨fc5, fg5, hc5, hf5, hz5⟩ := bget hb5; try simp at hz5))
      all_goals
        go_wp2_with fail
        go_roundw
        case rel => exact ⟨k + 1, by omega, by go_num, by (have hbl := Hbl.out; (repeat' (first | (with_reducible exact Below.refl _ _) | (with_reducible assumption) | (with_reducible refine Below.alloc ?_ ?_ _) | (with_reducible refine Below.setCell ?_ ?_ _) | (with_reducible refine Below.drew ?_) | (with_reducible refine below_drewN ?_ _) | (with_reducible refine below_via ?_ (by with_reducible assumption) ?_) | omega | (simp; done) | (simp; omega))))⟩
        case measure => simp [intOf]; omega
    · go_wp2_with (first | (go_at_call 18; (with_reducible refine (vecAdd ls A c _ HSH.out H64.out (HRS.out.keep Hbl.out)).mono ?_); rintro e w2 ⟨v2, rfl, hown2, hb2⟩; obtain ⟨A2, c2, rfl, hrs2, _⟩ := hown2.rs; have HR2 := Lib.hid hrs2; rw [List.length_map]; clear hown2 hrs2; obtain ⟨fc2, fg2, hc2, hf2, hz2⟩ := bget hb2; (try simp at hz2)) | (go_at_call 19; (with_reducible refine (ref11Add ls A c _ (by omega) HSH.out H64.out ((HRS.out.keep Hbl.out).keep (by (repeat' (first | (with_reducible exact Below.refl _ _) | (with_reducible assumption) | (with_reducible refine Below.alloc ?_ ?_ _) | (with_reducible refine Below.setCell ?_ ?_ _) | (with_reducible refine Below.drew ?_) | (with_reducible refine below_drewN ?_ _) | (with_reducible refine below_via ?_ (by with_reducible assumption) ?_) | omega | (simp; done) | (simp; omega)))))).mono ?_); rintro e w3 ⟨v3, rfl, hown3, hb3⟩; obtain ⟨A3, c3, rfl, hrs3, _⟩ := hown3.rs; have HR3 := Lib.hid hrs3; rw [List.length_map]; clear hown3 hrs3; obtain ⟨fc3, fg3, hc3, hf3, hz3⟩ := bget hb3; (try simp at hz3)) | (go_at_call 20; (with_reducible refine (ref11Same (addL ls) A2 A3 c2 c3 _ (by omega) (HR2.out.keep (by (repeat' (first | (with_reducible exact Below.refl _ _) | (with_reducible assumption) | (with_reducible refine Below.alloc ?_ ?_ _) | (with_reducible refine Below.setCell ?_ ?_ _) | (with_reducible refine Below.drew ?_) | (with_reducible refine below_drewN ?_ _) | (with_reducible refine below_via ?_ (by with_reducible assumption) ?_) | omega | (simp; done) | (simp; omega))))).rd (HR3.out.keep (by (repeat' (first | (with_reducible exact Below.refl _ _) | (with_reducible assumption) | (with_reducible refine Below.alloc ?_ ?_ _) | (with_reducible refine Below.setCell ?_ ?_ _) | (with_reducible refine Below.drew ?_) | (with_reducible refine below_drewN ?_ _) | (with_reducible refine below_via ?_ (by with_reducible assumption) ?_) | omega | (simp; done) | (simp; omega))))).rd).mono ?_); rintro e w4 ⟨rfl, hb4⟩; obtain ⟨fc4, fg4, hc4, hf4, hz4⟩ := bget hb4; (try simp at hz4)) | (go_at_call 21; (with_reducible refine (law11lives _).mono ?_); rintro e w5 ⟨rfl, hb5⟩; obtain ⟨fc5, fg5, hc5, hf5, hz5⟩ := bget hb5; try simp at hz5))
      go_ret
      exact ⟨rfl, by have hbl := Hbl.out; have hb1 := Hb1.out; (repeat' (first | (with_reducible exact Below.refl _ _) | (with_reducible assumption) | (with_reducible refine Below.alloc ?_ ?_ _) | (with_reducible refine Below.setCell ?_ ?_ _) | (with_reducible refine Below.drew ?_) | (with_reducible refine below_drewN ?_ _) | (with_reducible refine below_via ?_ (by with_reducible assumption) ?_) | omega | (simp; done) | (simp; omega)))⟩
end Go.Proofs.Ytffmljkpbgohkaa
