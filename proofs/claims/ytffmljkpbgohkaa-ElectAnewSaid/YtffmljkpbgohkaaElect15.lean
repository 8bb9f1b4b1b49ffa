/- Choices: contracts of the law's Few, lives; the law ElectChoices. -/
import Derived.Test.YtffmljkpbgohkaaElect14
import Derived.Test.YtffmljkpbgohkaaSl
namespace Go.Proofs.Ytffmljkpbgohkaa
open Go.RowKit
theorem Rs.takeL {α : Type} {enc : α → List Value} {w : World} {k : Nat} {l : List α} {A : Option Addr} {c : Nat} (h : Rs w k (l.map enc) A c) (n : Nat) : Rs w k ((l.take n).map enc) A c := by
  rw [List.map_take]; exact h.take n
theorem Rs.addr {w : World} {k : Nat} {rows : List (List Value)} {A : Option Addr} {c : Nat} (h : Rs w k rows A c) (h0 : 0 < rows.length) : ∃ b o, A = some ⟨b, o, none⟩ ∧ b < w.heap.size := by
  obtain ⟨b, o, hA, hb, _⟩ := h.rd 0 rows[0] (List.getElem?_eq_getElem h0)
  exact ⟨b, o, hA, hb⟩
set_option maxRecDepth 100000 in
set_option maxHeartbeats 1000000 in
theorem law16Few (l : List Choice) (m : Nat) (hm : Hid ((l.take 20).length = m)) (A : Option Addr) (c : Nat) (w : World) (hl : l.length ≤ maxLen) (hr : Rs w 5 (l.map encChoice) A c) :
    Calls Try.prog 43 #[.slice A l.length c] w fun e w' => e = .returned (.slice A m c) ∧ w = w' := by
  have hml : (l.length : Int) ≤ 9223372036854775807 := by unfold maxLen at hl; omega
  have hcap := hr.cap
  have hroom := hr.room
  rw [List.length_map] at hcap
  unfold maxLen at hroom
  rw [← hm.out]
  by_cases h : 20 < l.length
  · have HT := Lib.hid (show (l.take 20).length = 20 from by rw [List.length_take]; omega)
    obtain ⟨b, o, rfl, hb⟩ := hr.addr (by rw [List.length_map]; omega)
    clear hr hm
    go_enter Try.func43, Try.ntmps43
    go_wp2_with fail
    go_ret
    exact ⟨by rw [HT.out]; rfl, rfl⟩
  · have HT := Lib.hid (show (l.take 20).length = l.length from by rw [List.length_take]; omega)
    clear hr hm
    go_enter Try.func43, Try.ntmps43
    go_wp2_with fail
    go_ret
    exact ⟨by rw [HT.out]; rfl, rfl⟩
theorem livesElect : electC [] ⟨1, 2⟩ ⟨3, 2⟩ = 0 ∧ electL [] ⟨1, 2⟩ ⟨3, 2⟩ = [⟨⟨1, 2⟩, ⟨3, 2⟩, false⟩] ∧ agreeC [⟨⟨1, 2⟩, ⟨3, 2⟩, false⟩] ⟨1, 2⟩ ⟨3, 2⟩ = 0 ∧ agreeL [⟨⟨1, 2⟩, ⟨3, 2⟩, false⟩] ⟨1, 2⟩ ⟨3, 2⟩ = [⟨⟨1, 2⟩, ⟨3, 2⟩, true⟩] ∧ readyC [⟨⟨1, 2⟩, ⟨3, 2⟩, true⟩] ⟨1, 2⟩ = 0 ∧ readyU [⟨⟨1, 2⟩, ⟨3, 2⟩, true⟩] ⟨1, 2⟩ = ⟨3, 2⟩ := by decide
set_option maxRecDepth 100000 in
set_option maxHeartbeats 4000000 in
theorem law16lives (w : World) : Calls Try.prog 57 #[] w fun e w' => e = .returned (.bool true) ∧ Below w.heap.size w w' := by
  have c1 := fun W => electElect [] ⟨1, 2⟩ ⟨3, 2⟩ none 0 W (by simp) (Rs.empty _ _)
  have c2 := fun A c W h => electAgree [⟨⟨1, 2⟩, ⟨3, 2⟩, false⟩] ⟨1, 2⟩ ⟨3, 2⟩ A c W (by simp) h
  have c3 := fun A c W h => electReady [⟨⟨1, 2⟩, ⟨3, 2⟩, true⟩] ⟨1, 2⟩ A c W (by simp) h
  rw [livesElect.1, livesElect.2.1] at c1
  rw [livesElect.2.2.1, livesElect.2.2.2.1] at c2
  rw [livesElect.2.2.2.2.1, livesElect.2.2.2.2.2] at c3
  simp only [List.length_cons, List.length_nil, Nat.zero_add] at c1 c2 c3
  have C1 := Lib.hid c1
  have C2 := Lib.hid c2
  have C3 := Lib.hid c3
  clear c1 c2 c3
  go_enter Try.func57, Try.ntmps57
  go_wp2_with (first | (go_at_call 49; (with_reducible refine (C1.out _).mono ?_); rintro e w1 ⟨v1, rfl, hown1, hb1⟩; obtain ⟨A1, d1, rfl, hrs1, _⟩ := hown1.rs; have HR1 := Lib.hid hrs1; clear hown1 hrs1; simp only [List.length_map, List.length_cons, List.length_nil, Nat.zero_add]; obtain ⟨fc1, fg1, hc1, hf1, hz1⟩ := bget hb1; (try simp at hz1)) | (go_at_call 51; (with_reducible refine (C2.out _ _ _ ?_).mono ?_); exact HR1.out.keep (by (repeat' (first | (with_reducible exact Below.refl _ _) | (with_reducible assumption) | (with_reducible refine Below.alloc ?_ ?_ _) | (with_reducible refine Below.setCell ?_ ?_ _) | (with_reducible refine Below.drew ?_) | (with_reducible refine below_drewN ?_ _) | (with_reducible refine below_via ?_ (by with_reducible assumption) ?_) | omega | (simp; done) | (simp; omega)))); rintro e w2 ⟨v2, rfl, hown2, hb2⟩; obtain ⟨A2, d2, rfl, hrs2, _⟩ := hown2.rs; have HR2 := Lib.hid hrs2; clear hown2 hrs2; simp only [List.length_map, List.length_cons, List.length_nil, Nat.zero_add]; obtain ⟨fc2, fg2, hc2, hf2, hz2⟩ := bget hb2; (try simp at hz2)) | (go_at_call 55; (with_reducible refine (C3.out _ _ _ ?_).mono ?_); exact (HR2.out.keep (by (repeat' (first | (with_reducible exact Below.refl _ _) | (with_reducible assumption) | (with_reducible refine Below.alloc ?_ ?_ _) | (with_reducible refine Below.setCell ?_ ?_ _) | (with_reducible refine Below.drew ?_) | (with_reducible refine below_drewN ?_ _) | (with_reducible refine below_via ?_ (by with_reducible assumption) ?_) | omega | (simp; done) | (simp; omega))))).rd; rintro e w3 ⟨rfl, hb3⟩; obtain ⟨fc3, fg3, hc3, hf3, hz3⟩ := bget hb3; (try simp at hz3)))
  go_ret
  exact ⟨rfl, by (repeat' (first | (with_reducible exact Below.refl _ _) | (with_reducible assumption) | (with_reducible refine Below.alloc ?_ ?_ _) | (with_reducible refine Below.setCell ?_ ?_ _) | (with_reducible refine Below.drew ?_) | (with_reducible refine below_drewN ?_ _) | (with_reducible refine below_via ?_ (by with_reducible assumption) ?_) | omega | (simp; done) | (simp; omega)))⟩
end Go.Proofs.Ytffmljkpbgohkaa
