/- Joined: Wide4, Wide5, Fix1, Wide6, Fix2, Bits0, Big1. -/
import Derived.Test.YtiidplinmempcaaJz3
import Derived.Test.YtiidplinmempcaaJz1
import Derived.Test.YtiidplinmempcaaRows
import Derived.WalkKit
import Derived.WalkSpells
import Derived.WalkLawsBesides
import Derived.BigQuiet
import Derived.Deep.RegionHeld3
import Derived.Handy
/- Contracts of wide.total's add and done. -/
namespace Go.Proofs.Ytiidplinmempcaa
open Go.RowKit

/-- The cells of a sum of 192 bits. -/
def tot (s : Int) : Array Value := #[.int .i64 (s / 340282366920938463463374607431768211456), .int .i64 (whi (wrap128 s)), .int .u64 (wlo s)]
def InT (s : Int) : Prop := -1532495540865888858358347027150309183618739122183602176 ≤ s ∧ s ≤ 1532495540865888858358347027150309183618739122183602176
theorem shr63 (a : Int) (h : -9223372036854775808 ≤ a ∧ a ≤ 9223372036854775807) : a / 9223372036854775808 = if a < 0 then -1 else 0 := by split <;> omega
theorem word_hi (s : Int) : whi (wrap128 s) % 18446744073709551616 = (s % 340282366920938463463374607431768211456) / 18446744073709551616 := by unfold whi wrap128; omega
theorem word_lo (s : Int) : wlo s = (s % 340282366920938463463374607431768211456) % 18446744073709551616 := by unfold wlo; omega
theorem carry128 (a b : Int) : whi (a / 18446744073709551616 + b / 18446744073709551616 + whi (a % 18446744073709551616 + b % 18446744073709551616)) = (a + b) / 340282366920938463463374607431768211456 := by unfold whi; omega
theorem low128 (a b : Int) : (a / 18446744073709551616 + b / 18446744073709551616 + whi (a % 18446744073709551616 + b % 18446744073709551616)) = (a + b) / 18446744073709551616 := by unfold whi; omega
theorem whi_in (n : Int) (h : In128 n) : whi n = whi (wrap128 n) := by rw [wrap128_in h]
/-- The carry out of the second word. -/
theorem tot_carry (s n : Int) (hn : In128 n) : whi (IntKind.u64.wrap (whi (wrap128 s)) + IntKind.u64.wrap (whi n) + whi (wlo s + wlo n)) = (s % 340282366920938463463374607431768211456 + n % 340282366920938463463374607431768211456) / 340282366920938463463374607431768211456 := by
  rw [IntKind.wrap_u64, IntKind.wrap_u64, whi_in n hn, word_hi, word_hi, word_lo s, word_lo n]
  exact carry128 _ _
theorem tot_over (s n : Int) (hn : In128 n) : s / 340282366920938463463374607431768211456 + (whi n / 9223372036854775808 + whi (IntKind.u64.wrap (whi (wrap128 s)) + IntKind.u64.wrap (whi n) + whi (wlo s + wlo n))) = (s + n) / 340282366920938463463374607431768211456 := by
  rw [tot_carry s n hn]
  have : whi n / 9223372036854775808 = n / 340282366920938463463374607431768211456 := by unfold In128 at hn; unfold whi; omega
  rw [this]; clear this hn
  omega
theorem tot_hi (s n : Int) (hn : In128 n) : IntKind.i64.wrap (wlo (IntKind.u64.wrap (whi (wrap128 s)) + IntKind.u64.wrap (whi n) + whi (wlo s + wlo n))) = whi (wrap128 (s + n)) := by
  rw [IntKind.wrap_u64, IntKind.wrap_u64, whi_in n hn, word_hi, word_hi, word_lo s, word_lo n, low128, IntKind.wrap_i64]
  clear hn
  unfold wlo whi wrap128
  omega
set_option maxRecDepth 100000 in
set_option maxHeartbeats 1000000 in
theorem totalAdd (s n : Int) (g : Nat) (w : World) (hs : InT s) (hn : In128 n) (hg : Blk w g 172 (tot s)) :
    Calls Try.prog 127 #[.pointer (some ⟨g, 0, none⟩), (.agg #[.int .i64 (whi (n)), .int .u64 (wlo (n))])] w fun e w' => e = .returned (.tuple #[]) ∧ Blk w' g 172 (tot (s + n)) ∧ Only g w w' := by
  have c0 := hg.cell 0
  have c1 := hg.cell 1
  have c2 := hg.cell 2
  have z0 := hg.frozen 0
  have z1 := hg.frozen 1
  have z2 := hg.frozen 2
  have hlt := hg.lt
  simp [tot] at c0 c1 c2
  have h1 := whi_i hn
  have h2 := wlo_u n
  have h3 := wlo_u s
  have h4 := whi_i (wrap128_is s)
  have e1 := add64 (wlo s) (wlo n) 0 h3.1 h2.1 (by omega) (by omega)
  simp only [Int.add_zero] at e1
  have s1 : wlo (wlo s + wlo n) = wlo (s + n) := by unfold wlo; omega
  rw [s1] at e1
  have h5 : 0 ≤ whi (wlo s + wlo n) ∧ whi (wlo s + wlo n) ≤ 1 := by unfold whi; omega
  have h6 : 0 ≤ IntKind.u64.wrap (whi (wrap128 s)) ∧ IntKind.u64.wrap (whi (wrap128 s)) ≤ 18446744073709551615 := by rw [IntKind.wrap_u64]; omega
  have h7 : 0 ≤ IntKind.u64.wrap (whi n) ∧ IntKind.u64.wrap (whi n) ≤ 18446744073709551615 := by rw [IntKind.wrap_u64]; omega
  have e2 := add64 (IntKind.u64.wrap (whi (wrap128 s))) (IntKind.u64.wrap (whi n)) (whi (wlo s + wlo n)) h6.1 h7.1 h5.1 h5.2
  obtain ⟨c, hc⟩ : ∃ c, c = whi (wlo s + wlo n) := ⟨_, rfl⟩
  rw [← hc] at e1 e2 h5
  have s2 : IntKind.i64.wrap (wlo (IntKind.u64.wrap (whi (wrap128 s)) + IntKind.u64.wrap (whi n) + c)) = whi (wrap128 (s + n)) := by
    rw [hc]; exact tot_hi s n hn
  have h8 := wlo_u (IntKind.u64.wrap (whi (wrap128 s)) + IntKind.u64.wrap (whi n) + c)
  obtain ⟨d, hd⟩ : ∃ d, d = whi (IntKind.u64.wrap (whi (wrap128 s)) + IntKind.u64.wrap (whi n) + c) := ⟨_, rfl⟩
  have h9 : 0 ≤ d ∧ d ≤ 1 := by rw [hd]; rw [IntKind.wrap_u64, IntKind.wrap_u64]; unfold whi; omega
  have s3 : s / 340282366920938463463374607431768211456 + (whi n / 9223372036854775808 + d) = (s + n) / 340282366920938463463374607431768211456 := by
    rw [hd, hc]; exact tot_over s n hn
  have h10 : -9007199254740992 ≤ s / 340282366920938463463374607431768211456 ∧ s / 340282366920938463463374607431768211456 ≤ 9007199254740992 := by unfold InT at hs; omega
  rw [← hd] at e2
  obtain ⟨lo, hlo⟩ : ∃ lo, lo = wlo (IntKind.u64.wrap (whi (wrap128 s)) + IntKind.u64.wrap (whi n) + c) := ⟨_, rfl⟩
  rw [← hlo] at e2 s2 h8
  clear hlo hd hc s1
  have Hg := Lib.hid hg
  clear hg
  go_enter Try.func127, Try.ntmps127
  go_wp2
  go_region
  all_goals (go_wp2; go_region)
  all_goals (go_wp2; go_region)
  all_goals
    go_wp2
    go_end0
    exact ⟨rfl, by simpa [tot] using ((((Hg.out.set 0 _).set 1 _).set 2 _).alloc _).drew.drew.drew, (((((Only.refl g w).set (.inl rfl) _).set (.inl rfl) _).set (.inl rfl) _).alloc _).drew.drew.drew⟩
set_option maxRecDepth 100000 in
set_option maxHeartbeats 1000000 in
theorem totalDoneYes (s : Int) (g : Nat) (w : World) (hs : In128 s) (hg : Blk w g 172 (tot s)) :
    Calls Try.prog 128 #[.pointer (some ⟨g, 0, none⟩)] w fun e w' => e = .returned (.tuple #[(.agg #[.int .i64 (whi (s)), .int .u64 (wlo (s))]), .int .i64 0]) ∧ Below w.heap.size w w' := by
  have c0 := hg.cell 0
  have c1 := hg.cell 1
  have c2 := hg.cell 2
  have hlt := hg.lt
  simp [tot, wrap128_in hs] at c0 c1 c2
  have h1 := whi_i hs
  have e1 : (s / 340282366920938463463374607431768211456 == whi s / 9223372036854775808) = true := by
    rw [beq_iff_eq]; unfold In128 at hs; unfold whi; omega
  clear hg
  go_enter Try.func128, Try.ntmps128
  go_wp2
  go_region_held3 (fun w' => w'.cell? ⟨g, 0, none⟩ = some (.int .i64 (s / 340282366920938463463374607431768211456)) ∧ w'.cell? ⟨g, 1, none⟩ = some (.int .i64 (whi s)) ∧ w'.cell? ⟨g, 2, none⟩ = some (.int .u64 (wlo s))) (first | (simp [go_sem]; done) | (repeat' (first | (with_reducible assumption) | (with_reducible refine And.intro ?_ ?_) | (with_reducible refine cell_drew ?_) | (with_reducible refine cell_via (by with_reducible assumption) ?_ ?_) | (simp [*]; done) | (simp [go_sem]; done) | (with_reducible refine cell_alloc ?_ ?_) | (with_reducible refine cell_set_far ?_ ?_) | omega | (simp; omega)))) (first | (go_at_call 129; (with_reducible refine (wideRangedYes _ _).mono ?_); rintro e w1 ⟨rfl, hb1⟩; obtain ⟨fc1, fg1, hc1, hf1, hz1⟩ := bget hb1; try simp at hz1))
  go_wp2
  all_goals
    refine bodyPost_ret (by simp [*, results, Try.results128, go_sem]; try rfl) rfl ⟨rfl, ?_⟩
    (repeat' (first | (with_reducible exact Below.refl _ _) | (with_reducible assumption) | (with_reducible refine Below.alloc ?_ ?_ _) | (with_reducible refine Below.setCell ?_ ?_ _) | (with_reducible refine Below.drew ?_) | (with_reducible refine below_drewN ?_ _) | (with_reducible refine below_via ?_ (by with_reducible assumption) ?_) | omega | (simp; done) | (simp; omega)))
set_option maxRecDepth 100000 in
set_option maxHeartbeats 1000000 in
theorem totalDoneNo (s : Int) (g : Nat) (w : World) (hs : ¬ In128 s) (hg : Blk w g 172 (tot s)) :
    Calls Try.prog 128 #[.pointer (some ⟨g, 0, none⟩)] w fun e w' => e = .returned (.tuple #[.agg #[.int .i64 0, .int .u64 0], .int .i64 7]) ∧ Below w.heap.size w w' := by
  have c0 := hg.cell 0
  have c1 := hg.cell 1
  have c2 := hg.cell 2
  have hlt := hg.lt
  simp [tot] at c0 c1 c2
  have h1 := whi_i (wrap128_is s)
  have e1 : (s / 340282366920938463463374607431768211456 == whi (wrap128 s) / 9223372036854775808) = false := by
    rw [beq_eq_false_iff_ne]; unfold In128 at hs; unfold whi wrap128; omega
  clear hg hs
  go_enter Try.func128, Try.ntmps128
  go_wp2
  go_region_held3 (fun w' => w'.cell? ⟨g, 0, none⟩ = some (.int .i64 (s / 340282366920938463463374607431768211456)) ∧ w'.cell? ⟨g, 1, none⟩ = some (.int .i64 (whi (wrap128 s))) ∧ w'.cell? ⟨g, 2, none⟩ = some (.int .u64 (wlo s))) (first | (simp [go_sem]; done) | (repeat' (first | (with_reducible assumption) | (with_reducible refine And.intro ?_ ?_) | (with_reducible refine cell_drew ?_) | (with_reducible refine cell_via (by with_reducible assumption) ?_ ?_) | (simp [*]; done) | (simp [go_sem]; done) | (with_reducible refine cell_alloc ?_ ?_) | (with_reducible refine cell_set_far ?_ ?_) | omega | (simp; omega)))) (first | (go_at_call 129; (with_reducible refine (wideRangedNo _ _ _).mono ?_); rintro e w1 ⟨rfl, hb1⟩; obtain ⟨fc1, fg1, hc1, hf1, hz1⟩ := bget hb1; try simp at hz1))
  go_wp2
  all_goals
    refine bodyPost_ret (by simp [*, results, Try.results128, go_sem]; try rfl) rfl ⟨rfl, ?_⟩
    (repeat' (first | (with_reducible exact Below.refl _ _) | (with_reducible assumption) | (with_reducible refine Below.alloc ?_ ?_ _) | (with_reducible refine Below.setCell ?_ ?_ _) | (with_reducible refine Below.drew ?_) | (with_reducible refine below_drewN ?_ _) | (with_reducible refine below_via ?_ (by with_reducible assumption) ?_) | omega | (simp; done) | (simp; omega)))
end Go.Proofs.Ytiidplinmempcaa

/- Contracts of wide.Sub, Add. -/
namespace Go.Proofs.Ytiidplinmempcaa
open Go.RowKit
theorem tot_zero : tot 0 = #[.int .i64 0, .int .i64 0, .int .u64 0] := by simp [tot, whi, wlo, wrap128]
theorem not_u64 (x : Int) (h : 0 ≤ x) (h' : x ≤ 18446744073709551615) : bits .xor .u64 IntKind.u64.max x = 18446744073709551615 - x := by
  obtain ⟨x, rfl⟩ := Int.eq_ofNat_of_zero_le h
  show IntKind.u64.wrap ((BitVec.ofInt 64 IntKind.u64.max ^^^ BitVec.ofInt 64 (x : Int)).toNat : Int) = _
  have e : BitVec.ofInt 64 IntKind.u64.max = BitVec.allOnes 64 := by decide
  rw [e, BitVec.allOnes_xor, BitVec.toNat_not, BitVec.ofInt_natCast, BitVec.toNat_ofNat, IntKind.wrap_u64]
  omega
theorem not_i64 (x : Int) (h : -9223372036854775808 ≤ x) (h' : x ≤ 9223372036854775807) : bits .xor .i64 (-1) x = - x - 1 := by
  show IntKind.i64.wrap ((BitVec.ofInt 64 (-1) ^^^ BitVec.ofInt 64 x).toNat : Int) = _
  have e : BitVec.ofInt 64 (-1) = BitVec.allOnes 64 := by decide
  rw [e, BitVec.allOnes_xor, BitVec.toNat_not, BitVec.toNat_ofInt, IntKind.wrap_i64]
  omega
theorem not_hi (b : Int) (hb : In128 b) : bits .xor .i64 (-1) (whi b) = whi (- b - 1) := by
  have h := whi_i hb
  rw [not_i64 _ h.1 h.2]; unfold whi; omega
theorem not_lo (b : Int) : bits .xor .u64 IntKind.u64.max (wlo b) = wlo (- b - 1) := by
  have h := wlo_u b
  rw [not_u64 _ h.1 h.2]; unfold wlo; omega
set_option maxRecDepth 100000 in
set_option maxHeartbeats 1000000 in
theorem wideSubYes (a b : Int) (w : World) (ha : In128 a) (hb : In128 b) (hab : In128 (a - b)) :
    Calls Try.prog 171 #[(.agg #[.int .i64 (whi (a)), .int .u64 (wlo (a))]), (.agg #[.int .i64 (whi (b)), .int .u64 (wlo (b))])] w fun e w' => e = .returned (.tuple #[(.agg #[.int .i64 (whi (a - b)), .int .u64 (wlo (a - b))]), .int .i64 0]) ∧ Below w.heap.size w w' := by
  have h3 := whi_i hb
  have h4 := wlo_u b
  have x1 := not_hi b hb
  have x2 := not_lo b
  have hb' : In128 (- b - 1) := by unfold In128 at hb ⊢; omega
  have q1 : 0 + a + (- b - 1) + 1 = a - b := by omega
  have i1 : IntKind.i64.signed = true := rfl
  have i2 : IntKind.u64.signed = false := rfl
  go_enter Try.func171, Try.ntmps171
  go_wp2_with fail
  refine (totalAdd 0 a (w.heap.size + 1 + 1 + 1) _ (by unfold InT; omega) ha (by rw [tot_zero]; (repeat' (first | (with_reducible assumption) | (with_reducible refine Blk.drew ?_) | (with_reducible refine Blk.here ?_) | (with_reducible refine Blk.alloc ?_ _) | (with_reducible refine Blk.far ?_ ?_ _) | (with_reducible refine Blk.below ?_ (by with_reducible assumption) ?_) | omega | (simp; done) | (simp; omega))))).mono ?_
  rintro e w1 ⟨rfl, hk1, ho1⟩
  obtain ⟨fc1, fg1, hc1, hf1, hz1⟩ := oget ho1
  simp at hz1
  have Hk1 := Lib.hid hk1
  have Ho1 := Lib.hid ho1
  clear hk1 ho1
  go_wp2_with fail
  refine (totalAdd (0 + a) (- b - 1) (w.heap.size + 1 + 1 + 1) _ (by unfold In128 at ha; unfold InT; omega) hb' Hk1.out).mono ?_
  rintro e w2 ⟨rfl, hk2, ho2⟩
  obtain ⟨fc2, fg2, hc2, hf2, hz2⟩ := oget ho2
  have Hk2 := Lib.hid hk2
  have Ho2 := Lib.hid ho2
  clear hk2 ho2
  go_wp2_with fail
  refine (wideOf 1 _ (by unfold In64; omega)).mono ?_
  rintro e w3 ⟨rfl, hb3⟩
  obtain ⟨fc3, fg3, hc3, hf3, hz3⟩ := bget hb3
  go_wp2_with fail
  refine (totalAdd (0 + a + (- b - 1)) 1 (w.heap.size + 1 + 1 + 1) _ (by unfold In128 at ha hb; unfold InT; omega) (by unfold In128; omega) (Hk2.out.below hb3 (by omega))).mono ?_
  rintro e w4 ⟨rfl, hk4, ho4⟩
  obtain ⟨fc4, fg4, hc4, hf4, hz4⟩ := oget ho4
  rw [q1] at hk4
  have Hk4 := Lib.hid hk4
  have Ho4 := Lib.hid ho4
  clear hk4 ho4 q1
  go_wp2_with fail
  refine (totalDoneYes (a - b) (w.heap.size + 1 + 1 + 1) _ hab Hk4.out).mono ?_
  rintro e w5 ⟨rfl, hb5⟩
  obtain ⟨fc5, fg5, hc5, hf5, hz5⟩ := bget hb5
  go_wp2
  all_goals
    refine bodyPost_ret (by simp [*, results, Try.results171, go_sem, ↓IntWalk.iteOmega]; try rfl) rfl ⟨rfl, ?_⟩
    refine Below.setCell (Below.setCell (below_via (below_only (below_via (below_only (below_only ?_ Ho1.out ?_ ?_) Ho2.out ?_ ?_) hb3 ?_) Ho4.out ?_ ?_) hb5 ?_) ?_ _) ?_ _ <;> first | (simp; omega) | (repeat' (first | (with_reducible exact Below.refl _ _) | (with_reducible assumption) | (with_reducible refine Below.alloc ?_ ?_ _) | (with_reducible refine Below.setCell ?_ ?_ _) | (with_reducible refine Below.drew ?_) | (with_reducible refine below_drewN ?_ _) | (with_reducible refine below_via ?_ (by with_reducible assumption) ?_) | omega | (simp; done) | (simp; omega)))
set_option maxRecDepth 100000 in
set_option maxHeartbeats 1000000 in
theorem wideSubNo (a b : Int) (w : World) (ha : In128 a) (hb : In128 b) (hab : ¬ In128 (a - b)) :
    Calls Try.prog 171 #[(.agg #[.int .i64 (whi (a)), .int .u64 (wlo (a))]), (.agg #[.int .i64 (whi (b)), .int .u64 (wlo (b))])] w fun e w' => e = .returned (.tuple #[.agg #[.int .i64 0, .int .u64 0], .int .i64 7]) ∧ Below w.heap.size w w' := by
  have h3 := whi_i hb
  have h4 := wlo_u b
  have x1 := not_hi b hb
  have x2 := not_lo b
  have hb' : In128 (- b - 1) := by unfold In128 at hb ⊢; omega
  have q1 : 0 + a + (- b - 1) + 1 = a - b := by omega
  have i1 : IntKind.i64.signed = true := rfl
  have i2 : IntKind.u64.signed = false := rfl
  go_enter Try.func171, Try.ntmps171
  go_wp2_with fail
  refine (totalAdd 0 a (w.heap.size + 1 + 1 + 1) _ (by unfold InT; omega) ha (by rw [tot_zero]; (repeat' (first | (with_reducible assumption) | (with_reducible refine Blk.drew ?_) | (with_reducible refine Blk.here ?_) | (with_reducible refine Blk.alloc ?_ _) | (with_reducible refine Blk.far ?_ ?_ _) | (with_reducible refine Blk.below ?_ (by with_reducible assumption) ?_) | omega | (simp; done) | (simp; omega))))).mono ?_
  rintro e w1 ⟨rfl, hk1, ho1⟩
  obtain ⟨fc1, fg1, hc1, hf1, hz1⟩ := oget ho1
  simp at hz1
  have Hk1 := Lib.hid hk1
  have Ho1 := Lib.hid ho1
  clear hk1 ho1
  go_wp2_with fail
  refine (totalAdd (0 + a) (- b - 1) (w.heap.size + 1 + 1 + 1) _ (by unfold In128 at ha; unfold InT; omega) hb' Hk1.out).mono ?_
  rintro e w2 ⟨rfl, hk2, ho2⟩
  obtain ⟨fc2, fg2, hc2, hf2, hz2⟩ := oget ho2
  have Hk2 := Lib.hid hk2
  have Ho2 := Lib.hid ho2
  clear hk2 ho2
  go_wp2_with fail
  refine (wideOf 1 _ (by unfold In64; omega)).mono ?_
  rintro e w3 ⟨rfl, hb3⟩
  obtain ⟨fc3, fg3, hc3, hf3, hz3⟩ := bget hb3
  go_wp2_with fail
  refine (totalAdd (0 + a + (- b - 1)) 1 (w.heap.size + 1 + 1 + 1) _ (by unfold In128 at ha hb; unfold InT; omega) (by unfold In128; omega) (Hk2.out.below hb3 (by omega))).mono ?_
  rintro e w4 ⟨rfl, hk4, ho4⟩
  obtain ⟨fc4, fg4, hc4, hf4, hz4⟩ := oget ho4
  rw [q1] at hk4
  have Hk4 := Lib.hid hk4
  have Ho4 := Lib.hid ho4
  clear hk4 ho4 q1
  go_wp2_with fail
  refine (totalDoneNo (a - b) (w.heap.size + 1 + 1 + 1) _ hab Hk4.out).mono ?_
  rintro e w5 ⟨rfl, hb5⟩
  obtain ⟨fc5, fg5, hc5, hf5, hz5⟩ := bget hb5
  go_wp2
  all_goals
    refine bodyPost_ret (by simp [*, results, Try.results171, go_sem, ↓IntWalk.iteOmega]; try rfl) rfl ⟨rfl, ?_⟩
    refine Below.setCell (Below.setCell (below_via (below_only (below_via (below_only (below_only ?_ Ho1.out ?_ ?_) Ho2.out ?_ ?_) hb3 ?_) Ho4.out ?_ ?_) hb5 ?_) ?_ _) ?_ _ <;> first | (simp; omega) | (repeat' (first | (with_reducible exact Below.refl _ _) | (with_reducible assumption) | (with_reducible refine Below.alloc ?_ ?_ _) | (with_reducible refine Below.setCell ?_ ?_ _) | (with_reducible refine Below.drew ?_) | (with_reducible refine below_drewN ?_ _) | (with_reducible refine below_via ?_ (by with_reducible assumption) ?_) | omega | (simp; done) | (simp; omega)))
end Go.Proofs.Ytiidplinmempcaa

/- Contracts of fix.narrow, Sub, Abs, Least, Most, Clip. -/
namespace Go.Proofs.Ytiidplinmempcaa
open Go.RowKit
set_option maxHeartbeats 400000 in
theorem narrowYes (n : Int) (w : World) (h : In64 n) :
    Calls Try.prog 169 #[(.agg #[.int .i64 (whi (n)), .int .u64 (wlo (n))]), .int .i64 0] w fun e w' => e = .returned (.tuple #[.int .i64 n, .int .i64 0]) ∧ Below w.heap.size w w' := by
  go_enter Try.func169, Try.ntmps169
  go_wp2_with (go_at_call 82; (with_reducible refine (wideIntYes _ _ h).mono ?_); rintro e w1 ⟨rfl, hb1⟩; obtain ⟨fc1, fg1, hc1, hf1, hz1⟩ := bget hb1; try simp at hz1)
  go_ret2
  exact ⟨rfl, by (repeat' (first | (with_reducible exact Below.refl _ _) | (with_reducible assumption) | (with_reducible refine Below.alloc ?_ ?_ _) | (with_reducible refine Below.setCell ?_ ?_ _) | (with_reducible refine Below.drew ?_) | (with_reducible refine below_drewN ?_ _) | (with_reducible refine below_via ?_ (by with_reducible assumption) ?_) | omega | (simp; done) | (simp; omega)))⟩
set_option maxHeartbeats 400000 in
theorem narrowNo (n : Int) (w : World) (h : In128 n) (h' : ¬ In64 n) :
    Calls Try.prog 169 #[(.agg #[.int .i64 (whi (n)), .int .u64 (wlo (n))]), .int .i64 0] w fun e w' => e = .returned (.tuple #[.int .i64 0, .int .i64 7]) ∧ Below w.heap.size w w' := by
  go_enter Try.func169, Try.ntmps169
  go_wp2_with (go_at_call 82; (with_reducible refine (wideIntNo _ _ h h').mono ?_); rintro e w1 ⟨rfl, hb1⟩; obtain ⟨fc1, fg1, hc1, hf1, hz1⟩ := bget hb1; try simp at hz1)
  go_ret2
  exact ⟨rfl, by (repeat' (first | (with_reducible exact Below.refl _ _) | (with_reducible assumption) | (with_reducible refine Below.alloc ?_ ?_ _) | (with_reducible refine Below.setCell ?_ ?_ _) | (with_reducible refine Below.drew ?_) | (with_reducible refine below_drewN ?_ _) | (with_reducible refine below_via ?_ (by with_reducible assumption) ?_) | omega | (simp; done) | (simp; omega)))⟩
set_option maxHeartbeats 400000 in
theorem narrowErr (a b e : Int) (w : World) (h : (e != 0) = true) :
    Calls Try.prog 169 #[.agg #[.int .i64 a, .int .u64 b], .int .i64 e] w fun e' w' => e' = .returned (.tuple #[.int .i64 0, .int .i64 e]) ∧ Below w.heap.size w w' := by
  go_enter Try.func169, Try.ntmps169
  go_wp2
  go_ret2
  exact ⟨rfl, by (repeat' (first | (with_reducible exact Below.refl _ _) | (with_reducible assumption) | (with_reducible refine Below.alloc ?_ ?_ _) | (with_reducible refine Below.setCell ?_ ?_ _) | (with_reducible refine Below.drew ?_) | (with_reducible refine below_drewN ?_ _) | (with_reducible refine below_via ?_ (by with_reducible assumption) ?_) | omega | (simp; done) | (simp; omega)))⟩
set_option maxHeartbeats 400000 in
theorem fixSubYes (a b : Int) (w : World) (ha : In64 a) (hb : In64 b) (h : In64 (a - b)) :
    Calls Try.prog 142 #[.int .i64 a, .int .i64 b] w fun e w' => e = .returned (.tuple #[.int .i64 (a - b), .int .i64 0]) ∧ Below w.heap.size w w' := by
  have a1 := in128_of64 ha
  have b1 := in128_of64 hb
  have c1 := in128_of64 h
  go_enter Try.func142, Try.ntmps142
  go_wp2_with (first | (go_at_call 103; (with_reducible refine (wideOf a _ ha).mono ?_); rintro e w1 ⟨rfl, hb1⟩; obtain ⟨fc1, fg1, hc1, hf1, hz1⟩ := bget hb1; try simp at hz1) | (go_at_call 103; (with_reducible refine (wideOf b _ hb).mono ?_); rintro e w1 ⟨rfl, hb1⟩; obtain ⟨fc1, fg1, hc1, hf1, hz1⟩ := bget hb1; try simp at hz1) | (go_at_call 171; (with_reducible refine (wideSubYes a b _ a1 b1 c1).mono ?_); rintro e w1 ⟨rfl, hb1⟩; obtain ⟨fc1, fg1, hc1, hf1, hz1⟩ := bget hb1; try simp at hz1) | (go_at_call 169; (with_reducible refine (narrowYes _ _ h).mono ?_); rintro e w1 ⟨rfl, hb1⟩; obtain ⟨fc1, fg1, hc1, hf1, hz1⟩ := bget hb1; try simp at hz1))
  go_ret2
  exact ⟨rfl, by (repeat' (first | (with_reducible exact Below.refl _ _) | (with_reducible assumption) | (with_reducible refine Below.alloc ?_ ?_ _) | (with_reducible refine Below.setCell ?_ ?_ _) | (with_reducible refine Below.drew ?_) | (with_reducible refine below_drewN ?_ _) | (with_reducible refine below_via ?_ (by with_reducible assumption) ?_) | omega | (simp; done) | (simp; omega)))⟩
set_option maxHeartbeats 400000 in
theorem fixSubNo (a b : Int) (w : World) (ha : In64 a) (hb : In64 b) (h : ¬ In64 (a - b)) :
    Calls Try.prog 142 #[.int .i64 a, .int .i64 b] w fun e w' => e = .returned (.tuple #[.int .i64 0, .int .i64 7]) ∧ Below w.heap.size w w' := by
  have a1 := in128_of64 ha
  have b1 := in128_of64 hb
  have c1 : In128 (a - b) := by unfold In64 at ha hb; unfold In128; omega
  go_enter Try.func142, Try.ntmps142
  go_wp2_with (first | (go_at_call 103; (with_reducible refine (wideOf a _ ha).mono ?_); rintro e w1 ⟨rfl, hb1⟩; obtain ⟨fc1, fg1, hc1, hf1, hz1⟩ := bget hb1; try simp at hz1) | (go_at_call 103; (with_reducible refine (wideOf b _ hb).mono ?_); rintro e w1 ⟨rfl, hb1⟩; obtain ⟨fc1, fg1, hc1, hf1, hz1⟩ := bget hb1; try simp at hz1) | (go_at_call 171; (with_reducible refine (wideSubYes a b _ a1 b1 c1).mono ?_); rintro e w1 ⟨rfl, hb1⟩; obtain ⟨fc1, fg1, hc1, hf1, hz1⟩ := bget hb1; try simp at hz1) | (go_at_call 169; (with_reducible refine (narrowNo _ _ c1 h).mono ?_); rintro e w1 ⟨rfl, hb1⟩; obtain ⟨fc1, fg1, hc1, hf1, hz1⟩ := bget hb1; try simp at hz1))
  go_ret2
  exact ⟨rfl, by (repeat' (first | (with_reducible exact Below.refl _ _) | (with_reducible assumption) | (with_reducible refine Below.alloc ?_ ?_ _) | (with_reducible refine Below.setCell ?_ ?_ _) | (with_reducible refine Below.drew ?_) | (with_reducible refine below_drewN ?_ _) | (with_reducible refine below_via ?_ (by with_reducible assumption) ?_) | omega | (simp; done) | (simp; omega)))⟩
def minL (a : Int) (l : List Int) : Int := l.foldl min a
def maxL (a : Int) (l : List Int) : Int := l.foldl max a
theorem foldl_take (f : Int → Int → Int) (a : Int) (l : List Int) (k : Nat) (h : k < l.length) : (l.take (k + 1)).foldl f a = f ((l.take k).foldl f a) l[k] := by
  rw [List.take_succ_eq_append_getElem h, List.foldl_append]; rfl
def clip (a lo hi : Int) : Int := max lo (min a hi)
theorem maxL_one (a b : Int) : maxL a [b] = max a b := rfl
theorem minL_one (a b : Int) : minL a [b] = min a b := rfl
theorem rd_int1 {w : World} {g o : Nat} {b : Int} (hg : g < w.heap.size) (h0 : w.cell? ⟨g, o, none⟩ = some (.int .i64 b)) : Rd w (some ⟨g, o, none⟩) 1 ([b].map encI) := by
  intro i r hr
  match i, hr with
  | 0, hr =>
    simp at hr
    subst hr
    refine ⟨g, o, rfl, hg, fun j v hv => ?_⟩
    match j, hv with
    | 0, hv => simp [encI] at hv; subst hv; simpa using h0
end Go.Proofs.Ytiidplinmempcaa

/- Contract of wide.Add. -/
namespace Go.Proofs.Ytiidplinmempcaa
open Go.RowKit
/-- A wide number's two cells. -/
def encW (n : Int) : List Value := [.int .i64 (whi n), .int .u64 (wlo n)]
theorem sum_take_succ (l : List Int) (k : Nat) (h : k < l.length) : (l.take (k + 1)).sum = (l.take k).sum + l[k] := by
  rw [List.take_succ_eq_append_getElem h, List.sum_append]; simp
theorem sum_bound (l : List Int) (hin : ∀ n ∈ l, In128 n) : -(l.length * 170141183460469231731687303715884105728 : Int) ≤ l.sum ∧ l.sum ≤ l.length * 170141183460469231731687303715884105728 := by
  induction l with
  | nil => simp
  | cons a l ih =>
    have h1 := hin a (by simp)
    have h2 := ih (fun n hn => hin n (by simp [hn]))
    unfold In128 at h1
    simp only [List.sum_cons, List.length_cons]
    omega
set_option maxRecDepth 100000 in
set_option maxHeartbeats 1000000 in
theorem wideAddAt (l : List Int) (A : Option Addr) (c : Nat) (w : World) (hl : l.length ≤ 4503599627370496) (hin : ∀ n ∈ l, In128 n) (hr : Rd w A 2 (l.map encW)) (x y z : Int)
    (hv : ∀ (w' : World) (g : Nat), Blk w' g 172 (tot l.sum) → Calls Try.prog 128 #[.pointer (some ⟨g, 0, none⟩)] w' fun e w'' => e = .returned (.tuple #[.agg #[.int .i64 x, .int .u64 y], .int .i64 z]) ∧ Below w'.heap.size w' w'') :
    Calls Try.prog 74 #[.slice A l.length c] w fun e w' => e = .returned (.tuple #[.agg #[.int .i64 x, .int .u64 y], .int .i64 z]) ∧ Below w.heap.size w w' := by
  have Hv := Lib.hid hv
  have Hr := Lib.hid hr
  have Hin := Lib.hid hin
  clear hv hr hin
  go_enter Try.func74, Try.ntmps74
  go_wp2_with fail
  go_loopw [9] (fun i wr => ∃ k : Nat, k ≤ l.length ∧ i = .int .i64 k ∧ Blk wr (w.heap.size + 1) 172 (tot (l.take k).sum) ∧ Below (w.heap.size + 1) (w.alloc (.cells #[.int .i64 0, .int .u64 0] 28)) wr)
    (fun i _ => l.length - (intOf i).toNat)
  case atStart => exact ⟨0, Nat.zero_le _, rfl, by simp only [List.take_zero, List.sum_nil]; rw [show tot 0 = #[.int .i64 0, .int .i64 0, .int .u64 0] from by simp [tot, whi, wlo, wrap128]]; (repeat' (first | (with_reducible assumption) | (with_reducible refine Blk.drew ?_) | (with_reducible refine Blk.here ?_) | (with_reducible refine Blk.alloc ?_ _) | (with_reducible refine Blk.far ?_ ?_ _) | (with_reducible refine Blk.below ?_ (by with_reducible assumption) ?_) | omega | (simp; done) | (simp; omega))), by (repeat' (first | (with_reducible exact Below.refl _ _) | (with_reducible assumption) | (with_reducible refine Below.alloc ?_ ?_ _) | (with_reducible refine Below.setCell ?_ ?_ _) | (with_reducible refine Below.drew ?_) | (with_reducible refine below_drewN ?_ _) | (with_reducible refine below_via ?_ (by with_reducible assumption) ?_) | omega | (simp; done) | (simp; omega)))⟩
  case round =>
    obtain ⟨k, hk, rfl, hB, hbl⟩ := hrel
    have HB := Lib.hid hB
    have Hbl := Lib.hid hbl
    have hz := hbl.size
    simp at hz
    have hz2 := hB.lt
    clear hB hbl
    by_cases hlt : k < l.length
    · obtain ⟨b, o, rfl, hb, hc⟩ := Hr.out k (encW l[k]) (by simp [hlt])
      have c0 := (Hbl.out.cell (p := ⟨b, o + k * 2 + 0, none⟩) (by exact Nat.lt_succ_of_lt hb)).trans (cell_alloc hb (hc 0 _ rfl))
      have c1 := (Hbl.out.cell (p := ⟨b, o + k * 2 + 1, none⟩) (by exact Nat.lt_succ_of_lt hb)).trans (cell_alloc hb (hc 1 _ rfl))
      have sb := sum_bound (l.take k) (fun n hn => Hin.out n (List.mem_of_mem_take hn))
      have sl : (l.take k).length ≤ k := List.length_take_le _ _
      clear hc
      simp only [Nat.add_zero] at c0
      have hlk := Hin.out l[k] (List.getElem_mem hlt)
      obtain ⟨n, hn⟩ : ∃ n, n = l[k] := ⟨_, rfl⟩
      have hs := sum_take_succ l k hlt
      rw [← hn] at c0 c1 hlk hs
      have Hs := Lib.hid hs
      have Hn := Lib.hid hn
      clear hs hn
      go_wp2_with fail
      refine (totalAdd (l.take k).sum n (w.heap.size + 1) _ (by unfold InT; omega) hlk (by have hB := HB.out; (repeat' (first | (with_reducible assumption) | (with_reducible refine Blk.drew ?_) | (with_reducible refine Blk.here ?_) | (with_reducible refine Blk.alloc ?_ _) | (with_reducible refine Blk.far ?_ ?_ _) | (with_reducible refine Blk.below ?_ (by with_reducible assumption) ?_) | omega | (simp; done) | (simp; omega))))).mono ?_
      rintro e w1 ⟨rfl, hk1, ho1⟩
      obtain ⟨fc1, fg1, hc1, hf1, hz1⟩ := oget ho1
      rw [← Hs.out] at hk1
      have Hk1 := Lib.hid hk1
      have Ho1 := Lib.hid ho1
      clear hk1 ho1
      go_wp2_with fail
      go_roundw
      case rel => exact ⟨k + 1, by omega, by go_num, Hk1.out, by refine below_only ?_ Ho1.out ?_ ?_ <;> first | (simp; omega) | (have hb := Hbl.out; (repeat' (first | (with_reducible exact Below.refl _ _) | (with_reducible assumption) | (with_reducible refine Below.alloc ?_ ?_ _) | (with_reducible refine Below.setCell ?_ ?_ _) | (with_reducible refine Below.drew ?_) | (with_reducible refine below_drewN ?_ _) | (with_reducible refine below_via ?_ (by with_reducible assumption) ?_) | omega | (simp; done) | (simp; omega))))⟩
      case measure => simp [intOf]; omega
    · have hkl : k = l.length := by omega
      subst hkl
      have hB := HB.out
      rw [List.take_length] at hB
      obtain ⟨hfc, hff, hzz⟩ : (∀ b o, b < w.heap.size + 1 → wr.cell? ⟨b, o, none⟩ = (w.alloc (.cells #[.int .i64 0, .int .u64 0] 28)).cell? ⟨b, o, none⟩) ∧ (∀ b o, b < w.heap.size + 1 → wr.frozen? ⟨b, o, none⟩ = (w.alloc (.cells #[.int .i64 0, .int .u64 0] 28)).frozen? ⟨b, o, none⟩) ∧ True := ⟨fun b o h => Hbl.out.cell (p := ⟨b, o, none⟩) h, fun b o h => Hbl.out.frozen (p := ⟨b, o, none⟩) h, trivial⟩
      have r0 := hfc w.heap.size 0 (by omega)
      have r1 := hfc w.heap.size 1 (by omega)
      have z0 := hff w.heap.size 0 (by omega)
      have z1 := hff w.heap.size 1 (by omega)
      simp at r0 r1 z0 z1
      clear hfc hff
      have HBB := Lib.hid hB
      clear hB
      go_wp2_with fail
      refine (Hv.out _ _ HBB.out).mono ?_
      rintro e w1 ⟨rfl, hb1⟩
      obtain ⟨fc1, fg1, hc1, hf1, hz1⟩ := bget hb1
      go_wp2
      all_goals
        refine bodyPost_ret (by simp [*, results, Try.results74, go_sem, ↓IntWalk.iteOmega]; try rfl) rfl ⟨rfl, ?_⟩
        have hb := Hbl.out.mono (B' := w.heap.size) (by omega)
        have hb2 : Below w.heap.size w wr := ((Below.refl _ _).alloc (Nat.le_refl _) _).trans hb
        (repeat' (first | (with_reducible exact Below.refl _ _) | (with_reducible assumption) | (with_reducible refine Below.alloc ?_ ?_ _) | (with_reducible refine Below.setCell ?_ ?_ _) | (with_reducible refine Below.drew ?_) | (with_reducible refine below_drewN ?_ _) | (with_reducible refine below_via ?_ (by with_reducible assumption) ?_) | omega | (simp; done) | (simp; omega)))
theorem wideAddYes (l : List Int) (A : Option Addr) (c : Nat) (w : World) (hl : l.length ≤ 4503599627370496) (hin : ∀ n ∈ l, In128 n) (hr : Rd w A 2 (l.map encW)) (hs : In128 l.sum) :
    Calls Try.prog 74 #[.slice A l.length c] w fun e w' => e = .returned (.tuple #[(.agg #[.int .i64 (whi (l.sum)), .int .u64 (wlo (l.sum))]), .int .i64 0]) ∧ Below w.heap.size w w' :=
  wideAddAt l A c w hl hin hr _ _ _ fun _ _ hB => totalDoneYes _ _ _ hs hB
theorem wideAddNo (l : List Int) (A : Option Addr) (c : Nat) (w : World) (hl : l.length ≤ 4503599627370496) (hin : ∀ n ∈ l, In128 n) (hr : Rd w A 2 (l.map encW)) (hs : ¬ In128 l.sum) :
    Calls Try.prog 74 #[.slice A l.length c] w fun e w' => e = .returned (.tuple #[.agg #[.int .i64 0, .int .u64 0], .int .i64 7]) ∧ Below w.heap.size w w' :=
  wideAddAt l A c w hl hin hr _ _ _ fun _ _ hB => totalDoneNo _ _ _ hs hB
end Go.Proofs.Ytiidplinmempcaa

/- Contracts of fix.Sum, Product. -/
namespace Go.Proofs.Ytiidplinmempcaa
open Go.RowKit
theorem elW : Elem Try.prog 114 28 2 16 := elem_of Try.underlying114 (z := .agg #[.int .i64 0, .int .u64 0]) (by kernel_rfl) rfl (by omega)
theorem sum64_bound (l : List Int) (hin : ∀ n ∈ l, In64 n) : -(l.length * 9223372036854775808 : Int) ≤ l.sum ∧ l.sum ≤ l.length * 9223372036854775808 := by
  induction l with
  | nil => simp
  | cons a l ih =>
    have h1 := hin a (by simp)
    have h2 := ih (fun n hn => hin n (by simp [hn]))
    unfold In64 at h1
    simp only [List.sum_cons, List.length_cons]
    omega
set_option maxRecDepth 100000 in
set_option maxHeartbeats 1000000 in
theorem fixSumAt (l : List Int) (A : Option Addr) (c : Nat) (w : World) (hl : l.length ≤ 1099511627776) (hin : ∀ n ∈ l, In64 n) (hr : Rd w A 1 (l.map encI)) (p q : Int)
    (hv : ∀ w1 : World, Calls Try.prog 169 #[(.agg #[.int .i64 (whi (l.sum)), .int .u64 (wlo (l.sum))]), .int .i64 0] w1 fun e w' => e = .returned (.tuple #[.int .i64 p, .int .i64 q]) ∧ Below w1.heap.size w1 w') :
    Calls Try.prog 139 #[.slice A l.length c] w fun e w' => e = .returned (.tuple #[.int .i64 p, .int .i64 q]) ∧ Below w.heap.size w w' := by
  have Hr := Lib.hid hr
  have Hin := Lib.hid hin
  have Hv := Lib.hid hv
  clear hr hin hv
  go_enter Try.func139, Try.ntmps139
  go_wp2_with (at_make; refine wpList_mk rfl _ _ _ rfl elW w.heap.size _ _ _ l.length rfl rfl (by omega) (by omega) (by unfold maxLen; omega) (Nat.le_refl _) ?_; intro w1 hown1 hb1)
  have Hown1 := Lib.hid hown1
  have Hb1 := Lib.hid hb1
  clear hown1 hb1
  go_loopw [4, 12] (fun v i wr => ∃ k : Nat, k ≤ l.length ∧ i = .int .i64 k ∧ Own wr w.heap.size 28 2 v ((l.take k).map encW) ∧ Below w.heap.size w wr) (fun _ i _ => l.length - (intOf i).toNat)
  case atStart => exact ⟨0, Nat.zero_le _, rfl, by simpa using Hown1.out, Hb1.out⟩
  case round =>
    obtain ⟨k, hk, rfl, hown, hbl⟩ := hrel
    have Hown := Lib.hid hown
    have Hbl := Lib.hid hbl
    have hz := hbl.size
    clear hown hbl
    by_cases hlt : k < l.length
    · obtain ⟨b, o, rfl, hb, hc⟩ := Hr.out k (encI l[k]) (by simp [hlt])
      have c0 := (Hbl.out.cell (p := ⟨b, o + k * 1 + 0, none⟩) hb).trans (hc 0 _ rfl)
      simp only [Nat.add_zero, Nat.mul_one] at c0
      clear hc
      have hlk := Hin.out l[k] (List.getElem_mem hlt)
      have Hs : Hid ((l.take (k + 1)).map encW = (l.take k).map encW ++ [encW l[k]]) := by unfold Hid; rw [List.take_succ_eq_append_getElem hlt, List.map_append]; rfl
      obtain ⟨n, hn⟩ : ∃ n, n = l[k] := ⟨_, rfl⟩
      rw [← hn] at c0 hlk Hs
      clear hn
      have lk : ((l.take k).map encW).length ≤ k := by simp; omega
      go_wp2_with (first | (go_at_call 103; refine (wideOf n _ hlk).mono ?_; rintro e w2 ⟨rfl, hb2⟩; have hz2 := hb2.size; have Hb2 := Lib.hid hb2; clear hb2) | (at_builtin; refine wpList_app rfl _ _ _ rfl elW w.heap.size _ _ rfl ((Hown.out.keep Hb2.out).alloc _) (some ⟨w2.heap.size, 0, none⟩) 1 1 rfl [encW n] rfl (fun h => by cases h) rd_one (by simp [encW]; exact ⟨rfl, rfl⟩) (by unfold maxLen; omega) (by omega) (by simp; omega) ?_; intro v' w3 hown3 hb3))
      go_roundw
      case rel => exact ⟨k + 1, by omega, by go_num, by rw [Hs.out]; exact hown3, ((Hbl.out.trans (Hb2.out.mono hz)).alloc (by omega) _).trans hb3⟩
      case measure => simp [intOf]; omega
    · obtain rfl : k = l.length := by omega
      have ho := Hown.out
      rw [List.take_length] at ho
      obtain ⟨A', c', rfl, _, _, hr', _⟩ := ho.shape
      have Hr' := Lib.hid hr'
      have h128 : ∀ n ∈ l, In128 n := fun n hn => in128_of64 (Hin.out n hn)
      have hsum := sum64_bound l Hin.out
      have H128 := Lib.hid h128
      clear hr' ho h128
      simp only [List.length_map]
      go_wp2_with fail
      refine (wideAddYes l A' c' _ (by omega) H128.out Hr'.out (by unfold In128; omega)).mono ?_
      rintro e w2 ⟨rfl, hb2⟩
      have hz2 := hb2.size
      have Hb2 := Lib.hid hb2
      clear hb2
      go_wp2_with fail
      refine (Hv.out _).mono ?_
      rintro e w3 ⟨rfl, hb3⟩
      have Hb3 := Lib.hid hb3
      clear hb3
      go_wp2_with fail
      go_ret2
      exact ⟨rfl, Hbl.out.trans ((Hb2.out.mono hz).trans (Hb3.out.mono (by omega)))⟩
theorem fixSumYes (l : List Int) (A : Option Addr) (c : Nat) (w : World) (hl : l.length ≤ 1099511627776) (hin : ∀ n ∈ l, In64 n) (hr : Rd w A 1 (l.map encI)) (hs : In64 l.sum) :
    Calls Try.prog 139 #[.slice A l.length c] w fun e w' => e = .returned (.tuple #[.int .i64 l.sum, .int .i64 0]) ∧ Below w.heap.size w w' :=
  fixSumAt l A c w hl hin hr _ _ fun w1 => narrowYes _ w1 hs
theorem fixSumNo (l : List Int) (A : Option Addr) (c : Nat) (w : World) (hl : l.length ≤ 1099511627776) (hin : ∀ n ∈ l, In64 n) (hr : Rd w A 1 (l.map encI)) (hs : ¬ In64 l.sum) :
    Calls Try.prog 139 #[.slice A l.length c] w fun e w' => e = .returned (.tuple #[.int .i64 0, .int .i64 7]) ∧ Below w.heap.size w w' :=
  fixSumAt l A c w hl hin hr _ _ fun w1 => narrowNo _ w1 (by have := sum64_bound l hin; unfold In128; omega) hs
end Go.Proofs.Ytiidplinmempcaa

/- Rows of bits, the lowest first: plain arithmetic. -/
namespace Go.Proofs.Ytiidplinmempcaa
def val : List Int → Int
  | [] => 0
  | b :: l => b + 2 * val l
def Bit (l : List Int) : Prop := ∀ b ∈ l, 0 ≤ b ∧ b ≤ 1
/-- The last one is 1. -/
def Top (l : List Int) : Prop := ∀ b, l.getLast? = some b → b = 1
def pw (k : Nat) : Int := 2 ^ k
theorem pw_zero : pw 0 = 1 := rfl
theorem pw_succ (k : Nat) : pw (k + 1) = 2 * pw k := by unfold pw; rw [Int.pow_succ, Int.mul_comm]
theorem pw_pos (k : Nat) : 0 < pw k := Int.pow_pos (by omega)
theorem pw_le {j k : Nat} (h : j ≤ k) : pw j ≤ pw k := by
  induction k with
  | zero => have : j = 0 := by omega
            subst this; exact Int.le_refl _
  | succ k ih =>
    rcases Nat.lt_or_ge j (k + 1) with h1 | h1
    · have := ih (by omega); have := pw_pos k; rw [pw_succ]; omega
    · have : j = k + 1 := by omega
      subst this; exact Int.le_refl _
theorem val_nonneg : ∀ {l : List Int}, Bit l → 0 ≤ val l
  | [], _ => Int.le_refl _
  | b :: l, h => by
    have h1 := h b (by simp)
    have h2 := val_nonneg (l := l) (fun x hx => h x (by simp [hx]))
    simp only [val]; omega
theorem val_lt : ∀ {l : List Int}, Bit l → val l < pw l.length
  | [], _ => by simp [val, pw]
  | b :: l, h => by
    have h1 := h b (by simp)
    have h2 := val_lt (l := l) (fun x hx => h x (by simp [hx]))
    simp only [val, List.length_cons, pw_succ]; omega
theorem val_append : ∀ (a b : List Int), val (a ++ b) = val a + pw a.length * val b
  | [], b => by simp [val, pw]
  | x :: a, b => by
    have := val_append a b
    simp only [List.cons_append, val, this, List.length_cons, pw_succ]
    rw [Int.mul_assoc, Int.mul_add]; omega
theorem val_snoc (a : List Int) (x : Int) : val (a ++ [x]) = val a + pw a.length * x := by rw [val_append]; simp [val]
theorem bit_snoc {a : List Int} {x : Int} (h : Bit a) (h0 : 0 ≤ x) (h1 : x ≤ 1) : Bit (a ++ [x]) := by
  intro b hb
  rcases List.mem_append.1 hb with h2 | h2
  · exact h b h2
  · simp at h2; subst h2; exact ⟨h0, h1⟩
theorem bit_take {a : List Int} (h : Bit a) (k : Nat) : Bit (a.take k) := fun b hb => h b (List.mem_of_mem_take hb)
theorem bit_drop {a : List Int} (h : Bit a) (k : Nat) : Bit (a.drop k) := fun b hb => h b (List.mem_of_mem_drop hb)
theorem bit_get {a : List Int} (h : Bit a) (i : Nat) : 0 ≤ a.getD i 0 ∧ a.getD i 0 ≤ 1 := by
  rcases Nat.lt_or_ge i a.length with h1 | h1
  · rw [List.getD_eq_getElem?_getD, List.getElem?_eq_getElem h1]; exact h _ (List.getElem_mem h1)
  · rw [List.getD_eq_getElem?_getD, List.getElem?_eq_none h1]; simp
theorem take_succD (l : List Int) (i : Nat) : val (l.take (i + 1)) = val (l.take i) + pw i * l.getD i 0 := by
  rcases Nat.lt_or_ge i l.length with h1 | h1
  · rw [List.take_succ_eq_append_getElem h1, val_snoc, List.length_take, Nat.min_eq_left (by omega), List.getD_eq_getElem?_getD, List.getElem?_eq_getElem h1]; rfl
  · rw [List.take_of_length_le (by omega), List.take_of_length_le h1, List.getD_eq_getElem?_getD, List.getElem?_eq_none h1]; simp
theorem top_ge {l : List Int} (h : Bit l) (ht : Top l) {k : Nat} (hl : l.length = k + 1) : pw k ≤ val l := by
  have hne : l ≠ [] := by intro e; subst e; simp at hl
  have e := List.dropLast_concat_getLast hne
  have h1 := ht (l.getLast hne) (List.getLast?_eq_some_getLast hne)
  have h2 : val l = val l.dropLast + pw l.dropLast.length * l.getLast hne := by rw [← val_snoc, e]
  rw [List.length_dropLast, hl, h1] at h2
  have h3 : 0 ≤ val l.dropLast := val_nonneg (fun b hb => h b ((List.dropLast_subset _) hb))
  simp at h2
  omega
theorem top_of_ge {l : List Int} (h : Bit l) {k : Nat} (hl : l.length = k + 1) (hv : pw k ≤ val l) : Top l := by
  intro b hb
  have hne : l ≠ [] := by intro e; subst e; simp at hl
  have e := List.dropLast_concat_getLast hne
  rw [List.getLast?_eq_some_getLast hne] at hb
  injection hb with hb
  have h1 := h b (by rw [← hb]; exact List.getLast_mem hne)
  have h2 : val l = val l.dropLast + pw l.dropLast.length * b := by rw [← hb, ← val_snoc, e]
  have h3 := val_lt (l := l.dropLast) (fun b hb => h b ((List.dropLast_subset _) hb))
  rw [List.length_dropLast, hl] at h2 h3
  simp at h2 h3
  rcases (show b = 0 ∨ b = 1 from by omega) with h0 | h0
  · subst h0; simp at h2; omega
  · exact h0
theorem len_le {l : List Int} (h : Bit l) (ht : Top l) {k : Nat} (hv : val l < pw k) : l.length ≤ k := by
  rcases Nat.lt_or_ge k l.length with h1 | h1
  · obtain ⟨m, hm⟩ : ∃ m, l.length = m + 1 := ⟨l.length - 1, by omega⟩
    have h2 := top_ge h ht hm
    have h3 := pw_le (j := k) (k := m) (by omega)
    omega
  · exact h1
theorem top_nil : Top [] := fun b hb => by simp at hb
theorem bit_nil : Bit [] := fun b hb => by simp at hb
theorem val_zero_top {l : List Int} (h : Bit l) (ht : Top l) (hv : val l = 0) : l = [] := by
  have := len_le h ht (k := 0) (by rw [hv]; exact pw_pos 0)
  exact List.eq_nil_of_length_eq_zero (by omega)
theorem top_pos {l : List Int} (h : Bit l) (ht : Top l) (hne : l ≠ []) : 0 < val l := by
  obtain ⟨m, hm⟩ : ∃ m, l.length = m + 1 := ⟨l.length - 1, by have := List.length_pos_iff.2 hne; omega⟩
  have := top_ge h ht hm; have := pw_pos m; omega
/-- Which of two without noughts on top is below: by length first. -/
theorem lt_of_len {a b : List Int} (ha : Bit a) (hb : Bit b) (tb : Top b) (h : a.length < b.length) : val a < val b := by
  obtain ⟨m, hm⟩ : ∃ m, b.length = m + 1 := ⟨b.length - 1, by omega⟩
  have h1 := top_ge hb tb hm
  have h2 := val_lt ha
  have h3 := pw_le (j := a.length) (k := m) (by omega)
  omega
theorem val_split (l : List Int) (i : Nat) (h : i ≤ l.length) : val l = val (l.take i) + pw i * val (l.drop i) := by
  have := val_append (l.take i) (l.drop i)
  rw [List.take_append_drop, List.length_take, Nat.min_eq_left h] at this
  exact this
/-- .. and, the lengths alike, by the highest bit that parts them. -/
theorem cmp_at {a b : List Int} (ha : Bit a) (hb : Bit b) (hl : a.length = b.length) {i : Nat} (hi : i < a.length) (hd : a.drop (i + 1) = b.drop (i + 1)) (h : a.getD i 0 < b.getD i 0) : val a < val b := by
  rw [val_split a (i + 1) (by omega), val_split b (i + 1) (by omega), hd, take_succD, take_succD]
  have h1 := val_lt (bit_take ha i)
  have h2 := val_nonneg (bit_take hb i)
  have h3 := bit_get ha i
  have h4 := bit_get hb i
  have e1 : a.getD i 0 = 0 := by omega
  have e2 : b.getD i 0 = 1 := by omega
  have h5 : (a.take i).length = i := by rw [List.length_take]; omega
  rw [h5] at h1
  rw [e1, e2]
  have := pw_pos i
  simp
  omega
theorem digit_step (P s : Int) : P * (s % 2) + 2 * P * (s / 2) = P * s := by
  have e : s % 2 + 2 * (s / 2) = s := by omega
  calc P * (s % 2) + 2 * P * (s / 2) = P * (s % 2 + 2 * (s / 2)) := by rw [Int.mul_add, Int.mul_comm 2 P, Int.mul_assoc]
    _ = P * s := by rw [e]
/-- One place of a sum. -/
theorem plus_step {l : List Int} {k : Nat} {q x y va vb va' vb' : Int} (hl : l.length = k) (hv : val l + pw k * q = va + vb) (ea : va' = va + pw k * x) (eb : vb' = vb + pw k * y) :
    val (l ++ [(q + x + y) % 2]) + pw (k + 1) * ((q + x + y) / 2) = va' + vb' := by
  rw [val_snoc, hl, pw_succ, Int.add_assoc, digit_step, ea, eb, Int.mul_add, Int.mul_add]
  omega
/-- One place of a difference. -/
theorem minus_step {l : List Int} {k : Nat} {q q' x y va vb va' vb' : Int} (hl : l.length = k) (hv : val l = va - vb + pw k * q) (ea : va' = va + pw k * x) (eb : vb' = vb + pw k * y) (hq : (x + 2 - (q + y)) % 2 = x - q - y + 2 * q') :
    val (l ++ [(x + 2 - (q + y)) % 2]) = va' - vb' + pw (k + 1) * q' := by
  rw [val_snoc, hl, pw_succ, hq, ea, eb, hv, Int.mul_add, Int.mul_sub, Int.mul_sub, ← Int.mul_assoc, Int.mul_comm (pw k) 2]
  omega
theorem drop_pred {a b : List Int} {k : Nat} (h0 : 0 < k) (ha : k ≤ a.length) (hb : k ≤ b.length) (hx : a.getD (k - 1) 0 = b.getD (k - 1) 0) (hd : a.drop k = b.drop k) : a.drop (k - 1) = b.drop (k - 1) := by
  rw [List.drop_eq_getElem_cons (l := a) (i := k - 1) (by omega), List.drop_eq_getElem_cons (l := b) (i := k - 1) (by omega), show k - 1 + 1 = k from by omega, hd]
  rw [List.getD_eq_getElem?_getD, List.getD_eq_getElem?_getD, List.getElem?_eq_getElem (by omega), List.getElem?_eq_getElem (by omega)] at hx
  simp at hx
  rw [hx]
end Go.Proofs.Ytiidplinmempcaa

/- Contracts of the reference's rows of bits: plus, trim, Nat. -/
namespace Go.Proofs.Ytiidplinmempcaa
open Go.RowKit
def encB (b : Int) : List Value := [.int .u8 b]
theorem elB : Elem Try.prog 32 5 1 1 := elem_of Try.underlying32 (z := .int .u8 0) (by kernel_rfl) rfl (by omega)
/-- A row of bits in memory. -/
theorem bit_cell {w wr : World} {B : Nat} {A : Option Addr} {l : List Int} {i : Nat} (hr : Rd w A 1 (l.map encB)) (hb : Below B w wr) (hB : w.heap.size ≤ B) (hi : i < l.length) :
    ∃ b o, A = some ⟨b, o, none⟩ ∧ b < w.heap.size ∧ wr.cell? ⟨b, o + i, none⟩ = some (.int .u8 (l.getD i 0)) := by
  obtain ⟨b, o, hA, hlt, hc⟩ := hr i (encB l[i]) (by simp [hi])
  refine ⟨b, o, hA, hlt, ?_⟩
  have := (hb.cell (p := ⟨b, o + i * 1 + 0, none⟩) (by exact Nat.lt_of_lt_of_le hlt hB)).trans (hc 0 _ rfl)
  simpa [List.getD_eq_getElem?_getD, List.getElem?_eq_getElem hi] using this
def PlusPost (w : World) (la lb : List Int) (e : Ending) (w' : World) : Prop :=
  ∃ v l, e = .returned v ∧ Own w' w.heap.size 5 1 v (l.map encB) ∧ Below w.heap.size w w' ∧ Bit l ∧ val l = val la + val lb ∧ (l.length = max la.length lb.length ∨ (l.length = max la.length lb.length + 1 ∧ Top l))
set_option maxRecDepth 100000 in
set_option maxHeartbeats 2000000 in
theorem bigPlus (la lb : List Int) (A B : Option Addr) (c d : Nat) (w : World) (hla : la.length ≤ 1048576) (hlb : lb.length ≤ 1048576) (ha : Rd w A 1 (la.map encB)) (hb : Rd w B 1 (lb.map encB)) (ba : Bit la) (bb : Bit lb) :
    Calls Try.prog 87 #[.slice A la.length c, .slice B lb.length d] w (PlusPost w la lb) := by
  have Ha := Lib.hid ha
  have Hb := Lib.hid hb
  have Ba := Lib.hid ba
  have Bb := Lib.hid bb
  clear ha hb ba bb
  go_enter Try.func87, Try.ntmps87
  go_wp2_with fail
  go_loopw [5, 6, 7] (fun v cc i wr => ∃ (k : Nat) (l : List Int) (q : Int), k ≤ max la.length lb.length ∧ i = .int .i64 k ∧ cc = .int .u8 q ∧ 0 ≤ q ∧ q ≤ 1 ∧ Own wr w.heap.size 5 1 v (l.map encB) ∧ Below w.heap.size w wr ∧ l.length = k ∧ Bit l ∧ val l + pw k * q = val (la.take k) + val (lb.take k))
    (fun _ _ i _ => max la.length lb.length - (intOf i).toNat)
  case atStart => exact ⟨0, [], 0, Nat.zero_le _, rfl, rfl, by omega, by omega, Own.nil _ _ _ _, Below.refl _ _, rfl, bit_nil, by simp [val]⟩
  case round =>
    obtain ⟨k, l, q, hk, rfl, rfl, q0, q1, hown, hbl, hl, hbit, hval⟩ := hrel
    have Hown := Lib.hid hown
    have Hbl := Lib.hid hbl
    have Hl := Lib.hid hl
    have Hbit := Lib.hid hbit
    have Hval := Lib.hid hval
    have hz := hbl.size
    have ga := bit_get Ba.out k
    have gb := bit_get Bb.out k
    have ea := take_succD la k
    have eb := take_succD lb k
    have Ea := Lib.hid ea
    have Eb := Lib.hid eb
    clear hown hbl hl hbit hval ea eb
    obtain ⟨x, hx⟩ : ∃ x, x = la.getD k 0 := ⟨_, rfl⟩
    obtain ⟨y, hy⟩ : ∃ y, y = lb.getD k 0 := ⟨_, rfl⟩
    by_cases h1 : k < la.length
    · obtain ⟨b1, o1, rfl, hb1, c1⟩ := bit_cell Ha.out Hbl.out (Nat.le_refl _) h1
      rw [← hx] at ga c1 Ea
      rw [← hy] at gb Eb
      have Hx := Lib.hid hx
      clear hx
      have d1 : decide ((k : Int) < (la.length : Int)) = true := by simpa using h1
      by_cases h2 : k < lb.length
      · obtain ⟨b2, o2, rfl, hb2, c2⟩ := bit_cell Hb.out Hbl.out (Nat.le_refl _) h2
        rw [← hy] at c2
        have Hy := Lib.hid hy
        clear hy
        go_wp2_with (at_builtin; refine wpList_app rfl _ _ _ rfl elB w.heap.size _ _ rfl (Hown.out.alloc _) (some ⟨wr.heap.size, 0, none⟩) 1 1 rfl [encB ((q + x + y) % 2)] rfl (fun h => by cases h) rd_one (by simp [encB]; rfl) (by have := Hl.out; unfold maxLen; simp; omega) (by have := Hl.out; simp; omega) (by simp; omega) ?_; intro v' w3 hown3 hb3)
        go_roundw
        case rel => exact ⟨k + 1, l ++ [(q + x + y) % 2], (q + x + y) / 2, by omega, by go_num, rfl, by omega, by omega, by simpa using hown3, (Hbl.out.alloc hz _).trans hb3, by simp [Hl.out], bit_snoc Hbit.out (by omega) (by omega), plus_step Hl.out Hval.out Ea.out Eb.out⟩
        case measure => simp [intOf]; omega
      · have hy0 : y = 0 := by rw [hy, List.getD_eq_getElem?_getD, List.getElem?_eq_none (by omega)]; rfl
        subst hy0
        clear hy
        go_wp2_with (at_builtin; refine wpList_app rfl _ _ _ rfl elB w.heap.size _ _ rfl (Hown.out.alloc _) (some ⟨wr.heap.size, 0, none⟩) 1 1 rfl [encB ((q + x) % 2)] rfl (fun h => by cases h) rd_one (by simp [encB]; rfl) (by have := Hl.out; unfold maxLen; simp; omega) (by have := Hl.out; simp; omega) (by simp; omega) ?_; intro v' w3 hown3 hb3)
        go_roundw
        case rel => exact ⟨k + 1, l ++ [(q + x + 0) % 2], (q + x + 0) / 2, by omega, by go_num, by simp, by omega, by omega, by simpa using hown3, (Hbl.out.alloc hz _).trans hb3, by simp [Hl.out], bit_snoc Hbit.out (by omega) (by omega), plus_step Hl.out Hval.out Ea.out Eb.out⟩
        case measure => simp [intOf]; omega
    · have hx0 : x = 0 := by rw [hx, List.getD_eq_getElem?_getD, List.getElem?_eq_none (by omega)]; rfl
      rw [← hx, hx0] at Ea
      rw [← hy] at gb Eb
      clear hx hx0 ga
      have d1 : decide ((k : Int) < (la.length : Int)) = false := by simpa using h1
      by_cases h2 : k < lb.length
      · obtain ⟨b2, o2, rfl, hb2, c2⟩ := bit_cell Hb.out Hbl.out (Nat.le_refl _) h2
        rw [← hy] at c2
        have Hy := Lib.hid hy
        clear hy
        have d2 : decide ((k : Int) < (lb.length : Int)) = true := by simpa using h2
        go_wp2_with (at_builtin; refine wpList_app rfl _ _ _ rfl elB w.heap.size _ _ rfl (Hown.out.alloc _) (some ⟨wr.heap.size, 0, none⟩) 1 1 rfl [encB ((q + y) % 2)] rfl (fun h => by cases h) rd_one (by simp [encB]; rfl) (by have := Hl.out; unfold maxLen; simp; omega) (by have := Hl.out; simp; omega) (by simp; omega) ?_; intro v' w3 hown3 hb3)
        go_roundw
        case rel => exact ⟨k + 1, l ++ [(q + 0 + y) % 2], (q + 0 + y) / 2, by omega, by go_num, by simp, by omega, by omega, by simpa using hown3, (Hbl.out.alloc hz _).trans hb3, by simp [Hl.out], bit_snoc Hbit.out (by omega) (by omega), plus_step Hl.out Hval.out Ea.out Eb.out⟩
        case measure => simp [intOf]; omega
      · have d2 : decide ((k : Int) < (lb.length : Int)) = false := by simpa using h2
        clear hy gb
        have hkm : k = max la.length lb.length := by omega
        have hv := Hval.out
        rw [List.take_of_length_le (by omega), List.take_of_length_le (by omega)] at hv
        have HV := Lib.hid hv
        have HK := Lib.hid hkm
        clear hv hkm
        rcases (show q = 0 ∨ q = 1 from by omega) with h0 | h0
        · subst h0
          go_wp2_with fail
          go_ret
          exact ⟨u5, l, rfl, Hown.out, Hbl.out, Hbit.out, by have := HV.out; simpa using this, .inl (by rw [Hl.out, HK.out])⟩
        · subst h0
          go_wp2_with (at_builtin; refine wpList_app rfl _ _ _ rfl elB w.heap.size _ _ rfl (Hown.out.alloc _) (some ⟨wr.heap.size, 0, none⟩) 1 1 rfl [encB 1] rfl (fun h => by cases h) rd_one (by simp [encB]; rfl) (by have := Hl.out; unfold maxLen; simp; omega) (by have := Hl.out; simp; omega) (by simp; omega) ?_; intro v' w3 hown3 hb3)
          go_ret
          exact ⟨v', l ++ [1], rfl, by simpa using hown3, (Hbl.out.alloc hz _).trans hb3, bit_snoc Hbit.out (by omega) (by omega), by rw [val_snoc, Hl.out]; exact HV.out, .inr ⟨by simp [Hl.out, ← HK.out], fun b hb => by simpa using hb.symm⟩⟩
end Go.Proofs.Ytiidplinmempcaa
