/- Contracts of wide.total's add and done. -/
import Derived.Test.YtenehpcliajdnaaWide1
import Derived.Test.YtenehpcliajdnaaMem
namespace Go.Proofs.Ytenehpcliajdnaa
open Go.RowKit

/-- The cells of a sum of 192 bits. -/
def tot (s : Int) : Array Value := #[.int .i64 (s / 340282366920938463463374607431768211456), .int .i64 (whi (wrap128 s)), .int .u64 (wlo s)]
def InT (s : Int) : Prop := -1532495540865888858358347027150309183618739122183602176 ≤ s ∧ s ≤ 1532495540865888858358347027150309183618739122183602176
theorem shr63 (a : Int) (h : -9223372036854775808 ≤ a ∧ a ≤ 9223372036854775807) : a / 9223372036854775808 = if a < 0 then -1 else 0 := by split <;> omega
theorem word_hi (s : Int) : whi (wrap128 s) % 18446744073709551616 = (s % 340282366920938463463374607431768211456) / 18446744073709551616 := by unfold whi wrap128; omega
theorem word_lo (s : Int) : wlo s = (s % 340282366920938463463374607431768211456) % 18446744073709551616 := by unfold wlo; omega
theorem carry128 (a b : Int) : whi (a / 18446744073709551616 + b / 18446744073709551616 + whi (a % 18446744073709551616 + b % 18446744073709551616)) = (a + b) / 340282366920938463463374607431768211456 := by unfold whi; omega
theorem low128 (a b : Int) : (a / 18446744073709551616 + b / 18446744073709551616 + whi (a % 18446744073709551616 + b % 18446744073709551616)) = (a + b) / 18446744073709551616 := by unfold whi; omega
theorem whi_in (n : Int) (h : In128 n) : whi n = whi (wrap128 n) := by rw [wrap128_in h]
/-- The carry out of the second word. -/
theorem tot_carry (s n : Int) (hn : In128 n) : whi (IntKind.u64.wrap (whi (wrap128 s)) + IntKind.u64.wrap (whi n) + whi (wlo s + wlo n)) = (s % 340282366920938463463374607431768211456 + n % 340282366920938463463374607431768211456) / 340282366920938463463374607431768211456 := by
  rw [IntKind.wrap_u64, IntKind.wrap_u64, whi_in n hn, word_hi, word_hi, word_lo s, word_lo n]
  exact carry128 _ _
theorem tot_over (s n : Int) (hn : In128 n) : s / 340282366920938463463374607431768211456 + (whi n / 9223372036854775808 + whi (IntKind.u64.wrap (whi (wrap128 s)) + IntKind.u64.wrap (whi n) + whi (wlo s + wlo n))) = (s + n) / 340282366920938463463374607431768211456 := by
  rw [tot_carry s n hn]
  have : whi n / 9223372036854775808 = n / 340282366920938463463374607431768211456 := by unfold In128 at hn; unfold whi; omega
  rw [this]; clear this hn
  omega
theorem tot_hi (s n : Int) (hn : In128 n) : IntKind.i64.wrap (wlo (IntKind.u64.wrap (whi (wrap128 s)) + IntKind.u64.wrap (whi n) + whi (wlo s + wlo n))) = whi (wrap128 (s + n)) := by
  rw [IntKind.wrap_u64, IntKind.wrap_u64, whi_in n hn, word_hi, word_hi, word_lo s, word_lo n, low128, IntKind.wrap_i64]
  clear hn
  unfold wlo whi wrap128
  omega
set_option maxRecDepth 100000 in
set_option maxHeartbeats 1000000 in
theorem totalAdd (s n : Int) (g : Nat) (w : World) (hs : InT s) (hn : In128 n) (hg : Blk w g 139 (tot s)) :
    Calls Try.prog 91 #[.pointer (some ⟨g, 0, none⟩), (.agg #[.int .i64 (whi (n)), .int .u64 (wlo (n))])] w fun e w' => e = .returned (.tuple #[]) ∧ Blk w' g 139 (tot (s + n)) ∧ Only g w w' := by
  have c0 := hg.cell 0
  have c1 := hg.cell 1
  have c2 := hg.cell 2
  have z0 := hg.frozen 0
  have z1 := hg.frozen 1
  have z2 := hg.frozen 2
  have hlt := hg.lt
  simp [tot] at c0 c1 c2
  have h1 := whi_i hn
  have h2 := wlo_u n
  have h3 := wlo_u s
  have h4 := whi_i (wrap128_is s)
  have e1 := add64 (wlo s) (wlo n) 0 h3.1 h2.1 (by omega) (by omega)
  simp only [Int.add_zero] at e1
  have s1 : wlo (wlo s + wlo n) = wlo (s + n) := by unfold wlo; omega
  rw [s1] at e1
  have h5 : 0 ≤ whi (wlo s + wlo n) ∧ whi (wlo s + wlo n) ≤ 1 := by unfold whi; omega
  have h6 : 0 ≤ IntKind.u64.wrap (whi (wrap128 s)) ∧ IntKind.u64.wrap (whi (wrap128 s)) ≤ 18446744073709551615 := by rw [IntKind.wrap_u64]; omega
  have h7 : 0 ≤ IntKind.u64.wrap (whi n) ∧ IntKind.u64.wrap (whi n) ≤ 18446744073709551615 := by rw [IntKind.wrap_u64]; omega
  have e2 := add64 (IntKind.u64.wrap (whi (wrap128 s))) (IntKind.u64.wrap (whi n)) (whi (wlo s + wlo n)) h6.1 h7.1 h5.1 h5.2
  obtain ⟨c, hc⟩ : ∃ c, c = whi (wlo s + wlo n) := ⟨_, rfl⟩
  rw [← hc] at e1 e2 h5
  have s2 : IntKind.i64.wrap (wlo (IntKind.u64.wrap (whi (wrap128 s)) + IntKind.u64.wrap (whi n) + c)) = whi (wrap128 (s + n)) := by
    rw [hc]; exact tot_hi s n hn
  have h8 := wlo_u (IntKind.u64.wrap (whi (wrap128 s)) + IntKind.u64.wrap (whi n) + c)
  obtain ⟨d, hd⟩ : ∃ d, d = whi (IntKind.u64.wrap (whi (wrap128 s)) + IntKind.u64.wrap (whi n) + c) := ⟨_, rfl⟩
  have h9 : 0 ≤ d ∧ d ≤ 1 := by rw [hd]; rw [IntKind.wrap_u64, IntKind.wrap_u64]; unfold whi; omega
  have s3 : s / 340282366920938463463374607431768211456 + (whi n / 9223372036854775808 + d) = (s + n) / 340282366920938463463374607431768211456 := by
    rw [hd, hc]; exact tot_over s n hn
  have h10 : -9007199254740992 ≤ s / 340282366920938463463374607431768211456 ∧ s / 340282366920938463463374607431768211456 ≤ 9007199254740992 := by unfold InT at hs; omega
  rw [← hd] at e2
  obtain ⟨lo, hlo⟩ : ∃ lo, lo = wlo (IntKind.u64.wrap (whi (wrap128 s)) + IntKind.u64.wrap (whi n) + c) := ⟨_, rfl⟩
  rw [← hlo] at e2 s2 h8
  clear hlo hd hc s1
  have Hg := Lib.hid hg
  clear hg
  go_enter Try.func91, Try.ntmps91
  go_wp2
  go_region
  all_goals (go_wp2; go_region)
  all_goals (go_wp2; go_region)
  all_goals
    go_wp2
    go_end0
    exact ⟨rfl, by simpa [tot] using ((((Hg.out.set 0 _).set 1 _).set 2 _).alloc _).drew.drew.drew, (((((Only.refl g w).set (.inl rfl) _).set (.inl rfl) _).set (.inl rfl) _).alloc _).drew.drew.drew⟩
set_option maxRecDepth 100000 in
set_option maxHeartbeats 1000000 in
theorem totalDoneYes (s : Int) (g : Nat) (w : World) (hs : In128 s) (hg : Blk w g 139 (tot s)) :
    Calls Try.prog 92 #[.pointer (some ⟨g, 0, none⟩)] w fun e w' => e = .returned (.tuple #[(.agg #[.int .i64 (whi (s)), .int .u64 (wlo (s))]), .int .i64 0]) ∧ Below w.heap.size w w' := by
  have c0 := hg.cell 0
  have c1 := hg.cell 1
  have c2 := hg.cell 2
  have hlt := hg.lt
  simp [tot, wrap128_in hs] at c0 c1 c2
  have h1 := whi_i hs
  have e1 : (s / 340282366920938463463374607431768211456 == whi s / 9223372036854775808) = true := by
    rw [beq_iff_eq]; unfold In128 at hs; unfold whi; omega
  clear hg
  go_enter Try.func92, Try.ntmps92
  go_wp2
  go_region_held3 (fun w' => w'.cell? ⟨g, 0, none⟩ = some (.int .i64 (s / 340282366920938463463374607431768211456)) ∧ w'.cell? ⟨g, 1, none⟩ = some (.int .i64 (whi s)) ∧ w'.cell? ⟨g, 2, none⟩ = some (.int .u64 (wlo s))) (first | (simp [go_sem]; done) | (repeat' (first | (with_reducible assumption) | (with_reducible refine And.intro ?_ ?_) | (with_reducible refine cell_drew ?_) | (with_reducible refine cell_via (by with_reducible assumption) ?_ ?_) | (simp [*]; done) | (simp [go_sem]; done) | (with_reducible refine cell_alloc ?_ ?_) | (with_reducible refine cell_set_far ?_ ?_) | omega | (simp; omega)))) (first | (go_at_call 108; (with_reducible refine (wideRangedYes _ _).mono ?_); rintro e w1 ⟨rfl, hb1⟩; obtain ⟨fc1, fg1, hc1, hf1, hz1⟩ := bget hb1; try simp at hz1))
  go_wp2
  all_goals
    refine bodyPost_ret (by simp [*, results, Try.results92, go_sem]; try rfl) rfl ⟨rfl, ?_⟩
    (repeat' (first | (with_reducible exact Below.refl _ _) | (with_reducible assumption) | (with_reducible refine Below.alloc ?_ ?_ _) | (with_reducible refine Below.setCell ?_ ?_ _) | (with_reducible refine Below.drew ?_) | (with_reducible refine below_drewN ?_ _) | (with_reducible refine below_via ?_ (by with_reducible assumption) ?_) | omega | (simp; done) | (simp; omega)))
set_option maxRecDepth 100000 in
set_option maxHeartbeats 1000000 in
theorem totalDoneNo (s : Int) (g : Nat) (w : World) (hs : ¬ In128 s) (hg : Blk w g 139 (tot s)) :
    Calls Try.prog 92 #[.pointer (some ⟨g, 0, none⟩)] w fun e w' => e = .returned (.tuple #[.agg #[.int .i64 0, .int .u64 0], .int .i64 7]) ∧ Below w.heap.size w w' := by
  have c0 := hg.cell 0
  have c1 := hg.cell 1
  have c2 := hg.cell 2
  have hlt := hg.lt
  simp [tot] at c0 c1 c2
  have h1 := whi_i (wrap128_is s)
  have e1 : (s / 340282366920938463463374607431768211456 == whi (wrap128 s) / 9223372036854775808) = false := by
    rw [beq_eq_false_iff_ne]; unfold In128 at hs; unfold whi wrap128; omega
  clear hg hs
  go_enter Try.func92, Try.ntmps92
  go_wp2
  go_region_held3 (fun w' => w'.cell? ⟨g, 0, none⟩ = some (.int .i64 (s / 340282366920938463463374607431768211456)) ∧ w'.cell? ⟨g, 1, none⟩ = some (.int .i64 (whi (wrap128 s))) ∧ w'.cell? ⟨g, 2, none⟩ = some (.int .u64 (wlo s))) (first | (simp [go_sem]; done) | (repeat' (first | (with_reducible assumption) | (with_reducible refine And.intro ?_ ?_) | (with_reducible refine cell_drew ?_) | (with_reducible refine cell_via (by with_reducible assumption) ?_ ?_) | (simp [*]; done) | (simp [go_sem]; done) | (with_reducible refine cell_alloc ?_ ?_) | (with_reducible refine cell_set_far ?_ ?_) | omega | (simp; omega)))) (first | (go_at_call 108; (with_reducible refine (wideRangedNo _ _ _).mono ?_); rintro e w1 ⟨rfl, hb1⟩; obtain ⟨fc1, fg1, hc1, hf1, hz1⟩ := bget hb1; try simp at hz1))
  go_wp2
  all_goals
    refine bodyPost_ret (by simp [*, results, Try.results92, go_sem]; try rfl) rfl ⟨rfl, ?_⟩
    (repeat' (first | (with_reducible exact Below.refl _ _) | (with_reducible assumption) | (with_reducible refine Below.alloc ?_ ?_ _) | (with_reducible refine Below.setCell ?_ ?_ _) | (with_reducible refine Below.drew ?_) | (with_reducible refine below_drewN ?_ _) | (with_reducible refine below_via ?_ (by with_reducible assumption) ?_) | omega | (simp; done) | (simp; omega)))
end Go.Proofs.Ytenehpcliajdnaa
