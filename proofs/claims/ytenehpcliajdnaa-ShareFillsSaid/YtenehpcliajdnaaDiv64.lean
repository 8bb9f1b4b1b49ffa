/- The contract of bits.Div64. -/
import Derived.Test.YtenehpcliajdnaaNum
import Derived.Test.YtenehpcliajdnaaRows
import Derived.Test.YtenehpcliajdnaaBits
import Derived.Test.YtenehpcliajdnaaDiv0
import Derived.WalkKit
import Derived.WalkSpells
import Derived.WalkLawsBesides
import Derived.BigQuiet
import Derived.Deep.RegionHeld3
import Derived.Handy
namespace Go.Proofs.Ytenehpcliajdnaa
open Go.RowKit
theorem u64_wrap {x : Int} (h0 : 0 ≤ x) (h1 : x ≤ 18446744073709551615) : IntKind.u64.wrap x = x := by rw [IntKind.wrap_u64]; omega
theorem and_low (x : Int) (h : 0 ≤ x) (h' : x ≤ 18446744073709551615) : bits .and .u64 x 4294967295 = x % 4294967296 := by
  obtain ⟨x, rfl⟩ := Int.eq_ofNat_of_zero_le h
  show IntKind.u64.wrap ((BitVec.ofInt 64 (x : Int) &&& BitVec.ofInt 64 4294967295).toNat : Int) = _
  have e : (BitVec.ofInt 64 (x : Int) &&& BitVec.ofInt 64 4294967295).toNat = x % 4294967296 := by
    rw [BitVec.toNat_and, BitVec.ofInt_natCast, BitVec.toNat_ofNat, Nat.mod_eq_of_lt (by omega)]
    exact Nat.and_two_pow_sub_one_eq_mod x 32
  rw [e, u64_wrap (by omega) (by omega)]
  omega
theorem or_low (h l : Int) (s : Nat) (h0 : 0 ≤ h) (l0 : 0 ≤ l) (hl : l < 2 ^ s) (hh : h * 2 ^ s ≤ 18446744073709551615) (hs : s ≤ 63) : bits .or .u64 (h * 2 ^ s) l = h * 2 ^ s + l := by
  obtain ⟨h, rfl⟩ := Int.eq_ofNat_of_zero_le h0
  obtain ⟨l, rfl⟩ := Int.eq_ofNat_of_zero_le l0
  have hp : (2 : Int) ^ s = ((2 ^ s : Nat) : Int) := by rw [Int.natCast_pow]; rfl
  have hps : 2 ^ s ≤ 2 ^ 63 := Nat.pow_le_pow_right (by omega) hs
  have hl2 : l < 2 ^ s := by rw [hp] at hl; omega
  have hh2 : h * 2 ^ s ≤ 18446744073709551615 := by rw [hp, ← Int.natCast_mul] at hh; omega
  rw [hp, ← Int.natCast_mul]
  show IntKind.u64.wrap ((BitVec.ofInt 64 ((h * 2 ^ s : Nat) : Int) ||| BitVec.ofInt 64 (l : Int)).toNat : Int) = _
  have e : (BitVec.ofInt 64 ((h * 2 ^ s : Nat) : Int) ||| BitVec.ofInt 64 (l : Int)).toNat = h * 2 ^ s + l := by
    rw [BitVec.toNat_or, BitVec.ofInt_natCast, BitVec.toNat_ofNat, BitVec.ofInt_natCast, BitVec.toNat_ofNat, Nat.mod_eq_of_lt (by omega), Nat.mod_eq_of_lt (by omega), ← Nat.shiftLeft_eq, Nat.shiftLeft_add_eq_or_of_lt hl2]
  have hsum : h * 2 ^ s + l ≤ 18446744073709551615 := by
    rw [← e]; have := (BitVec.ofInt 64 ((h * 2 ^ s : Nat) : Int) ||| BitVec.ofInt 64 (l : Int)).isLt; omega
  rw [e, u64_wrap (by omega) (by omega)]
  omega
theorem sub_mod {x y z : Int} (h0 : 0 ≤ x * 4294967296 + y - z) (h1 : x * 4294967296 + y - z ≤ 18446744073709551615) : IntKind.u64.wrap (IntKind.u64.wrap (IntKind.u64.wrap (x * 4294967296) + y) - IntKind.u64.wrap z) = x * 4294967296 + y - z := by
  rw [IntKind.wrap_u64, IntKind.wrap_u64, IntKind.wrap_u64, IntKind.wrap_u64]; omega
/-- The first guess, as the code has it. -/
theorem guess {U a : Int} (a0 : 0 < a) (u0 : 0 ≤ U) (u1 : U ≤ 18446744073709551615) : IntKind.u64.wrap (U.tdiv a) = U / a ∧ IntKind.u64.wrap (U - IntKind.u64.wrap (U / a * a)) = U - U / a * a := by
  have e := Int.mul_ediv_add_emod U a
  have e1 := Int.emod_nonneg U (show a ≠ 0 by omega)
  rw [Int.mul_comm] at e
  have q0 : 0 ≤ U / a := Int.ediv_nonneg u0 (by omega)
  have q1 : U / a ≤ U := Int.ediv_le_self _ u0
  have q2 : 0 ≤ U / a * a := Int.mul_nonneg q0 (by omega)
  refine ⟨?_, ?_⟩
  · rw [Int.tdiv_eq_ediv_of_nonneg u0]
    exact u64_wrap q0 (by omega)
  · rw [u64_wrap q2 (by omega)]
    exact u64_wrap (by omega) (by omega)
set_option maxRecDepth 100000 in
set_option maxHeartbeats 4000000 in
theorem div64Low (lo y : Int) (w : World) (hy0 : 0 < y) (hy : y ≤ 18446744073709551615) (l0 : 0 ≤ lo) (l1 : lo ≤ 18446744073709551615) :
    Calls Try.prog 72 #[.int .u64 0, .int .u64 lo, .int .u64 y] w fun e w' => e = .returned (.tuple #[.int .u64 (lo / y), .int .u64 (lo % y)]) ∧ Below w.heap.size w w' := by
  have d0 : (y == 0) = false := by simp; omega
  have d1 : decide (y ≤ 0) = false := by simp; omega
  have d2 : ¬ y = 0 := by omega
  go_enter Try.func72, Try.ntmps72
  go_wp2_with fail
  go_quiet (fail)
  go_wp2_with fail
  go_ret2
  exact ⟨rfl, by (repeat' (first | (with_reducible exact Below.refl _ _) | (with_reducible assumption) | (with_reducible refine Below.alloc ?_ ?_ _) | (with_reducible refine Below.setCell ?_ ?_ _) | (with_reducible refine Below.drew ?_) | (with_reducible refine below_drewN ?_ _) | (with_reducible refine below_via ?_ (by with_reducible assumption) ?_) | omega | (simp; done) | (simp; omega)))⟩
set_option maxRecDepth 100000 in
set_option maxHeartbeats 16000000 in
theorem div64High (hi lo y : Int) (w : World) (h0 : 0 < hi) (hhi : hi < y) (hy : y ≤ 18446744073709551615) (l0 : 0 ≤ lo) (l1 : lo ≤ 18446744073709551615) :
    Calls Try.prog 72 #[.int .u64 hi, .int .u64 lo, .int .u64 y] w fun e w' => e = .returned (.tuple #[.int .u64 ((hi * 18446744073709551616 + lo) / y), .int .u64 ((hi * 18446744073709551616 + lo) % y)]) ∧ Below w.heap.size w w' := by
  have d0 : (y == 0) = false := by simp; omega
  have d1 : decide (y ≤ hi) = false := by simp; omega
  have d3 : (hi == 0) = false := by simp; omega
  obtain ⟨s, hs, hs63, hn0, hn1⟩ := shift_norm (y := y) (by omega) hy
  have hPT := pow_split (s := s) (by omega)
  have hP : (0 : Int) < 2 ^ s := Int.pow_pos (by omega)
  have hT : (0 : Int) < 2 ^ (64 - s) := Int.pow_pos (by omega)
  have hhy : hi * 2 ^ s ≤ y * 2 ^ s := Int.mul_le_mul_of_nonneg_right (by omega) (by omega)
  have hh0 : 0 ≤ hi * 2 ^ s := Int.mul_nonneg (by omega) (by omega)
  have t0 : 0 ≤ lo / 2 ^ (64 - s) := Int.ediv_nonneg l0 (by omega)
  have t1 : lo / 2 ^ (64 - s) < 2 ^ s := Int.ediv_lt_of_lt_mul hT (by omega)
  have z1 : IntKind.u64.wrap (hi * 2 ^ s) = hi * 2 ^ s := u64_wrap hh0 (by omega)
  have z2 := or_low hi (lo / 2 ^ (64 - s)) s (by omega) t0 t1 (by omega) hs63
  have z3 := and_low (y * 2 ^ s) (by omega) (by omega)
  have z4 : IntKind.u64.wrap (lo * 2 ^ s) = lo * 2 ^ s % 18446744073709551616 := IntKind.wrap_u64 _
  have z5 := and_low (lo * 2 ^ s % 18446744073709551616) (by omega) (by omega)
  have hw := words (hi := hi) (lo := lo) hP hPT
  have hbig : (hi * 18446744073709551616 + lo) * 2 ^ s < y * 18446744073709551616 * 2 ^ s := Int.mul_lt_mul_of_pos_right (by omega) hP
  rw [Int.mul_right_comm y] at hbig
  have m0 : 0 ≤ lo * 2 ^ s % 18446744073709551616 ∧ lo * 2 ^ s % 18446744073709551616 ≤ 18446744073709551615 := by omega
  have Z1 := Lib.hid z1
  have Z2 := Lib.hid z2
  have Z3 := Lib.hid z3
  have Z4 := Lib.hid z4
  have Z5 := Lib.hid z5
  have HW := Lib.hid hw
  have HB := Lib.hid hbig
  have M0 := Lib.hid m0
  have HP := Lib.hid hP
  have HN01 := Lib.hid (And.intro hn0 hn1)
  have HU0 := Lib.hid (Int.add_nonneg hh0 t0)
  clear z1 z2 z3 z4 z5 hw hbig m0 hPT hT hP t0 t1 hh0 hhy
  go_enter Try.func72, Try.ntmps72
  go_wp2_with (go_at_call 94; (with_reducible refine (Try.bits_LeadingZeros64 y _ (by omega) hy).mono ?_); rintro e w1 ⟨rfl, rfl⟩; rw [hs])
  rw [Z3.out, Z1.out, Z2.out, Z4.out, Z5.out]
  have hW := HW.out
  have hB := HB.out
  have hM := M0.out
  have hU0 := HU0.out
  have hD := HN01.out
  obtain ⟨d, hd⟩ : ∃ d, d = y * 2 ^ s := ⟨_, rfl⟩
  obtain ⟨U, hU⟩ : ∃ U, U = hi * 2 ^ s + lo / 2 ^ (64 - s) := ⟨_, rfl⟩
  obtain ⟨m, hm⟩ : ∃ m, m = lo * 2 ^ s % 18446744073709551616 := ⟨_, rfl⟩
  obtain ⟨n2, hn2⟩ : ∃ n2, n2 = (hi * 18446744073709551616 + lo) * 2 ^ s := ⟨_, rfl⟩
  rw [← hn2] at hW hB
  rw [← hd] at hB hD ⊢
  rw [← hU] at hW hU0 ⊢
  rw [← hm] at hW hM ⊢
  clear Z1 Z2 Z3 Z4 Z5 HW HB M0 HU0 HN01 hn0 hn1 hU hm hs d0 d1 d3
  have HDY := Lib.hid hd
  clear hd
  obtain ⟨a, ha⟩ : ∃ a, a = d / 4294967296 := ⟨_, rfl⟩
  obtain ⟨b, hb⟩ : ∃ b, b = d % 4294967296 := ⟨_, rfl⟩
  obtain ⟨v1, hv1⟩ : ∃ v1, v1 = m / 4294967296 := ⟨_, rfl⟩
  obtain ⟨v0, hv0⟩ : ∃ v0, v0 = m % 4294967296 := ⟨_, rfl⟩
  rw [← ha, ← hb, ← hv1, ← hv0]
  have hdab : d = a * 4294967296 + b := by omega
  have HN : Hid (U * 18446744073709551616 + (v1 * 4294967296 + v0) = (hi * 18446744073709551616 + lo) * 2 ^ s) := Lib.hid (by rw [← hn2]; omega)
  have hfi : DIn U v1 a b := ⟨by omega, by omega, by omega, by omega, by omega, by omega, by omega, by omega⟩
  have q1 : 0 ≤ v0 ∧ v0 < 4294967296 := by omega
  have q2 : 2147483648 ≤ a ∧ a < 4294967296 ∧ 0 ≤ b ∧ b < 4294967296 := by omega
  have q3 : 0 ≤ v1 ∧ v1 < 4294967296 ∧ 0 ≤ U ∧ U < d := by omega
  clear hW hB hM hU0 hn2 ha hb hv1 hv0
  subst hdab
  have FI := Lib.hid hfi
  have gs := guess (U := U) (a := a) (by omega) (by omega) (by omega)
  rw [gs.1, gs.2]
  have FS := Lib.hid (DInv.start hfi)
  clear hfi gs
  go_loopw [15, 16] (fun q r wr => ∃ Q R, q = .int .u64 Q ∧ r = .int .u64 R ∧ Below w1.heap.size w1 wr ∧ DInv U v1 a b Q R ∧ R < 4294967296) (fun q r _ => (intOf q).toNat)
  case atStart => exact ⟨_, _, rfl, rfl, by (repeat' (first | (with_reducible exact Below.refl _ _) | (with_reducible assumption) | (with_reducible refine Below.alloc ?_ ?_ _) | (with_reducible refine Below.setCell ?_ ?_ _) | (with_reducible refine Below.drew ?_) | (with_reducible refine below_drewN ?_ _) | (with_reducible refine below_via ?_ (by with_reducible assumption) ?_) | omega | (simp; done) | (simp; omega))), FS.out.1, by have h1 := FS.out.2; omega⟩
  case round =>
    obtain ⟨Q, R, rfl, rfl, hblF, hiF, hrF⟩ := hrel
    have IF := Lib.hid hiF
    have mF := hiF.mul_le FI.out
    have n1F := hiF.r0
    have n2F := hiF.q0
    have n3F := hiF.qB
    clear hiF
    by_cases gF : 4294967296 ≤ Q
    · have askF := Lib.hid (show dAsk v1 b Q R = true from by unfold dAsk; simp [gF])
      have StF := Lib.hid (IF.out.step FI.out askF.out)
      have p1F := StF.out.2
      have g3F : decide (4294967296 ≤ Q) = true := by simpa using gF
      by_cases oF : 4294967296 ≤ R + a
      · have XF := Lib.hid (DInv.over FI.out StF.out.1 (by omega) oF)
        clear askF IF StF
        go_wp2_with fail
        have R1 := DIn.quo FI.out XF.out
        rw [sub_mod (x := U) (y := v1) (z := (Q - 1) * (a * 4294967296 + b)) R1.2.2.1 (by omega)]
        obtain ⟨q1, hq1⟩ : ∃ q1, q1 = (Q - 1) := ⟨_, rfl⟩
        rw [← hq1] at R1 ⊢
        have FX := Lib.hid (show q1 = (U * 4294967296 + v1) / (a * 4294967296 + b) from by rw [hq1]; exact XF.out)
        clear XF hq1
        obtain ⟨V, hV⟩ : ∃ V, V = U * 4294967296 + v1 - q1 * (a * 4294967296 + b) := ⟨_, rfl⟩
        rw [← hV] at R1 ⊢
        have hsi : DIn V v0 a b := ⟨by omega, by omega, by omega, by omega, by omega, by omega, by omega, by omega⟩
        have SI := Lib.hid hsi
        have gs := guess (U := V) (a := a) (by omega) (by omega) (by omega)
        rw [gs.1, gs.2]
        have SS := Lib.hid (DInv.start hsi)
        have endOf : ∀ q0, q0 = (V * 4294967296 + v0) / (a * 4294967296 + b) → q1 * 4294967296 + q0 = (hi * 18446744073709551616 + lo) / y ∧ (V * 4294967296 + v0 - q0 * (a * 4294967296 + b)) / 2 ^ s = (hi * 18446744073709551616 + lo) % y := (by
          intro q0 h0
          rw [hV] at h0 ⊢
          exact div_end HP.out HDY.out HN.out h0 (by omega))
        have HEND := Lib.hid endOf
        clear hsi gs hV endOf
        go_loopw [16, 18] (fun r q wr => ∃ Q R, q = .int .u64 Q ∧ r = .int .u64 R ∧ Below w1.heap.size w1 wr ∧ DInv V v0 a b Q R ∧ R < 4294967296) (fun r q _ => (intOf q).toNat)
        case atStart => exact ⟨_, _, rfl, rfl, by (repeat' (first | (with_reducible exact Below.refl _ _) | (with_reducible assumption) | (with_reducible refine Below.alloc ?_ ?_ _) | (with_reducible refine Below.setCell ?_ ?_ _) | (with_reducible refine Below.drew ?_) | (with_reducible refine below_drewN ?_ _) | (with_reducible refine below_via ?_ (by with_reducible assumption) ?_) | omega | (simp; done) | (simp; omega))), SS.out.1, by have h1 := SS.out.2; omega⟩
        case round =>
          obtain ⟨Q, R, rfl, rfl, hblS, hiS, hrS⟩ := hrel
          have IS := Lib.hid hiS
          have mS := hiS.mul_le SI.out
          have n1S := hiS.r0
          have n2S := hiS.q0
          have n3S := hiS.qB
          clear hiS
          by_cases gS : 4294967296 ≤ Q
          · have askS := Lib.hid (show dAsk v0 b Q R = true from by unfold dAsk; simp [gS])
            have StS := Lib.hid (IS.out.step SI.out askS.out)
            have p1S := StS.out.2
            have g3S : decide (4294967296 ≤ Q) = true := by simpa using gS
            by_cases oS : 4294967296 ≤ R + a
            · have XS := Lib.hid (DInv.over SI.out StS.out.1 (by omega) oS)
              clear askS IS StS
              go_wp2_with fail
              have R2 := DIn.quo SI.out XS.out
              have hE := HEND.out (Q - 1) XS.out
              rw [sub_mod (x := V) (y := v0) (z := (Q - 1) * (a * 4294967296 + b)) R2.2.2.1 (by omega)]
              try rw [u64_wrap (x := q1 * 4294967296 + (Q - 1)) (by omega) (by omega)]
              go_ret2
              exact ⟨by (rw [hE.1, hE.2]); first | done | rfl, by (repeat' (first | (with_reducible exact Below.refl _ _) | (with_reducible assumption) | (with_reducible refine Below.alloc ?_ ?_ _) | (with_reducible refine Below.setCell ?_ ?_ _) | (with_reducible refine Below.drew ?_) | (with_reducible refine below_drewN ?_ _) | (with_reducible refine below_via ?_ (by with_reducible assumption) ?_) | omega | (simp; done) | (simp; omega)))⟩
            · go_wp2_with fail
              go_roundw
              case rel => exact ⟨Q - 1, R + a, by go_num, by go_num, by (repeat' (first | (with_reducible exact Below.refl _ _) | (with_reducible assumption) | (with_reducible refine Below.alloc ?_ ?_ _) | (with_reducible refine Below.setCell ?_ ?_ _) | (with_reducible refine Below.drew ?_) | (with_reducible refine below_drewN ?_ _) | (with_reducible refine below_via ?_ (by with_reducible assumption) ?_) | omega | (simp; done) | (simp; omega))), StS.out.1, by omega⟩
              case measure => simp [intOf]; omega
          by_cases fS : 4294967296 * R + v0 < Q * b
          · have askS := Lib.hid (show dAsk v0 b Q R = true from by unfold dAsk; simp [fS])
            have StS := Lib.hid (IS.out.step SI.out askS.out)
            have p1S := StS.out.2
            have g2S : decide (4294967296 ≤ Q) = false := by simpa using gS
            have f3S : decide (4294967296 * R + v0 < Q * b) = true := by simpa using fS
            by_cases oS : 4294967296 ≤ R + a
            · have XS := Lib.hid (DInv.over SI.out StS.out.1 (by omega) oS)
              clear askS IS StS
              go_wp2_with fail
              have R2 := DIn.quo SI.out XS.out
              have hE := HEND.out (Q - 1) XS.out
              rw [sub_mod (x := V) (y := v0) (z := (Q - 1) * (a * 4294967296 + b)) R2.2.2.1 (by omega)]
              try rw [u64_wrap (x := q1 * 4294967296 + (Q - 1)) (by omega) (by omega)]
              go_ret2
              exact ⟨by (rw [hE.1, hE.2]); first | done | rfl, by (repeat' (first | (with_reducible exact Below.refl _ _) | (with_reducible assumption) | (with_reducible refine Below.alloc ?_ ?_ _) | (with_reducible refine Below.setCell ?_ ?_ _) | (with_reducible refine Below.drew ?_) | (with_reducible refine below_drewN ?_ _) | (with_reducible refine below_via ?_ (by with_reducible assumption) ?_) | omega | (simp; done) | (simp; omega)))⟩
            · go_wp2_with fail
              go_roundw
              case rel => exact ⟨Q - 1, R + a, by go_num, by go_num, by (repeat' (first | (with_reducible exact Below.refl _ _) | (with_reducible assumption) | (with_reducible refine Below.alloc ?_ ?_ _) | (with_reducible refine Below.setCell ?_ ?_ _) | (with_reducible refine Below.drew ?_) | (with_reducible refine below_drewN ?_ _) | (with_reducible refine below_via ?_ (by with_reducible assumption) ?_) | omega | (simp; done) | (simp; omega))), StS.out.1, by omega⟩
              case measure => simp [intOf]; omega
          have g2S : decide (4294967296 ≤ Q) = false := by simpa using gS
          have f2S : decide (4294967296 * R + v0 < Q * b) = false := by simpa using fS
          have XS := Lib.hid (DInv.stop SI.out IS.out (show dAsk v0 b Q R = false from by unfold dAsk; simp [gS]; omega))
          clear IS
          go_wp2_with fail
          have R2 := DIn.quo SI.out XS.out
          have hE := HEND.out Q XS.out
          rw [sub_mod (x := V) (y := v0) (z := Q * (a * 4294967296 + b)) R2.2.2.1 (by omega)]
          try rw [u64_wrap (x := q1 * 4294967296 + Q) (by omega) (by omega)]
          go_ret2
          exact ⟨by (rw [hE.1, hE.2]); first | done | rfl, by (repeat' (first | (with_reducible exact Below.refl _ _) | (with_reducible assumption) | (with_reducible refine Below.alloc ?_ ?_ _) | (with_reducible refine Below.setCell ?_ ?_ _) | (with_reducible refine Below.drew ?_) | (with_reducible refine below_drewN ?_ _) | (with_reducible refine below_via ?_ (by with_reducible assumption) ?_) | omega | (simp; done) | (simp; omega)))⟩
      · go_wp2_with fail
        go_roundw
        case rel => exact ⟨Q - 1, R + a, by go_num, by go_num, by (repeat' (first | (with_reducible exact Below.refl _ _) | (with_reducible assumption) | (with_reducible refine Below.alloc ?_ ?_ _) | (with_reducible refine Below.setCell ?_ ?_ _) | (with_reducible refine Below.drew ?_) | (with_reducible refine below_drewN ?_ _) | (with_reducible refine below_via ?_ (by with_reducible assumption) ?_) | omega | (simp; done) | (simp; omega))), StF.out.1, by omega⟩
        case measure => simp [intOf]; omega
    by_cases fF : 4294967296 * R + v1 < Q * b
    · have askF := Lib.hid (show dAsk v1 b Q R = true from by unfold dAsk; simp [fF])
      have StF := Lib.hid (IF.out.step FI.out askF.out)
      have p1F := StF.out.2
      have g2F : decide (4294967296 ≤ Q) = false := by simpa using gF
      have f3F : decide (4294967296 * R + v1 < Q * b) = true := by simpa using fF
      by_cases oF : 4294967296 ≤ R + a
      · have XF := Lib.hid (DInv.over FI.out StF.out.1 (by omega) oF)
        clear askF IF StF
        go_wp2_with fail
        have R1 := DIn.quo FI.out XF.out
        rw [sub_mod (x := U) (y := v1) (z := (Q - 1) * (a * 4294967296 + b)) R1.2.2.1 (by omega)]
        obtain ⟨q1, hq1⟩ : ∃ q1, q1 = (Q - 1) := ⟨_, rfl⟩
        rw [← hq1] at R1 ⊢
        have FX := Lib.hid (show q1 = (U * 4294967296 + v1) / (a * 4294967296 + b) from by rw [hq1]; exact XF.out)
        clear XF hq1
        obtain ⟨V, hV⟩ : ∃ V, V = U * 4294967296 + v1 - q1 * (a * 4294967296 + b) := ⟨_, rfl⟩
        rw [← hV] at R1 ⊢
        have hsi : DIn V v0 a b := ⟨by omega, by omega, by omega, by omega, by omega, by omega, by omega, by omega⟩
        have SI := Lib.hid hsi
        have gs := guess (U := V) (a := a) (by omega) (by omega) (by omega)
        rw [gs.1, gs.2]
        have SS := Lib.hid (DInv.start hsi)
        have endOf : ∀ q0, q0 = (V * 4294967296 + v0) / (a * 4294967296 + b) → q1 * 4294967296 + q0 = (hi * 18446744073709551616 + lo) / y ∧ (V * 4294967296 + v0 - q0 * (a * 4294967296 + b)) / 2 ^ s = (hi * 18446744073709551616 + lo) % y := (by
          intro q0 h0
          rw [hV] at h0 ⊢
          exact div_end HP.out HDY.out HN.out h0 (by omega))
        have HEND := Lib.hid endOf
        clear hsi gs hV endOf
        go_loopw [16, 18] (fun r q wr => ∃ Q R, q = .int .u64 Q ∧ r = .int .u64 R ∧ Below w1.heap.size w1 wr ∧ DInv V v0 a b Q R ∧ R < 4294967296) (fun r q _ => (intOf q).toNat)
        case atStart => exact ⟨_, _, rfl, rfl, by (repeat' (first | (with_reducible exact Below.refl _ _) | (with_reducible assumption) | (with_reducible refine Below.alloc ?_ ?_ _) | (with_reducible refine Below.setCell ?_ ?_ _) | (with_reducible refine Below.drew ?_) | (with_reducible refine below_drewN ?_ _) | (with_reducible refine below_via ?_ (by with_reducible assumption) ?_) | omega | (simp; done) | (simp; omega))), SS.out.1, by have h1 := SS.out.2; omega⟩
        case round =>
          obtain ⟨Q, R, rfl, rfl, hblS, hiS, hrS⟩ := hrel
          have IS := Lib.hid hiS
          have mS := hiS.mul_le SI.out
          have n1S := hiS.r0
          have n2S := hiS.q0
          have n3S := hiS.qB
          clear hiS
          by_cases gS : 4294967296 ≤ Q
          · have askS := Lib.hid (show dAsk v0 b Q R = true from by unfold dAsk; simp [gS])
            have StS := Lib.hid (IS.out.step SI.out askS.out)
            have p1S := StS.out.2
            have g3S : decide (4294967296 ≤ Q) = true := by simpa using gS
            by_cases oS : 4294967296 ≤ R + a
            · have XS := Lib.hid (DInv.over SI.out StS.out.1 (by omega) oS)
              clear askS IS StS
              go_wp2_with fail
              have R2 := DIn.quo SI.out XS.out
              have hE := HEND.out (Q - 1) XS.out
              rw [sub_mod (x := V) (y := v0) (z := (Q - 1) * (a * 4294967296 + b)) R2.2.2.1 (by omega)]
              try rw [u64_wrap (x := q1 * 4294967296 + (Q - 1)) (by omega) (by omega)]
              go_ret2
              exact ⟨by (rw [hE.1, hE.2]); first | done | rfl, by (repeat' (first | (with_reducible exact Below.refl _ _) | (with_reducible assumption) | (with_reducible refine Below.alloc ?_ ?_ _) | (with_reducible refine Below.setCell ?_ ?_ _) | (with_reducible refine Below.drew ?_) | (with_reducible refine below_drewN ?_ _) | (with_reducible refine below_via ?_ (by with_reducible assumption) ?_) | omega | (simp; done) | (simp; omega)))⟩
            · go_wp2_with fail
              go_roundw
              case rel => exact ⟨Q - 1, R + a, by go_num, by go_num, by (repeat' (first | (with_reducible exact Below.refl _ _) | (with_reducible assumption) | (with_reducible refine Below.alloc ?_ ?_ _) | (with_reducible refine Below.setCell ?_ ?_ _) | (with_reducible refine Below.drew ?_) | (with_reducible refine below_drewN ?_ _) | (with_reducible refine below_via ?_ (by with_reducible assumption) ?_) | omega | (simp; done) | (simp; omega))), StS.out.1, by omega⟩
              case measure => simp [intOf]; omega
          by_cases fS : 4294967296 * R + v0 < Q * b
          · have askS := Lib.hid (show dAsk v0 b Q R = true from by unfold dAsk; simp [fS])
            have StS := Lib.hid (IS.out.step SI.out askS.out)
            have p1S := StS.out.2
            have g2S : decide (4294967296 ≤ Q) = false := by simpa using gS
            have f3S : decide (4294967296 * R + v0 < Q * b) = true := by simpa using fS
            by_cases oS : 4294967296 ≤ R + a
            · have XS := Lib.hid (DInv.over SI.out StS.out.1 (by omega) oS)
              clear askS IS StS
              go_wp2_with fail
              have R2 := DIn.quo SI.out XS.out
              have hE := HEND.out (Q - 1) XS.out
              rw [sub_mod (x := V) (y := v0) (z := (Q - 1) * (a * 4294967296 + b)) R2.2.2.1 (by omega)]
              try rw [u64_wrap (x := q1 * 4294967296 + (Q - 1)) (by omega) (by omega)]
              go_ret2
              exact ⟨by (rw [hE.1, hE.2]); first | done | rfl, by (repeat' (first | (with_reducible exact Below.refl _ _) | (with_reducible assumption) | (with_reducible refine Below.alloc ?_ ?_ _) | (with_reducible refine Below.setCell ?_ ?_ _) | (with_reducible refine Below.drew ?_) | (with_reducible refine below_drewN ?_ _) | (with_reducible refine below_via ?_ (by with_reducible assumption) ?_) | omega | (simp; done) | (simp; omega)))⟩
            · go_wp2_with fail
              go_roundw
              case rel => exact ⟨Q - 1, R + a, by go_num, by go_num, by (repeat' (first | (with_reducible exact Below.refl _ _) | (with_reducible assumption) | (with_reducible refine Below.alloc ?_ ?_ _) | (with_reducible refine Below.setCell ?_ ?_ _) | (with_reducible refine Below.drew ?_) | (with_reducible refine below_drewN ?_ _) | (with_reducible refine below_via ?_ (by with_reducible assumption) ?_) | omega | (simp; done) | (simp; omega))), StS.out.1, by omega⟩
              case measure => simp [intOf]; omega
          have g2S : decide (4294967296 ≤ Q) = false := by simpa using gS
          have f2S : decide (4294967296 * R + v0 < Q * b) = false := by simpa using fS
          have XS := Lib.hid (DInv.stop SI.out IS.out (show dAsk v0 b Q R = false from by unfold dAsk; simp [gS]; omega))
          clear IS
          go_wp2_with fail
          have R2 := DIn.quo SI.out XS.out
          have hE := HEND.out Q XS.out
          rw [sub_mod (x := V) (y := v0) (z := Q * (a * 4294967296 + b)) R2.2.2.1 (by omega)]
          try rw [u64_wrap (x := q1 * 4294967296 + Q) (by omega) (by omega)]
          go_ret2
          exact ⟨by (rw [hE.1, hE.2]); first | done | rfl, by (repeat' (first | (with_reducible exact Below.refl _ _) | (with_reducible assumption) | (with_reducible refine Below.alloc ?_ ?_ _) | (with_reducible refine Below.setCell ?_ ?_ _) | (with_reducible refine Below.drew ?_) | (with_reducible refine below_drewN ?_ _) | (with_reducible refine below_via ?_ (by with_reducible assumption) ?_) | omega | (simp; done) | (simp; omega)))⟩
      · go_wp2_with fail
        go_roundw
        case rel => exact ⟨Q - 1, R + a, by go_num, by go_num, by (repeat' (first | (with_reducible exact Below.refl _ _) | (with_reducible assumption) | (with_reducible refine Below.alloc ?_ ?_ _) | (with_reducible refine Below.setCell ?_ ?_ _) | (with_reducible refine Below.drew ?_) | (with_reducible refine below_drewN ?_ _) | (with_reducible refine below_via ?_ (by with_reducible assumption) ?_) | omega | (simp; done) | (simp; omega))), StF.out.1, by omega⟩
        case measure => simp [intOf]; omega
    have g2F : decide (4294967296 ≤ Q) = false := by simpa using gF
    have f2F : decide (4294967296 * R + v1 < Q * b) = false := by simpa using fF
    have XF := Lib.hid (DInv.stop FI.out IF.out (show dAsk v1 b Q R = false from by unfold dAsk; simp [gF]; omega))
    clear IF
    go_wp2_with fail
    have R1 := DIn.quo FI.out XF.out
    rw [sub_mod (x := U) (y := v1) (z := Q * (a * 4294967296 + b)) R1.2.2.1 (by omega)]
    obtain ⟨q1, hq1⟩ : ∃ q1, q1 = Q := ⟨_, rfl⟩
    rw [← hq1] at R1 ⊢
    have FX := Lib.hid (show q1 = (U * 4294967296 + v1) / (a * 4294967296 + b) from by rw [hq1]; exact XF.out)
    clear XF hq1
    obtain ⟨V, hV⟩ : ∃ V, V = U * 4294967296 + v1 - q1 * (a * 4294967296 + b) := ⟨_, rfl⟩
    rw [← hV] at R1 ⊢
    have hsi : DIn V v0 a b := ⟨by omega, by omega, by omega, by omega, by omega, by omega, by omega, by omega⟩
    have SI := Lib.hid hsi
    have gs := guess (U := V) (a := a) (by omega) (by omega) (by omega)
    rw [gs.1, gs.2]
    have SS := Lib.hid (DInv.start hsi)
    have endOf : ∀ q0, q0 = (V * 4294967296 + v0) / (a * 4294967296 + b) → q1 * 4294967296 + q0 = (hi * 18446744073709551616 + lo) / y ∧ (V * 4294967296 + v0 - q0 * (a * 4294967296 + b)) / 2 ^ s = (hi * 18446744073709551616 + lo) % y := (by
      intro q0 h0
      rw [hV] at h0 ⊢
      exact div_end HP.out HDY.out HN.out h0 (by omega))
    have HEND := Lib.hid endOf
    clear hsi gs hV endOf
    go_loopw [16, 18] (fun r q wr => ∃ Q R, q = .int .u64 Q ∧ r = .int .u64 R ∧ Below w1.heap.size w1 wr ∧ DInv V v0 a b Q R ∧ R < 4294967296) (fun r q _ => (intOf q).toNat)
    case atStart => exact ⟨_, _, rfl, rfl, by (repeat' (first | (with_reducible exact Below.refl _ _) | (with_reducible assumption) | (with_reducible refine Below.alloc ?_ ?_ _) | (with_reducible refine Below.setCell ?_ ?_ _) | (with_reducible refine Below.drew ?_) | (with_reducible refine below_drewN ?_ _) | (with_reducible refine below_via ?_ (by with_reducible assumption) ?_) | omega | (simp; done) | (simp; omega))), SS.out.1, by have h1 := SS.out.2; omega⟩
    case round =>
      obtain ⟨Q, R, rfl, rfl, hblS, hiS, hrS⟩ := hrel
      have IS := Lib.hid hiS
      have mS := hiS.mul_le SI.out
      have n1S := hiS.r0
      have n2S := hiS.q0
      have n3S := hiS.qB
      clear hiS
      by_cases gS : 4294967296 ≤ Q
      · have askS := Lib.hid (show dAsk v0 b Q R = true from by unfold dAsk; simp [gS])
        have StS := Lib.hid (IS.out.step SI.out askS.out)
        have p1S := StS.out.2
        have g3S : decide (4294967296 ≤ Q) = true := by simpa using gS
        by_cases oS : 4294967296 ≤ R + a
        · have XS := Lib.hid (DInv.over SI.out StS.out.1 (by omega) oS)
          clear askS IS StS
          go_wp2_with fail
          have R2 := DIn.quo SI.out XS.out
          have hE := HEND.out (Q - 1) XS.out
          rw [sub_mod (x := V) (y := v0) (z := (Q - 1) * (a * 4294967296 + b)) R2.2.2.1 (by omega)]
          try rw [u64_wrap (x := q1 * 4294967296 + (Q - 1)) (by omega) (by omega)]
          go_ret2
          exact ⟨by (rw [hE.1, hE.2]); first | done | rfl, by (repeat' (first | (with_reducible exact Below.refl _ _) | (with_reducible assumption) | (with_reducible refine Below.alloc ?_ ?_ _) | (with_reducible refine Below.setCell ?_ ?_ _) | (with_reducible refine Below.drew ?_) | (with_reducible refine below_drewN ?_ _) | (with_reducible refine below_via ?_ (by with_reducible assumption) ?_) | omega | (simp; done) | (simp; omega)))⟩
        · go_wp2_with fail
          go_roundw
          case rel => exact ⟨Q - 1, R + a, by go_num, by go_num, by (repeat' (first | (with_reducible exact Below.refl _ _) | (with_reducible assumption) | (with_reducible refine Below.alloc ?_ ?_ _) | (with_reducible refine Below.setCell ?_ ?_ _) | (with_reducible refine Below.drew ?_) | (with_reducible refine below_drewN ?_ _) | (with_reducible refine below_via ?_ (by with_reducible assumption) ?_) | omega | (simp; done) | (simp; omega))), StS.out.1, by omega⟩
          case measure => simp [intOf]; omega
      by_cases fS : 4294967296 * R + v0 < Q * b
      · have askS := Lib.hid (show dAsk v0 b Q R = true from by unfold dAsk; simp [fS])
        have StS := Lib.hid (IS.out.step SI.out askS.out)
        have p1S := StS.out.2
        have g2S : decide (4294967296 ≤ Q) = false := by simpa using gS
        have f3S : decide (4294967296 * R + v0 < Q * b) = true := by simpa using fS
        by_cases oS : 4294967296 ≤ R + a
        · have XS := Lib.hid (DInv.over SI.out StS.out.1 (by omega) oS)
          clear askS IS StS
          go_wp2_with fail
          have R2 := DIn.quo SI.out XS.out
          have hE := HEND.out (Q - 1) XS.out
          rw [sub_mod (x := V) (y := v0) (z := (Q - 1) * (a * 4294967296 + b)) R2.2.2.1 (by omega)]
          try rw [u64_wrap (x := q1 * 4294967296 + (Q - 1)) (by omega) (by omega)]
          go_ret2
          exact ⟨by (rw [hE.1, hE.2]); first | done | rfl, by (repeat' (first | (with_reducible exact Below.refl _ _) | (with_reducible assumption) | (with_reducible refine Below.alloc ?_ ?_ _) | (with_reducible refine Below.setCell ?_ ?_ _) | (with_reducible refine Below.drew ?_) | (with_reducible refine below_drewN ?_ _) | (with_reducible refine below_via ?_ (by with_reducible assumption) ?_) | omega | (simp; done) | (simp; omega)))⟩
        · go_wp2_with fail
          go_roundw
          case rel => exact ⟨Q - 1, R + a, by go_num, by go_num, by (repeat' (first | (with_reducible exact Below.refl _ _) | (with_reducible assumption) | (with_reducible refine Below.alloc ?_ ?_ _) | (with_reducible refine Below.setCell ?_ ?_ _) | (with_reducible refine Below.drew ?_) | (with_reducible refine below_drewN ?_ _) | (with_reducible refine below_via ?_ (by with_reducible assumption) ?_) | omega | (simp; done) | (simp; omega))), StS.out.1, by omega⟩
          case measure => simp [intOf]; omega
      have g2S : decide (4294967296 ≤ Q) = false := by simpa using gS
      have f2S : decide (4294967296 * R + v0 < Q * b) = false := by simpa using fS
      have XS := Lib.hid (DInv.stop SI.out IS.out (show dAsk v0 b Q R = false from by unfold dAsk; simp [gS]; omega))
      clear IS
      go_wp2_with fail
      have R2 := DIn.quo SI.out XS.out
      have hE := HEND.out Q XS.out
      rw [sub_mod (x := V) (y := v0) (z := Q * (a * 4294967296 + b)) R2.2.2.1 (by omega)]
      try rw [u64_wrap (x := q1 * 4294967296 + Q) (by omega) (by omega)]
      go_ret2
      exact ⟨by (rw [hE.1, hE.2]); first | done | rfl, by (repeat' (first | (with_reducible exact Below.refl _ _) | (with_reducible assumption) | (with_reducible refine Below.alloc ?_ ?_ _) | (with_reducible refine Below.setCell ?_ ?_ _) | (with_reducible refine Below.drew ?_) | (with_reducible refine below_drewN ?_ _) | (with_reducible refine below_via ?_ (by with_reducible assumption) ?_) | omega | (simp; done) | (simp; omega)))⟩
theorem div64 (hi lo y : Int) (w : World) (h0 : 0 ≤ hi) (hhi : hi < y) (hy : y ≤ 18446744073709551615) (l0 : 0 ≤ lo) (l1 : lo ≤ 18446744073709551615) :
    Calls Try.prog 72 #[.int .u64 hi, .int .u64 lo, .int .u64 y] w fun e w' => e = .returned (.tuple #[.int .u64 ((hi * 18446744073709551616 + lo) / y), .int .u64 ((hi * 18446744073709551616 + lo) % y)]) ∧ Below w.heap.size w w' := by
  rcases (show hi = 0 ∨ 0 < hi by omega) with h | h
  · subst h
    rw [show (0 : Int) * 18446744073709551616 + lo = lo by omega]
    exact div64Low lo y w hhi hy l0 l1
  · exact div64High hi lo y w h hhi hy l0 l1
end Go.Proofs.Ytenehpcliajdnaa
