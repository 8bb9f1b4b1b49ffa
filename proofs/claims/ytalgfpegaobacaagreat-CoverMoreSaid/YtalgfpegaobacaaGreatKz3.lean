/- Joined: Div64, Wide7, Bits0. -/
import Derived.Test.YtalgfpegaobacaaGreatKz1
import Derived.Test.YtalgfpegaobacaaGreatKz2
import Derived.Test.YtalgfpegaobacaaGreatRows
import Derived.WalkKit
import Derived.WalkSpells
import Derived.WalkLawsBesides
import Derived.BigQuiet
import Derived.Deep.RegionHeld3
import Derived.Handy
/- The contract of bits.Div64. -/
namespace Go.Proofs.YtalgfpegaobacaaGreat
open Go.RowKit
theorem u64_wrap {x : Int} (h0 : 0 ≤ x) (h1 : x ≤ 18446744073709551615) : IntKind.u64.wrap x = x := by rw [IntKind.wrap_u64]; omega
theorem and_low (x : Int) (h : 0 ≤ x) (h' : x ≤ 18446744073709551615) : bits .and .u64 x 4294967295 = x % 4294967296 := by
  obtain ⟨x, rfl⟩ := Int.eq_ofNat_of_zero_le h
  show IntKind.u64.wrap ((BitVec.ofInt 64 (x : Int) &&& BitVec.ofInt 64 4294967295).toNat : Int) = _
  have e : (BitVec.ofInt 64 (x : Int) &&& BitVec.ofInt 64 4294967295).toNat = x % 4294967296 := by
    rw [BitVec.toNat_and, BitVec.ofInt_natCast, BitVec.toNat_ofNat, Nat.mod_eq_of_lt (by omega)]
    exact Nat.and_two_pow_sub_one_eq_mod x 32
  rw [e, u64_wrap (by omega) (by omega)]
  omega
theorem or_low (h l : Int) (s : Nat) (h0 : 0 ≤ h) (l0 : 0 ≤ l) (hl : l < 2 ^ s) (hh : h * 2 ^ s ≤ 18446744073709551615) (hs : s ≤ 63) : bits .or .u64 (h * 2 ^ s) l = h * 2 ^ s + l := by
  obtain ⟨h, rfl⟩ := Int.eq_ofNat_of_zero_le h0
  obtain ⟨l, rfl⟩ := Int.eq_ofNat_of_zero_le l0
  have hp : (2 : Int) ^ s = ((2 ^ s : Nat) : Int) := by rw [Int.natCast_pow]; rfl
  have hps : 2 ^ s ≤ 2 ^ 63 := Nat.pow_le_pow_right (by omega) hs
  have hl2 : l < 2 ^ s := by rw [hp] at hl; omega
  have hh2 : h * 2 ^ s ≤ 18446744073709551615 := by rw [hp, ← Int.natCast_mul] at hh; omega
  rw [hp, ← Int.natCast_mul]
  show IntKind.u64.wrap ((BitVec.ofInt 64 ((h * 2 ^ s : Nat) : Int) ||| BitVec.ofInt 64 (l : Int)).toNat : Int) = _
  have e : (BitVec.ofInt 64 ((h * 2 ^ s : Nat) : Int) ||| BitVec.ofInt 64 (l : Int)).toNat = h * 2 ^ s + l := by
    rw [BitVec.toNat_or, BitVec.ofInt_natCast, BitVec.toNat_ofNat, BitVec.ofInt_natCast, BitVec.toNat_ofNat, Nat.mod_eq_of_lt (by omega), Nat.mod_eq_of_lt (by omega), ← Nat.shiftLeft_eq, Nat.shiftLeft_add_eq_or_of_lt hl2]
  have hsum : h * 2 ^ s + l ≤ 18446744073709551615 := by
    rw [← e]; have := (BitVec.ofInt 64 ((h * 2 ^ s : Nat) : Int) ||| BitVec.ofInt 64 (l : Int)).isLt; omega
  rw [e, u64_wrap (by omega) (by omega)]
  omega
theorem sub_mod {x y z : Int} (h0 : 0 ≤ x * 4294967296 + y - z) (h1 : x * 4294967296 + y - z ≤ 18446744073709551615) : IntKind.u64.wrap (IntKind.u64.wrap (IntKind.u64.wrap (x * 4294967296) + y) - IntKind.u64.wrap z) = x * 4294967296 + y - z := by
  rw [IntKind.wrap_u64, IntKind.wrap_u64, IntKind.wrap_u64, IntKind.wrap_u64]; omega
/-- The first guess, as the code has it. -/
theorem guess {U a : Int} (a0 : 0 < a) (u0 : 0 ≤ U) (u1 : U ≤ 18446744073709551615) : IntKind.u64.wrap (U.tdiv a) = U / a ∧ IntKind.u64.wrap (U - IntKind.u64.wrap (U / a * a)) = U - U / a * a := by
  have e := Int.mul_ediv_add_emod U a
  have e1 := Int.emod_nonneg U (show a ≠ 0 by omega)
  rw [Int.mul_comm] at e
  have q0 : 0 ≤ U / a := Int.ediv_nonneg u0 (by omega)
  have q1 : U / a ≤ U := Int.ediv_le_self _ u0
  have q2 : 0 ≤ U / a * a := Int.mul_nonneg q0 (by omega)
  refine ⟨?_, ?_⟩
  · rw [Int.tdiv_eq_ediv_of_nonneg u0]
    exact u64_wrap q0 (by omega)
  · rw [u64_wrap q2 (by omega)]
    exact u64_wrap (by omega) (by omega)
set_option maxRecDepth 100000 in
set_option maxHeartbeats 4000000 in
theorem div64Low (lo y : Int) (w : World) (hy0 : 0 < y) (hy : y ≤ 18446744073709551615) (l0 : 0 ≤ lo) (l1 : lo ≤ 18446744073709551615) :
    Calls Tryz.prog 109 #[.int .u64 0, .int .u64 lo, .int .u64 y] w fun e w' => e = .returned (.tuple #[.int .u64 (lo / y), .int .u64 (lo % y)]) ∧ Below w.heap.size w w' := by
  have d0 : (y == 0) = false := by simp; omega
  have d1 : decide (y ≤ 0) = false := by simp; omega
  have d2 : ¬ y = 0 := by omega
  go_enter Tryz.func109, Tryz.ntmps109
  go_wp2_with fail
  go_quiet (fail)
  go_wp2_with fail
  go_ret2
  exact ⟨rfl, by (repeat' (first | (with_reducible exact Below.refl _ _) | (with_reducible assumption) | (with_reducible refine Below.alloc ?_ ?_ _) | (with_reducible refine Below.setCell ?_ ?_ _) | (with_reducible refine Below.drew ?_) | (with_reducible refine below_drewN ?_ _) | (with_reducible refine below_via ?_ (by with_reducible assumption) ?_) | omega | (simp; done) | (simp; omega)))⟩
set_option maxRecDepth 100000 in
set_option maxHeartbeats 16000000 in
theorem div64High (hi lo y : Int) (w : World) (h0 : 0 < hi) (hhi : hi < y) (hy : y ≤ 18446744073709551615) (l0 : 0 ≤ lo) (l1 : lo ≤ 18446744073709551615) :
    Calls Tryz.prog 109 #[.int .u64 hi, .int .u64 lo, .int .u64 y] w fun e w' => e = .returned (.tuple #[.int .u64 ((hi * 18446744073709551616 + lo) / y), .int .u64 ((hi * 18446744073709551616 + lo) % y)]) ∧ Below w.heap.size w w' := by
  have d0 : (y == 0) = false := by simp; omega
  have d1 : decide (y ≤ hi) = false := by simp; omega
  have d3 : (hi == 0) = false := by simp; omega
  obtain ⟨s, hs, hs63, hn0, hn1⟩ := shift_norm (y := y) (by omega) hy
  have hPT := pow_split (s := s) (by omega)
  have hP : (0 : Int) < 2 ^ s := Int.pow_pos (by omega)
  have hT : (0 : Int) < 2 ^ (64 - s) := Int.pow_pos (by omega)
  have hhy : hi * 2 ^ s ≤ y * 2 ^ s := Int.mul_le_mul_of_nonneg_right (by omega) (by omega)
  have hh0 : 0 ≤ hi * 2 ^ s := Int.mul_nonneg (by omega) (by omega)
  have t0 : 0 ≤ lo / 2 ^ (64 - s) := Int.ediv_nonneg l0 (by omega)
  have t1 : lo / 2 ^ (64 - s) < 2 ^ s := Int.ediv_lt_of_lt_mul hT (by omega)
  have z1 : IntKind.u64.wrap (hi * 2 ^ s) = hi * 2 ^ s := u64_wrap hh0 (by omega)
  have z2 := or_low hi (lo / 2 ^ (64 - s)) s (by omega) t0 t1 (by omega) hs63
  have z3 := and_low (y * 2 ^ s) (by omega) (by omega)
  have z4 : IntKind.u64.wrap (lo * 2 ^ s) = lo * 2 ^ s % 18446744073709551616 := IntKind.wrap_u64 _
  have z5 := and_low (lo * 2 ^ s % 18446744073709551616) (by omega) (by omega)
  have hw := words (hi := hi) (lo := lo) hP hPT
  have hbig : (hi * 18446744073709551616 + lo) * 2 ^ s < y * 18446744073709551616 * 2 ^ s := Int.mul_lt_mul_of_pos_right (by omega) hP
  rw [Int.mul_right_comm y] at hbig
  have m0 : 0 ≤ lo * 2 ^ s % 18446744073709551616 ∧ lo * 2 ^ s % 18446744073709551616 ≤ 18446744073709551615 := by omega
  have Z1 := Lib.hid z1
  have Z2 := Lib.hid z2
  have Z3 := Lib.hid z3
  have Z4 := Lib.hid z4
  have Z5 := Lib.hid z5
  have HW := Lib.hid hw
  have HB := Lib.hid hbig
  have M0 := Lib.hid m0
  have HP := Lib.hid hP
  have HN01 := Lib.hid (And.intro hn0 hn1)
  have HU0 := Lib.hid (Int.add_nonneg hh0 t0)
  clear z1 z2 z3 z4 z5 hw hbig m0 hPT hT hP t0 t1 hh0 hhy
  go_enter Tryz.func109, Tryz.ntmps109
  go_wp2_with (go_at_call 121; (with_reducible refine (Tryz.bits_LeadingZeros64 y _ (by omega) hy).mono ?_); rintro e w1 ⟨rfl, rfl⟩; rw [hs])
  rw [Z3.out, Z1.out, Z2.out, Z4.out, Z5.out]
  have hW := HW.out
  have hB := HB.out
  have hM := M0.out
  have hU0 := HU0.out
  have hD := HN01.out
  obtain ⟨d, hd⟩ : ∃ d, d = y * 2 ^ s := ⟨_, rfl⟩
  obtain ⟨U, hU⟩ : ∃ U, U = hi * 2 ^ s + lo / 2 ^ (64 - s) := ⟨_, rfl⟩
  obtain ⟨m, hm⟩ : ∃ m, m = lo * 2 ^ s % 18446744073709551616 := ⟨_, rfl⟩
  obtain ⟨n2, hn2⟩ : ∃ n2, n2 = (hi * 18446744073709551616 + lo) * 2 ^ s := ⟨_, rfl⟩
  rw [← hn2] at hW hB
  rw [← hd] at hB hD ⊢
  rw [← hU] at hW hU0 ⊢
  rw [← hm] at hW hM ⊢
  clear Z1 Z2 Z3 Z4 Z5 HW HB M0 HU0 HN01 hn0 hn1 hU hm hs d0 d1 d3
  have HDY := Lib.hid hd
  clear hd
  obtain ⟨a, ha⟩ : ∃ a, a = d / 4294967296 := ⟨_, rfl⟩
  obtain ⟨b, hb⟩ : ∃ b, b = d % 4294967296 := ⟨_, rfl⟩
  obtain ⟨v1, hv1⟩ : ∃ v1, v1 = m / 4294967296 := ⟨_, rfl⟩
  obtain ⟨v0, hv0⟩ : ∃ v0, v0 = m % 4294967296 := ⟨_, rfl⟩
  rw [← ha, ← hb, ← hv1, ← hv0]
  have hdab : d = a * 4294967296 + b := by omega
  have HN : Hid (U * 18446744073709551616 + (v1 * 4294967296 + v0) = (hi * 18446744073709551616 + lo) * 2 ^ s) := Lib.hid (by rw [← hn2]; omega)
  have hfi : DIn U v1 a b := ⟨by omega, by omega, by omega, by omega, by omega, by omega, by omega, by omega⟩
  have q1 : 0 ≤ v0 ∧ v0 < 4294967296 := by omega
  have q2 : 2147483648 ≤ a ∧ a < 4294967296 ∧ 0 ≤ b ∧ b < 4294967296 := by omega
  have q3 : 0 ≤ v1 ∧ v1 < 4294967296 ∧ 0 ≤ U ∧ U < d := by omega
  clear hW hB hM hU0 hn2 ha hb hv1 hv0
  subst hdab
  have FI := Lib.hid hfi
  have gs := guess (U := U) (a := a) (by omega) (by omega) (by omega)
  rw [gs.1, gs.2]
  have FS := Lib.hid (DInv.start hfi)
  clear hfi gs
  go_loopw [15, 16] (fun q r wr => ∃ Q R, q = .int .u64 Q ∧ r = .int .u64 R ∧ Below w1.heap.size w1 wr ∧ DInv U v1 a b Q R ∧ R < 4294967296) (fun q r _ => (intOf q).toNat)
  case atStart => exact ⟨_, _, rfl, rfl, by (repeat' (first | (with_reducible exact Below.refl _ _) | (with_reducible assumption) | (with_reducible refine Below.alloc ?_ ?_ _) | (with_reducible refine Below.setCell ?_ ?_ _) | (with_reducible refine Below.drew ?_) | (with_reducible refine below_drewN ?_ _) | (with_reducible refine below_via ?_ (by with_reducible assumption) ?_) | omega | (simp; done) | (simp; omega))), FS.out.1, by have h1 := FS.out.2; omega⟩
  case round =>
    obtain ⟨Q, R, rfl, rfl, hblF, hiF, hrF⟩ := hrel
    have IF := Lib.hid hiF
    have mF := hiF.mul_le FI.out
    have n1F := hiF.r0
    have n2F := hiF.q0
    have n3F := hiF.qB
    clear hiF
    by_cases gF : 4294967296 ≤ Q
    · have askF := Lib.hid (show dAsk v1 b Q R = true from by unfold dAsk; simp [gF])
      have StF := Lib.hid (IF.out.step FI.out askF.out)
      have p1F := StF.out.2
      have g3F : decide (4294967296 ≤ Q) = true := by simpa using gF
      by_cases oF : 4294967296 ≤ R + a
      · have XF := Lib.hid (DInv.over FI.out StF.out.1 (by omega) oF)
        clear askF IF StF
        go_wp2_with fail
        have R1 := DIn.quo FI.out XF.out
        rw [sub_mod (x := U) (y := v1) (z := (Q - 1) * (a * 4294967296 + b)) R1.2.2.1 (by omega)]
        obtain ⟨q1, hq1⟩ : ∃ q1, q1 = (Q - 1) := ⟨_, rfl⟩
        rw [← hq1] at R1 ⊢
        have FX := Lib.hid (show q1 = (U * 4294967296 + v1) / (a * 4294967296 + b) from by rw [hq1]; exact XF.out)
        clear XF hq1
        obtain ⟨V, hV⟩ : ∃ V, V = U * 4294967296 + v1 - q1 * (a * 4294967296 + b) := ⟨_, rfl⟩
        rw [← hV] at R1 ⊢
        have hsi : DIn V v0 a b := ⟨by omega, by omega, by omega, by omega, by omega, by omega, by omega, by omega⟩
        have SI := Lib.hid hsi
        have gs := guess (U := V) (a := a) (by omega) (by omega) (by omega)
        rw [gs.1, gs.2]
        have SS := Lib.hid (DInv.start hsi)
        have endOf : ∀ q0, q0 = (V * 4294967296 + v0) / (a * 4294967296 + b) → q1 * 4294967296 + q0 = (hi * 18446744073709551616 + lo) / y ∧ (V * 4294967296 + v0 - q0 * (a * 4294967296 + b)) / 2 ^ s = (hi * 18446744073709551616 + lo) % y := (by
          intro q0 h0
          rw [hV] at h0 ⊢
          exact div_end HP.out HDY.out HN.out h0 (by omega))
        have HEND := Lib.hid endOf
        clear hsi gs hV endOf
        go_loopw [16, 18] (fun r q wr => ∃ Q R, q = .int .u64 Q ∧ r = .int .u64 R ∧ Below w1.heap.size w1 wr ∧ DInv V v0 a b Q R ∧ R < 4294967296) (fun r q _ => (intOf q).toNat)
        case atStart => exact ⟨_, _, rfl, rfl, by (repeat' (first | (with_reducible exact Below.refl _ _) | (with_reducible assumption) | (with_reducible refine Below.alloc ?_ ?_ _) | (with_reducible refine Below.setCell ?_ ?_ _) | (with_reducible refine Below.drew ?_) | (with_reducible refine below_drewN ?_ _) | (with_reducible refine below_via ?_ (by with_reducible assumption) ?_) | omega | (simp; done) | (simp; omega))), SS.out.1, by have h1 := SS.out.2; omega⟩
        case round =>
          obtain ⟨Q, R, rfl, rfl, hblS, hiS, hrS⟩ := hrel
          have IS := Lib.hid hiS
          have mS := hiS.mul_le SI.out
          have n1S := hiS.r0
          have n2S := hiS.q0
          have n3S := hiS.qB
          clear hiS
          by_cases gS : 4294967296 ≤ Q
          · have askS := Lib.hid (show dAsk v0 b Q R = true from by unfold dAsk; simp [gS])
            have StS := Lib.hid (IS.out.step SI.out askS.out)
            have p1S := StS.out.2
            have g3S : decide (4294967296 ≤ Q) = true := by simpa using gS
            by_cases oS : 4294967296 ≤ R + a
            · have XS := Lib.hid (DInv.over SI.out StS.out.1 (by omega) oS)
              clear askS IS StS
              go_wp2_with fail
              have R2 := DIn.quo SI.out XS.out
              have hE := HEND.out (Q - 1) XS.out
              rw [sub_mod (x := V) (y := v0) (z := (Q - 1) * (a * 4294967296 + b)) R2.2.2.1 (by omega)]
              try rw [u64_wrap (x := q1 * 4294967296 + (Q - 1)) (by omega) (by omega)]
              go_ret2
              exact ⟨by (rw [hE.1, hE.2]); first | done | rfl, by (repeat' (first | (with_reducible exact Below.refl _ _) | (with_reducible assumption) | (with_reducible refine Below.alloc ?_ ?_ _) | (with_reducible refine Below.setCell ?_ ?_ _) | (with_reducible refine Below.drew ?_) | (with_reducible refine below_drewN ?_ _) | (with_reducible refine below_via ?_ (by with_reducible assumption) ?_) | omega | (simp; done) | (simp; omega)))⟩
            · go_wp2_with fail
              go_roundw
              case rel => exact ⟨Q - 1, R + a, by go_num, by go_num, by (repeat' (first | (with_reducible exact Below.refl _ _) | (with_reducible assumption) | (with_reducible refine Below.alloc ?_ ?_ _) | (with_reducible refine Below.setCell ?_ ?_ _) | (with_reducible refine Below.drew ?_) | (with_reducible refine below_drewN ?_ _) | (with_reducible refine below_via ?_ (by with_reducible assumption) ?_) | omega | (simp; done) | (simp; omega))), StS.out.1, by omega⟩
              case measure => simp [intOf]; omega
          by_cases fS : 4294967296 * R + v0 < Q * b
          · have askS := Lib.hid (show dAsk v0 b Q R = true from by unfold dAsk; simp [fS])
            have StS := Lib.hid (IS.out.step SI.out askS.out)
            have p1S := StS.out.2
            have g2S : decide (4294967296 ≤ Q) = false := by simpa using gS
            have f3S : decide (4294967296 * R + v0 < Q * b) = true := by simpa using fS
            by_cases oS : 4294967296 ≤ R + a
            · have XS := Lib.hid (DInv.over SI.out StS.out.1 (by omega) oS)
              clear askS IS StS
              go_wp2_with fail
              have R2 := DIn.quo SI.out XS.out
              have hE := HEND.out (Q - 1) XS.out
              rw [sub_mod (x := V) (y := v0) (z := (Q - 1) * (a * 4294967296 + b)) R2.2.2.1 (by omega)]
              try rw [u64_wrap (x := q1 * 4294967296 + (Q - 1)) (by omega) (by omega)]
              go_ret2
              exact ⟨by (rw [hE.1, hE.2]); first | done | rfl, by (repeat' (first | (with_reducible exact Below.refl _ _) | (with_reducible assumption) | (with_reducible refine Below.alloc ?_ ?_ _) | (with_reducible refine Below.setCell ?_ ?_ _) | (with_reducible refine Below.drew ?_) | (with_reducible refine below_drewN ?_ _) | (with_reducible refine below_via ?_ (by with_reducible assumption) ?_) | omega | (simp; done) | (simp; omega)))⟩
            · go_wp2_with fail
              go_roundw
              case rel => exact ⟨Q - 1, R + a, by go_num, by go_num, by (repeat' (first | (with_reducible exact Below.refl _ _) | (with_reducible assumption) | (with_reducible refine Below.alloc ?_ ?_ _) | (with_reducible refine Below.setCell ?_ ?_ _) | (with_reducible refine Below.drew ?_) | (with_reducible refine below_drewN ?_ _) | (with_reducible refine below_via ?_ (by with_reducible assumption) ?_) | omega | (simp; done) | (simp; omega))), StS.out.1, by omega⟩
              case measure => simp [intOf]; omega
          have g2S : decide (4294967296 ≤ Q) = false := by simpa using gS
          have f2S : decide (4294967296 * R + v0 < Q * b) = false := by simpa using fS
          have XS := Lib.hid (DInv.stop SI.out IS.out (show dAsk v0 b Q R = false from by unfold dAsk; simp [gS]; omega))
          clear IS
          go_wp2_with fail
          have R2 := DIn.quo SI.out XS.out
          have hE := HEND.out Q XS.out
          rw [sub_mod (x := V) (y := v0) (z := Q * (a * 4294967296 + b)) R2.2.2.1 (by omega)]
          try rw [u64_wrap (x := q1 * 4294967296 + Q) (by omega) (by omega)]
          go_ret2
          exact ⟨by (rw [hE.1, hE.2]); first | done | rfl, by (repeat' (first | (with_reducible exact Below.refl _ _) | (with_reducible assumption) | (with_reducible refine Below.alloc ?_ ?_ _) | (with_reducible refine Below.setCell ?_ ?_ _) | (with_reducible refine Below.drew ?_) | (with_reducible refine below_drewN ?_ _) | (with_reducible refine below_via ?_ (by with_reducible assumption) ?_) | omega | (simp; done) | (simp; omega)))⟩
      · go_wp2_with fail
        go_roundw
        case rel => exact ⟨Q - 1, R + a, by go_num, by go_num, by (repeat' (first | (with_reducible exact Below.refl _ _) | (with_reducible assumption) | (with_reducible refine Below.alloc ?_ ?_ _) | (with_reducible refine Below.setCell ?_ ?_ _) | (with_reducible refine Below.drew ?_) | (with_reducible refine below_drewN ?_ _) | (with_reducible refine below_via ?_ (by with_reducible assumption) ?_) | omega | (simp; done) | (simp; omega))), StF.out.1, by omega⟩
        case measure => simp [intOf]; omega
    by_cases fF : 4294967296 * R + v1 < Q * b
    · have askF := Lib.hid (show dAsk v1 b Q R = true from by unfold dAsk; simp [fF])
      have StF := Lib.hid (IF.out.step FI.out askF.out)
      have p1F := StF.out.2
      have g2F : decide (4294967296 ≤ Q) = false := by simpa using gF
      have f3F : decide (4294967296 * R + v1 < Q * b) = true := by simpa using fF
      by_cases oF : 4294967296 ≤ R + a
      · have XF := Lib.hid (DInv.over FI.out StF.out.1 (by omega) oF)
        clear askF IF StF
        go_wp2_with fail
        have R1 := DIn.quo FI.out XF.out
        rw [sub_mod (x := U) (y := v1) (z := (Q - 1) * (a * 4294967296 + b)) R1.2.2.1 (by omega)]
        obtain ⟨q1, hq1⟩ : ∃ q1, q1 = (Q - 1) := ⟨_, rfl⟩
        rw [← hq1] at R1 ⊢
        have FX := Lib.hid (show q1 = (U * 4294967296 + v1) / (a * 4294967296 + b) from by rw [hq1]; exact XF.out)
        clear XF hq1
        obtain ⟨V, hV⟩ : ∃ V, V = U * 4294967296 + v1 - q1 * (a * 4294967296 + b) := ⟨_, rfl⟩
        rw [← hV] at R1 ⊢
        have hsi : DIn V v0 a b := ⟨by omega, by omega, by omega, by omega, by omega, by omega, by omega, by omega⟩
        have SI := Lib.hid hsi
        have gs := guess (U := V) (a := a) (by omega) (by omega) (by omega)
        rw [gs.1, gs.2]
        have SS := Lib.hid (DInv.start hsi)
        have endOf : ∀ q0, q0 = (V * 4294967296 + v0) / (a * 4294967296 + b) → q1 * 4294967296 + q0 = (hi * 18446744073709551616 + lo) / y ∧ (V * 4294967296 + v0 - q0 * (a * 4294967296 + b)) / 2 ^ s = (hi * 18446744073709551616 + lo) % y := (by
          intro q0 h0
          rw [hV] at h0 ⊢
          exact div_end HP.out HDY.out HN.out h0 (by omega))
        have HEND := Lib.hid endOf
        clear hsi gs hV endOf
        go_loopw [16, 18] (fun r q wr => ∃ Q R, q = .int .u64 Q ∧ r = .int .u64 R ∧ Below w1.heap.size w1 wr ∧ DInv V v0 a b Q R ∧ R < 4294967296) (fun r q _ => (intOf q).toNat)
        case atStart => exact ⟨_, _, rfl, rfl, by (repeat' (first | (with_reducible exact Below.refl _ _) | (with_reducible assumption) | (with_reducible refine Below.alloc ?_ ?_ _) | (with_reducible refine Below.setCell ?_ ?_ _) | (with_reducible refine Below.drew ?_) | (with_reducible refine below_drewN ?_ _) | (with_reducible refine below_via ?_ (by with_reducible assumption) ?_) | omega | (simp; done) | (simp; omega))), SS.out.1, by have h1 := SS.out.2; omega⟩
        case round =>
          obtain ⟨Q, R, rfl, rfl, hblS, hiS, hrS⟩ := hrel
          have IS := Lib.hid hiS
          have mS := hiS.mul_le SI.out
          have n1S := hiS.r0
          have n2S := hiS.q0
          have n3S := hiS.qB
          clear hiS
          by_cases gS : 4294967296 ≤ Q
          · have askS := Lib.hid (show dAsk v0 b Q R = true from by unfold dAsk; simp [gS])
            have StS := Lib.hid (IS.out.step SI.out askS.out)
            have p1S := StS.out.2
            have g3S : decide (4294967296 ≤ Q) = true := by simpa using gS
            by_cases oS : 4294967296 ≤ R + a
            · have XS := Lib.hid (DInv.over SI.out StS.out.1 (by omega) oS)
              clear askS IS StS
              go_wp2_with fail
              have R2 := DIn.quo SI.out XS.out
              have hE := HEND.out (Q - 1) XS.out
              rw [sub_mod (x := V) (y := v0) (z := (Q - 1) * (a * 4294967296 + b)) R2.2.2.1 (by omega)]
              try rw [u64_wrap (x := q1 * 4294967296 + (Q - 1)) (by omega) (by omega)]
              go_ret2
              exact ⟨by (rw [hE.1, hE.2]); first | done | rfl, by (repeat' (first | (with_reducible exact Below.refl _ _) | (with_reducible assumption) | (with_reducible refine Below.alloc ?_ ?_ _) | (with_reducible refine Below.setCell ?_ ?_ _) | (with_reducible refine Below.drew ?_) | (with_reducible refine below_drewN ?_ _) | (with_reducible refine below_via ?_ (by with_reducible assumption) ?_) | omega | (simp; done) | (simp; omega)))⟩
            · go_wp2_with fail
              go_roundw
              case rel => exact ⟨Q - 1, R + a, by go_num, by go_num, by (repeat' (first | (with_reducible exact Below.refl _ _) | (with_reducible assumption) | (with_reducible refine Below.alloc ?_ ?_ _) | (with_reducible refine Below.setCell ?_ ?_ _) | (with_reducible refine Below.drew ?_) | (with_reducible refine below_drewN ?_ _) | (with_reducible refine below_via ?_ (by with_reducible assumption) ?_) | omega | (simp; done) | (simp; omega))), StS.out.1, by omega⟩
              case measure => simp [intOf]; omega
          by_cases fS : 4294967296 * R + v0 < Q * b
          · have askS := Lib.hid (show dAsk v0 b Q R = true from by unfold dAsk; simp [fS])
            have StS := Lib.hid (IS.out.step SI.out askS.out)
            have p1S := StS.out.2
            have g2S : decide (4294967296 ≤ Q) = false := by simpa using gS
            have f3S : decide (4294967296 * R + v0 < Q * b) = true := by simpa using fS
            by_cases oS : 4294967296 ≤ R + a
            · have XS := Lib.hid (DInv.over SI.out StS.out.1 (by omega) oS)
              clear askS IS StS
              go_wp2_with fail
              have R2 := DIn.quo SI.out XS.out
              have hE := HEND.out (Q - 1) XS.out
              rw [sub_mod (x := V) (y := v0) (z := (Q - 1) * (a * 4294967296 + b)) R2.2.2.1 (by omega)]
              try rw [u64_wrap (x := q1 * 4294967296 + (Q - 1)) (by omega) (by omega)]
              go_ret2
              exact ⟨by (rw [hE.1, hE.2]); first | done | rfl, by (repeat' (first | (with_reducible exact Below.refl _ _) | (with_reducible assumption) | (with_reducible refine Below.alloc ?_ ?_ _) | (with_reducible refine Below.setCell ?_ ?_ _) | (with_reducible refine Below.drew ?_) | (with_reducible refine below_drewN ?_ _) | (with_reducible refine below_via ?_ (by with_reducible assumption) ?_) | omega | (simp; done) | (simp; omega)))⟩
            · go_wp2_with fail
              go_roundw
              case rel => exact ⟨Q - 1, R + a, by go_num, by go_num, by (repeat' (first | (with_reducible exact Below.refl _ _) | (with_reducible assumption) | (with_reducible refine Below.alloc ?_ ?_ _) | (with_reducible refine Below.setCell ?_ ?_ _) | (with_reducible refine Below.drew ?_) | (with_reducible refine below_drewN ?_ _) | (with_reducible refine below_via ?_ (by with_reducible assumption) ?_) | omega | (simp; done) | (simp; omega))), StS.out.1, by omega⟩
              case measure => simp [intOf]; omega
          have g2S : decide (4294967296 ≤ Q) = false := by simpa using gS
          have f2S : decide (4294967296 * R + v0 < Q * b) = false := by simpa using fS
          have XS := Lib.hid (DInv.stop SI.out IS.out (show dAsk v0 b Q R = false from by unfold dAsk; simp [gS]; omega))
          clear IS
          go_wp2_with fail
          have R2 := DIn.quo SI.out XS.out
          have hE := HEND.out Q XS.out
          rw [sub_mod (x := V) (y := v0) (z := Q * (a * 4294967296 + b)) R2.2.2.1 (by omega)]
          try rw [u64_wrap (x := q1 * 4294967296 + Q) (by omega) (by omega)]
          go_ret2
          exact ⟨by (rw [hE.1, hE.2]); first | done | rfl, by (repeat' (first | (with_reducible exact Below.refl _ _) | (with_reducible assumption) | (with_reducible refine Below.alloc ?_ ?_ _) | (with_reducible refine Below.setCell ?_ ?_ _) | (with_reducible refine Below.drew ?_) | (with_reducible refine below_drewN ?_ _) | (with_reducible refine below_via ?_ (by with_reducible assumption) ?_) | omega | (simp; done) | (simp; omega)))⟩
      · go_wp2_with fail
        go_roundw
        case rel => exact ⟨Q - 1, R + a, by go_num, by go_num, by (repeat' (first | (with_reducible exact Below.refl _ _) | (with_reducible assumption) | (with_reducible refine Below.alloc ?_ ?_ _) | (with_reducible refine Below.setCell ?_ ?_ _) | (with_reducible refine Below.drew ?_) | (with_reducible refine below_drewN ?_ _) | (with_reducible refine below_via ?_ (by with_reducible assumption) ?_) | omega | (simp; done) | (simp; omega))), StF.out.1, by omega⟩
        case measure => simp [intOf]; omega
    have g2F : decide (4294967296 ≤ Q) = false := by simpa using gF
    have f2F : decide (4294967296 * R + v1 < Q * b) = false := by simpa using fF
    have XF := Lib.hid (DInv.stop FI.out IF.out (show dAsk v1 b Q R = false from by unfold dAsk; simp [gF]; omega))
    clear IF
    go_wp2_with fail
    have R1 := DIn.quo FI.out XF.out
    rw [sub_mod (x := U) (y := v1) (z := Q * (a * 4294967296 + b)) R1.2.2.1 (by omega)]
    obtain ⟨q1, hq1⟩ : ∃ q1, q1 = Q := ⟨_, rfl⟩
    rw [← hq1] at R1 ⊢
    have FX := Lib.hid (show q1 = (U * 4294967296 + v1) / (a * 4294967296 + b) from by rw [hq1]; exact XF.out)
    clear XF hq1
    obtain ⟨V, hV⟩ : ∃ V, V = U * 4294967296 + v1 - q1 * (a * 4294967296 + b) := ⟨_, rfl⟩
    rw [← hV] at R1 ⊢
    have hsi : DIn V v0 a b := ⟨by omega, by omega, by omega, by omega, by omega, by omega, by omega, by omega⟩
    have SI := Lib.hid hsi
    have gs := guess (U := V) (a := a) (by omega) (by omega) (by omega)
    rw [gs.1, gs.2]
    have SS := Lib.hid (DInv.start hsi)
    have endOf : ∀ q0, q0 = (V * 4294967296 + v0) / (a * 4294967296 + b) → q1 * 4294967296 + q0 = (hi * 18446744073709551616 + lo) / y ∧ (V * 4294967296 + v0 - q0 * (a * 4294967296 + b)) / 2 ^ s = (hi * 18446744073709551616 + lo) % y := (by
      intro q0 h0
      rw [hV] at h0 ⊢
      exact div_end HP.out HDY.out HN.out h0 (by omega))
    have HEND := Lib.hid endOf
    clear hsi gs hV endOf
    go_loopw [16, 18] (fun r q wr => ∃ Q R, q = .int .u64 Q ∧ r = .int .u64 R ∧ Below w1.heap.size w1 wr ∧ DInv V v0 a b Q R ∧ R < 4294967296) (fun r q _ => (intOf q).toNat)
    case atStart => exact ⟨_, _, rfl, rfl, by (repeat' (first | (with_reducible exact Below.refl _ _) | (with_reducible assumption) | (with_reducible refine Below.alloc ?_ ?_ _) | (with_reducible refine Below.setCell ?_ ?_ _) | (with_reducible refine Below.drew ?_) | (with_reducible refine below_drewN ?_ _) | (with_reducible refine below_via ?_ (by with_reducible assumption) ?_) | omega | (simp; done) | (simp; omega))), SS.out.1, by have h1 := SS.out.2; omega⟩
    case round =>
      obtain ⟨Q, R, rfl, rfl, hblS, hiS, hrS⟩ := hrel
      have IS := Lib.hid hiS
      have mS := hiS.mul_le SI.out
      have n1S := hiS.r0
      have n2S := hiS.q0
      have n3S := hiS.qB
      clear hiS
      by_cases gS : 4294967296 ≤ Q
      · have askS := Lib.hid (show dAsk v0 b Q R = true from by unfold dAsk; simp [gS])
        have StS := Lib.hid (IS.out.step SI.out askS.out)
        have p1S := StS.out.2
        have g3S : decide (4294967296 ≤ Q) = true := by simpa using gS
        by_cases oS : 4294967296 ≤ R + a
        · have XS := Lib.hid (DInv.over SI.out StS.out.1 (by omega) oS)
          clear askS IS StS
          go_wp2_with fail
          have R2 := DIn.quo SI.out XS.out
          have hE := HEND.out (Q - 1) XS.out
          rw [sub_mod (x := V) (y := v0) (z := (Q - 1) * (a * 4294967296 + b)) R2.2.2.1 (by omega)]
          try rw [u64_wrap (x := q1 * 4294967296 + (Q - 1)) (by omega) (by omega)]
          go_ret2
          exact ⟨by (rw [hE.1, hE.2]); first | done | rfl, by (repeat' (first | (with_reducible exact Below.refl _ _) | (with_reducible assumption) | (with_reducible refine Below.alloc ?_ ?_ _) | (with_reducible refine Below.setCell ?_ ?_ _) | (with_reducible refine Below.drew ?_) | (with_reducible refine below_drewN ?_ _) | (with_reducible refine below_via ?_ (by with_reducible assumption) ?_) | omega | (simp; done) | (simp; omega)))⟩
        · go_wp2_with fail
          go_roundw
          case rel => exact ⟨Q - 1, R + a, by go_num, by go_num, by (repeat' (first | (with_reducible exact Below.refl _ _) | (with_reducible assumption) | (with_reducible refine Below.alloc ?_ ?_ _) | (with_reducible refine Below.setCell ?_ ?_ _) | (with_reducible refine Below.drew ?_) | (with_reducible refine below_drewN ?_ _) | (with_reducible refine below_via ?_ (by with_reducible assumption) ?_) | omega | (simp; done) | (simp; omega))), StS.out.1, by omega⟩
          case measure => simp [intOf]; omega
      by_cases fS : 4294967296 * R + v0 < Q * b
      · have askS := Lib.hid (show dAsk v0 b Q R = true from by unfold dAsk; simp [fS])
        have StS := Lib.hid (IS.out.step SI.out askS.out)
        have p1S := StS.out.2
        have g2S : decide (4294967296 ≤ Q) = false := by simpa using gS
        have f3S : decide (4294967296 * R + v0 < Q * b) = true := by simpa using fS
        by_cases oS : 4294967296 ≤ R + a
        · have XS := Lib.hid (DInv.over SI.out StS.out.1 (by omega) oS)
          clear askS IS StS
          go_wp2_with fail
          have R2 := DIn.quo SI.out XS.out
          have hE := HEND.out (Q - 1) XS.out
          rw [sub_mod (x := V) (y := v0) (z := (Q - 1) * (a * 4294967296 + b)) R2.2.2.1 (by omega)]
          try rw [u64_wrap (x := q1 * 4294967296 + (Q - 1)) (by omega) (by omega)]
          go_ret2
          exact ⟨by (rw [hE.1, hE.2]); first | done | rfl, by (repeat' (first | (with_reducible exact Below.refl _ _) | (with_reducible assumption) | (with_reducible refine Below.alloc ?_ ?_ _) | (with_reducible refine Below.setCell ?_ ?_ _) | (with_reducible refine Below.drew ?_) | (with_reducible refine below_drewN ?_ _) | (with_reducible refine below_via ?_ (by with_reducible assumption) ?_) | omega | (simp; done) | (simp; omega)))⟩
        · go_wp2_with fail
          go_roundw
          case rel => exact ⟨Q - 1, R + a, by go_num, by go_num, by (repeat' (first | (with_reducible exact Below.refl _ _) | (with_reducible assumption) | (with_reducible refine Below.alloc ?_ ?_ _) | (with_reducible refine Below.setCell ?_ ?_ _) | (with_reducible refine Below.drew ?_) | (with_reducible refine below_drewN ?_ _) | (with_reducible refine below_via ?_ (by with_reducible assumption) ?_) | omega | (simp; done) | (simp; omega))), StS.out.1, by omega⟩
          case measure => simp [intOf]; omega
      have g2S : decide (4294967296 ≤ Q) = false := by simpa using gS
      have f2S : decide (4294967296 * R + v0 < Q * b) = false := by simpa using fS
      have XS := Lib.hid (DInv.stop SI.out IS.out (show dAsk v0 b Q R = false from by unfold dAsk; simp [gS]; omega))
      clear IS
      go_wp2_with fail
      have R2 := DIn.quo SI.out XS.out
      have hE := HEND.out Q XS.out
      rw [sub_mod (x := V) (y := v0) (z := Q * (a * 4294967296 + b)) R2.2.2.1 (by omega)]
      try rw [u64_wrap (x := q1 * 4294967296 + Q) (by omega) (by omega)]
      go_ret2
      exact ⟨by (rw [hE.1, hE.2]); first | done | rfl, by (repeat' (first | (with_reducible exact Below.refl _ _) | (with_reducible assumption) | (with_reducible refine Below.alloc ?_ ?_ _) | (with_reducible refine Below.setCell ?_ ?_ _) | (with_reducible refine Below.drew ?_) | (with_reducible refine below_drewN ?_ _) | (with_reducible refine below_via ?_ (by with_reducible assumption) ?_) | omega | (simp; done) | (simp; omega)))⟩
theorem div64 (hi lo y : Int) (w : World) (h0 : 0 ≤ hi) (hhi : hi < y) (hy : y ≤ 18446744073709551615) (l0 : 0 ≤ lo) (l1 : lo ≤ 18446744073709551615) :
    Calls Tryz.prog 109 #[.int .u64 hi, .int .u64 lo, .int .u64 y] w fun e w' => e = .returned (.tuple #[.int .u64 ((hi * 18446744073709551616 + lo) / y), .int .u64 ((hi * 18446744073709551616 + lo) % y)]) ∧ Below w.heap.size w w' := by
  rcases (show hi = 0 ∨ 0 < hi by omega) with h | h
  · subst h
    rw [show (0 : Int) * 18446744073709551616 + lo = lo by omega]
    exact div64Low lo y w hhi hy l0 l1
  · exact div64High hi lo y w h hhi hy l0 l1
end Go.Proofs.YtalgfpegaobacaaGreat

/- The contract of wide.Div. -/
namespace Go.Proofs.YtalgfpegaobacaaGreat
open Go.RowKit
theorem long_div {m d : Int} (hm : 0 ≤ m) (hd : 0 < d) : whi m / d = whi (m / d) ∧ (whi m % d * 18446744073709551616 + wlo m) / d = wlo (m / d) ∧ (whi m % d * 18446744073709551616 + wlo m) % d = m % d := by
  have e0 := whi_wlo m
  have h1 : 0 ≤ whi m := by unfold whi; omega
  have h2 := wlo_u m
  generalize whi m = h at *
  generalize wlo m = l at *
  have e1 := Int.mul_ediv_add_emod h d
  have e2 := Int.emod_nonneg h (show d ≠ 0 by omega)
  have e3 := Int.emod_lt_of_pos h hd
  obtain ⟨p, hp⟩ : ∃ p, p = h / d := ⟨_, rfl⟩
  obtain ⟨r, hr⟩ : ∃ r, r = h % d := ⟨_, rfl⟩
  rw [← hp, ← hr] at e1
  rw [← hr] at e2 e3
  rw [← hp, ← hr]
  have e4 : m = r * 18446744073709551616 + l + p * 18446744073709551616 * d := by
    rw [← e0, ← e1, Int.add_mul, Int.mul_right_comm p, Int.mul_comm d p]; omega
  have e5 : 0 ≤ (r * 18446744073709551616 + l) / d := Int.ediv_nonneg (by omega) (by omega)
  have e6 : (r * 18446744073709551616 + l) / d < 18446744073709551616 := Int.ediv_lt_of_lt_mul hd (by omega)
  rw [e4, Int.add_mul_ediv_right _ _ (by omega), Int.add_mul_emod_self_right]
  unfold whi wlo
  omega
theorem floor_neg0 {n d m : Int} (hm : m = - n) (hd : 0 < d) (h : m % d = 0) : n / d = - (m / d) ∧ n % d = 0 := by
  have e := Int.mul_ediv_add_emod m d
  rw [h, Int.mul_comm] at e
  have h1 : n / d = - (m / d) := div_is (by rw [Int.neg_mul]; omega) (by rw [Int.add_mul, Int.neg_mul]; omega) hd
  refine ⟨h1, ?_⟩
  rw [Int.emod_def, h1, Int.mul_comm, Int.neg_mul]; omega
theorem floor_neg1 {n d m : Int} (hm : m = - n) (hd : 0 < d) (h : 0 < m % d) : n / d = - (m / d + 1) ∧ n % d = d - m % d := by
  have e := Int.mul_ediv_add_emod m d
  have e3 := Int.emod_lt_of_pos m hd
  rw [Int.mul_comm] at e
  have h1 : n / d = - (m / d + 1) := div_is (by rw [Int.neg_mul, Int.add_mul]; omega) (by rw [show - (m / d + 1) + 1 = - (m / d) by omega, Int.neg_mul]; omega) hd
  refine ⟨h1, ?_⟩
  rw [Int.emod_def, h1, Int.mul_comm, Int.neg_mul, Int.add_mul]; omega
set_option maxRecDepth 100000 in
set_option maxHeartbeats 4000000 in
theorem wideDivPos (n m d : Int) (w : World) (hn : In128 n) (hd : 0 < d) (hd1 : d ≤ 9223372036854775807) (hm : m = iabs n) (hsg : decide (n < 0) = false) (hm0 : 0 ≤ m) (hm1 : m ≤ 170141183460469231731687303715884105728) :
    Calls Tryz.prog 95 #[(.agg #[.int .i64 (whi (n)), .int .u64 (wlo (n))]), .int .i64 d] w fun e w' => e = .returned (.tuple #[(.agg #[.int .i64 (whi (m / d)), .int .u64 (wlo (m / d))]), .int .i64 (m % d), .int .i64 0]) ∧ Below w.heap.size w w' := by
  have hq := Int.ediv_le_self d hm0
  have hq0 : 0 ≤ m / d := Int.ediv_nonneg hm0 (by omega)
  have hi : In128 (m / d) := by unfold In128 at *; unfold iabs at hm; rw [if_neg (by simpa using hsg)] at hm; omega
  have c4 := fun W => wideSigned false (m / d) W (by omega) (by omega)
  rw [show wrap128 (sgn false (m / d)) = m / d from by rw [show sgn false (m / d) = m / d from rfl, wrap128_in hi]] at c4
  have C4 := Lib.hid c4
  have h2 := whi_i hn
  have L := long_div (m := m) (d := d) (by omega) hd
  have L1 := Lib.hid L.1
  have L2 := Lib.hid L.2.1
  have L3 := Lib.hid L.2.2
  have c1 := fun W => wideSize n W hn
  have c2 := fun W => wideBelow n W hn
  rw [← hm] at c1
  rw [hsg] at c2
  have C1 := Lib.hid c1
  have C2 := Lib.hid c2
  have hw := wlo_u m
  have hh : 0 ≤ whi m ∧ whi m ≤ 9223372036854775808 := (by unfold whi; omega)
  have hr0 := Int.emod_nonneg (whi m) (show d ≠ 0 by omega)
  have hr1 := Int.emod_lt_of_pos (whi m) hd
  have hR0 := Int.emod_nonneg m (show d ≠ 0 by omega)
  have hR1 := Int.emod_lt_of_pos m hd
  have d0 : (d == 0) = false := (by simp; omega)
  have d1 : ¬ d = 0 := (by omega)
  have d2 : decide (d < 0) = false := (by simp; omega)
  clear c1 c2 L hm
  clear c4 hsg
  go_enter Tryz.func95, Tryz.ntmps95
  go_wp2_with (go_at_call 108; (with_reducible refine (C1.out _).mono ?_); rintro e w1 ⟨rfl, hb1⟩; obtain ⟨fc1, fg1, hc1, hf1, hz1⟩ := bget hb1; (try simp at hz1))
  go_quiet (fail)
  go_wp2_with (first | (go_at_call 109; (with_reducible refine (div64 (whi m % d) (wlo m) d _ hr0 hr1 (by omega) hw.1 hw.2).mono ?_); rintro e w2 ⟨rfl, hb2⟩; rw [L1.out, L2.out, L3.out]; obtain ⟨fc2, fg2, hc2, hf2, hz2⟩ := bget hb2; (try simp at hz2)) | (go_at_call 110; (with_reducible refine (C2.out _).mono ?_); rintro e w3 ⟨rfl, hb3⟩; obtain ⟨fc3, fg3, hc3, hf3, hz3⟩ := bget hb3; (try simp at hz3)))
  go_region_held3 (fun w' => w'.cell? ⟨w.heap.size, 0, none⟩ = some (.int .i64 (whi n)) ∧ w'.cell? ⟨w.heap.size, 1, none⟩ = some (.int .u64 (wlo n)) ∧ w'.cell? ⟨w2.heap.size, 0, none⟩ = some (.int .u64 (whi (m / d))) ∧ w'.cell? ⟨w2.heap.size, 1, none⟩ = some (.int .u64 (wlo (m / d)))) (first | (simp [hc1, hc2, hc3, go_sem, ↓IntWalk.iteOmega]; done) | (simp [hc1, hc2, hc3, hc5, go_sem, ↓IntWalk.iteOmega]; done) | (simp [hc1, hc2, hc3, hc5, hc6, go_sem, ↓IntWalk.iteOmega]; done) | (first | (simp [go_sem]; done) | (repeat' (first | (with_reducible assumption) | (with_reducible refine And.intro ?_ ?_) | (with_reducible refine cell_drew ?_) | (with_reducible refine cell_via (by with_reducible assumption) ?_ ?_) | (simp [*]; done) | (simp [go_sem]; done) | (with_reducible refine cell_alloc ?_ ?_) | (with_reducible refine cell_set_far ?_ ?_) | omega | (simp; omega))))) (first | (go_at_call 110; (with_reducible refine (C2.out _).mono ?_); rintro e w5 ⟨rfl, hb5⟩; obtain ⟨fc5, fg5, hc5, hf5, hz5⟩ := bget hb5; (try simp at hz5)) | (go_at_call 111; (with_reducible refine (C4.out _).mono ?_); rintro e w6 ⟨rfl, hb6⟩; obtain ⟨fc6, fg6, hc6, hf6, hz6⟩ := bget hb6; (try simp at hz6)))
  go_wp2
  all_goals
    refine bodyPost_ret (by simp [results, Tryz.results95, go_sem, ↓IntWalk.iteOmega, hc1, hc2, hc3, hc5, hc6]; try rfl) rfl ⟨rfl, ?_⟩
    (repeat' (first | (with_reducible exact Below.refl _ _) | (with_reducible assumption) | (with_reducible refine Below.alloc ?_ ?_ _) | (with_reducible refine Below.setCell ?_ ?_ _) | (with_reducible refine Below.drew ?_) | (with_reducible refine below_drewN ?_ _) | (with_reducible refine below_via ?_ (by with_reducible assumption) ?_) | omega | (simp; done) | (simp; omega)))
set_option maxRecDepth 100000 in
set_option maxHeartbeats 4000000 in
theorem wideDivNeg0 (n m d : Int) (w : World) (hn : In128 n) (hd : 0 < d) (hd1 : d ≤ 9223372036854775807) (hm : m = iabs n) (hsg : decide (n < 0) = true) (hm0 : 0 ≤ m) (hm1 : m ≤ 170141183460469231731687303715884105728) (hr : m % d = 0) :
    Calls Tryz.prog 95 #[(.agg #[.int .i64 (whi (n)), .int .u64 (wlo (n))]), .int .i64 d] w fun e w' => e = .returned (.tuple #[(.agg #[.int .i64 (whi (- (m / d))), .int .u64 (wlo (- (m / d)))]), .int .i64 (0), .int .i64 0]) ∧ Below w.heap.size w w' := by
  have hq := Int.ediv_le_self d hm0
  have hq0 : 0 ≤ m / d := Int.ediv_nonneg hm0 (by omega)
  have hi : In128 (- (m / d)) := by unfold In128; omega
  have c4 := fun W => wideSigned true (m / d) W (by omega) (by omega)
  rw [show wrap128 (sgn true (m / d)) = - (m / d) from by rw [show sgn true (m / d) = - (m / d) from rfl, wrap128_in hi]] at c4
  have C4 := Lib.hid c4
  have h2 := whi_i hn
  have L := long_div (m := m) (d := d) (by omega) hd
  have L1 := Lib.hid L.1
  have L2 := Lib.hid L.2.1
  have L3 := Lib.hid L.2.2
  have c1 := fun W => wideSize n W hn
  have c2 := fun W => wideBelow n W hn
  rw [← hm] at c1
  rw [hsg] at c2
  have C1 := Lib.hid c1
  have C2 := Lib.hid c2
  have hw := wlo_u m
  have hh : 0 ≤ whi m ∧ whi m ≤ 9223372036854775808 := (by unfold whi; omega)
  have hr0 := Int.emod_nonneg (whi m) (show d ≠ 0 by omega)
  have hr1 := Int.emod_lt_of_pos (whi m) hd
  have hR0 := Int.emod_nonneg m (show d ≠ 0 by omega)
  have hR1 := Int.emod_lt_of_pos m hd
  have d0 : (d == 0) = false := (by simp; omega)
  have d1 : ¬ d = 0 := (by omega)
  have d2 : decide (d < 0) = false := (by simp; omega)
  clear c1 c2 L hm
  rw [hr] at L3
  clear c4 hsg hR0 hR1 hr
  go_enter Tryz.func95, Tryz.ntmps95
  go_wp2_with (go_at_call 108; (with_reducible refine (C1.out _).mono ?_); rintro e w1 ⟨rfl, hb1⟩; obtain ⟨fc1, fg1, hc1, hf1, hz1⟩ := bget hb1; (try simp at hz1))
  go_quiet (fail)
  go_wp2_with (first | (go_at_call 109; (with_reducible refine (div64 (whi m % d) (wlo m) d _ hr0 hr1 (by omega) hw.1 hw.2).mono ?_); rintro e w2 ⟨rfl, hb2⟩; rw [L1.out, L2.out, L3.out]; obtain ⟨fc2, fg2, hc2, hf2, hz2⟩ := bget hb2; (try simp at hz2)) | (go_at_call 110; (with_reducible refine (C2.out _).mono ?_); rintro e w3 ⟨rfl, hb3⟩; obtain ⟨fc3, fg3, hc3, hf3, hz3⟩ := bget hb3; (try simp at hz3)))
  go_region_held3 (fun w' => w'.cell? ⟨w.heap.size, 0, none⟩ = some (.int .i64 (whi n)) ∧ w'.cell? ⟨w.heap.size, 1, none⟩ = some (.int .u64 (wlo n)) ∧ w'.cell? ⟨w2.heap.size, 0, none⟩ = some (.int .u64 (whi (m / d))) ∧ w'.cell? ⟨w2.heap.size, 1, none⟩ = some (.int .u64 (wlo (m / d)))) (first | (simp [hc1, hc2, hc3, go_sem, ↓IntWalk.iteOmega]; done) | (simp [hc1, hc2, hc3, hc5, go_sem, ↓IntWalk.iteOmega]; done) | (simp [hc1, hc2, hc3, hc5, hc6, go_sem, ↓IntWalk.iteOmega]; done) | (first | (simp [go_sem]; done) | (repeat' (first | (with_reducible assumption) | (with_reducible refine And.intro ?_ ?_) | (with_reducible refine cell_drew ?_) | (with_reducible refine cell_via (by with_reducible assumption) ?_ ?_) | (simp [*]; done) | (simp [go_sem]; done) | (with_reducible refine cell_alloc ?_ ?_) | (with_reducible refine cell_set_far ?_ ?_) | omega | (simp; omega))))) (first | (go_at_call 110; (with_reducible refine (C2.out _).mono ?_); rintro e w5 ⟨rfl, hb5⟩; obtain ⟨fc5, fg5, hc5, hf5, hz5⟩ := bget hb5; (try simp at hz5)) | (go_at_call 111; (with_reducible refine (C4.out _).mono ?_); rintro e w6 ⟨rfl, hb6⟩; obtain ⟨fc6, fg6, hc6, hf6, hz6⟩ := bget hb6; (try simp at hz6)))
  go_wp2
  all_goals
    refine bodyPost_ret (by simp [results, Tryz.results95, go_sem, ↓IntWalk.iteOmega, hc1, hc2, hc3, hc5, hc6]; try rfl) rfl ⟨rfl, ?_⟩
    (repeat' (first | (with_reducible exact Below.refl _ _) | (with_reducible assumption) | (with_reducible refine Below.alloc ?_ ?_ _) | (with_reducible refine Below.setCell ?_ ?_ _) | (with_reducible refine Below.drew ?_) | (with_reducible refine below_drewN ?_ _) | (with_reducible refine below_via ?_ (by with_reducible assumption) ?_) | omega | (simp; done) | (simp; omega)))
set_option maxRecDepth 100000 in
set_option maxHeartbeats 4000000 in
theorem wideDivNeg1 (n m d : Int) (w : World) (hn : In128 n) (hd : 0 < d) (hd1 : d ≤ 9223372036854775807) (hm : m = iabs n) (hsg : decide (n < 0) = true) (hm0 : 0 ≤ m) (hm1 : m ≤ 170141183460469231731687303715884105728) (hr : 0 < m % d) :
    Calls Tryz.prog 95 #[(.agg #[.int .i64 (whi (n)), .int .u64 (wlo (n))]), .int .i64 d] w fun e w' => e = .returned (.tuple #[(.agg #[.int .i64 (whi (- (m / d + 1))), .int .u64 (wlo (- (m / d + 1)))]), .int .i64 (d - m % d), .int .i64 0]) ∧ Below w.heap.size w w' := by
  have hq := Int.ediv_le_self d hm0
  have hq0 : 0 ≤ m / d := Int.ediv_nonneg hm0 (by omega)
  have hq2 : m / d + 1 ≤ 170141183460469231731687303715884105728 := by
    have e := Int.mul_ediv_add_emod m d
    have e2 : 1 * (m / d) ≤ d * (m / d) := Int.mul_le_mul_of_nonneg_right (by omega) hq0
    omega
  have hi : In128 (- (m / d + 1)) := by unfold In128; omega
  have hu := wlo_u (m / d)
  have e1 := add64 (wlo (m / d)) 1 0 hu.1 (by omega) (by omega) (by omega)
  have g1 : wlo (wlo (m / d) + 1) = wlo (m / d + 1) := by unfold wlo; omega
  have g2 : whi (m / d) + whi (wlo (m / d) + 1) = whi (m / d + 1) := by unfold wlo whi; omega
  have g3 : 0 ≤ whi (m / d) ∧ whi (m / d) ≤ 9223372036854775808 := by unfold whi; omega
  have g4 : 0 ≤ whi (wlo (m / d) + 1) ∧ whi (wlo (m / d) + 1) ≤ 1 := by unfold whi; omega
  simp only [Int.add_zero] at e1
  rw [g1] at e1
  obtain ⟨c, hc⟩ : ∃ c, c = whi (wlo (m / d) + 1) := ⟨_, rfl⟩
  rw [← hc] at e1 g2 g4
  clear hc g1
  have c4 := fun W => wideSigned true (m / d + 1) W (by omega) (by omega)
  rw [show wrap128 (sgn true (m / d + 1)) = - (m / d + 1) from by rw [show sgn true (m / d + 1) = - (m / d + 1) from rfl, wrap128_in hi]] at c4
  have C4 := Lib.hid c4
  have h2 := whi_i hn
  have L := long_div (m := m) (d := d) (by omega) hd
  have L1 := Lib.hid L.1
  have L2 := Lib.hid L.2.1
  have L3 := Lib.hid L.2.2
  have c1 := fun W => wideSize n W hn
  have c2 := fun W => wideBelow n W hn
  rw [← hm] at c1
  rw [hsg] at c2
  have C1 := Lib.hid c1
  have C2 := Lib.hid c2
  have hw := wlo_u m
  have hh : 0 ≤ whi m ∧ whi m ≤ 9223372036854775808 := (by unfold whi; omega)
  have hr0 := Int.emod_nonneg (whi m) (show d ≠ 0 by omega)
  have hr1 := Int.emod_lt_of_pos (whi m) hd
  have hR0 := Int.emod_nonneg m (show d ≠ 0 by omega)
  have hR1 := Int.emod_lt_of_pos m hd
  have d0 : (d == 0) = false := (by simp; omega)
  have d1 : ¬ d = 0 := (by omega)
  have d2 : decide (d < 0) = false := (by simp; omega)
  clear c1 c2 L hm
  clear c4 hsg
  go_enter Tryz.func95, Tryz.ntmps95
  go_wp2_with (go_at_call 108; (with_reducible refine (C1.out _).mono ?_); rintro e w1 ⟨rfl, hb1⟩; obtain ⟨fc1, fg1, hc1, hf1, hz1⟩ := bget hb1; (try simp at hz1))
  go_quiet (fail)
  go_wp2_with (first | (go_at_call 109; (with_reducible refine (div64 (whi m % d) (wlo m) d _ hr0 hr1 (by omega) hw.1 hw.2).mono ?_); rintro e w2 ⟨rfl, hb2⟩; rw [L1.out, L2.out, L3.out]; obtain ⟨fc2, fg2, hc2, hf2, hz2⟩ := bget hb2; (try simp at hz2)) | (go_at_call 110; (with_reducible refine (C2.out _).mono ?_); rintro e w3 ⟨rfl, hb3⟩; obtain ⟨fc3, fg3, hc3, hf3, hz3⟩ := bget hb3; (try simp at hz3)))
  go_region_held3 (fun w' => w'.cell? ⟨w.heap.size, 0, none⟩ = some (.int .i64 (whi n)) ∧ w'.cell? ⟨w.heap.size, 1, none⟩ = some (.int .u64 (wlo n)) ∧ w'.cell? ⟨w2.heap.size, 0, none⟩ = some (.int .u64 (whi (m / d + 1))) ∧ w'.cell? ⟨w2.heap.size, 1, none⟩ = some (.int .u64 (wlo (m / d + 1)))) (first | (simp [hc1, hc2, hc3, go_sem, ↓IntWalk.iteOmega]; done) | (simp [hc1, hc2, hc3, hc5, go_sem, ↓IntWalk.iteOmega]; done) | (simp [hc1, hc2, hc3, hc5, hc6, go_sem, ↓IntWalk.iteOmega]; done) | (first | (simp [go_sem]; done) | (repeat' (first | (with_reducible assumption) | (with_reducible refine And.intro ?_ ?_) | (with_reducible refine cell_drew ?_) | (with_reducible refine cell_via (by with_reducible assumption) ?_ ?_) | (simp [*]; done) | (simp [go_sem]; done) | (with_reducible refine cell_alloc ?_ ?_) | (with_reducible refine cell_set_far ?_ ?_) | omega | (simp; omega))))) (first | (go_at_call 110; (with_reducible refine (C2.out _).mono ?_); rintro e w5 ⟨rfl, hb5⟩; obtain ⟨fc5, fg5, hc5, hf5, hz5⟩ := bget hb5; (try simp at hz5)) | (go_at_call 111; (with_reducible refine (C4.out _).mono ?_); rintro e w6 ⟨rfl, hb6⟩; obtain ⟨fc6, fg6, hc6, hf6, hz6⟩ := bget hb6; (try simp at hz6)))
  go_wp2
  all_goals
    refine bodyPost_ret (by simp [results, Tryz.results95, go_sem, ↓IntWalk.iteOmega, hc1, hc2, hc3, hc5, hc6]; try rfl) rfl ⟨rfl, ?_⟩
    (repeat' (first | (with_reducible exact Below.refl _ _) | (with_reducible assumption) | (with_reducible refine Below.alloc ?_ ?_ _) | (with_reducible refine Below.setCell ?_ ?_ _) | (with_reducible refine Below.drew ?_) | (with_reducible refine below_drewN ?_ _) | (with_reducible refine below_via ?_ (by with_reducible assumption) ?_) | omega | (simp; done) | (simp; omega)))
theorem wideDiv (n d : Int) (w : World) (hn : In128 n) (hd : 0 < d) (hd1 : d ≤ 9223372036854775807) :
    Calls Tryz.prog 95 #[(.agg #[.int .i64 (whi (n)), .int .u64 (wlo (n))]), .int .i64 d] w fun e w' => e = .returned (.tuple #[(.agg #[.int .i64 (whi (n / d)), .int .u64 (wlo (n / d))]), .int .i64 (n % d), .int .i64 0]) ∧ Below w.heap.size w w' := by
  have hm : 0 ≤ iabs n ∧ iabs n ≤ 170141183460469231731687303715884105728 := by unfold In128 at hn; unfold iabs; split <;> omega
  by_cases h : n < 0
  · have hs := iabs_neg h
    have e2 := Int.emod_nonneg (iabs n) (show d ≠ 0 by omega)
    rcases (show iabs n % d = 0 ∨ 0 < iabs n % d by omega) with hr | hr
    · have hf := floor_neg0 hs hd hr
      rw [hf.1, hf.2]
      exact wideDivNeg0 n (iabs n) d w hn hd hd1 rfl (by simpa using h) hm.1 hm.2 hr
    · have hf := floor_neg1 hs hd hr
      rw [hf.1, hf.2]
      exact wideDivNeg1 n (iabs n) d w hn hd hd1 rfl (by simpa using h) hm.1 hm.2 hr
  · have hs := iabs_pos (show 0 ≤ n by omega)
    have hp := wideDivPos n (iabs n) d w hn hd hd1 rfl (by simpa using h) hm.1 hm.2
    rw [hs] at hp
    exact hp
end Go.Proofs.YtalgfpegaobacaaGreat

/- Rows of bits, the lowest first: plain arithmetic. -/
namespace Go.Proofs.YtalgfpegaobacaaGreat
def val : List Int → Int
  | [] => 0
  | b :: l => b + 2 * val l
def Bit (l : List Int) : Prop := ∀ b ∈ l, 0 ≤ b ∧ b ≤ 1
/-- The last one is 1. -/
def Top (l : List Int) : Prop := ∀ b, l.getLast? = some b → b = 1
def pw (k : Nat) : Int := 2 ^ k
theorem pw_zero : pw 0 = 1 := rfl
theorem pw_succ (k : Nat) : pw (k + 1) = 2 * pw k := by unfold pw; rw [Int.pow_succ, Int.mul_comm]
theorem pw_pos (k : Nat) : 0 < pw k := Int.pow_pos (by omega)
theorem pw_le {j k : Nat} (h : j ≤ k) : pw j ≤ pw k := by
  induction k with
  | zero => have : j = 0 := by omega
            subst this; exact Int.le_refl _
  | succ k ih =>
    rcases Nat.lt_or_ge j (k + 1) with h1 | h1
    · have := ih (by omega); have := pw_pos k; rw [pw_succ]; omega
    · have : j = k + 1 := by omega
      subst this; exact Int.le_refl _
theorem val_nonneg : ∀ {l : List Int}, Bit l → 0 ≤ val l
  | [], _ => Int.le_refl _
  | b :: l, h => by
    have h1 := h b (by simp)
    have h2 := val_nonneg (l := l) (fun x hx => h x (by simp [hx]))
    simp only [val]; omega
theorem val_lt : ∀ {l : List Int}, Bit l → val l < pw l.length
  | [], _ => by simp [val, pw]
  | b :: l, h => by
    have h1 := h b (by simp)
    have h2 := val_lt (l := l) (fun x hx => h x (by simp [hx]))
    simp only [val, List.length_cons, pw_succ]; omega
theorem val_append : ∀ (a b : List Int), val (a ++ b) = val a + pw a.length * val b
  | [], b => by simp [val, pw]
  | x :: a, b => by
    have := val_append a b
    simp only [List.cons_append, val, this, List.length_cons, pw_succ]
    rw [Int.mul_assoc, Int.mul_add]; omega
theorem val_snoc (a : List Int) (x : Int) : val (a ++ [x]) = val a + pw a.length * x := by rw [val_append]; simp [val]
theorem bit_snoc {a : List Int} {x : Int} (h : Bit a) (h0 : 0 ≤ x) (h1 : x ≤ 1) : Bit (a ++ [x]) := by
  intro b hb
  rcases List.mem_append.1 hb with h2 | h2
  · exact h b h2
  · simp at h2; subst h2; exact ⟨h0, h1⟩
theorem bit_take {a : List Int} (h : Bit a) (k : Nat) : Bit (a.take k) := fun b hb => h b (List.mem_of_mem_take hb)
theorem bit_drop {a : List Int} (h : Bit a) (k : Nat) : Bit (a.drop k) := fun b hb => h b (List.mem_of_mem_drop hb)
theorem bit_get {a : List Int} (h : Bit a) (i : Nat) : 0 ≤ a.getD i 0 ∧ a.getD i 0 ≤ 1 := by
  rcases Nat.lt_or_ge i a.length with h1 | h1
  · rw [List.getD_eq_getElem?_getD, List.getElem?_eq_getElem h1]; exact h _ (List.getElem_mem h1)
  · rw [List.getD_eq_getElem?_getD, List.getElem?_eq_none h1]; simp
theorem take_succD (l : List Int) (i : Nat) : val (l.take (i + 1)) = val (l.take i) + pw i * l.getD i 0 := by
  rcases Nat.lt_or_ge i l.length with h1 | h1
  · rw [List.take_succ_eq_append_getElem h1, val_snoc, List.length_take, Nat.min_eq_left (by omega), List.getD_eq_getElem?_getD, List.getElem?_eq_getElem h1]; rfl
  · rw [List.take_of_length_le (by omega), List.take_of_length_le h1, List.getD_eq_getElem?_getD, List.getElem?_eq_none h1]; simp
theorem top_ge {l : List Int} (h : Bit l) (ht : Top l) {k : Nat} (hl : l.length = k + 1) : pw k ≤ val l := by
  have hne : l ≠ [] := by intro e; subst e; simp at hl
  have e := List.dropLast_concat_getLast hne
  have h1 := ht (l.getLast hne) (List.getLast?_eq_some_getLast hne)
  have h2 : val l = val l.dropLast + pw l.dropLast.length * l.getLast hne := by rw [← val_snoc, e]
  rw [List.length_dropLast, hl, h1] at h2
  have h3 : 0 ≤ val l.dropLast := val_nonneg (fun b hb => h b ((List.dropLast_subset _) hb))
  simp at h2
  omega
theorem top_of_ge {l : List Int} (h : Bit l) {k : Nat} (hl : l.length = k + 1) (hv : pw k ≤ val l) : Top l := by
  intro b hb
  have hne : l ≠ [] := by intro e; subst e; simp at hl
  have e := List.dropLast_concat_getLast hne
  rw [List.getLast?_eq_some_getLast hne] at hb
  injection hb with hb
  have h1 := h b (by rw [← hb]; exact List.getLast_mem hne)
  have h2 : val l = val l.dropLast + pw l.dropLast.length * b := by rw [← hb, ← val_snoc, e]
  have h3 := val_lt (l := l.dropLast) (fun b hb => h b ((List.dropLast_subset _) hb))
  rw [List.length_dropLast, hl] at h2 h3
  simp at h2 h3
  rcases (show b = 0 ∨ b = 1 from by omega) with h0 | h0
  · subst h0; simp at h2; omega
  · exact h0
theorem len_le {l : List Int} (h : Bit l) (ht : Top l) {k : Nat} (hv : val l < pw k) : l.length ≤ k := by
  rcases Nat.lt_or_ge k l.length with h1 | h1
  · obtain ⟨m, hm⟩ : ∃ m, l.length = m + 1 := ⟨l.length - 1, by omega⟩
    have h2 := top_ge h ht hm
    have h3 := pw_le (j := k) (k := m) (by omega)
    omega
  · exact h1
theorem top_nil : Top [] := fun b hb => by simp at hb
theorem bit_nil : Bit [] := fun b hb => by simp at hb
theorem top_pos {l : List Int} (h : Bit l) (ht : Top l) (hne : l ≠ []) : 0 < val l := by
  obtain ⟨m, hm⟩ : ∃ m, l.length = m + 1 := ⟨l.length - 1, by have := List.length_pos_iff.2 hne; omega⟩
  have := top_ge h ht hm; have := pw_pos m; omega
/-- Which of two without noughts on top is below: by length first. -/
theorem lt_of_len {a b : List Int} (ha : Bit a) (hb : Bit b) (tb : Top b) (h : a.length < b.length) : val a < val b := by
  obtain ⟨m, hm⟩ : ∃ m, b.length = m + 1 := ⟨b.length - 1, by omega⟩
  have h1 := top_ge hb tb hm
  have h2 := val_lt ha
  have h3 := pw_le (j := a.length) (k := m) (by omega)
  omega
theorem val_split (l : List Int) (i : Nat) (h : i ≤ l.length) : val l = val (l.take i) + pw i * val (l.drop i) := by
  have := val_append (l.take i) (l.drop i)
  rw [List.take_append_drop, List.length_take, Nat.min_eq_left h] at this
  exact this
/-- .. and, the lengths alike, by the highest bit that parts them. -/
theorem cmp_at {a b : List Int} (ha : Bit a) (hb : Bit b) (hl : a.length = b.length) {i : Nat} (hi : i < a.length) (hd : a.drop (i + 1) = b.drop (i + 1)) (h : a.getD i 0 < b.getD i 0) : val a < val b := by
  rw [val_split a (i + 1) (by omega), val_split b (i + 1) (by omega), hd, take_succD, take_succD]
  have h1 := val_lt (bit_take ha i)
  have h2 := val_nonneg (bit_take hb i)
  have h3 := bit_get ha i
  have h4 := bit_get hb i
  have e1 : a.getD i 0 = 0 := by omega
  have e2 : b.getD i 0 = 1 := by omega
  have h5 : (a.take i).length = i := by rw [List.length_take]; omega
  rw [h5] at h1
  rw [e1, e2]
  have := pw_pos i
  simp
  omega
theorem digit_step (P s : Int) : P * (s % 2) + 2 * P * (s / 2) = P * s := by
  have e : s % 2 + 2 * (s / 2) = s := by omega
  calc P * (s % 2) + 2 * P * (s / 2) = P * (s % 2 + 2 * (s / 2)) := by rw [Int.mul_add, Int.mul_comm 2 P, Int.mul_assoc]
    _ = P * s := by rw [e]
/-- One place of a sum. -/
theorem plus_step {l : List Int} {k : Nat} {q x y va vb va' vb' : Int} (hl : l.length = k) (hv : val l + pw k * q = va + vb) (ea : va' = va + pw k * x) (eb : vb' = vb + pw k * y) :
    val (l ++ [(q + x + y) % 2]) + pw (k + 1) * ((q + x + y) / 2) = va' + vb' := by
  rw [val_snoc, hl, pw_succ, Int.add_assoc, digit_step, ea, eb, Int.mul_add, Int.mul_add]
  omega
/-- One place of a difference. -/
theorem minus_step {l : List Int} {k : Nat} {q q' x y va vb va' vb' : Int} (hl : l.length = k) (hv : val l = va - vb + pw k * q) (ea : va' = va + pw k * x) (eb : vb' = vb + pw k * y) (hq : (x + 2 - (q + y)) % 2 = x - q - y + 2 * q') :
    val (l ++ [(x + 2 - (q + y)) % 2]) = va' - vb' + pw (k + 1) * q' := by
  rw [val_snoc, hl, pw_succ, hq, ea, eb, hv, Int.mul_add, Int.mul_sub, Int.mul_sub, ← Int.mul_assoc, Int.mul_comm (pw k) 2]
  omega
theorem drop_pred {a b : List Int} {k : Nat} (h0 : 0 < k) (ha : k ≤ a.length) (hb : k ≤ b.length) (hx : a.getD (k - 1) 0 = b.getD (k - 1) 0) (hd : a.drop k = b.drop k) : a.drop (k - 1) = b.drop (k - 1) := by
  rw [List.drop_eq_getElem_cons (l := a) (i := k - 1) (by omega), List.drop_eq_getElem_cons (l := b) (i := k - 1) (by omega), show k - 1 + 1 = k from by omega, hd]
  rw [List.getD_eq_getElem?_getD, List.getD_eq_getElem?_getD, List.getElem?_eq_getElem (by omega), List.getElem?_eq_getElem (by omega)] at hx
  simp at hx
  rw [hx]
end Go.Proofs.YtalgfpegaobacaaGreat
