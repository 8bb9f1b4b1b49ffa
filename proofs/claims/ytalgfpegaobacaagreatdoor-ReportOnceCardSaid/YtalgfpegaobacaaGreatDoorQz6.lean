/- Joined. -/
import Derived.Test.YtalgfpegaobacaaGreatDoorQz2
import Derived.Test.YtalgfpegaobacaaGreatDoorQz4
namespace Go.Proofs.YtalgfpegaobacaaGreatDoor
set_option linter.all false
set_option maxHeartbeats 16000000
set_option maxRecDepth 100000
open Go.RowKit
open Lib (hid)
/- The contract of bits.Div64. -/
theorem u64_wrap {x : Int} (h0 : 0 ≤ x) (h1 : x ≤ 18446744073709551615) : IntKind.u64.wrap x = x := by rw [IntKind.wrap_u64]; omega
theorem and_low (x : Int) (h : 0 ≤ x) (h' : x ≤ 18446744073709551615) : bits .and .u64 x 4294967295 = x % 4294967296 := by
 obtain ⟨x, rfl⟩ := Int.eq_ofNat_of_zero_le h
 show IntKind.u64.wrap ((BitVec.ofInt 64 (x : Int) &&& BitVec.ofInt 64 4294967295).toNat : Int) = _
 have e : (BitVec.ofInt 64 (x : Int) &&& BitVec.ofInt 64 4294967295).toNat = x % 4294967296 := by
  rw [BitVec.toNat_and, BitVec.ofInt_natCast, BitVec.toNat_ofNat, Nat.mod_eq_of_lt (by omega)]
  exact Nat.and_two_pow_sub_one_eq_mod x 32
 rw [e, u64_wrap (by omega) (by omega)]
 omega
theorem or_low (h l : Int) (s : Nat) (h0 : 0 ≤ h) (l0 : 0 ≤ l) (hl : l < 2 ^ s) (hh : h * 2 ^ s ≤ 18446744073709551615) (hs : s ≤ 63) : bits .or .u64 (h * 2 ^ s) l = h * 2 ^ s + l := by
 obtain ⟨h, rfl⟩ := Int.eq_ofNat_of_zero_le h0
 obtain ⟨l, rfl⟩ := Int.eq_ofNat_of_zero_le l0
 have hp : (2 : Int) ^ s = ((2 ^ s : Nat) : Int) := by rw [Int.natCast_pow]; rfl
 have hps : 2 ^ s ≤ 2 ^ 63 := Nat.pow_le_pow_right (by omega) hs
 have hl2 : l < 2 ^ s := by rw [hp] at hl; omega
 have hh2 : h * 2 ^ s ≤ 18446744073709551615 := by rw [hp, ← Int.natCast_mul] at hh; omega
 rw [hp, ← Int.natCast_mul]
 show IntKind.u64.wrap ((BitVec.ofInt 64 ((h * 2 ^ s : Nat) : Int) ||| BitVec.ofInt 64 (l : Int)).toNat : Int) = _
 have e : (BitVec.ofInt 64 ((h * 2 ^ s : Nat) : Int) ||| BitVec.ofInt 64 (l : Int)).toNat = h * 2 ^ s + l := by
  rw [BitVec.toNat_or, BitVec.ofInt_natCast, BitVec.toNat_ofNat, BitVec.ofInt_natCast, BitVec.toNat_ofNat, Nat.mod_eq_of_lt (by omega), Nat.mod_eq_of_lt (by omega), ← Nat.shiftLeft_eq, Nat.shiftLeft_add_eq_or_of_lt hl2]
 have hsum : h * 2 ^ s + l ≤ 18446744073709551615 := by
  rw [← e]; have := (BitVec.ofInt 64 ((h * 2 ^ s : Nat) : Int) ||| BitVec.ofInt 64 (l : Int)).isLt; omega
 rw [e, u64_wrap (by omega) (by omega)]
 omega
theorem sub_mod {x y z : Int} (h0 : 0 ≤ x * 4294967296 + y - z) (h1 : x * 4294967296 + y - z ≤ 18446744073709551615) : IntKind.u64.wrap (IntKind.u64.wrap (IntKind.u64.wrap (x * 4294967296) + y) - IntKind.u64.wrap z) = x * 4294967296 + y - z := by
 rw [IntKind.wrap_u64, IntKind.wrap_u64, IntKind.wrap_u64, IntKind.wrap_u64]; omega
theorem guess {U a : Int} (a0 : 0 < a) (u0 : 0 ≤ U) (u1 : U ≤ 18446744073709551615) : IntKind.u64.wrap (U.tdiv a) = U / a ∧ IntKind.u64.wrap (U - IntKind.u64.wrap (U / a * a)) = U - U / a * a := by
 have e := Int.mul_ediv_add_emod U a
 have e1 := Int.emod_nonneg U (show a ≠ 0 by omega)
 rw [Int.mul_comm] at e
 have q0 : 0 ≤ U / a := Int.ediv_nonneg u0 (by omega)
 have q1 : U / a ≤ U := Int.ediv_le_self _ u0
 have q2 : 0 ≤ U / a * a := Int.mul_nonneg q0 (by omega)
 refine ⟨?_, ?_⟩
 ·rw [Int.tdiv_eq_ediv_of_nonneg u0]
  exact u64_wrap q0 (by omega)
 ·rw [u64_wrap q2 (by omega)]
  exact u64_wrap (by omega) (by omega)
theorem div64Low (lo y : Int) (w : World) (hy0 : 0 < y) (hy : y ≤ 18446744073709551615) (l0 : 0 ≤ lo) (l1 : lo ≤ 18446744073709551615) :
  Calls Tryz.prog 227 #[.int .u64 0, .int .u64 lo, .int .u64 y] w fun e w' => e = .returned (.tuple #[.int .u64 (lo / y), .int .u64 (lo % y)]) ∧ Below w.heap.size w w' := by
 have d0 : (y == 0) = false := by simp; omega
 have d1 : decide (y ≤ 0) = false := by simp; omega
 have d2 : ¬ y = 0 := by omega
 go_enter Tryz.func227, Tryz.ntmps227
 go_wp2_with fail
 go_quiet (fail)
 go_wp2_with fail
 go_ret2
 exact ⟨rfl, tB⟩
theorem div64High (hi lo y : Int) (w : World) (h0 : 0 < hi) (hhi : hi < y) (hy : y ≤ 18446744073709551615) (l0 : 0 ≤ lo) (l1 : lo ≤ 18446744073709551615) :
  Calls Tryz.prog 227 #[.int .u64 hi, .int .u64 lo, .int .u64 y] w fun e w' => e = .returned (.tuple #[.int .u64 ((hi * 18446744073709551616 + lo) / y), .int .u64 ((hi * 18446744073709551616 + lo) % y)]) ∧ Below w.heap.size w w' := by
 have d0 : (y == 0) = false := by simp; omega
 have d1 : decide (y ≤ hi) = false := by simp; omega
 have d3 : (hi == 0) = false := by simp; omega
 obtain ⟨s, hs, hs63, hn0, hn1⟩ := shift_norm (y := y) (by omega) hy
 have hPT := pow_split (s := s) (by omega)
 have hP : (0 : Int) < 2 ^ s := Int.pow_pos (by omega)
 have hT : (0 : Int) < 2 ^ (64 - s) := Int.pow_pos (by omega)
 have hhy : hi * 2 ^ s ≤ y * 2 ^ s := Int.mul_le_mul_of_nonneg_right (by omega) (by omega)
 have hh0 : 0 ≤ hi * 2 ^ s := Int.mul_nonneg (by omega) (by omega)
 have t0 : 0 ≤ lo / 2 ^ (64 - s) := Int.ediv_nonneg l0 (by omega)
 have t1 : lo / 2 ^ (64 - s) < 2 ^ s := Int.ediv_lt_of_lt_mul hT (by omega)
 have z1 : IntKind.u64.wrap (hi * 2 ^ s) = hi * 2 ^ s := u64_wrap hh0 (by omega)
 have z2 := or_low hi (lo / 2 ^ (64 - s)) s (by omega) t0 t1 (by omega) hs63
 have z3 := and_low (y * 2 ^ s) (by omega) (by omega)
 have z4 : IntKind.u64.wrap (lo * 2 ^ s) = lo * 2 ^ s % 18446744073709551616 := IntKind.wrap_u64 _
 have z5 := and_low (lo * 2 ^ s % 18446744073709551616) (by omega) (by omega)
 have hw := words (hi := hi) (lo := lo) hP hPT
 have hbig : (hi * 18446744073709551616 + lo) * 2 ^ s < y * 18446744073709551616 * 2 ^ s := Int.mul_lt_mul_of_pos_right (by omega) hP
 rw [Int.mul_right_comm y] at hbig
 have m0 : 0 ≤ lo * 2 ^ s % 18446744073709551616 ∧ lo * 2 ^ s % 18446744073709551616 ≤ 18446744073709551615 := by omega
 have Z1 := hid z1
 have Z2 := hid z2
 have Z3 := hid z3
 have Z4 := hid z4
 have Z5 := hid z5
 have HW := hid hw
 have HB := hid hbig
 have M0 := hid m0
 have HP := hid hP
 have HN01 := hid (And.intro hn0 hn1)
 have HU0 := hid (Int.add_nonneg hh0 t0)
 clear z1 z2 z3 z4 z5 hw hbig m0 hPT hT hP t0 t1 hh0 hhy
 go_enter Tryz.func227, Tryz.ntmps227
 go_wp2_with (go_at_call 237; (with_reducible refine (Tryz.bits_LeadingZeros64 y _ (by omega) hy).mono ?_); rintro e w1 ⟨rfl, rfl⟩; rw [hs])
 rw [Z3.out, Z1.out, Z2.out, Z4.out, Z5.out]
 have hW := HW.out
 have hB := HB.out
 have hM := M0.out
 have hU0 := HU0.out
 have hD := HN01.out
 obtain ⟨d, hd⟩ : ∃ d, d = y * 2 ^ s := ⟨_, rfl⟩
 obtain ⟨U, hU⟩ : ∃ U, U = hi * 2 ^ s + lo / 2 ^ (64 - s) := ⟨_, rfl⟩
 obtain ⟨m, hm⟩ : ∃ m, m = lo * 2 ^ s % 18446744073709551616 := ⟨_, rfl⟩
 obtain ⟨n2, hn2⟩ : ∃ n2, n2 = (hi * 18446744073709551616 + lo) * 2 ^ s := ⟨_, rfl⟩
 rw [← hn2] at hW hB
 rw [← hd] at hB hD ⊢
 rw [← hU] at hW hU0 ⊢
 rw [← hm] at hW hM ⊢
 clear Z1 Z2 Z3 Z4 Z5 HW HB M0 HU0 HN01 hn0 hn1 hU hm hs d0 d1 d3
 have HDY := hid hd
 clear hd
 obtain ⟨a, ha⟩ : ∃ a, a = d / 4294967296 := ⟨_, rfl⟩
 obtain ⟨b, hb⟩ : ∃ b, b = d % 4294967296 := ⟨_, rfl⟩
 obtain ⟨v1, hv1⟩ : ∃ v1, v1 = m / 4294967296 := ⟨_, rfl⟩
 obtain ⟨v0, hv0⟩ : ∃ v0, v0 = m % 4294967296 := ⟨_, rfl⟩
 rw [← ha, ← hb, ← hv1, ← hv0]
 have hdab : d = a * 4294967296 + b := by omega
 have HN : Hid (U * 18446744073709551616 + (v1 * 4294967296 + v0) = (hi * 18446744073709551616 + lo) * 2 ^ s) := hid (by rw [← hn2]; omega)
 have hfi : DIn U v1 a b := ⟨by omega, by omega, by omega, by omega, by omega, by omega, by omega, by omega⟩
 have q1 : 0 ≤ v0 ∧ v0 < 4294967296 := by omega
 have q2 : 2147483648 ≤ a ∧ a < 4294967296 ∧ 0 ≤ b ∧ b < 4294967296 := by omega
 have q3 : 0 ≤ v1 ∧ v1 < 4294967296 ∧ 0 ≤ U ∧ U < d := by omega
 clear hW hB hM hU0 hn2 ha hb hv1 hv0
 subst hdab
 have FI := hid hfi
 have gs := guess (U := U) (a := a) (by omega) (by omega) (by omega)
 rw [gs.1, gs.2]
 have FS := hid (DInv.start hfi)
 clear hfi gs
 go_loopw [15, 16] (fun q r wr => ∃ Q R, q = .int .u64 Q ∧ r = .int .u64 R ∧ Below w1.heap.size w1 wr ∧ DInv U v1 a b Q R ∧ R < 4294967296) (fun q r _ => (intOf q).toNat)
 case atStart => exact ⟨_, _, rfl, rfl, tB, FS.out.1, by have h1 := FS.out.2; omega⟩
 case round =>
  obtain ⟨Q, R, rfl, rfl, hblF, hiF, hrF⟩ := hrel
  have IF := hid hiF
  have mF := hiF.mul_le FI.out
  have n1F := hiF.r0
  have n2F := hiF.q0
  have n3F := hiF.qB
  clear hiF
  by_cases gF : 4294967296 ≤ Q
  ·have askF := hid (show dAsk v1 b Q R = true from by unfold dAsk; simp [gF])
   have StF := hid (IF.out.step FI.out askF.out)
   have p1F := StF.out.2
   have g3F : decide (4294967296 ≤ Q) = true := by simpa using gF
   by_cases oF : 4294967296 ≤ R + a
   ·have XF := hid (DInv.over FI.out StF.out.1 (by omega) oF)
    clear askF IF StF
    go_wp2_with fail
    have R1 := DIn.quo FI.out XF.out
    rw [sub_mod (x := U) (y := v1) (z := (Q - 1) * (a * 4294967296 + b)) R1.2.2.1 (by omega)]
    obtain ⟨q1, hq1⟩ : ∃ q1, q1 = (Q - 1) := ⟨_, rfl⟩
    rw [← hq1] at R1 ⊢
    have FX := hid (show q1 = (U * 4294967296 + v1) / (a * 4294967296 + b) from by rw [hq1]; exact XF.out)
    clear XF hq1
    obtain ⟨V, hV⟩ : ∃ V, V = U * 4294967296 + v1 - q1 * (a * 4294967296 + b) := ⟨_, rfl⟩
    rw [← hV] at R1 ⊢
    have hsi : DIn V v0 a b := ⟨by omega, by omega, by omega, by omega, by omega, by omega, by omega, by omega⟩
    have SI := hid hsi
    have gs := guess (U := V) (a := a) (by omega) (by omega) (by omega)
    rw [gs.1, gs.2]
    have SS := hid (DInv.start hsi)
    have endOf : ∀ q0, q0 = (V * 4294967296 + v0) / (a * 4294967296 + b) → q1 * 4294967296 + q0 = (hi * 18446744073709551616 + lo) / y ∧ (V * 4294967296 + v0 - q0 * (a * 4294967296 + b)) / 2 ^ s = (hi * 18446744073709551616 + lo) % y := (by
     intro q0 h0
     rw [hV] at h0 ⊢
     exact div_end HP.out HDY.out HN.out h0 (by omega))
    have HEND := hid endOf
    clear hsi gs hV endOf
    go_loopw [16, 18] (fun r q wr => ∃ Q R, q = .int .u64 Q ∧ r = .int .u64 R ∧ Below w1.heap.size w1 wr ∧ DInv V v0 a b Q R ∧ R < 4294967296) (fun r q _ => (intOf q).toNat)
    case atStart => exact ⟨_, _, rfl, rfl, tB, SS.out.1, by have h1 := SS.out.2; omega⟩
    case round =>
     obtain ⟨Q, R, rfl, rfl, hblS, hiS, hrS⟩ := hrel
     have IS := hid hiS
     have mS := hiS.mul_le SI.out
     have n1S := hiS.r0
     have n2S := hiS.q0
     have n3S := hiS.qB
     clear hiS
     by_cases gS : 4294967296 ≤ Q
     ·have askS := hid (show dAsk v0 b Q R = true from by unfold dAsk; simp [gS])
      have StS := hid (IS.out.step SI.out askS.out)
      have p1S := StS.out.2
      have g3S : decide (4294967296 ≤ Q) = true := by simpa using gS
      by_cases oS : 4294967296 ≤ R + a
      ·have XS := hid (DInv.over SI.out StS.out.1 (by omega) oS)
       clear askS IS StS
       go_wp2_with fail
       have R2 := DIn.quo SI.out XS.out
       have hE := HEND.out (Q - 1) XS.out
       rw [sub_mod (x := V) (y := v0) (z := (Q - 1) * (a * 4294967296 + b)) R2.2.2.1 (by omega)]
       try rw [u64_wrap (x := q1 * 4294967296 + (Q - 1)) (by omega) (by omega)]
       go_ret2
       exact ⟨by (rw [hE.1, hE.2]); first | done | rfl, tB⟩
      ·go_wp2_with fail
       go_roundw
       case rel => exact ⟨Q - 1, R + a, by go_num, by go_num, tB, StS.out.1, by omega⟩
       case measure => simp [intOf]; omega
     by_cases fS : 4294967296 * R + v0 < Q * b
     ·have askS := hid (show dAsk v0 b Q R = true from by unfold dAsk; simp [fS])
      have StS := hid (IS.out.step SI.out askS.out)
      have p1S := StS.out.2
      have g2S : decide (4294967296 ≤ Q) = false := by simpa using gS
      have f3S : decide (4294967296 * R + v0 < Q * b) = true := by simpa using fS
      by_cases oS : 4294967296 ≤ R + a
      ·have XS := hid (DInv.over SI.out StS.out.1 (by omega) oS)
       clear askS IS StS
       go_wp2_with fail
       have R2 := DIn.quo SI.out XS.out
       have hE := HEND.out (Q - 1) XS.out
       rw [sub_mod (x := V) (y := v0) (z := (Q - 1) * (a * 4294967296 + b)) R2.2.2.1 (by omega)]
       try rw [u64_wrap (x := q1 * 4294967296 + (Q - 1)) (by omega) (by omega)]
       go_ret2
       exact ⟨by (rw [hE.1, hE.2]); first | done | rfl, tB⟩
      ·go_wp2_with fail
       go_roundw
       case rel => exact ⟨Q - 1, R + a, by go_num, by go_num, tB, StS.out.1, by omega⟩
       case measure => simp [intOf]; omega
     have g2S : decide (4294967296 ≤ Q) = false := by simpa using gS
     have f2S : decide (4294967296 * R + v0 < Q * b) = false := by simpa using fS
     have XS := hid (DInv.stop SI.out IS.out (show dAsk v0 b Q R = false from by unfold dAsk; simp [gS]; omega))
     clear IS
     go_wp2_with fail
     have R2 := DIn.quo SI.out XS.out
     have hE := HEND.out Q XS.out
     rw [sub_mod (x := V) (y := v0) (z := Q * (a * 4294967296 + b)) R2.2.2.1 (by omega)]
     try rw [u64_wrap (x := q1 * 4294967296 + Q) (by omega) (by omega)]
     go_ret2
     exact ⟨by (rw [hE.1, hE.2]); first | done | rfl, tB⟩
   ·go_wp2_with fail
    go_roundw
    case rel => exact ⟨Q - 1, R + a, by go_num, by go_num, tB, StF.out.1, by omega⟩
    case measure => simp [intOf]; omega
  by_cases fF : 4294967296 * R + v1 < Q * b
  ·have askF := hid (show dAsk v1 b Q R = true from by unfold dAsk; simp [fF])
   have StF := hid (IF.out.step FI.out askF.out)
   have p1F := StF.out.2
   have g2F : decide (4294967296 ≤ Q) = false := by simpa using gF
   have f3F : decide (4294967296 * R + v1 < Q * b) = true := by simpa using fF
   by_cases oF : 4294967296 ≤ R + a
   ·have XF := hid (DInv.over FI.out StF.out.1 (by omega) oF)
    clear askF IF StF
    go_wp2_with fail
    have R1 := DIn.quo FI.out XF.out
    rw [sub_mod (x := U) (y := v1) (z := (Q - 1) * (a * 4294967296 + b)) R1.2.2.1 (by omega)]
    obtain ⟨q1, hq1⟩ : ∃ q1, q1 = (Q - 1) := ⟨_, rfl⟩
    rw [← hq1] at R1 ⊢
    have FX := hid (show q1 = (U * 4294967296 + v1) / (a * 4294967296 + b) from by rw [hq1]; exact XF.out)
    clear XF hq1
    obtain ⟨V, hV⟩ : ∃ V, V = U * 4294967296 + v1 - q1 * (a * 4294967296 + b) := ⟨_, rfl⟩
    rw [← hV] at R1 ⊢
    have hsi : DIn V v0 a b := ⟨by omega, by omega, by omega, by omega, by omega, by omega, by omega, by omega⟩
    have SI := hid hsi
    have gs := guess (U := V) (a := a) (by omega) (by omega) (by omega)
    rw [gs.1, gs.2]
    have SS := hid (DInv.start hsi)
    have endOf : ∀ q0, q0 = (V * 4294967296 + v0) / (a * 4294967296 + b) → q1 * 4294967296 + q0 = (hi * 18446744073709551616 + lo) / y ∧ (V * 4294967296 + v0 - q0 * (a * 4294967296 + b)) / 2 ^ s = (hi * 18446744073709551616 + lo) % y := (by
     intro q0 h0
     rw [hV] at h0 ⊢
     exact div_end HP.out HDY.out HN.out h0 (by omega))
    have HEND := hid endOf
    clear hsi gs hV endOf
    go_loopw [16, 18] (fun r q wr => ∃ Q R, q = .int .u64 Q ∧ r = .int .u64 R ∧ Below w1.heap.size w1 wr ∧ DInv V v0 a b Q R ∧ R < 4294967296) (fun r q _ => (intOf q).toNat)
    case atStart => exact ⟨_, _, rfl, rfl, tB, SS.out.1, by have h1 := SS.out.2; omega⟩
    case round =>
     obtain ⟨Q, R, rfl, rfl, hblS, hiS, hrS⟩ := hrel
     have IS := hid hiS
     have mS := hiS.mul_le SI.out
     have n1S := hiS.r0
     have n2S := hiS.q0
     have n3S := hiS.qB
     clear hiS
     by_cases gS : 4294967296 ≤ Q
     ·have askS := hid (show dAsk v0 b Q R = true from by unfold dAsk; simp [gS])
      have StS := hid (IS.out.step SI.out askS.out)
      have p1S := StS.out.2
      have g3S : decide (4294967296 ≤ Q) = true := by simpa using gS
      by_cases oS : 4294967296 ≤ R + a
      ·have XS := hid (DInv.over SI.out StS.out.1 (by omega) oS)
       clear askS IS StS
       go_wp2_with fail
       have R2 := DIn.quo SI.out XS.out
       have hE := HEND.out (Q - 1) XS.out
       rw [sub_mod (x := V) (y := v0) (z := (Q - 1) * (a * 4294967296 + b)) R2.2.2.1 (by omega)]
       try rw [u64_wrap (x := q1 * 4294967296 + (Q - 1)) (by omega) (by omega)]
       go_ret2
       exact ⟨by (rw [hE.1, hE.2]); first | done | rfl, tB⟩
      ·go_wp2_with fail
       go_roundw
       case rel => exact ⟨Q - 1, R + a, by go_num, by go_num, tB, StS.out.1, by omega⟩
       case measure => simp [intOf]; omega
     by_cases fS : 4294967296 * R + v0 < Q * b
     ·have askS := hid (show dAsk v0 b Q R = true from by unfold dAsk; simp [fS])
      have StS := hid (IS.out.step SI.out askS.out)
      have p1S := StS.out.2
      have g2S : decide (4294967296 ≤ Q) = false := by simpa using gS
      have f3S : decide (4294967296 * R + v0 < Q * b) = true := by simpa using fS
      by_cases oS : 4294967296 ≤ R + a
      ·have XS := hid (DInv.over SI.out StS.out.1 (by omega) oS)
       clear askS IS StS
       go_wp2_with fail
       have R2 := DIn.quo SI.out XS.out
       have hE := HEND.out (Q - 1) XS.out
       rw [sub_mod (x := V) (y := v0) (z := (Q - 1) * (a * 4294967296 + b)) R2.2.2.1 (by omega)]
       try rw [u64_wrap (x := q1 * 4294967296 + (Q - 1)) (by omega) (by omega)]
       go_ret2
       exact ⟨by (rw [hE.1, hE.2]); first | done | rfl, tB⟩
      ·go_wp2_with fail
       go_roundw
       case rel => exact ⟨Q - 1, R + a, by go_num, by go_num, tB, StS.out.1, by omega⟩
       case measure => simp [intOf]; omega
     have g2S : decide (4294967296 ≤ Q) = false := by simpa using gS
     have f2S : decide (4294967296 * R + v0 < Q * b) = false := by simpa using fS
     have XS := hid (DInv.stop SI.out IS.out (show dAsk v0 b Q R = false from by unfold dAsk; simp [gS]; omega))
     clear IS
     go_wp2_with fail
     have R2 := DIn.quo SI.out XS.out
     have hE := HEND.out Q XS.out
     rw [sub_mod (x := V) (y := v0) (z := Q * (a * 4294967296 + b)) R2.2.2.1 (by omega)]
     try rw [u64_wrap (x := q1 * 4294967296 + Q) (by omega) (by omega)]
     go_ret2
     exact ⟨by (rw [hE.1, hE.2]); first | done | rfl, tB⟩
   ·go_wp2_with fail
    go_roundw
    case rel => exact ⟨Q - 1, R + a, by go_num, by go_num, tB, StF.out.1, by omega⟩
    case measure => simp [intOf]; omega
  have g2F : decide (4294967296 ≤ Q) = false := by simpa using gF
  have f2F : decide (4294967296 * R + v1 < Q * b) = false := by simpa using fF
  have XF := hid (DInv.stop FI.out IF.out (show dAsk v1 b Q R = false from by unfold dAsk; simp [gF]; omega))
  clear IF
  go_wp2_with fail
  have R1 := DIn.quo FI.out XF.out
  rw [sub_mod (x := U) (y := v1) (z := Q * (a * 4294967296 + b)) R1.2.2.1 (by omega)]
  obtain ⟨q1, hq1⟩ : ∃ q1, q1 = Q := ⟨_, rfl⟩
  rw [← hq1] at R1 ⊢
  have FX := hid (show q1 = (U * 4294967296 + v1) / (a * 4294967296 + b) from by rw [hq1]; exact XF.out)
  clear XF hq1
  obtain ⟨V, hV⟩ : ∃ V, V = U * 4294967296 + v1 - q1 * (a * 4294967296 + b) := ⟨_, rfl⟩
  rw [← hV] at R1 ⊢
  have hsi : DIn V v0 a b := ⟨by omega, by omega, by omega, by omega, by omega, by omega, by omega, by omega⟩
  have SI := hid hsi
  have gs := guess (U := V) (a := a) (by omega) (by omega) (by omega)
  rw [gs.1, gs.2]
  have SS := hid (DInv.start hsi)
  have endOf : ∀ q0, q0 = (V * 4294967296 + v0) / (a * 4294967296 + b) → q1 * 4294967296 + q0 = (hi * 18446744073709551616 + lo) / y ∧ (V * 4294967296 + v0 - q0 * (a * 4294967296 + b)) / 2 ^ s = (hi * 18446744073709551616 + lo) % y := (by
   intro q0 h0
   rw [hV] at h0 ⊢
   exact div_end HP.out HDY.out HN.out h0 (by omega))
  have HEND := hid endOf
  clear hsi gs hV endOf
  go_loopw [16, 18] (fun r q wr => ∃ Q R, q = .int .u64 Q ∧ r = .int .u64 R ∧ Below w1.heap.size w1 wr ∧ DInv V v0 a b Q R ∧ R < 4294967296) (fun r q _ => (intOf q).toNat)
  case atStart => exact ⟨_, _, rfl, rfl, tB, SS.out.1, by have h1 := SS.out.2; omega⟩
  case round =>
   obtain ⟨Q, R, rfl, rfl, hblS, hiS, hrS⟩ := hrel
   have IS := hid hiS
   have mS := hiS.mul_le SI.out
   have n1S := hiS.r0
   have n2S := hiS.q0
   have n3S := hiS.qB
   clear hiS
   by_cases gS : 4294967296 ≤ Q
   ·have askS := hid (show dAsk v0 b Q R = true from by unfold dAsk; simp [gS])
    have StS := hid (IS.out.step SI.out askS.out)
    have p1S := StS.out.2
    have g3S : decide (4294967296 ≤ Q) = true := by simpa using gS
    by_cases oS : 4294967296 ≤ R + a
    ·have XS := hid (DInv.over SI.out StS.out.1 (by omega) oS)
     clear askS IS StS
     go_wp2_with fail
     have R2 := DIn.quo SI.out XS.out
     have hE := HEND.out (Q - 1) XS.out
     rw [sub_mod (x := V) (y := v0) (z := (Q - 1) * (a * 4294967296 + b)) R2.2.2.1 (by omega)]
     try rw [u64_wrap (x := q1 * 4294967296 + (Q - 1)) (by omega) (by omega)]
     go_ret2
     exact ⟨by (rw [hE.1, hE.2]); first | done | rfl, tB⟩
    ·go_wp2_with fail
     go_roundw
     case rel => exact ⟨Q - 1, R + a, by go_num, by go_num, tB, StS.out.1, by omega⟩
     case measure => simp [intOf]; omega
   by_cases fS : 4294967296 * R + v0 < Q * b
   ·have askS := hid (show dAsk v0 b Q R = true from by unfold dAsk; simp [fS])
    have StS := hid (IS.out.step SI.out askS.out)
    have p1S := StS.out.2
    have g2S : decide (4294967296 ≤ Q) = false := by simpa using gS
    have f3S : decide (4294967296 * R + v0 < Q * b) = true := by simpa using fS
    by_cases oS : 4294967296 ≤ R + a
    ·have XS := hid (DInv.over SI.out StS.out.1 (by omega) oS)
     clear askS IS StS
     go_wp2_with fail
     have R2 := DIn.quo SI.out XS.out
     have hE := HEND.out (Q - 1) XS.out
     rw [sub_mod (x := V) (y := v0) (z := (Q - 1) * (a * 4294967296 + b)) R2.2.2.1 (by omega)]
     try rw [u64_wrap (x := q1 * 4294967296 + (Q - 1)) (by omega) (by omega)]
     go_ret2
     exact ⟨by (rw [hE.1, hE.2]); first | done | rfl, tB⟩
    ·go_wp2_with fail
     go_roundw
     case rel => exact ⟨Q - 1, R + a, by go_num, by go_num, tB, StS.out.1, by omega⟩
     case measure => simp [intOf]; omega
   have g2S : decide (4294967296 ≤ Q) = false := by simpa using gS
   have f2S : decide (4294967296 * R + v0 < Q * b) = false := by simpa using fS
   have XS := hid (DInv.stop SI.out IS.out (show dAsk v0 b Q R = false from by unfold dAsk; simp [gS]; omega))
   clear IS
   go_wp2_with fail
   have R2 := DIn.quo SI.out XS.out
   have hE := HEND.out Q XS.out
   rw [sub_mod (x := V) (y := v0) (z := Q * (a * 4294967296 + b)) R2.2.2.1 (by omega)]
   try rw [u64_wrap (x := q1 * 4294967296 + Q) (by omega) (by omega)]
   go_ret2
   exact ⟨by (rw [hE.1, hE.2]); first | done | rfl, tB⟩
theorem div64 (hi lo y : Int) (w : World) (h0 : 0 ≤ hi) (hhi : hi < y) (hy : y ≤ 18446744073709551615) (l0 : 0 ≤ lo) (l1 : lo ≤ 18446744073709551615) :
  Calls Tryz.prog 227 #[.int .u64 hi, .int .u64 lo, .int .u64 y] w fun e w' => e = .returned (.tuple #[.int .u64 ((hi * 18446744073709551616 + lo) / y), .int .u64 ((hi * 18446744073709551616 + lo) % y)]) ∧ Below w.heap.size w w' := by
 rcases (show hi = 0 ∨ 0 < hi by omega) with h | h
 ·subst h
  rw [show (0 : Int) * 18446744073709551616 + lo = lo by omega]
  exact div64Low lo y w hhi hy l0 l1
 ·exact div64High hi lo y w h hhi hy l0 l1
/- Instruments: the type. -/
structure Inst where
 id : Int
 mult : Int
 price : Int
 next : Int
 moves : List Int
 deriving DecidableEq
def pricedI (p : Int) : Bool := decide (0 ≤ p) && decide (p ≤ 2147483647)
theorem pricedI_iff {p : Int} : pricedI p = true ↔ 0 ≤ p ∧ p ≤ 2147483647 := by simp [pricedI]
theorem pricedI_no {p : Int} (h : pricedI p = false) : ¬ (0 ≤ p ∧ p ≤ 2147483647) := fun k => by rw [pricedI_iff.2 k] at h; cases h
def farI (m : Int) : Bool := decide (m < -2147483647) || decide (2147483647 < m)
def anyFar (l : List Int) : Bool := l.any farI
def okI (x : Inst) : Prop := 1 ≤ x.id ∧ x.id ≤ 8 ∧ 1 ≤ x.mult ∧ x.mult ≤ 65536 ∧ (0 ≤ x.price ∧ x.price ≤ 2147483647) ∧ (0 ≤ x.next ∧ x.next ≤ 2147483647) ∧ x.moves.length ≤ 8 ∧ anyFar x.moves = false
instance (x : Inst) : Decidable (okI x) := by unfold okI; infer_instance
def codeI (x : Inst) : Int := if okI x then 0 else 2
theorem codeI_yes {x : Inst} (h : okI x) : codeI x = 0 := if_pos h
theorem codeI_no {x : Inst} (h : ¬ okI x) : codeI x = 2 := if_neg h
theorem okI_move {x : Inst} (h : okI x) {k : Nat} (hk : k < x.moves.length) : -2147483647 ≤ x.moves[k] ∧ x.moves[k] ≤ 2147483647 := by
 have h1 := h.2.2.2.2.2.2.2
 unfold anyFar at h1
 rw [List.any_eq_false] at h1
 have h2 := h1 _ (List.getElem_mem hk)
 simp [farI] at h2
 omega
def okG (x : Inst) (f t : Int) : Prop := okI x ∧ (0 ≤ f ∧ f ≤ 2147483647) ∧ (0 ≤ t ∧ t ≤ 2147483647)
instance (x : Inst) (f t : Int) : Decidable (okG x f t) := by unfold okG; infer_instance
def okS (x : Inst) (s : Int) : Prop := okI x ∧ 0 ≤ s ∧ s < x.moves.length
instance (x : Inst) (s : Int) : Decidable (okS x s) := by unfold okS; infer_instance
def shockI (x : Inst) (q s : Int) : Int := if okS x s then q * x.mult * x.moves.getD s.toNat 0 else 0
/- Instruments: contracts of inst.Check and what it calls. -/
theorem instPriced (p : Int) (w : World) : Calls Tryz.prog 232 #[.int .i64 p] w fun e w' => e = .returned (.bool (pricedI p)) ∧ Below w.heap.size w w' := by
 by_cases h : 0 ≤ p
 ·have d1 : decide (0 ≤ p) = true := by simpa using h
  have HP := hid (show pricedI p = decide (p ≤ 2147483647) from by unfold pricedI; rw [d1]; rfl)
  go_enter Tryz.func232, Tryz.ntmps232
  go_wp2_with fail
  go_ret
  exact ⟨by rw [HP.out]; first | done | rfl, tB⟩
 ·have d1 : decide (0 ≤ p) = false := by simpa using h
  have HP := hid (show pricedI p = false from by unfold pricedI; rw [d1]; rfl)
  go_enter Tryz.func232, Tryz.ntmps232
  go_wp2_with fail
  go_ret
  exact ⟨by rw [HP.out]; first | done | rfl, tB⟩
theorem instFar (p : Int) (w : World) : Calls Tryz.prog 234 #[.int .i64 p] w fun e w' => e = .returned (.bool (farI p)) ∧ Below w.heap.size w w' := by
 by_cases h : p < -2147483647
 ·have d1 : decide (p < -2147483647) = true := by simpa using h
  have HP := hid (show farI p = true from by unfold farI; rw [d1]; rfl)
  go_enter Tryz.func234, Tryz.ntmps234
  go_wp2_with fail
  go_ret
  exact ⟨by rw [HP.out]; first | done | rfl, tB⟩
 ·have d1 : decide (p < -2147483647) = false := by simpa using h
  have HP := hid (show farI p = decide (2147483647 < p) from by unfold farI; rw [d1]; rfl)
  go_enter Tryz.func234, Tryz.ntmps234
  go_wp2_with fail
  go_ret
  exact ⟨by rw [HP.out]; first | done | rfl, tB⟩
theorem instIndex (l : List Int) (A : Option Addr) (c : Nat) (w : World) (hl : l.length ≤ 1099511627776) (hr : Rd w A 1 (l.map encI)) :
  Calls Tryz.prog 238 #[.slice A l.length c, .func (Fn.func 234) #[] #[]] w fun e w' => e = .returned (.int .i64 (idxOf farI l)) ∧ Below w.heap.size w w' := by
 have HR := hid hr
 clear hr
 go_enter Tryz.func238, Tryz.ntmps238
 go_wp2_with fail
 go_loopw [8] (fun i wr => ∃ k : Nat, k ≤ l.length ∧ i = .int .i64 k ∧ Below w.heap.size w wr ∧ ∀ j (_ : j < l.length), j < k → farI l[j] = false) (fun i _ => l.length - (intOf i).toNat)
 case atStart => exact ⟨0, Nat.zero_le _, rfl, Below.refl _ _, fun j _ h => absurd h (by omega)⟩
 case round =>
  obtain ⟨k, hk, rfl, hbl, hno⟩ := hrel
  have Hbl := hid hbl
  have Hno := hid hno
  have hz := hbl.size
  clear hbl hno
  by_cases hlt : k < l.length
  ·obtain ⟨b, o, rfl, hb, hq⟩ := HR.out k (encI l[k]) (by simp [hlt])
   have e0 := tC Hbl hb (hq 0 _ rfl)
   simp at e0
   clear hq
   cases hm : farI l[k]
   ·have Hm := hid hm
    clear hm
    go_wp2_with (go_at_call 234; (with_reducible refine (instFar l[k] _).mono ?_); rw [Hm.out]; rintro e w1 ⟨rfl, hb1⟩; have hz1 := hb1.size; have Hb1 := hid hb1; clear hb1)
    go_roundw
    case rel => exact ⟨k + 1, by omega, by go_num, Hbl.out.trans (Hb1.out.mono hz), fun j hj h => by
     rcases Nat.lt_or_ge j k with h1 | h1
     ·exact Hno.out j hj h1
     ·obtain rfl : j = k := by omega
      exact Hm.out⟩
    case measure => simp [intOf]; omega
   ·have hi := idx_hit (p := farI) hlt hm Hno.out
    have Hi := hid hi
    have Hm := hid hm
    clear hm hi
    go_wp2_with (go_at_call 234; (with_reducible refine (instFar l[k] _).mono ?_); rw [Hm.out]; rintro e w1 ⟨rfl, hb1⟩; have hz1 := hb1.size; have Hb1 := hid hb1; clear hb1)
    go_ret
    exact ⟨by rw [Hi.out]; rfl, Hbl.out.trans (Hb1.out.mono hz)⟩
  ·have hi := idx_miss (p := farI) (l := l) (fun j hj => Hno.out j hj (by omega))
   have Hi := hid hi
   clear hi
   go_wp2_with fail
   go_ret
   exact ⟨by rw [Hi.out]; rfl, Hbl.out⟩
theorem idx_far (l : List Int) : decide (0 ≤ idxOf farI l) = anyFar l := by
 unfold idxOf anyFar
 cases h : l.findIdx? farI with
 | none =>
  rw [List.findIdx?_eq_none_iff] at h
  have : l.any farI = false := by rw [List.any_eq_false]; intro x hx; simpa using h x hx
  simp [this]
 | some k =>
  rw [List.findIdx?_eq_some_iff_getElem] at h
  obtain ⟨hk, h1, _⟩ := h
  have : l.any farI = true := by
   rw [List.any_eq_true]; exact ⟨_, List.getElem_mem hk, h1⟩
  simp [this]
theorem instContains (l : List Int) (A : Option Addr) (c : Nat) (w : World) (hl : l.length ≤ 1099511627776) (hr : Rd w A 1 (l.map encI)) :
  Calls Tryz.prog 233 #[.slice A l.length c, .func (Fn.func 234) #[] #[]] w fun e w' => e = .returned (.bool (anyFar l)) ∧ Below w.heap.size w w' := by
 have HR := hid hr
 have HI := hid (idx_far l)
 clear hr
 go_enter Tryz.func233, Tryz.ntmps233
 go_wp2_with (go_at_call 238; (with_reducible refine cM (instIndex l A c _ hl HR.out) fun w1 hb1 fc1 fg1 hc1 hf1 hz1 => ?_); try simp at hz1)
 go_ret
 exact ⟨by rw [← HI.out]; rfl, tB⟩
theorem instCheck (x : Inst) (A : Option Addr) (c : Nat) (w : World) (hl : x.moves.length ≤ 1099511627776) (hr : Rd w A 1 (x.moves.map encI)) :
  Calls Tryz.prog 220 #[.agg #[.int .i64 (x).id, .int .i64 (x).mult, .int .i64 (x).price, .int .i64 (x).next, .slice A (x).moves.length c]] w fun e w' => e = .returned (.int .i64 (codeI x)) ∧ Below w.heap.size w w' := by
 obtain ⟨cc, hc⟩ : ∃ cc, cc = codeI x := ⟨_, rfl⟩
 have HD := hid hc
 rw [← hc]
 clear hc
 obtain ⟨pb, hpb⟩ : ∃ pb, pb = pricedI x.price := ⟨_, rfl⟩
 have HPB := hid hpb
 obtain ⟨nb, hnb⟩ : ∃ nb, nb = pricedI x.next := ⟨_, rfl⟩
 have HNB := hid hnb
 obtain ⟨fb, hfb⟩ : ∃ fb, fb = anyFar x.moves := ⟨_, rfl⟩
 have HFB := hid hfb
 have c1 := fun W => instPriced x.price W
 have c2 := fun W => instPriced x.next W
 have c3 := fun W h => instContains x.moves A c W hl h
 rw [← hpb] at c1
 rw [← hnb] at c2
 rw [← hfb] at c3
 have C1 := hid c1
 have C2 := hid c2
 have C3 := hid c3
 have HR := hid hr
 clear c1 c2 c3 hpb hnb hfb hr
 generalize hn : x.moves.length = n at *
 have HN := hid hn
 clear hn
 cases pb
 rotate_left
 cases nb
 rotate_left
 cases fb
 all_goals
  go_enter Tryz.func220, Tryz.ntmps220
  go_wp2_with (first | (go_at_call 232; (with_reducible refine cM (C1.out _) fun w1 hb1 fc1 fg1 hc1 hf1 hz1 => ?_); (try simp at hz1)) | (go_at_call 232; (with_reducible refine cM (C2.out _) fun w2 hb2 fc2 fg2 hc2 hf2 hz2 => ?_); (try simp at hz2)) | (go_at_call 233; (with_reducible refine cM (C3.out _ (HR.out.keep tB)) fun w3 hb3 fc3 fg3 hc3 hf3 hz3 => ?_); (try simp at hz3)) | fail)
 all_goals
  go_ret
  refine ⟨?_, tB⟩
  have h1 := HPB.out.symm
  have h2 := HNB.out.symm
  have h3 := HFB.out.symm
  have h4 := HN.out
  try rw [pricedI_iff] at h1
  try replace h1 := pricedI_no h1
  try rw [pricedI_iff] at h2
  try replace h2 := pricedI_no h2
  rw [HD.out]
  first
   | (rw [codeI_yes (by unfold okI; exact ⟨by omega, by omega, by omega, by omega, h1, h2, by omega, h3⟩)]; rfl)
   | (rw [codeI_no (fun hk => by unfold okI at hk; omega)]; rfl)
   | (rw [codeI_no (fun hk => by have := hk.2.2.2.2.2.2.2; rw [h3] at this; cases this)]; rfl)
   | fail
section
open Go.ChangeShapes Go.WideShapes Go.ChangeAt Go.RowKit Go.Joins
/- Instruments handed in. -/
def okInst (x : Inst) : Prop := In64 x.id ∧ In64 x.mult ∧ In64 x.price ∧ In64 x.next ∧ ∀ m ∈ x.moves, In64 m
theorem Inst_cells {H : Type} {enc : TypeId × Value → H} {W : World} {spare : Nat → Bool} {held : Bool} (cs : List Value) (n : Nat) (y : DataW H × List MemPlace) (hlen : cs.length = 5) (h : DataW.trod enc Tryz.prog W 0 spare held n 58 cs = some y) :
  ∃ (x : Inst) (A : Option Addr) (c : Nat), okInst x ∧ cs = [.int .i64 x.id, .int .i64 x.mult, .int .i64 x.price, .int .i64 x.next, .slice A x.moves.length c] ∧ Rs W 1 (x.moves.map encI) A c := by
 obtain ⟨xs, n, _, rfl, _, hxs, hf⟩ := DataW.trod_struct Tryz.underlying58 h
 match cs, hlen, xs, hxs with
 | [c0, c1, c2, c3, c4], _, [y0, y1, y2, y3, y4], _ =>
  have h0 : DataW.trod enc Tryz.prog W 0 spare held n 3 (([c0, c1, c2, c3, c4].drop 0).take (Tryz.prog.cellsOf 3)) = some y0 := hf 0 _ rfl
  have h1 : DataW.trod enc Tryz.prog W 0 spare held n 2 (([c0, c1, c2, c3, c4].drop 1).take (Tryz.prog.cellsOf 2)) = some y1 := hf 1 _ rfl
  have h2 : DataW.trod enc Tryz.prog W 0 spare held n 2 (([c0, c1, c2, c3, c4].drop 2).take (Tryz.prog.cellsOf 2)) = some y2 := hf 2 _ rfl
  have h3 : DataW.trod enc Tryz.prog W 0 spare held n 2 (([c0, c1, c2, c3, c4].drop 3).take (Tryz.prog.cellsOf 2)) = some y3 := hf 3 _ rfl
  have h4 : DataW.trod enc Tryz.prog W 0 spare held n 56 (([c0, c1, c2, c3, c4].drop 4).take (Tryz.prog.cellsOf 56)) = some y4 := hf 4 _ rfl
  obtain ⟨x0, e0, _, w0⟩ := DataW.trod_int (k := .i64) (by kernel_rfl) h0
  obtain ⟨x1, e1, _, w1⟩ := DataW.trod_int (k := .i64) (by kernel_rfl) h1
  obtain ⟨x2, e2, _, w2⟩ := DataW.trod_int (k := .i64) (by kernel_rfl) h2
  obtain ⟨x3, e3, _, w3⟩ := DataW.trod_int (k := .i64) (by kernel_rfl) h3
  obtain ⟨l, A, c, e4⟩ := ints_cells h4
  have e5 := e4.eq
  rw [show Tryz.prog.cellsOf _ = 1 from by kernel_rfl] at e0 e1 e2 e3 e5
  simp at e0 e1 e2 e3 e5
  subst e0 e1 e2 e3 e5
  exact ⟨⟨x0, x1, x2, x3, l⟩, A, c, ⟨in64_of_wf w0, in64_of_wf w1, in64_of_wf w2, in64_of_wf w3, e4.ok⟩, rfl, e4.rs⟩
end
end Go.Proofs.YtalgfpegaobacaaGreatDoor
