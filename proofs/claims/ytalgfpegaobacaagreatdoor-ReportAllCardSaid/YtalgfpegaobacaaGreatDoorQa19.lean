/- Joined. -/
import Derived.Test.YtalgfpegaobacaaGreatDoorQa18
namespace Go.Proofs.YtalgfpegaobacaaGreatDoor
set_option linter.all false
set_option maxHeartbeats 64000000
set_option maxRecDepth 100000
open Go.RowKit
open Lib (hid)
theorem rd_at {w : World} {b o k i : Nat} {rows : List (List Value)} {r : List Value} (h : Rd w (some ⟨b, o, none⟩) k rows) (hr : rows[i]? = some r) {j : Nat} {v : Value} (hv : r[j]? = some v) : w.cell? ⟨b, o + i * k + j, none⟩ = some v := by
 obtain ⟨b', o', hA, _, hc⟩ := h i r hr
 injection hA with hA
 injection hA with e1 e2 _
 subst e1 e2
 exact hc j v hv
theorem word_kind (k : Int) : wordL [[104, 111, 117, 115, 101], [110, 101, 116], [103, 114, 111, 115, 115], [115, 101, 103]] k 1 = kindL k := by
 unfold wordL kindL
 by_cases h1 : k = 1
 ·subst h1; rfl
 by_cases h2 : k = 2
 ·subst h2; rfl
 by_cases h3 : k = 3
 ·subst h3; rfl
 by_cases h4 : k = 4
 ·subst h4; rfl
 rw [if_neg h1, if_neg h2, if_neg h3, if_neg h4, if_pos (by simp; omega)]
theorem cat_account (a b c : Str) : (⟨#[97, 99, 99, 111, 117, 110, 116, 32]⟩ : ByteArray) ++ ⟨a.toArray⟩ ++ ⟨#[32]⟩ ++ ⟨b.toArray⟩ ++ ⟨#[32, 109, 101, 109, 98, 101, 114, 32]⟩ ++ ⟨c.toArray⟩ = ⟨(lnL [wdAccount, a, b, wdMember, c]).toArray⟩ := by
 refine (cat_eq (cat_eq (m := [32, 109, 101, 109, 98, 101, 114, 32]) (cat_eq (cat_eq (m := [32]) (cat_eq (l := [97, 99, 99, 111, 117, 110, 116, 32]) rfl))))).trans ?_
 simp [lnL, Lib.join, List.intercalate]
theorem cat_margin (a b c : Str) : (⟨#[109, 97, 114, 103, 105, 110, 32]⟩ : ByteArray) ++ ⟨a.toArray⟩ ++ ⟨#[32, 110, 101, 101, 100, 32]⟩ ++ ⟨b.toArray⟩ ++ ⟨#[32, 101, 120, 99, 101, 115, 115, 32]⟩ ++ ⟨c.toArray⟩ = ⟨(lnL [wdMargin, a, wdNeed, b, wdExcess, c]).toArray⟩ := by
 refine (cat_eq (cat_eq (m := [32, 101, 120, 99, 101, 115, 115, 32]) (cat_eq (cat_eq (m := [32, 110, 101, 101, 100, 32]) (cat_eq (l := [109, 97, 114, 103, 105, 110, 32]) rfl))))).trans ?_
 simp [lnL, Lib.join, List.intercalate]
theorem ref36Account (s : StV) (a : AcctV) (w : World) (hs : GoodSt w s) (ha : GoodA w a) (hal : a.clients.val.length ≤ 40) (h64 : In64 a.id ∧ In64 a.member ∧ In64 a.kind ∧ ∀ z ∈ a.clients.val, In64 z) :
  Calls Tryz.prog 45 #[.agg #[.int .i64 (s).day, .slice (s).mem.A (s).mem.val.length (s).mem.c, .slice (s).ins.A (s).ins.val.length (s).ins.c, .slice (s).ats.A (s).ats.val.length (s).ats.c, .slice (s).acs.A (s).acs.val.length (s).acs.c, .slice (s).cho.A (s).cho.val.length (s).cho.c, .slice (s).grp.A (s).grp.val.length (s).grp.c, .slice (s).giv.A (s).giv.val.length (s).giv.c, .slice (s).bk.A (s).bk.val.length (s).bk.c, .slice (s).sale.A (s).sale.val.length (s).sale.c, .slice (s).pu.A (s).pu.val.length (s).pu.c, .slice (s).ho.A (s).ho.val.length (s).ho.c], .agg #[.int .i64 a.id, .int .i64 a.member, .int .i64 a.kind, .slice a.clients.A a.clients.val.length a.clients.c]] w fun e w' => ∃ v, e = .returned v ∧ Own w' w.heap.size 9 1 v ((accountL (repL s) (lgA a)).map encStr) ∧ Below w.heap.size w w' := by
 have CN1 := hid (fun W => ref36Num a.id W h64.1)
 have CN2 := hid (fun W => ref36Num a.member W h64.2.1)
 have CK := hid (fun A c W (h : Rd W A 1 ([[104, 111, 117, 115, 101], [110, 101, 116], [103, 114, 111, 115, 115], [115, 101, 103]].map encStr)) => (show Calls Tryz.prog 43 #[.slice A 4 c, .int .i64 a.kind, .int .i64 1] W fun e w' => e = .returned (strV (kindL a.kind)) ∧ Below W.heap.size W w' from by
  rw [← word_kind]; exact ref36Word _ a.kind 1 A c W h64.2.2.1 (by omega) (by simp) h))
 have CP := hid (fun u W (hu : In64 u.acc ∧ In64 u.cli) => ref36Place u W hu)
 have CM := hid (fun n c W (hn : In64 n) => ref36Maybe n c W hn)
 have CNO := hid (fun u W (h : Below w.heap.size w W) => (show Calls Tryz.prog 82 #[.slice s.ins.A s.ins.val.length s.ins.c, .slice s.bk.A s.bk.val.length s.bk.c, .agg #[.int .i64 a.id, .int .i64 a.member, .int .i64 a.kind, .slice a.clients.A a.clients.val.length a.clients.c], .agg #[.int .i64 u.acc, .int .i64 u.cli]] W fun e w' => e = .returned (.tuple #[.int .i64 (nofN (repL s).S.ins (repL s).S.bk (lgA a) u), .int .i64 (nofC (repL s).S.ins (repL s).S.bk (lgA a) u)]) ∧ Below W.heap.size W w' from
  ref25Of s.ins.val s.bk.val a u s.ins.A s.bk.A s.ins.c s.bk.c W (by have : s.ins.val.length ≤ 1000 := hs.side.li; omega) (by have : s.bk.val.length ≤ 1000 := hs.side.lb; omega) (by omega) hs.side.b64 (hs.side.ri.keep h) (fun x hx => ⟨(hs.side.gi x hx).1, (hs.side.gi x hx).2.keep h⟩) (hs.side.rb.keep h) (fun x hx => (hs.side.gb x hx).keep h) (ha.keep h)))
 have CEX := hid (fun u W (h : Below w.heap.size w W) => (show Calls Tryz.prog 83 #[.agg #[.slice s.ats.A s.ats.val.length s.ats.c, .slice s.ins.A s.ins.val.length s.ins.c, .slice s.bk.A s.bk.val.length s.bk.c, .slice s.pu.A s.pu.val.length s.pu.c, .slice s.ho.A s.ho.val.length s.ho.c], .agg #[.int .i64 a.id, .int .i64 a.member, .int .i64 a.kind, .slice a.clients.A a.clients.val.length a.clients.c], .agg #[.int .i64 u.acc, .int .i64 u.cli]] W fun e w' => e = .returned (.tuple #[.int .i64 (excN (repL s).S (lgA a) u), .int .i64 (excC (repL s).S (lgA a) u)]) ∧ Below W.heap.size W w' from
  ref27Excess (sideV s) a u W (hs.side.keep h) hs.oka (fun x hx => (hs.lh x hx).1) (ha.keep h) (by omega)))
 have CNU := hid (fun W (h : Below w.heap.size w W) => ref25UnitsO a W (by omega) (ha.keep h))
 have CAU := hid (fun W (h : Below w.heap.size w W) => ref15UnitsO a W (by omega) (ha.keep h))
 have CUN := hid (fun u W (hu : In64 u.acc ∧ In64 u.cli) (h : Below w.heap.size w W) => ref36Unit s u W (hs.keep h) hu)
 have hul := unitsN_len (lgA a)
 rw [show (lgA a).clients.length = a.clients.val.length from rfl] at hul
 have hua := unitsA_le (lgA a)
 rw [show (lgA a).clients.length = a.clients.val.length from rfl] at hua
 have HU64 := hid (unitsN_64 (a := lgA a) ⟨h64.1, h64.2.2.2⟩)
 have HA64 := hid (unitsA_64 (a := lgA a) ⟨h64.1, h64.2.2.2⟩)
 have HUU := hid (unitsL_le (unitL_le hs))
 have HU1 := hid (fun u => unitL_le hs u)
 have HEND0 := (show accountL (repL s) (lgA a) = lnL [wdAccount, Lib.itoa a.id, kindL a.kind, wdMember, Lib.itoa a.member] :: (marginsL (repL s) (lgA a) (unitsN (lgA a)) ++ unitsL (repL s) (unitsA (lgA a))) from rfl)
 have HN64 := hid (fun u => (nofN_pos (repL s).S.ins (repL s).S.bk (lgA a) u).2)
 have HE64 := hid (fun u => excN64 (repL s).S (lgA a) u)
 have hj1 := itoa_le h64.1
 have hj2 := itoa_le h64.2.1
 have hj3 := kind_le a.kind
 have HCA0 := cat_account (Lib.itoa a.id) (kindL a.kind) (Lib.itoa a.member)
 have HNE := hid (fun u => (show unitL (repL s) u ≠ [] from fun h => by cases h))
 generalize accountL (repL s) (lgA a) = AL at *
 generalize repL s = R at *
 generalize unitsN (lgA a) = US at *
 generalize unitsA (lgA a) = UA at *
 obtain ⟨L0, hL0⟩ : ∃ L, L = lnL [wdAccount, Lib.itoa a.id, kindL a.kind, wdMember, Lib.itoa a.member] := ⟨_, rfl⟩
 rw [← hL0] at HCA0 HEND0
 obtain ⟨L1, hL1⟩ : ∃ L, L = [L0] := ⟨_, rfl⟩
 obtain ⟨L2, hL2⟩ : ∃ L, L = L1 ++ marginsL R (lgA a) US := ⟨_, rfl⟩
 have HEND := hid (show AL = L2 ++ unitsL R UA from by rw [hL2, hL1, HEND0]; simp)
 have l1 : L1.length ≤ 1 := by rw [hL1]; simp
 have l2 : L2.length ≤ 43 := by rw [hL2]; simp [marginsL]; omega
 have HL1 := hid hL1
 have HL2 := hid hL2
 have HCA := hid HCA0
 clear hs ha h64 hL0 hL1 hL2 HEND0 HCA0
 generalize Lib.itoa a.id = J1 at *
 generalize Lib.itoa a.member = J2 at *
 generalize kindL a.kind = J3 at *
 have q1 : ¬ 9223372036854775807 < 8 + J1.length := by omega
 have q2 : ¬ 9223372036854775807 < 8 + J1.length + 1 := by omega
 have q3 : ¬ 9223372036854775807 < 8 + J1.length + 1 + J3.length := by omega
 have q4 : ¬ 9223372036854775807 < 8 + J1.length + 1 + J3.length + 8 := by omega
 have q5 : ¬ 9223372036854775807 < 8 + J1.length + 1 + J3.length + 8 + J2.length := by omega
 go_enter Tryz.func45, Tryz.ntmps45
 go_wp2_with fail
 have HKD := hid (show Rd (((w.alloc (.cells #[.int .i64 (s).day, .slice (s).mem.A (s).mem.val.length (s).mem.c, .slice (s).ins.A (s).ins.val.length (s).ins.c, .slice (s).ats.A (s).ats.val.length (s).ats.c, .slice (s).acs.A (s).acs.val.length (s).acs.c, .slice (s).cho.A (s).cho.val.length (s).cho.c, .slice (s).grp.A (s).grp.val.length (s).grp.c, .slice (s).giv.A (s).giv.val.length (s).giv.c, .slice (s).bk.A (s).bk.val.length (s).bk.c, .slice (s).sale.A (s).sale.val.length (s).sale.c, .slice (s).pu.A (s).pu.val.length (s).pu.c, .slice (s).ho.A (s).ho.val.length (s).ho.c] 33)).alloc (.cells #[.int .i64 a.id, .int .i64 a.member, .int .i64 a.kind, .slice a.clients.A a.clients.val.length a.clients.c] 54)).alloc (.cells #[.string ⟨#[104, 111, 117, 115, 101]⟩, .string ⟨#[110, 101, 116]⟩, .string ⟨#[103, 114, 111, 115, 115]⟩, .string ⟨#[115, 101, 103]⟩] 9)) (some ⟨w.heap.size + 2, 0, none⟩) 1 ([[104, 111, 117, 115, 101], [110, 101, 116], [103, 114, 111, 115, 115], [115, 101, 103]].map encStr) from rd_strs (by simp) rfl)
 go_region_held3 (fun w' => (w'.cell? ⟨w.heap.size + 1, 0, none⟩ = some (.int .i64 a.id) ∧ w'.cell? ⟨w.heap.size + 1, 1, none⟩ = some (.int .i64 a.member) ∧ w'.cell? ⟨w.heap.size + 1, 2, none⟩ = some (.int .i64 a.kind))) (exact tK) (first | (go_at_call 42; (with_reducible refine cM (CN1.out _) fun w1 hb1 fc1 fg1 hc1 hf1 hz1 => ?_); (try simp at hz1)) | (go_at_call 43; (with_reducible refine cM (CK.out _ _ _ (HKD.out.keep tB)) fun w2 hb2 fc2 fg2 hc2 hf2 hz2 => ?_); (try simp at hz2)) | (go_at_call 42; (with_reducible refine cM (CN2.out _) fun w3 hb3 fc3 fg3 hc3 hf3 hz3 => ?_); (try simp at hz3)) | fail)
 all_goals
  rw [HCA.out]
  have yk : Below (w.heap.size + 2) (((w.alloc (.cells #[.int .i64 (s).day, .slice (s).mem.A (s).mem.val.length (s).mem.c, .slice (s).ins.A (s).ins.val.length (s).ins.c, .slice (s).ats.A (s).ats.val.length (s).ats.c, .slice (s).acs.A (s).acs.val.length (s).acs.c, .slice (s).cho.A (s).cho.val.length (s).cho.c, .slice (s).grp.A (s).grp.val.length (s).grp.c, .slice (s).giv.A (s).giv.val.length (s).giv.c, .slice (s).bk.A (s).bk.val.length (s).bk.c, .slice (s).sale.A (s).sale.val.length (s).sale.c, .slice (s).pu.A (s).pu.val.length (s).pu.c, .slice (s).ho.A (s).ho.val.length (s).ho.c] 33)).alloc (.cells #[.int .i64 a.id, .int .i64 a.member, .int .i64 a.kind, .slice a.clients.A a.clients.val.length a.clients.c] 54)).alloc (.cells #[.string ⟨#[104, 111, 117, 115, 101]⟩, .string ⟨#[110, 101, 116]⟩, .string ⟨#[103, 114, 111, 115, 115]⟩, .string ⟨#[115, 101, 103]⟩] 9)) (w3.alloc (.cells #[.string ⟨L0.toArray⟩] 9)) := by exact tB
  have KS := hid (show Blk (w3.alloc (.cells #[.string ⟨L0.toArray⟩] 9)) w.heap.size 33 #[.int .i64 (s).day, .slice (s).mem.A (s).mem.val.length (s).mem.c, .slice (s).ins.A (s).ins.val.length (s).ins.c, .slice (s).ats.A (s).ats.val.length (s).ats.c, .slice (s).acs.A (s).acs.val.length (s).acs.c, .slice (s).cho.A (s).cho.val.length (s).cho.c, .slice (s).grp.A (s).grp.val.length (s).grp.c, .slice (s).giv.A (s).giv.val.length (s).giv.c, .slice (s).bk.A (s).bk.val.length (s).bk.c, .slice (s).sale.A (s).sale.val.length (s).sale.c, .slice (s).pu.A (s).pu.val.length (s).pu.c, .slice (s).ho.A (s).ho.val.length (s).ho.c] from Blk.below (B := w.heap.size + 2) tL yk (by omega))
  have KA := hid (show Blk (w3.alloc (.cells #[.string ⟨L0.toArray⟩] 9)) (w.heap.size + 1) 54 #[.int .i64 a.id, .int .i64 a.member, .int .i64 a.kind, .slice a.clients.A a.clients.val.length a.clients.c] from Blk.below (B := w.heap.size + 2) tL yk (by omega))
  have HOW := hid (show Own (w3.alloc (.cells #[.string ⟨L0.toArray⟩] 9)) (w.heap.size + 2) 9 1 (.slice (some ⟨w3.heap.size, 0, none⟩) 1 1) (L1.map encStr) from by rw [HL1.out]; exact own_lit (by omega) (Blk.here rfl))
  have HWR := hid (show Below w.heap.size w (w3.alloc (.cells #[.string ⟨L0.toArray⟩] 9)) from by exact tB)
  have yl : w.heap.size + 2 < (w3.alloc (.cells #[.string ⟨L0.toArray⟩] 9)).heap.size := by simp; omega
  clear hc1 hf1 hb1 hc2 hf2 hb2 hc3 hf3 hb3 yk HKD
  generalize (w3.alloc (.cells #[.string ⟨L0.toArray⟩] 9)) = wr at *
  have y0 := (KS.out).cell 0; have y1 := (KS.out).cell 1; have y2 := (KS.out).cell 2; have y3 := (KS.out).cell 3; have y4 := (KS.out).cell 4; have y5 := (KS.out).cell 5; have y6 := (KS.out).cell 6; have y7 := (KS.out).cell 7; have y8 := (KS.out).cell 8; have y9 := (KS.out).cell 9; have y10 := (KS.out).cell 10; have y11 := (KS.out).cell 11; (simp only [List.getElem?_toArray, List.getElem?_cons_zero, List.getElem?_cons_succ] at y0 y1 y2 y3 y4 y5 y6 y7 y8 y9 y10 y11)
  have za0 := KA.out.cell 0
  have za1 := KA.out.cell 1
  have za2 := KA.out.cell 2
  have za3 := KA.out.cell 3
  (simp only [List.getElem?_toArray, List.getElem?_cons_zero, List.getElem?_cons_succ] at za0 za1 za2 za3)
  go_wp2_with (first | (go_at_call 81; (with_reducible refine (CNU.out _ (by have h := HWR.out; exact tB)).mono ?_); rintro e w6 ⟨v6, rfl, hown6, hb6⟩; obtain ⟨A6, c6, hv6, _, _⟩ := hown6.rs; (rw [List.length_map] at hv6); subst hv6; have HO6 := hid hown6; clear hown6; obtain ⟨fc6, fg6, hc6, hf6, hz6⟩ := bget hb6; (try simp at hz6)) | fail)
  have H67 := hid (show Below w6.heap.size w6 (w6.alloc (.cells #[.slice s.ats.A s.ats.val.length s.ats.c, .slice s.ins.A s.ins.val.length s.ins.c, .slice s.bk.A s.bk.val.length s.bk.c, .slice s.pu.A s.pu.val.length s.pu.c, .slice s.ho.A s.ho.val.length s.ho.c] 144)) from by exact tB)
  have KS7 := hid (KS.out.below (hb6.trans (H67.out.mono hb6.size)) KS.out.lt)
  have KA7 := hid (KA.out.below (hb6.trans (H67.out.mono hb6.size)) KA.out.lt)
  have KD7 := hid (show Blk (w6.alloc (.cells #[.slice s.ats.A s.ats.val.length s.ats.c, .slice s.ins.A s.ins.val.length s.ins.c, .slice s.bk.A s.bk.val.length s.bk.c, .slice s.pu.A s.pu.val.length s.pu.c, .slice s.ho.A s.ho.val.length s.ho.c] 144)) w6.heap.size 144 #[.slice s.ats.A s.ats.val.length s.ats.c, .slice s.ins.A s.ins.val.length s.ins.c, .slice s.bk.A s.bk.val.length s.bk.c, .slice s.pu.A s.pu.val.length s.pu.c, .slice s.ho.A s.ho.val.length s.ho.c] from Blk.here rfl)
  have HU7 := hid (HO6.out.keep H67.out)
  have HW7 := hid (HWR.out.trans ((hb6.trans (H67.out.mono hb6.size)).mono (by omega)))
  have HO7 := hid (HOW.out.keep (hb6.trans (H67.out.mono hb6.size)))
  have hz7 : wr.heap.size < (w6.alloc (.cells #[.slice s.ats.A s.ats.val.length s.ats.c, .slice s.ins.A s.ins.val.length s.ins.c, .slice s.bk.A s.bk.val.length s.bk.c, .slice s.pu.A s.pu.val.length s.pu.c, .slice s.ho.A s.ho.val.length s.ho.c] 144)).heap.size := by simp; omega
  clear hc6 hf6 hb6 y0 y1 y2 y3 y4 y5 y6 y7 y8 y9 y10 y11 za0 za1 za2 za3 KS KA HO6 HOW HWR H67
  generalize hgs : w6.heap.size = gs at *
  generalize w6.alloc (.cells #[.slice s.ats.A s.ats.val.length s.ats.c, .slice s.ins.A s.ins.val.length s.ins.c, .slice s.bk.A s.bk.val.length s.bk.c, .slice s.pu.A s.pu.val.length s.pu.c, .slice s.ho.A s.ho.val.length s.ho.c] 144) = w7 at *
  go_loopw [6, 9] (fun v i wx => ∃ k : Nat, k ≤ US.length ∧ i = .int .i64 k ∧ Own wx (w.heap.size + 2) 9 1 v ((L1 ++ marginsL R (lgA a) (US.take k)).map encStr) ∧ Below (w.heap.size + 2) w7 wx ∧ Away 9 w7 wx) (fun _ i _ => US.length - (intOf i).toNat)
  case atStart => exact ⟨0, Nat.zero_le _, rfl, by rw [List.take_zero]; show Own _ _ _ _ _ ((L1 ++ []).map encStr); rw [List.append_nil]; exact HO7.out, Below.refl _ _, Away.refl _ _⟩
  case round =>
   obtain ⟨k, hk, rfl, hown, hbl, haw⟩ := hrel
   have Hown := hid hown
   have Hbl := hid hbl
   have Haw := hid haw
   have hzx := hbl.size
   have KS := hid (KS7.out.below hbl (by omega))
   have KA := hid (KA7.out.below hbl (by omega))
   have KD := hid (haw.blk KD7.out (by decide))
   have HWX := hid (HW7.out.trans (hbl.mono (by omega)))
   have kdl := KD.out.lt
   clear hown hbl haw
   by_cases hlt : k < US.length
   ·have kl : (k : Int) < (US.length : Int) := by omega
    have dl := @dT k US.length hlt
    have k0 : (0 : Int) ≤ (k : Int) := by omega
    obtain ⟨b, o, rfl, hb, hc⟩ := (HU7.out.away Haw.out (by decide)).rd.1 k (encUn US[k]) (by simp [hlt])
    have e0 := hc 0 _ rfl
    have e1 := hc 1 _ rfl
    simp only [Nat.add_zero] at e0
    clear hc
    have hu64 := HU64.out US[k] (List.getElem_mem hlt)
    have HM := hid (show (L1 ++ marginsL R (lgA a) (US.take (k + 1))).map encStr = (L1 ++ marginsL R (lgA a) (US.take k)).map encStr ++ [encStr (lnL [wdMargin, placeL US[k], wdNeed, maybeL (nofN R.S.ins R.S.bk (lgA a) US[k]) (nofC R.S.ins R.S.bk (lgA a) US[k]), wdExcess, maybeL (excN R.S (lgA a) US[k]) (excC R.S (lgA a) US[k])])] from by unfold marginsL; rw [map_snoc hlt, ← List.append_assoc, List.map_append]; rfl)
    have hlen : ((L1 ++ marginsL R (lgA a) (US.take k)).map encStr).length ≤ 1000 := by unfold marginsL; simp; omega
    have CNO1 := hid (CNO.out US[k])
    have CEX1 := hid (CEX.out US[k])
    have CP1 := hid (fun W => CP.out US[k] W hu64)
    have hn64 := HN64.out US[k]
    have he64 := HE64.out US[k]
    have hpl := place_le hu64
    generalize nofN R.S.ins R.S.bk (lgA a) US[k] = n1 at *
    generalize nofC R.S.ins R.S.bk (lgA a) US[k] = c1 at *
    generalize excN R.S (lgA a) US[k] = n2 at *
    generalize excC R.S (lgA a) US[k] = c2 at *
    have hm1 := maybe_le (e := c1) hn64
    have hm2 := maybe_le (e := c2) he64
    have CM1 := hid (fun W => CM.out n1 c1 W hn64)
    have CM2 := hid (fun W => CM.out n2 c2 W he64)
    have HE0 := cat_margin (placeL US[k]) (maybeL n1 c1) (maybeL n2 c2)
    generalize lnL [wdMargin, placeL US[k], wdNeed, maybeL n1 c1, wdExcess, maybeL n2 c2] = L at *
    generalize placeL US[k] = J5 at *
    generalize maybeL n1 c1 = J6 at *
    generalize maybeL n2 c2 = J7 at *
    generalize (L1 ++ marginsL R (lgA a) (US.take k)).map encStr = RW at *
    have HE := hid HE0
    have p1 : ¬ 9223372036854775807 < 7 + J5.length := by omega
    have p2 : ¬ 9223372036854775807 < 7 + J5.length + 6 := by omega
    have p3 : ¬ 9223372036854775807 < 7 + J5.length + 6 + J6.length := by omega
    have p4 : ¬ 9223372036854775807 < 7 + J5.length + 6 + J6.length + 8 := by omega
    have p5 : ¬ 9223372036854775807 < 7 + J5.length + 6 + J6.length + 8 + J7.length := by omega
    clear HE0
    have y0 := (KS.out).cell 0; have y1 := (KS.out).cell 1; have y2 := (KS.out).cell 2; have y3 := (KS.out).cell 3; have y4 := (KS.out).cell 4; have y5 := (KS.out).cell 5; have y6 := (KS.out).cell 6; have y7 := (KS.out).cell 7; have y8 := (KS.out).cell 8; have y9 := (KS.out).cell 9; have y10 := (KS.out).cell 10; have y11 := (KS.out).cell 11; (simp only [List.getElem?_toArray, List.getElem?_cons_zero, List.getElem?_cons_succ] at y0 y1 y2 y3 y4 y5 y6 y7 y8 y9 y10 y11)
    have za0 := KA.out.cell 0
    have za1 := KA.out.cell 1
    have za2 := KA.out.cell 2
    have za3 := KA.out.cell 3
    have d0 := KD.out.cell 0
    have d1 := KD.out.cell 1
    have d2 := KD.out.cell 2
    have d3 := KD.out.cell 3
    have d4 := KD.out.cell 4
    (simp only [List.getElem?_toArray, List.getElem?_cons_zero, List.getElem?_cons_succ] at za0 za1 za2 za3 d0 d1 d2 d3 d4)
    go_wp2_with fail
    go_region_held3 (fun w' => (w'.cell? ⟨w.heap.size, 2, none⟩ = some (.slice s.ins.A s.ins.val.length s.ins.c) ∧ w'.cell? ⟨w.heap.size, 8, none⟩ = some (.slice s.bk.A s.bk.val.length s.bk.c)) ∧ (w'.cell? ⟨w.heap.size + 1, 0, none⟩ = some (.int .i64 a.id) ∧ w'.cell? ⟨w.heap.size + 1, 1, none⟩ = some (.int .i64 a.member) ∧ w'.cell? ⟨w.heap.size + 1, 2, none⟩ = some (.int .i64 a.kind) ∧ w'.cell? ⟨w.heap.size + 1, 3, none⟩ = some (.slice a.clients.A a.clients.val.length a.clients.c)) ∧ w'.cell? ⟨b, o + k * 2, none⟩ = some (.int .i64 US[k].acc) ∧ w'.cell? ⟨b, o + k * 2 + 1, none⟩ = some (.int .i64 US[k].cli)) (exact tK) (first | (go_at_call 82; (with_reducible refine cM (CNO1.out _ (by have h := HWX.out; exact tB)) fun w1 hb1 fc1 fg1 hc1 hf1 hz1 => ?_); (try simp at hz1)) | fail)
    all_goals
     go_wp2_with fail
     go_region_held3 (fun w' => (w'.cell? ⟨gs, 0, none⟩ = some (.slice s.ats.A s.ats.val.length s.ats.c) ∧ w'.cell? ⟨gs, 1, none⟩ = some (.slice s.ins.A s.ins.val.length s.ins.c) ∧ w'.cell? ⟨gs, 2, none⟩ = some (.slice s.bk.A s.bk.val.length s.bk.c) ∧ w'.cell? ⟨gs, 3, none⟩ = some (.slice s.pu.A s.pu.val.length s.pu.c) ∧ w'.cell? ⟨gs, 4, none⟩ = some (.slice s.ho.A s.ho.val.length s.ho.c)) ∧ (w'.cell? ⟨w.heap.size + 1, 0, none⟩ = some (.int .i64 a.id) ∧ w'.cell? ⟨w.heap.size + 1, 1, none⟩ = some (.int .i64 a.member) ∧ w'.cell? ⟨w.heap.size + 1, 2, none⟩ = some (.int .i64 a.kind) ∧ w'.cell? ⟨w.heap.size + 1, 3, none⟩ = some (.slice a.clients.A a.clients.val.length a.clients.c)) ∧ w'.cell? ⟨b, o + k * 2, none⟩ = some (.int .i64 US[k].acc) ∧ w'.cell? ⟨b, o + k * 2 + 1, none⟩ = some (.int .i64 US[k].cli)) (exact tK) (first | (go_at_call 83; (with_reducible refine cM (CEX1.out _ (by have h := HWX.out; exact tB)) fun w2 hb2 fc2 fg2 hc2 hf2 hz2 => ?_); (try simp at hz2)) | fail)
     all_goals
      go_wp2_with (first | (go_at_call 84; (with_reducible refine cM (CP1.out _) fun w3 hb3 fc3 fg3 hc3 hf3 hz3 => ?_); (try simp at hz3)) | (go_at_call 44; (with_reducible refine cM (CM1.out _) fun w4 hb4 fc4 fg4 hc4 hf4 hz4 => ?_); (try simp at hz4)) | (go_at_call 44; (with_reducible refine cM (CM2.out _) fun w5 hb5 fc5 fg5 hc5 hf5 hz5 => ?_); (try simp at hz5)) | (at_builtin; refine wpList_appG rfl _ _ _ rfl elStr (w.heap.size + 2) _ _ rfl (Hown.out.keep tB) ⟨_, 0, none⟩ 1 1 rfl [encStr L] rfl (rd_strs (ws := [L]) (by simp) (congrArg (fun b => [Value.string b]) HE.out)) (rowsStr [L]) (by unfold maxLen; exact tE) tE tZ ?_; intro v8 w8 hown8 hb8 hg8; have HO8 := hid hown8; have HG8 := hid hg8; clear hown8 hg8) | fail)
      go_roundw
      case rel => exact ⟨k + 1, by omega, by go_num, by rw [HM.out]; exact HO8.out, by have h1 := Hbl.out; exact tB, Haw.out.trans ((Away.below (show Below wr.heap.size wr _ by exact tB)).trans (Away.grown HG8.out (Own.typed (Hown.out.keep tB))))⟩
      case measure => simp [intOf]; omega
   ·have dl := @dF k US.length hlt
    have HT1 := hid (show L1 ++ marginsL R (lgA a) (US.take k) = L2 from by rw [List.take_of_length_le (by omega)]; exact HL2.out.symm)
    rw [HT1.out] at Hown
    have za0 := KA.out.cell 0
    have za1 := KA.out.cell 1
    have za2 := KA.out.cell 2
    have za3 := KA.out.cell 3
    (simp only [List.getElem?_toArray, List.getElem?_cons_zero, List.getElem?_cons_succ] at za0 za1 za2 za3)
    go_wp2_with (first | (go_at_call 34; (with_reducible refine (CAU.out _ (by have h := HWX.out; exact tB)).mono ?_); rintro e w8 ⟨v8, rfl, hown8, hb8⟩; obtain ⟨A8, c8, hv8, _, _⟩ := hown8.rs; (rw [List.length_map] at hv8); subst hv8; have HU8 := hid hown8; clear hown8; obtain ⟨fc8, fg8, hc8, hf8, hz8⟩ := bget hb8; (try simp at hz8)) | fail)
    have H8 := hid (show Below wr.heap.size wr w8 from by exact tB)
    have hz8 := H8.out.size
    have KS8 := hid (KS.out.below H8.out KS.out.lt)
    have HO8 := hid (Hown.out.keep H8.out)
    have HW8 := hid (HWX.out.trans (H8.out.mono (by omega)))
    clear hc8 hf8 hb8 za0 za1 za2 za3 KS KA KD Hown Hbl Haw HWX H8 kdl
    go_loopw [6, 15] (fun v i wx => ∃ k : Nat, k ≤ UA.length ∧ i = .int .i64 k ∧ Own wx (w.heap.size + 2) 9 1 v ((L2 ++ unitsL R (UA.take k)).map encStr) ∧ Below (w.heap.size + 2) w8 wx ∧ Away 9 w8 wx) (fun _ i _ => UA.length - (intOf i).toNat)
    case atStart => exact ⟨0, Nat.zero_le _, rfl, by rw [List.take_zero]; show Own _ _ _ _ _ ((L2 ++ []).map encStr); rw [List.append_nil]; exact HO8.out, Below.refl _ _, Away.refl _ _⟩
    case round =>
     obtain ⟨k, hk, rfl, hown, hbl, haw⟩ := hrel
     have Hown := hid hown
     have Hbl := hid hbl
     have Haw := hid haw
     have hzx := hbl.size
     have KS := hid (KS8.out.below hbl (by omega))
     have HWX := hid (HW8.out.trans (hbl.mono (by omega)))
     clear hown hbl haw
     by_cases hlt : k < UA.length
     ·have kl : (k : Int) < (UA.length : Int) := by omega
      have dl := @dT k UA.length hlt
      have k0 : (0 : Int) ≤ (k : Int) := by omega
      obtain ⟨b, o, rfl, hb, hc⟩ := (HU8.out.away Haw.out (by decide)).rd.1 k (encUn UA[k]) (by simp [hlt])
      have e0 := hc 0 _ rfl
      have e1 := hc 1 _ rfl
      simp only [Nat.add_zero] at e0
      clear hc
      have hu64 := HA64.out UA[k] (List.getElem_mem hlt)
      have HM := hid (show (L2 ++ unitsL R (UA.take (k + 1))).map encStr = (L2 ++ unitsL R (UA.take k)).map encStr ++ (unitL R UA[k]).map encStr from by rw [unitsL_snoc hlt, ← List.append_assoc, List.map_append])
      have hlen : ((L2 ++ unitsL R (UA.take k)).map encStr).length ≤ 100000 := by
       have := HUU.out (UA.take k)
       rw [List.length_take] at this
       rw [List.length_map, List.length_append]
       omega
      have hl1 := HU1.out UA[k]
      have hne := HNE.out UA[k]
      have CU1 := hid (fun W (h : Below w.heap.size w W) => CUN.out UA[k] W hu64 h)
      generalize unitL R UA[k] = UL at *
      generalize (L2 ++ unitsL R (UA.take k)).map encStr = RW at *
      have y0 := (KS.out).cell 0; have y1 := (KS.out).cell 1; have y2 := (KS.out).cell 2; have y3 := (KS.out).cell 3; have y4 := (KS.out).cell 4; have y5 := (KS.out).cell 5; have y6 := (KS.out).cell 6; have y7 := (KS.out).cell 7; have y8 := (KS.out).cell 8; have y9 := (KS.out).cell 9; have y10 := (KS.out).cell 10; have y11 := (KS.out).cell 11; (simp only [List.getElem?_toArray, List.getElem?_cons_zero, List.getElem?_cons_succ] at y0 y1 y2 y3 y4 y5 y6 y7 y8 y9 y10 y11)
      go_wp2_with fail
      go_region_held3 (fun w' => ((w').cell? ⟨w.heap.size, 0, none⟩ = some (.int .i64 (s).day) ∧ (w').cell? ⟨w.heap.size, 1, none⟩ = some (.slice (s).mem.A (s).mem.val.length (s).mem.c) ∧ (w').cell? ⟨w.heap.size, 2, none⟩ = some (.slice (s).ins.A (s).ins.val.length (s).ins.c) ∧ (w').cell? ⟨w.heap.size, 3, none⟩ = some (.slice (s).ats.A (s).ats.val.length (s).ats.c) ∧ (w').cell? ⟨w.heap.size, 4, none⟩ = some (.slice (s).acs.A (s).acs.val.length (s).acs.c) ∧ (w').cell? ⟨w.heap.size, 5, none⟩ = some (.slice (s).cho.A (s).cho.val.length (s).cho.c) ∧ (w').cell? ⟨w.heap.size, 6, none⟩ = some (.slice (s).grp.A (s).grp.val.length (s).grp.c) ∧ (w').cell? ⟨w.heap.size, 7, none⟩ = some (.slice (s).giv.A (s).giv.val.length (s).giv.c) ∧ (w').cell? ⟨w.heap.size, 8, none⟩ = some (.slice (s).bk.A (s).bk.val.length (s).bk.c) ∧ (w').cell? ⟨w.heap.size, 9, none⟩ = some (.slice (s).sale.A (s).sale.val.length (s).sale.c) ∧ (w').cell? ⟨w.heap.size, 10, none⟩ = some (.slice (s).pu.A (s).pu.val.length (s).pu.c) ∧ (w').cell? ⟨w.heap.size, 11, none⟩ = some (.slice (s).ho.A (s).ho.val.length (s).ho.c)) ∧ w'.cell? ⟨b, o + k * 2, none⟩ = some (.int .i64 UA[k].acc) ∧ w'.cell? ⟨b, o + k * 2 + 1, none⟩ = some (.int .i64 UA[k].cli)) (exact tK) (first | (go_at_call 46; (with_reducible refine (CU1.out _ (by have h := HWX.out; exact tB)).mono ?_); rintro e w4 ⟨v4, rfl, hown4, hb4⟩; obtain ⟨A4, c4, hv4, hrs4, hf4⟩ := hown4.rs; (rw [List.length_map] at hv4); subst hv4; obtain ⟨g4, rfl⟩ : ∃ g, A4 = some ⟨g, 0, none⟩ := (by rcases hf4 with ⟨_, h, _⟩ | ⟨g, h, _⟩; exact absurd (List.map_eq_nil_iff.1 h) hne; exact ⟨g, h⟩); have HS4 := hid hrs4.rd; clear hown4 hrs4 hf4; obtain ⟨fc4, fg4, hc4, hf4, hz4⟩ := bget hb4; (try simp at hz4)) | (refine step_appG rfl _ _ _ rfl elStr (w.heap.size + 2) _ _ rfl (Hown.out.keep tB) ⟨_, 0, none⟩ UL.length c4 rfl (UL.map encStr) (by simp) (HS4.out.keep tB) (rowsStr UL) (by unfold maxLen; omega) (by omega) tZ ?_; intro v9 w9 hown9 hb9 hg9; have HA9 := hid (show Away 9 w8 w9 from Haw.out.trans ((Away.below (show Below wr.heap.size wr _ by exact tB)).trans (Away.grown hg9 (Own.typed (Hown.out.keep tB))))); have x0 := rd_at (HU8.out.away HA9.out (by decide)).rd.1 (i := k) (r := encUn UA[k]) (by simp [hlt]) (j := 0) rfl; have x1 := rd_at (HU8.out.away HA9.out (by decide)).rd.1 (i := k) (r := encUn UA[k]) (by simp [hlt]) (j := 1) rfl; (simp only [Nat.add_zero] at x0); have HO9 := hid hown9; clear hown9 hg9; obtain ⟨fc9, fg9, hc9, hf9, hz9⟩ := bget hb9; (try simp at hz9)) | fail)
      all_goals
       go_wp2_with fail
       go_roundw
       case rel => exact ⟨k + 1, by omega, by go_num, by rw [HM.out]; exact HO9.out, by have h1 := Hbl.out; exact tB, HA9.out⟩
       case measure => simp [intOf]; omega
     ·have dl := @dF k UA.length hlt
      have HT2 := hid (show L2 ++ unitsL R (UA.take k) = AL from by rw [List.take_of_length_le (by omega)]; exact HEND.out.symm)
      rw [HT2.out] at Hown
      go_wp2_with fail
      go_ret
      exact ⟨_, rfl, Hown.out.mono (by omega), HWX.out⟩
theorem word_phase (k : Int) : wordL [[97, 99, 116, 105, 118, 101], [119, 105, 110, 100, 111, 119], [115, 101, 108, 108, 105, 110, 103], [99, 108, 111, 115, 101, 100]] k 0 = phaseL k := by
 unfold wordL phaseL
 by_cases h1 : k = 0
 ·subst h1; rfl
 by_cases h2 : k = 1
 ·subst h2; rfl
 by_cases h3 : k = 2
 ·subst h3; rfl
 by_cases h4 : k = 3
 ·subst h4; rfl
 rw [if_neg h1, if_neg h2, if_neg h3, if_neg h4, if_pos (by simp; omega)]
theorem cat_member (a b c d e : Str) : (⟨#[109, 101, 109, 98, 101, 114, 32]⟩ : ByteArray) ++ ⟨a.toArray⟩ ++ ⟨#[32]⟩ ++ ⟨b.toArray⟩ ++ ⟨#[32, 117, 110, 116, 105, 108, 32]⟩ ++ ⟨c.toArray⟩ ++ ⟨#[32, 99, 97, 112, 32]⟩ ++ ⟨d.toArray⟩ ++ ⟨#[32, 117, 115, 101, 100, 32]⟩ ++ ⟨e.toArray⟩ = ⟨(lnL [wdMember, a, b, wdUntil, c, wdCap, d, wdUsed, e]).toArray⟩ := by
 refine (cat_eq (cat_eq (m := [32, 117, 115, 101, 100, 32]) (cat_eq (cat_eq (m := [32, 99, 97, 112, 32]) (cat_eq (cat_eq (m := [32, 117, 110, 116, 105, 108, 32]) (cat_eq (cat_eq (m := [32]) (cat_eq (l := [109, 101, 109, 98, 101, 114, 32]) rfl))))))))).trans ?_
 simp [lnL, Lib.join, List.intercalate]
theorem findMb_id {l : List Mb} {id : Int} (h : (findMb l id).2 = true) : (findMb l id).1.id = id := by
 unfold findMb at h ⊢
 cases hf : l.find? (fun m => m.id == id) with
 | none => rw [hf] at h; cases h
 | some m => simpa using List.find?_some hf
theorem accounts_step {R : RepL} {L : List Acct} {id : Int} {k : Nat} (h : k < L.length) : accountsL R (ofL (L.take (k + 1)) id) = accountsL R (ofL (L.take k) id) ++ if L[k].member = id then accountL R L[k] else [] := by
 rw [List.take_succ_eq_append_getElem h]
 unfold ofL
 rw [List.filter_append, accountsL_app, List.filter_cons]
 by_cases hm : L[k].member = id
 ·rw [if_pos (by simpa using hm), if_pos hm]
  show _ ++ (_ ++ []) = _
  rw [List.append_nil]
 ·rw [if_neg (by simpa using hm), if_neg hm]
  rfl
theorem ref36Member (s : StV) (id : Int) (w : World) (hs : GoodSt w s) (hid : In64 id) :
  Calls Tryz.prog 13 #[.agg #[.int .i64 (s).day, .slice (s).mem.A (s).mem.val.length (s).mem.c, .slice (s).ins.A (s).ins.val.length (s).ins.c, .slice (s).ats.A (s).ats.val.length (s).ats.c, .slice (s).acs.A (s).acs.val.length (s).acs.c, .slice (s).cho.A (s).cho.val.length (s).cho.c, .slice (s).grp.A (s).grp.val.length (s).grp.c, .slice (s).giv.A (s).giv.val.length (s).giv.c, .slice (s).bk.A (s).bk.val.length (s).bk.c, .slice (s).sale.A (s).sale.val.length (s).sale.c, .slice (s).pu.A (s).pu.val.length (s).pu.c, .slice (s).ho.A (s).ho.val.length (s).ho.c], .int .i64 id] w fun e w' => ∃ v, e = .returned v ∧ Own w' w.heap.size 9 1 v ((memberOf (repL s) id).map encStr) ∧ Below w.heap.size w w' := by
 have cf := fun W (h : Below w.heap.size w W) => ref14Find s.mem.val id s.mem.A s.mem.c W (by have := hs.lm; omega) (hs.rm.keep h)
 have hok := findMb_ok hs.om id
 have hfi := findMb_id (l := s.mem.val) (id := id)
 have HM := Lib.hid (show memberOf (repL s) id = if (findMb s.mem.val id).2 then memberL (repL s) (findMb s.mem.val id).1 else [] from rfl)
 have CPU := Lib.hid (fun W (h : Below w.heap.size w W) => (show Calls Tryz.prog 41 #[.agg #[.int .i64 (s).day, .slice (s).mem.A (s).mem.val.length (s).mem.c, .slice (s).ins.A (s).ins.val.length (s).ins.c, .slice (s).ats.A (s).ats.val.length (s).ats.c, .slice (s).acs.A (s).acs.val.length (s).acs.c, .slice (s).cho.A (s).cho.val.length (s).cho.c, .slice (s).grp.A (s).grp.val.length (s).grp.c, .slice (s).giv.A (s).giv.val.length (s).giv.c, .slice (s).bk.A (s).bk.val.length (s).bk.c, .slice (s).sale.A (s).sale.val.length (s).sale.c, .slice (s).pu.A (s).pu.val.length (s).pu.c, .slice (s).ho.A (s).ho.val.length (s).ho.c], .int .i64 id] W fun e w' => e = .returned (.tuple #[.int .i64 (heldN (repL s).S.bk (unitsOfL (ofL (repL s).acs id))), .int .i64 (heldC (repL s).S.bk (unitsOfL (ofL (repL s).acs id)))]) ∧ Below W.heap.size W w' from
  ref29Used s id W hs.lc (hs.rc.rd.keep h) (fun x hx => ⟨Nat.le_trans (hs.gc x hx).1 (by omega), (hs.gc x hx).2.keep h⟩) hs.side.lb hs.side.b64 (hs.side.rb.keep h) (fun x hx => (hs.side.gb x hx).keep h) (fun x hx => Nat.le_trans (hs.lb x hx).1 (by omega))))
 generalize hmo : memberOf (repL s) id = MO at *
 generalize findMb s.mem.val id = ff at *
 obtain ⟨m, fb⟩ := ff
 clear hmo
 cases fb
 ·have CF := Lib.hid cf
  have HE := Lib.hid (show MO = [] from HM.out)
  clear cf hok HM hfi CPU hs
  go_enter Tryz.func13, Tryz.ntmps13
  go_wp2_with (first | (go_at_call 40; (with_reducible refine cM (CF.out _ tB) fun w1 hb1 fc1 fg1 hc1 hf1 hz1 => ?_); (try simp at hz1)) | fail)
  go_ret
  exact ⟨_, rfl, by rw [HE.out]; exact Own.nil _ _ _ _, tB⟩
 obtain rfl : m.id = id := hfi rfl
 have CF := Lib.hid cf
 have CN1 := Lib.hid (fun W => ref36Num m.id W hok.1)
 have CN2 := Lib.hid (fun W => ref36Num m.til W hok.2.2.2)
 have CN3 := Lib.hid (fun W => ref36Num m.cap W hok.2.1)
 have CK := Lib.hid (fun A c W (h : Rd W A 1 ([[97, 99, 116, 105, 118, 101], [119, 105, 110, 100, 111, 119], [115, 101, 108, 108, 105, 110, 103], [99, 108, 111, 115, 101, 100]].map encStr)) => (show Calls Tryz.prog 43 #[.slice A 4 c, .int .i64 m.phase, .int .i64 0] W fun e w' => e = .returned (strV (phaseL m.phase)) ∧ Below W.heap.size W w' from by
  rw [← word_phase]; exact ref36Word _ m.phase 0 A c W hok.2.2.1 (by omega) (by simp) h))
 have HU64 := held64 (repL s).S.bk (unitsOfL (ofL (repL s).acs m.id))
 have CAC := Lib.hid (fun x (hx : x ∈ s.acs.val) W (h : Below w.heap.size w W) => ref36Account s x W (hs.keep h) ((hs.gc x hx).2.keep h) (hs.gc x hx).1 (hs.oc x hx))
 have HAL := Lib.hid (fun x (hx : x ∈ s.acs.val) => accountL_le hs (a := lgA x) (hs.gc x hx).1)
 have HRC := Lib.hid hs.rc.rd
 have hlc := hs.lc
 have HM0 : MO = lnL [wdMember, Lib.itoa m.id, phaseL m.phase, wdUntil, Lib.itoa m.til, wdCap, Lib.itoa m.cap, wdUsed, maybeL (heldN (repL s).S.bk (unitsOfL (ofL (repL s).acs m.id))) (heldC (repL s).S.bk (unitsOfL (ofL (repL s).acs m.id)))] :: accountsL (repL s) (ofL (s.acs.val.map lgA) m.id) := HM.out
 have hj1 := itoa_le hok.1
 have hj2 := phase_le m.phase
 have hj3 := itoa_le hok.2.2.2
 have hj4 := itoa_le hok.2.1
 generalize heldN (repL s).S.bk (unitsOfL (ofL (repL s).acs m.id)) = n1 at *
 generalize heldC (repL s).S.bk (unitsOfL (ofL (repL s).acs m.id)) = c1 at *
 generalize repL s = R at *
 have hj5 := maybe_le (e := c1) HU64
 have CM := Lib.hid (fun W => ref36Maybe n1 c1 W HU64)
 obtain ⟨AS, hAS⟩ : ∃ L, L = s.acs.val.map lgA := ⟨_, rfl⟩
 rw [← hAS] at HM0
 have HLG := Lib.hid (show ∀ k (h : k < s.acs.val.length) (h2 : k < AS.length), AS[k] = lgA s.acs.val[k] from fun k h h2 => by subst hAS; simp)
 have hal1 : AS.length ≤ s.acs.val.length ∧ s.acs.val.length ≤ AS.length := by rw [hAS, List.length_map]; omega
 have HALL := Lib.hid (show ∀ a ∈ AS, (accountL R a).length ≤ 6000 from fun a ha => by
  rw [hAS] at ha
  obtain ⟨x, hx, rfl⟩ := List.mem_map.1 ha
  exact HAL.out x hx)
 have HCA0 := cat_member (Lib.itoa m.id) (phaseL m.phase) (Lib.itoa m.til) (Lib.itoa m.cap) (maybeL n1 c1)
 obtain ⟨L0, hL0⟩ : ∃ L, L = lnL [wdMember, Lib.itoa m.id, phaseL m.phase, wdUntil, Lib.itoa m.til, wdCap, Lib.itoa m.cap, wdUsed, maybeL n1 c1] := ⟨_, rfl⟩
 rw [← hL0] at HCA0 HM0
 obtain ⟨L1, hL1⟩ : ∃ L, L = [L0] := ⟨_, rfl⟩
 have HEND := Lib.hid (show MO = L1 ++ accountsL R (ofL AS m.id) from by rw [hL1, HM0]; rfl)
 have l1 : L1.length ≤ 1 := by rw [hL1]; simp
 have HL1 := Lib.hid hL1
 have HCA := Lib.hid HCA0
 clear hs hL0 hL1 HM0 HCA0 cf hok hfi HM hAS HU64
 generalize Lib.itoa m.id = J1 at *
 generalize phaseL m.phase = J2 at *
 generalize Lib.itoa m.til = J3 at *
 generalize Lib.itoa m.cap = J4 at *
 generalize maybeL n1 c1 = J5 at *
 have q1 : ¬ 9223372036854775807 < 7 + J1.length := by omega
 have q2 : ¬ 9223372036854775807 < 7 + J1.length + 1 := by omega
 have q3 : ¬ 9223372036854775807 < 7 + J1.length + 1 + J2.length := by omega
 have q4 : ¬ 9223372036854775807 < 7 + J1.length + 1 + J2.length + 7 := by omega
 have q5 : ¬ 9223372036854775807 < 7 + J1.length + 1 + J2.length + 7 + J3.length := by omega
 have q6 : ¬ 9223372036854775807 < 7 + J1.length + 1 + J2.length + 7 + J3.length + 5 := by omega
 have q7 : ¬ 9223372036854775807 < 7 + J1.length + 1 + J2.length + 7 + J3.length + 5 + J4.length := by omega
 have q8 : ¬ 9223372036854775807 < 7 + J1.length + 1 + J2.length + 7 + J3.length + 5 + J4.length + 6 := by omega
 have q9 : ¬ 9223372036854775807 < 7 + J1.length + 1 + J2.length + 7 + J3.length + 5 + J4.length + 6 + J5.length := by omega
 go_enter Tryz.func13, Tryz.ntmps13
 go_wp2_with (first | (go_at_call 40; (with_reducible refine cM (CF.out _ tB) fun w1 hb1 fc1 fg1 hc1 hf1 hz1 => ?_); (try simp at hz1)) | (go_at_call 41; (with_reducible refine cM (CPU.out _ tB) fun w2 hb2 fc2 fg2 hc2 hf2 hz2 => ?_); (try simp at hz2)) | fail)
 have hwx := (show Below w1.heap.size w1 ((w1.alloc (.cells #[.int .i64 m.id, .int .i64 m.cap, .int .i64 m.phase, .int .i64 m.til] 49)).alloc (.cells #[.string ⟨#[97, 99, 116, 105, 118, 101]⟩, .string ⟨#[119, 105, 110, 100, 111, 119]⟩, .string ⟨#[115, 101, 108, 108, 105, 110, 103]⟩, .string ⟨#[99, 108, 111, 115, 101, 100]⟩] 9)) by exact tB)
 have HKD := Lib.hid (show Rd w2 (some ⟨w1.heap.size + 1, 0, none⟩) 1 ([[97, 99, 116, 105, 118, 101], [119, 105, 110, 100, 111, 119], [115, 101, 108, 108, 105, 110, 103], [99, 108, 111, 115, 101, 100]].map encStr) from (show Rd ((w1.alloc (.cells #[.int .i64 m.id, .int .i64 m.cap, .int .i64 m.phase, .int .i64 m.til] 49)).alloc (.cells #[.string ⟨#[97, 99, 116, 105, 118, 101]⟩, .string ⟨#[119, 105, 110, 100, 111, 119]⟩, .string ⟨#[115, 101, 108, 108, 105, 110, 103]⟩, .string ⟨#[99, 108, 111, 115, 101, 100]⟩] 9)) _ 1 _ from rd_strs (by simp) rfl).keep hb2)
 have KS2 := Lib.hid (show Blk w2 w.heap.size 33 #[.int .i64 (s).day, .slice (s).mem.A (s).mem.val.length (s).mem.c, .slice (s).ins.A (s).ins.val.length (s).ins.c, .slice (s).ats.A (s).ats.val.length (s).ats.c, .slice (s).acs.A (s).acs.val.length (s).acs.c, .slice (s).cho.A (s).cho.val.length (s).cho.c, .slice (s).grp.A (s).grp.val.length (s).grp.c, .slice (s).giv.A (s).giv.val.length (s).giv.c, .slice (s).bk.A (s).bk.val.length (s).bk.c, .slice (s).sale.A (s).sale.val.length (s).sale.c, .slice (s).pu.A (s).pu.val.length (s).pu.c, .slice (s).ho.A (s).ho.val.length (s).ho.c] by exact tL)
 have KM2 := (show Blk w2 w1.heap.size 49 #[.int .i64 m.id, .int .i64 m.cap, .int .i64 m.phase, .int .i64 m.til] by exact tL)
 have H2 := Lib.hid (show Below w.heap.size w w2 by exact tB)
 have za0 := KM2.cell 0
 have za1 := KM2.cell 1
 have za2 := KM2.cell 2
 have za3 := KM2.cell 3
 (simp only [List.getElem?_toArray, List.getElem?_cons_zero, List.getElem?_cons_succ] at za0 za1 za2 za3)
 have hz2 := H2.out.size
 have hm2 := KM2.lt
 clear hc1 hf1 hb1 hc2 hf2 hb2 hwx KM2 CF CPU
 generalize hgm : w1.heap.size = gm at *
 clear hgm
 go_region_held3 (fun w' => (w'.cell? ⟨gm, 0, none⟩ = some (.int .i64 m.id) ∧ w'.cell? ⟨gm, 1, none⟩ = some (.int .i64 m.cap) ∧ w'.cell? ⟨gm, 2, none⟩ = some (.int .i64 m.phase) ∧ w'.cell? ⟨gm, 3, none⟩ = some (.int .i64 m.til))) (exact tK) (first | (go_at_call 42; (with_reducible refine cM (CN1.out _) fun w1 hb1 fc1 fg1 hc1 hf1 hz1 => ?_); (try simp at hz1)) | (go_at_call 43; (with_reducible refine cM (CK.out _ _ _ (HKD.out.keep tB)) fun w3 hb3 fc3 fg3 hc3 hf3 hz3 => ?_); (try simp at hz3)) | (go_at_call 42; (with_reducible refine cM (CN2.out _) fun w4 hb4 fc4 fg4 hc4 hf4 hz4 => ?_); (try simp at hz4)) | (go_at_call 42; (with_reducible refine cM (CN3.out _) fun w5 hb5 fc5 fg5 hc5 hf5 hz5 => ?_); (try simp at hz5)) | (go_at_call 44; (with_reducible refine cM (CM.out _) fun w6 hb6 fc6 fg6 hc6 hf6 hz6 => ?_); (try simp at hz6)) | fail)
 all_goals
  rw [HCA.out]
  have HOW := Lib.hid (show Own (w6.alloc (.cells #[.string ⟨L0.toArray⟩] 9)) (w.heap.size + 1) 9 1 (.slice (some ⟨w6.heap.size, 0, none⟩) 1 1) (L1.map encStr) from by rw [HL1.out]; exact own_lit (by omega) (Blk.here rfl))
  have HWR := Lib.hid (show Below w.heap.size w (w6.alloc (.cells #[.string ⟨L0.toArray⟩] 9)) from H2.out.trans ((show Below w2.heap.size w2 (w6.alloc (.cells #[.string ⟨L0.toArray⟩] 9)) by exact tB).mono (by omega)))
  have KS := Lib.hid (KS2.out.below (show Below w2.heap.size w2 (w6.alloc (.cells #[.string ⟨L0.toArray⟩] 9)) by exact tB) KS2.out.lt)
  have yl : w.heap.size + 1 < (w6.alloc (.cells #[.string ⟨L0.toArray⟩] 9)).heap.size := by simp; omega
  clear hc1 hf1 hb1 hc3 hf3 hb3 hc4 hf4 hb4 hc5 hf5 hb5 hc6 hf6 hb6 HKD KS2 H2 za0 za1 za2 za3
  generalize (w6.alloc (.cells #[.string ⟨L0.toArray⟩] 9)) = wr at *
  go_wp2_with fail
  go_loopw [10, 11] (fun v i wx => ∃ k : Nat, k ≤ s.acs.val.length ∧ i = .int .i64 k ∧ Own wx (w.heap.size + 1) 9 1 v ((L1 ++ accountsL R (ofL (AS.take k) m.id)).map encStr) ∧ Below (w.heap.size + 1) wr wx) (fun _ i _ => s.acs.val.length - (intOf i).toNat)
  case atStart => exact ⟨0, Nat.zero_le _, rfl, by rw [List.take_zero]; show Own _ _ _ _ _ ((L1 ++ []).map encStr); rw [List.append_nil]; exact HOW.out, Below.refl _ _⟩
  case round =>
   obtain ⟨k, hk, rfl, hown, hbl⟩ := hrel
   have Hown := Lib.hid hown
   have Hbl := Lib.hid hbl
   have hzx := hbl.size
   have KX := Lib.hid (KS.out.below hbl (by omega))
   have HWX := Lib.hid (HWR.out.trans (hbl.mono (by omega)))
   clear hown hbl
   have y0 := (KX.out).cell 0; have y1 := (KX.out).cell 1; have y2 := (KX.out).cell 2; have y3 := (KX.out).cell 3; have y4 := (KX.out).cell 4; have y5 := (KX.out).cell 5; have y6 := (KX.out).cell 6; have y7 := (KX.out).cell 7; have y8 := (KX.out).cell 8; have y9 := (KX.out).cell 9; have y10 := (KX.out).cell 10; have y11 := (KX.out).cell 11; (simp only [List.getElem?_toArray, List.getElem?_cons_zero, List.getElem?_cons_succ] at y0 y1 y2 y3 y4 y5 y6 y7 y8 y9 y10 y11)
   by_cases hlt : k < s.acs.val.length
   ·have kl : (k : Int) < (s.acs.val.length : Int) := by omega
    have dl : decide ((k : Int) < (s.acs.val.length : Int)) = true := by simpa using hlt
    have k0 : (0 : Int) ≤ (k : Int) := by omega
    obtain ⟨b, o, hA, hb, hc⟩ := HRC.out k (encAcctV s.acs.val[k]) (by simp [hlt])
    have e0 := tC HWX hb (hc 0 _ rfl)
    have e1 := tC HWX hb (hc 1 _ rfl)
    have e2 := tC HWX hb (hc 2 _ rfl)
    have e3 := tC HWX hb (hc 3 _ rfl)
    simp only [Nat.add_zero] at e0
    clear hc
    have hkL : k < AS.length := by omega
    have hLk := HLG.out k hlt hkL
    have hst := accounts_step (R := R) (id := m.id) hkL
    rw [hLk] at hst
    have hlen : ((L1 ++ accountsL R (ofL (AS.take k) m.id)).map encStr).length ≤ 1000000 := by
     have := accountsL_le (R := R) (l := ofL (AS.take k) m.id) fun a ha => HALL.out a (List.mem_of_mem_take (ofL_mem ha).1)
     have h2 := ofL_len (AS.take k) m.id
     rw [List.length_take] at h2
     rw [List.length_map, List.length_append]
     omega
    by_cases hm : s.acs.val[k].member = m.id
    ·have b1 : (s.acs.val[k].member == m.id) = true := by simpa using hm
     rw [if_pos (show (lgA s.acs.val[k]).member = m.id from hm)] at hst
     have HM := Lib.hid (show (L1 ++ accountsL R (ofL (AS.take (k + 1)) m.id)).map encStr = (L1 ++ accountsL R (ofL (AS.take k) m.id)).map encStr ++ (accountL R (lgA s.acs.val[k])).map encStr from by rw [hst, ← List.append_assoc, List.map_append])
     have hl1 := HAL.out s.acs.val[k] (List.getElem_mem hlt)
     have cu := CAC.out s.acs.val[k] (List.getElem_mem hlt)
     rw [hA] at cu
     have CU1 := Lib.hid cu
     clear hst hm cu hLk
     generalize accountL R (lgA s.acs.val[k]) = UL at *
     generalize (L1 ++ accountsL R (ofL (AS.take k) m.id)).map encStr = RW at *
     rw [hA] at y4
     rw [hA]
     go_wp2_with fail
     go_region_held3 (fun w' => (w'.cell? ⟨w.heap.size, 0, none⟩ = some (.int .i64 s.day) ∧ w'.cell? ⟨w.heap.size, 1, none⟩ = some (.slice s.mem.A s.mem.val.length s.mem.c) ∧ w'.cell? ⟨w.heap.size, 2, none⟩ = some (.slice s.ins.A s.ins.val.length s.ins.c) ∧ w'.cell? ⟨w.heap.size, 3, none⟩ = some (.slice s.ats.A s.ats.val.length s.ats.c) ∧ w'.cell? ⟨w.heap.size, 4, none⟩ = some (.slice (some ⟨b, o, none⟩) s.acs.val.length s.acs.c) ∧ w'.cell? ⟨w.heap.size, 5, none⟩ = some (.slice s.cho.A s.cho.val.length s.cho.c) ∧ w'.cell? ⟨w.heap.size, 6, none⟩ = some (.slice s.grp.A s.grp.val.length s.grp.c) ∧ w'.cell? ⟨w.heap.size, 7, none⟩ = some (.slice s.giv.A s.giv.val.length s.giv.c) ∧ w'.cell? ⟨w.heap.size, 8, none⟩ = some (.slice s.bk.A s.bk.val.length s.bk.c) ∧ w'.cell? ⟨w.heap.size, 9, none⟩ = some (.slice s.sale.A s.sale.val.length s.sale.c) ∧ w'.cell? ⟨w.heap.size, 10, none⟩ = some (.slice s.pu.A s.pu.val.length s.pu.c) ∧ w'.cell? ⟨w.heap.size, 11, none⟩ = some (.slice s.ho.A s.ho.val.length s.ho.c)) ∧ w'.cell? ⟨b, o + k * 4, none⟩ = some (.int .i64 s.acs.val[k].id) ∧ w'.cell? ⟨b, o + k * 4 + 1, none⟩ = some (.int .i64 s.acs.val[k].member) ∧ w'.cell? ⟨b, o + k * 4 + 2, none⟩ = some (.int .i64 s.acs.val[k].kind) ∧ w'.cell? ⟨b, o + k * 4 + 3, none⟩ = some (.slice s.acs.val[k].clients.A s.acs.val[k].clients.val.length s.acs.val[k].clients.c)) (exact tK) (first | (go_at_call 45; (with_reducible refine (CU1.out _ (by have h := HWX.out; exact tB)).mono ?_); rintro e w4 ⟨v4, rfl, hown4, hb4⟩; obtain ⟨A4, c4, hv4, hrs4, _⟩ := hown4.rs; (rw [List.length_map] at hv4); subst hv4; have HS4 := Lib.hid hrs4; clear hown4 hrs4; obtain ⟨fc4, fg4, hc4, hf4, hz4⟩ := bget hb4; (try simp at hz4)) | (refine step_app rfl _ _ _ rfl elStr (w.heap.size + 1) _ _ rfl (Hown.out.keep tB) A4 UL.length c4 rfl (UL.map encStr) (by simp) HS4.out.nil (HS4.out.rd.keep tB) (rowsStr UL) (by unfold maxLen; omega) (by omega) tZ ?_; intro v9 w9 hown9 hb9; have HO9 := Lib.hid hown9; clear hown9; obtain ⟨fc9, fg9, hc9, hf9, hz9⟩ := bget hb9; (try simp at hz9)) | fail)
     all_goals
      go_wp2_with fail
      go_roundw
      case rel => exact ⟨k + 1, by omega, by go_num, by rw [HM.out]; exact HO9.out, by have h1 := Hbl.out; exact tB⟩
      case measure => simp [intOf]; omega
    ·have b1 : (s.acs.val[k].member == m.id) = false := by simpa using hm
     rw [if_neg (show ¬ (lgA s.acs.val[k]).member = m.id from hm), List.append_nil] at hst
     have HST := Lib.hid hst
     clear hst hm
     rw [hA] at y4
     rw [hA]
     go_wp2_with fail
     go_roundw
     case rel => exact ⟨k + 1, by omega, by go_num, by rw [HST.out]; exact Hown.out, Hbl.out⟩
     case measure => simp [intOf]; omega
   ·have dl : decide ((k : Int) < (s.acs.val.length : Int)) = false := by simpa using hlt
    have HT2 := Lib.hid (show L1 ++ accountsL R (ofL (AS.take k) m.id) = MO from by rw [List.take_of_length_le (by omega)]; exact HEND.out.symm)
    rw [HT2.out] at Hown
    go_wp2_with fail
    go_ret
    exact ⟨_, rfl, Hown.out.mono (by omega), HWX.out⟩
end Go.Proofs.YtalgfpegaobacaaGreatDoor
