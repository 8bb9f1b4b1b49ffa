/- Joined. -/
import Derived.Test.YtalgfpegaobacaaGreatDoorQz28
import Derived.Test.YtalgfpegaobacaaGreatDoorQa19
namespace Go.Proofs.YtalgfpegaobacaaGreatDoor
set_option linter.all false
set_option maxHeartbeats 64000000
set_option maxRecDepth 100000
open Go.RowKit
open Lib (hid)
def membersD (R : RepL) : List Mb → List Str
 | [] => []
 | m :: t => memberOf R m.id ++ membersD R t
def allD (R : RepL) : List Str := lnL [wdDay, Lib.itoa R.day] :: (unitL R ⟨0, 0⟩ ++ (unitL R ⟨0, 1⟩ ++ membersD R R.mem))
theorem membersD_app (R : RepL) : ∀ l m : List Mb, membersD R (l ++ m) = membersD R l ++ membersD R m
 | [], _ => rfl
 | u :: l, m => by show memberOf R u.id ++ membersD R (l ++ m) = _; rw [membersD_app R l m, ← List.append_assoc]; rfl
theorem membersD_snoc {R : RepL} {l : List Mb} {k : Nat} (h : k < l.length) : membersD R (l.take (k + 1)) = membersD R (l.take k) ++ memberOf R l[k].id := by
 rw [List.take_succ_eq_append_getElem h, membersD_app]
 show _ ++ (_ ++ []) = _
 rw [List.append_nil]
theorem membersD_le {R : RepL} {n : Nat} (h : ∀ id, (memberOf R id).length ≤ n) : ∀ l : List Mb, (membersD R l).length ≤ n * l.length
 | [] => Nat.le_refl _
 | u :: l => by
  have ih := membersD_le h l
  have h1 := h u.id
  show (memberOf R u.id ++ membersD R l).length ≤ n * (l.length + 1)
  rw [List.length_append, Nat.mul_add]; omega
theorem memberOf_le {w : World} {s : StV} (h : GoodSt w s) (id : Int) : (memberOf (repL s) id).length ≤ 361000 := by
 unfold memberOf
 split
 ·exact memberL_le h _
 ·simp
theorem cat_day (a : Str) : (⟨#[100, 97, 121, 32]⟩ : ByteArray) ++ ⟨a.toArray⟩ = ⟨(lnL [wdDay, a]).toArray⟩ := by
 refine (cat_eq (l := [100, 97, 121, 32]) rfl).trans ?_
 simp [lnL, Lib.join, List.intercalate]
theorem ref36All (s : StV) (w : World) (hs : GoodSt w s) :
  Calls Tryz.prog 14 #[.agg #[.int .i64 (s).day, .slice (s).mem.A (s).mem.val.length (s).mem.c, .slice (s).ins.A (s).ins.val.length (s).ins.c, .slice (s).ats.A (s).ats.val.length (s).ats.c, .slice (s).acs.A (s).acs.val.length (s).acs.c, .slice (s).cho.A (s).cho.val.length (s).cho.c, .slice (s).grp.A (s).grp.val.length (s).grp.c, .slice (s).giv.A (s).giv.val.length (s).giv.c, .slice (s).bk.A (s).bk.val.length (s).bk.c, .slice (s).sale.A (s).sale.val.length (s).sale.c, .slice (s).pu.A (s).pu.val.length (s).pu.c, .slice (s).ho.A (s).ho.val.length (s).ho.c]] w fun e w' => ∃ v, e = .returned v ∧ Own w' w.heap.size 9 1 v ((allD (repL s)).map encStr) ∧ Below w.heap.size w w' := by
 have CN := hid (fun W => ref36Num s.day W hs.day)
 have cu0 := fun W (h : Below w.heap.size w W) => ref36Unit s ⟨0, 0⟩ W (hs.keep h) ⟨by unfold In64; simp, by unfold In64; simp⟩
 have cu1 := fun W (h : Below w.heap.size w W) => ref36Unit s ⟨0, 1⟩ W (hs.keep h) ⟨by unfold In64; simp, by unfold In64; simp⟩
 have CMM := hid (fun m (hm : okMb m) W (h : Below w.heap.size w W) => ref36Member s m.id W (hs.keep h) hm.1)
 have HEND0 := (show allD (repL s) = lnL [wdDay, Lib.itoa s.day] :: (unitL (repL s) ⟨0, 0⟩ ++ (unitL (repL s) ⟨0, 1⟩ ++ membersD (repL s) s.mem.val)) from rfl)
 have hu0 := unitL_le hs ⟨0, 0⟩
 have hu1 := unitL_le hs ⟨0, 1⟩
 have HML := hid (membersD_le (memberOf_le hs))
 have HM1 := hid (memberOf_le hs)
 have HOK := hid hs.om
 have hlm := hs.lm
 have HRM := hid hs.rm
 have hj := itoa_le hs.day
 have HCA0 := cat_day (Lib.itoa s.day)
 generalize allD (repL s) = AL at *
 generalize repL s = R at *
 generalize unitL R ⟨0, 0⟩ = U0 at *
 generalize unitL R ⟨0, 1⟩ = U1 at *
 obtain ⟨L0, hL0⟩ : ∃ L, L = lnL [wdDay, Lib.itoa s.day] := ⟨_, rfl⟩
 rw [← hL0] at HCA0 HEND0
 obtain ⟨L1, hL1⟩ : ∃ L, L = [L0] := ⟨_, rfl⟩
 obtain ⟨L2, hL2⟩ : ∃ L, L = L1 ++ U0 := ⟨_, rfl⟩
 obtain ⟨L3, hL3⟩ : ∃ L, L = L2 ++ U1 := ⟨_, rfl⟩
 have HEND := hid (show AL = L3 ++ membersD R s.mem.val from by rw [hL3, hL2, hL1, HEND0]; simp)
 have l1 : L1.length ≤ 1 := by rw [hL1]; simp
 have l2 : L2.length ≤ 122 := by rw [hL2, List.length_append]; omega
 have l3 : L3.length ≤ 243 := by rw [hL3, List.length_append]; omega
 have HL1 := hid hL1
 have HL2 := hid hL2
 have HL3 := hid hL3
 have HCA := hid HCA0
 have CU0 := hid cu0
 have CU1 := hid cu1
 clear hs hL0 hL1 hL2 hL3 HEND0 HCA0 cu0 cu1
 generalize Lib.itoa s.day = J1 at *
 have q1 : ¬ 9223372036854775807 < 4 + J1.length := by omega
 go_enter Tryz.func14, Tryz.ntmps14
 go_wp2_with (first | (go_at_call 42; (with_reducible refine cM (CN.out _) fun w1 hb1 fc1 fg1 hc1 hf1 hz1 => ?_); (try simp at hz1); have HOW := hid (show Own (w1.alloc (.cells #[.string (⟨#[100, 97, 121, 32]⟩ ++ ⟨J1.toArray⟩)] 9)) (w.heap.size + 1) 9 1 (.slice (some ⟨w1.heap.size, 0, none⟩) 1 1) (L1.map encStr) from (by rw [HCA.out, HL1.out]; exact own_lit (by omega) (Blk.here rfl)))) | (go_at_call 46; (with_reducible refine (CU0.out _ tB).mono ?_); rintro e w4 ⟨v4, rfl, hown4, hb4⟩; obtain ⟨A4, c4, hv4, hrs4, _⟩ := hown4.rs; (rw [List.length_map] at hv4); subst hv4; have HS4 := hid hrs4; clear hown4 hrs4; obtain ⟨fc4, fg4, hc4, hf4, hz4⟩ := bget hb4; (try simp at hz4)) | (at_builtin; refine wpList_app rfl _ _ _ rfl elStr (w.heap.size + 1) _ _ rfl ((HOW.out).keep tB) A4 (U0).length c4 rfl ((U0).map encStr) (by simp) HS4.out.nil (HS4.out.rd.keep tB) (rowsStr (U0)) (by unfold maxLen; rw [List.length_map]; omega) (by rw [List.length_map]; omega) tZ ?_; intro v5 w5 hown5 hb5; (rw [← List.map_append, ← (HL2).out] at hown5); have HO5 := hid hown5; clear hown5; obtain ⟨fc5, fg5, hc5, hf5, hz5⟩ := bget hb5; (try simp at hz5)) | (go_at_call 46; (with_reducible refine (CU1.out _ tB).mono ?_); rintro e w6 ⟨v6, rfl, hown6, hb6⟩; obtain ⟨A6, c6, hv6, hrs6, _⟩ := hown6.rs; (rw [List.length_map] at hv6); subst hv6; have HS6 := hid hrs6; clear hown6 hrs6; obtain ⟨fc6, fg6, hc6, hf6, hz6⟩ := bget hb6; (try simp at hz6)) | (at_builtin; refine wpList_app rfl _ _ _ rfl elStr (w.heap.size + 1) _ _ rfl ((HO5.out).keep tB) A6 (U1).length c6 rfl ((U1).map encStr) (by simp) HS6.out.nil (HS6.out.rd.keep tB) (rowsStr (U1)) (by unfold maxLen; rw [List.length_map]; omega) (by rw [List.length_map]; omega) tZ ?_; intro v7 w7 hown7 hb7; (rw [← List.map_append, ← (HL3).out] at hown7); have HO7 := hid hown7; clear hown7; obtain ⟨fc7, fg7, hc7, hf7, hz7⟩ := bget hb7; (try simp at hz7)) | fail)
 have yk : Below (w.heap.size + 1) (w.alloc (.cells #[.int .i64 (s).day, .slice (s).mem.A (s).mem.val.length (s).mem.c, .slice (s).ins.A (s).ins.val.length (s).ins.c, .slice (s).ats.A (s).ats.val.length (s).ats.c, .slice (s).acs.A (s).acs.val.length (s).acs.c, .slice (s).cho.A (s).cho.val.length (s).cho.c, .slice (s).grp.A (s).grp.val.length (s).grp.c, .slice (s).giv.A (s).giv.val.length (s).giv.c, .slice (s).bk.A (s).bk.val.length (s).bk.c, .slice (s).sale.A (s).sale.val.length (s).sale.c, .slice (s).pu.A (s).pu.val.length (s).pu.c, .slice (s).ho.A (s).ho.val.length (s).ho.c] 33)) w7 := by exact tB
 have KS := hid (show Blk w7 w.heap.size 33 #[.int .i64 (s).day, .slice (s).mem.A (s).mem.val.length (s).mem.c, .slice (s).ins.A (s).ins.val.length (s).ins.c, .slice (s).ats.A (s).ats.val.length (s).ats.c, .slice (s).acs.A (s).acs.val.length (s).acs.c, .slice (s).cho.A (s).cho.val.length (s).cho.c, .slice (s).grp.A (s).grp.val.length (s).grp.c, .slice (s).giv.A (s).giv.val.length (s).giv.c, .slice (s).bk.A (s).bk.val.length (s).bk.c, .slice (s).sale.A (s).sale.val.length (s).sale.c, .slice (s).pu.A (s).pu.val.length (s).pu.c, .slice (s).ho.A (s).ho.val.length (s).ho.c] from Blk.below (B := w.heap.size + 1) tL yk (by omega))
 have HWR := hid (show Below w.heap.size w w7 from ((Below.refl _ _).alloc (Nat.le_refl _) _).trans (yk.mono (by omega)))
 have yl : w.heap.size < w7.heap.size := by have := yk.size; simp at this; omega
 clear hc1 hf1 hb1 hc4 hf4 hb4 hc5 hf5 hb5 hc6 hf6 hb6 hc7 hf7 hb7 yk
 (obtain ⟨wr, hwr⟩ : ∃ x, x = w7 := ⟨_, rfl⟩)
 subst hwr
 go_loopw [3, 4] (fun v i wx => ∃ k : Nat, k ≤ s.mem.val.length ∧ i = .int .i64 k ∧ Own wx (w.heap.size + 1) 9 1 v ((L3 ++ membersD R (s.mem.val.take k)).map encStr) ∧ Below (w.heap.size + 1) wr wx) (fun _ i _ => s.mem.val.length - (intOf i).toNat)
 case atStart => exact ⟨0, Nat.zero_le _, rfl, by rw [List.take_zero]; show Own _ _ _ _ _ ((L3 ++ []).map encStr); rw [List.append_nil]; exact HO7.out, Below.refl _ _⟩
 case round =>
  obtain ⟨k, hk, rfl, hown, hbl⟩ := hrel
  have Hown := hid hown
  have Hbl := hid hbl
  have hzx := hbl.size
  have KX := hid (KS.out.below hbl (by omega))
  have HWX := hid (HWR.out.trans (hbl.mono (by omega)))
  clear hown hbl
  have y0 := (KX.out).cell 0; have y1 := (KX.out).cell 1; have y2 := (KX.out).cell 2; have y3 := (KX.out).cell 3; have y4 := (KX.out).cell 4; have y5 := (KX.out).cell 5; have y6 := (KX.out).cell 6; have y7 := (KX.out).cell 7; have y8 := (KX.out).cell 8; have y9 := (KX.out).cell 9; have y10 := (KX.out).cell 10; have y11 := (KX.out).cell 11; (simp only [List.getElem?_toArray, List.getElem?_cons_zero, List.getElem?_cons_succ] at y0 y1 y2 y3 y4 y5 y6 y7 y8 y9 y10 y11)
  by_cases hlt : k < s.mem.val.length
  ·have kl : (k : Int) < (s.mem.val.length : Int) := by omega
   have dl : decide ((k : Int) < (s.mem.val.length : Int)) = true := by simpa using hlt
   have k0 : (0 : Int) ≤ (k : Int) := by omega
   obtain ⟨b, o, hA, hb, hc⟩ := HRM.out k (encMb s.mem.val[k]) (by simp [hlt])
   have e0 := tC HWX hb (hc 0 _ rfl)
   simp only [Nat.add_zero] at e0
   clear hc
   have hlen : ((L3 ++ membersD R (s.mem.val.take k)).map encStr).length ≤ 100000000 := by
    have := HML.out (s.mem.val.take k)
    rw [List.length_take] at this
    rw [List.length_map, List.length_append]
    omega
   have HM := hid (show (L3 ++ membersD R (s.mem.val.take (k + 1))).map encStr = (L3 ++ membersD R (s.mem.val.take k)).map encStr ++ (memberOf R s.mem.val[k].id).map encStr from by rw [membersD_snoc hlt, ← List.append_assoc, List.map_append])
   have hl1 := HM1.out s.mem.val[k].id
   have cu := CMM.out s.mem.val[k] (HOK.out _ (List.getElem_mem hlt))
   rw [hA] at cu
   have CUM := hid cu
   clear cu
   generalize memberOf R s.mem.val[k].id = UL at *
   generalize (L3 ++ membersD R (s.mem.val.take k)).map encStr = RW at *
   rw [hA] at y1
   rw [hA]
   go_wp2_with fail
   go_region_held3 (fun w' => (w'.cell? ⟨w.heap.size, 0, none⟩ = some (.int .i64 s.day) ∧ w'.cell? ⟨w.heap.size, 1, none⟩ = some (.slice (some ⟨b, o, none⟩) s.mem.val.length s.mem.c) ∧ w'.cell? ⟨w.heap.size, 2, none⟩ = some (.slice s.ins.A s.ins.val.length s.ins.c) ∧ w'.cell? ⟨w.heap.size, 3, none⟩ = some (.slice s.ats.A s.ats.val.length s.ats.c) ∧ w'.cell? ⟨w.heap.size, 4, none⟩ = some (.slice s.acs.A s.acs.val.length s.acs.c) ∧ w'.cell? ⟨w.heap.size, 5, none⟩ = some (.slice s.cho.A s.cho.val.length s.cho.c) ∧ w'.cell? ⟨w.heap.size, 6, none⟩ = some (.slice s.grp.A s.grp.val.length s.grp.c) ∧ w'.cell? ⟨w.heap.size, 7, none⟩ = some (.slice s.giv.A s.giv.val.length s.giv.c) ∧ w'.cell? ⟨w.heap.size, 8, none⟩ = some (.slice s.bk.A s.bk.val.length s.bk.c) ∧ w'.cell? ⟨w.heap.size, 9, none⟩ = some (.slice s.sale.A s.sale.val.length s.sale.c) ∧ w'.cell? ⟨w.heap.size, 10, none⟩ = some (.slice s.pu.A s.pu.val.length s.pu.c) ∧ w'.cell? ⟨w.heap.size, 11, none⟩ = some (.slice s.ho.A s.ho.val.length s.ho.c)) ∧ w'.cell? ⟨b, o + k * 4, none⟩ = some (.int .i64 s.mem.val[k].id)) (exact tK) (first | (go_at_call 13; (with_reducible refine (CUM.out _ (by have h := HWX.out; exact tB)).mono ?_); rintro e w4 ⟨v4, rfl, hown4, hb4⟩; obtain ⟨A4, c4, hv4, hrs4, _⟩ := hown4.rs; (rw [List.length_map] at hv4); subst hv4; have HS4 := hid hrs4; clear hown4 hrs4; obtain ⟨fc4, fg4, hc4, hf4, hz4⟩ := bget hb4; (try simp at hz4)) | (refine step_app rfl _ _ _ rfl elStr (w.heap.size + 1) _ _ rfl (Hown.out.keep tB) A4 UL.length c4 rfl (UL.map encStr) (by simp) HS4.out.nil (HS4.out.rd.keep tB) (rowsStr UL) (by unfold maxLen; omega) (by omega) tZ ?_; intro v9 w9 hown9 hb9; have HO9 := hid hown9; clear hown9; obtain ⟨fc9, fg9, hc9, hf9, hz9⟩ := bget hb9; (try simp at hz9)) | fail)
   all_goals
    go_wp2_with fail
    go_roundw
    case rel => exact ⟨k + 1, by omega, by go_num, by rw [HM.out]; exact HO9.out, by have h1 := Hbl.out; exact tB⟩
    case measure => simp [intOf]; omega
  ·have dl : decide ((k : Int) < (s.mem.val.length : Int)) = false := by simpa using hlt
   have HT2 := hid (show L3 ++ membersD R (s.mem.val.take k) = AL from by rw [List.take_of_length_le (by omega)]; exact HEND.out.symm)
   rw [HT2.out] at Hown
   go_wp2_with fail
   go_ret
   exact ⟨_, rfl, Hown.out.mono (by omega), HWX.out⟩
theorem find_sorted : ∀ {l : List Mb} (_ : l.Pairwise (fun a b => a.id < b.id)) {m : Mb} (_ : m ∈ l), findMb l m.id = (m, true)
 | [], _, m, hm => by cases hm
 | x :: t, hs, m, hm => by
  rw [List.pairwise_cons] at hs
  unfold findMb
  rcases List.mem_cons.1 hm with rfl | h
  ·simp
  ·have h1 := hs.1 m h
   have h2 := find_sorted hs.2 h
   unfold findMb at h2
   rw [List.find?_cons]
   have : (x.id == m.id) = false := by simp; omega
   rw [this]
   exact h2
theorem members_alike {R : RepL} (hs : R.mem.Pairwise (fun a b => a.id < b.id)) : ∀ {l : List Mb} (_ : ∀ m ∈ l, m ∈ R.mem), membersD R l = membersL R l
 | [], _ => rfl
 | m :: t, h => by
  have ih := members_alike hs (l := t) fun x hx => h x (List.mem_cons_of_mem _ hx)
  have h1 := find_sorted hs (h m (List.mem_cons_self ..))
  show memberOf R m.id ++ membersD R t = memberL R m ++ membersL R t
  rw [ih]
  unfold memberOf
  rw [h1]
  rfl
theorem all_alike {R : RepL} (hs : R.mem.Pairwise (fun a b => a.id < b.id)) : allD R = allL R := by
 unfold allD allL
 rw [members_alike hs fun m hm => hm]
theorem reportAllAt (s0 : StV) (id : Int) (w : World) (ht : TabP w) (hid : In64 id)
  (cf : ∀ W, Below w.heap.size w W → Calls Tryz.prog 10 #[.agg #[.int .i64 (s0).day, .slice (s0).mem.A (s0).mem.val.length (s0).mem.c, .slice (s0).ins.A (s0).ins.val.length (s0).ins.c, .slice (s0).ats.A (s0).ats.val.length (s0).ats.c, .slice (s0).acs.A (s0).acs.val.length (s0).acs.c, .slice (s0).cho.A (s0).cho.val.length (s0).cho.c, .slice (s0).grp.A (s0).grp.val.length (s0).grp.c, .slice (s0).giv.A (s0).giv.val.length (s0).giv.c, .slice (s0).bk.A (s0).bk.val.length (s0).bk.c, .slice (s0).sale.A (s0).sale.val.length (s0).sale.c, .slice (s0).pu.A (s0).pu.val.length (s0).pu.c, .slice (s0).ho.A (s0).ho.val.length (s0).ho.c]] W fun e w' => ∃ s, e = .returned (.agg #[.int .i64 (s).day, .slice (s).mem.A (s).mem.val.length (s).mem.c, .slice (s).ins.A (s).ins.val.length (s).ins.c, .slice (s).ats.A (s).ats.val.length (s).ats.c, .slice (s).acs.A (s).acs.val.length (s).acs.c, .slice (s).cho.A (s).cho.val.length (s).cho.c, .slice (s).grp.A (s).grp.val.length (s).grp.c, .slice (s).giv.A (s).giv.val.length (s).giv.c, .slice (s).bk.A (s).bk.val.length (s).bk.c, .slice (s).sale.A (s).sale.val.length (s).sale.c, .slice (s).pu.A (s).pu.val.length (s).pu.c, .slice (s).ho.A (s).ho.val.length (s).ho.c]) ∧ FewSt w W.heap.size w' s ∧ (∀ a ∈ s.ats.val, okA a) ∧ SortedMb s.mem.val ∧ Below W.heap.size W w') :
  Calls Tryz.prog 4 #[.agg #[.int .i64 (s0).day, .slice (s0).mem.A (s0).mem.val.length (s0).mem.c, .slice (s0).ins.A (s0).ins.val.length (s0).ins.c, .slice (s0).ats.A (s0).ats.val.length (s0).ats.c, .slice (s0).acs.A (s0).acs.val.length (s0).acs.c, .slice (s0).cho.A (s0).cho.val.length (s0).cho.c, .slice (s0).grp.A (s0).grp.val.length (s0).grp.c, .slice (s0).giv.A (s0).giv.val.length (s0).giv.c, .slice (s0).bk.A (s0).bk.val.length (s0).bk.c, .slice (s0).sale.A (s0).sale.val.length (s0).sale.c, .slice (s0).pu.A (s0).pu.val.length (s0).pu.c, .slice (s0).ho.A (s0).ho.val.length (s0).ho.c], .int .i64 id] w fun e w' => e = .returned (.bool true) ∧ Below w.heap.size w w' := by
 have CF := Lib.hid cf
 have HT := Lib.hid ht
 have CLV := Lib.hid (fun W (h : Below w.heap.size w W) => law36lives W (ht.keep h))
 clear cf ht
 go_enter Tryz.func4, Tryz.ntmps4
 go_wp2_with (first | (go_at_call 10; (with_reducible refine (CF.out _ tB).mono ?_); rintro e w1 ⟨s, rfl, hfs, hok, hso, hb1⟩; have HFS := Lib.hid hfs; have HOK := Lib.hid hok; have HSO := Lib.hid hso; clear hfs hok hso; obtain ⟨fc1, fg1, hc1, hf1, hz1⟩ := bget hb1; (try simp at hz1)) | fail)
 have hon := setL_only (g := w.heap.size) (w := w1) (#[.int .i64 (s).day, .slice (s).mem.A (s).mem.val.length (s).mem.c, .slice (s).ins.A (s).ins.val.length (s).ins.c, .slice (s).ats.A (s).ats.val.length (s).ats.c, .slice (s).acs.A (s).acs.val.length (s).acs.c, .slice (s).cho.A (s).cho.val.length (s).cho.c, .slice (s).grp.A (s).grp.val.length (s).grp.c, .slice (s).giv.A (s).giv.val.length (s).giv.c, .slice (s).bk.A (s).bk.val.length (s).bk.c, .slice (s).sale.A (s).sale.val.length (s).sale.c, .slice (s).pu.A (s).pu.val.length (s).pu.c, .slice (s).ho.A (s).ho.val.length (s).ho.c]).toList 0 (Only.refl _ _)
 have hbk := setL_blk (g := w.heap.size) (t := 33) (#[.int .i64 (s).day, .slice (s).mem.A (s).mem.val.length (s).mem.c, .slice (s).ins.A (s).ins.val.length (s).ins.c, .slice (s).ats.A (s).ats.val.length (s).ats.c, .slice (s).acs.A (s).acs.val.length (s).acs.c, .slice (s).cho.A (s).cho.val.length (s).cho.c, .slice (s).grp.A (s).grp.val.length (s).grp.c, .slice (s).giv.A (s).giv.val.length (s).giv.c, .slice (s).bk.A (s).bk.val.length (s).bk.c, .slice (s).sale.A (s).sale.val.length (s).sale.c, .slice (s).pu.A (s).pu.val.length (s).pu.c, .slice (s).ho.A (s).ho.val.length (s).ho.c]).toList 0 (show Blk w1 w.heap.size 33 #[.int .i64 (s0).day, .slice (s0).mem.A (s0).mem.val.length (s0).mem.c, .slice (s0).ins.A (s0).ins.val.length (s0).ins.c, .slice (s0).ats.A (s0).ats.val.length (s0).ats.c, .slice (s0).acs.A (s0).acs.val.length (s0).acs.c, .slice (s0).cho.A (s0).cho.val.length (s0).cho.c, .slice (s0).grp.A (s0).grp.val.length (s0).grp.c, .slice (s0).giv.A (s0).giv.val.length (s0).giv.c, .slice (s0).bk.A (s0).bk.val.length (s0).bk.c, .slice (s0).sale.A (s0).sale.val.length (s0).sale.c, .slice (s0).pu.A (s0).pu.val.length (s0).pu.c, .slice (s0).ho.A (s0).ho.val.length (s0).ho.c] by exact tL) (by simp)
 have hst : setL w1 w.heap.size 0 (#[.int .i64 (s).day, .slice (s).mem.A (s).mem.val.length (s).mem.c, .slice (s).ins.A (s).ins.val.length (s).ins.c, .slice (s).ats.A (s).ats.val.length (s).ats.c, .slice (s).acs.A (s).acs.val.length (s).acs.c, .slice (s).cho.A (s).cho.val.length (s).cho.c, .slice (s).grp.A (s).grp.val.length (s).grp.c, .slice (s).giv.A (s).giv.val.length (s).giv.c, .slice (s).bk.A (s).bk.val.length (s).bk.c, .slice (s).sale.A (s).sale.val.length (s).sale.c, .slice (s).pu.A (s).pu.val.length (s).pu.c, .slice (s).ho.A (s).ho.val.length (s).ho.c]).toList = ((((((((((((w1.setCell ⟨w.heap.size, 0, none⟩ (.int .i64 s.day)).setCell ⟨w.heap.size, 1, none⟩ (.slice s.mem.A s.mem.val.length s.mem.c)).setCell ⟨w.heap.size, 2, none⟩ (.slice s.ins.A s.ins.val.length s.ins.c)).setCell ⟨w.heap.size, 3, none⟩ (.slice s.ats.A s.ats.val.length s.ats.c)).setCell ⟨w.heap.size, 4, none⟩ (.slice s.acs.A s.acs.val.length s.acs.c)).setCell ⟨w.heap.size, 5, none⟩ (.slice s.cho.A s.cho.val.length s.cho.c)).setCell ⟨w.heap.size, 6, none⟩ (.slice s.grp.A s.grp.val.length s.grp.c)).setCell ⟨w.heap.size, 7, none⟩ (.slice s.giv.A s.giv.val.length s.giv.c)).setCell ⟨w.heap.size, 8, none⟩ (.slice s.bk.A s.bk.val.length s.bk.c)).setCell ⟨w.heap.size, 9, none⟩ (.slice s.sale.A s.sale.val.length s.sale.c)).setCell ⟨w.heap.size, 10, none⟩ (.slice s.pu.A s.pu.val.length s.pu.c)).setCell ⟨w.heap.size, 11, none⟩ (.slice s.ho.A s.ho.val.length s.ho.c)) := rfl
 rw [hst] at hon hbk
 rw [List.take_zero, List.nil_append] at hbk
 have hw1 := (show Below w.heap.size w w1 by exact tB)
 have HBX := Lib.hid (below_only hw1 hon (by omega) (Nat.le_refl _))
 have HGD := Lib.hid (show ∀ W, Below (((((((((((((w1.setCell ⟨w.heap.size, 0, none⟩ (.int .i64 s.day)).setCell ⟨w.heap.size, 1, none⟩ (.slice s.mem.A s.mem.val.length s.mem.c)).setCell ⟨w.heap.size, 2, none⟩ (.slice s.ins.A s.ins.val.length s.ins.c)).setCell ⟨w.heap.size, 3, none⟩ (.slice s.ats.A s.ats.val.length s.ats.c)).setCell ⟨w.heap.size, 4, none⟩ (.slice s.acs.A s.acs.val.length s.acs.c)).setCell ⟨w.heap.size, 5, none⟩ (.slice s.cho.A s.cho.val.length s.cho.c)).setCell ⟨w.heap.size, 6, none⟩ (.slice s.grp.A s.grp.val.length s.grp.c)).setCell ⟨w.heap.size, 7, none⟩ (.slice s.giv.A s.giv.val.length s.giv.c)).setCell ⟨w.heap.size, 8, none⟩ (.slice s.bk.A s.bk.val.length s.bk.c)).setCell ⟨w.heap.size, 9, none⟩ (.slice s.sale.A s.sale.val.length s.sale.c)).setCell ⟨w.heap.size, 10, none⟩ (.slice s.pu.A s.pu.val.length s.pu.c)).setCell ⟨w.heap.size, 11, none⟩ (.slice s.ho.A s.ho.val.length s.ho.c))).heap.size (((((((((((((w1.setCell ⟨w.heap.size, 0, none⟩ (.int .i64 s.day)).setCell ⟨w.heap.size, 1, none⟩ (.slice s.mem.A s.mem.val.length s.mem.c)).setCell ⟨w.heap.size, 2, none⟩ (.slice s.ins.A s.ins.val.length s.ins.c)).setCell ⟨w.heap.size, 3, none⟩ (.slice s.ats.A s.ats.val.length s.ats.c)).setCell ⟨w.heap.size, 4, none⟩ (.slice s.acs.A s.acs.val.length s.acs.c)).setCell ⟨w.heap.size, 5, none⟩ (.slice s.cho.A s.cho.val.length s.cho.c)).setCell ⟨w.heap.size, 6, none⟩ (.slice s.grp.A s.grp.val.length s.grp.c)).setCell ⟨w.heap.size, 7, none⟩ (.slice s.giv.A s.giv.val.length s.giv.c)).setCell ⟨w.heap.size, 8, none⟩ (.slice s.bk.A s.bk.val.length s.bk.c)).setCell ⟨w.heap.size, 9, none⟩ (.slice s.sale.A s.sale.val.length s.sale.c)).setCell ⟨w.heap.size, 10, none⟩ (.slice s.pu.A s.pu.val.length s.pu.c)).setCell ⟨w.heap.size, 11, none⟩ (.slice s.ho.A s.ho.val.length s.ho.c))) W → GoodSt W s ∧ TabP W from fun W h => ⟨HFS.out.good HOK.out (HBX.out.trans (h.mono HBX.out.size)) ((late_only hon (by simp)).below h), HT.out.keep (HBX.out.trans (h.mono HBX.out.size))⟩)
 have HGX := (HGD.out _ (Below.refl _ _)).1
 have HML := Lib.hid (memberOf_le HGX id)
 have HAL := Lib.hid (allL_le HGX)
 have HALK := Lib.hid (all_alike (R := repL s) HSO.out)
 have y0 := (hbk).cell 0; have y1 := (hbk).cell 1; have y2 := (hbk).cell 2; have y3 := (hbk).cell 3; have y4 := (hbk).cell 4; have y5 := (hbk).cell 5; have y6 := (hbk).cell 6; have y7 := (hbk).cell 7; have y8 := (hbk).cell 8; have y9 := (hbk).cell 9; have y10 := (hbk).cell 10; have y11 := (hbk).cell 11; (simp only [List.getElem?_toArray, List.getElem?_cons_zero, List.getElem?_cons_succ] at y0 y1 y2 y3 y4 y5 y6 y7 y8 y9 y10 y11)
 have hzx := HBX.out.size
 have hlx := hbk.lt
 clear hst hon hbk hw1 hc1 hf1 hb1 HFS HOK HSO CF HT HGX
 generalize ((((((((((((w1.setCell ⟨w.heap.size, 0, none⟩ (.int .i64 s.day)).setCell ⟨w.heap.size, 1, none⟩ (.slice s.mem.A s.mem.val.length s.mem.c)).setCell ⟨w.heap.size, 2, none⟩ (.slice s.ins.A s.ins.val.length s.ins.c)).setCell ⟨w.heap.size, 3, none⟩ (.slice s.ats.A s.ats.val.length s.ats.c)).setCell ⟨w.heap.size, 4, none⟩ (.slice s.acs.A s.acs.val.length s.acs.c)).setCell ⟨w.heap.size, 5, none⟩ (.slice s.cho.A s.cho.val.length s.cho.c)).setCell ⟨w.heap.size, 6, none⟩ (.slice s.grp.A s.grp.val.length s.grp.c)).setCell ⟨w.heap.size, 7, none⟩ (.slice s.giv.A s.giv.val.length s.giv.c)).setCell ⟨w.heap.size, 8, none⟩ (.slice s.bk.A s.bk.val.length s.bk.c)).setCell ⟨w.heap.size, 9, none⟩ (.slice s.sale.A s.sale.val.length s.sale.c)).setCell ⟨w.heap.size, 10, none⟩ (.slice s.pu.A s.pu.val.length s.pu.c)).setCell ⟨w.heap.size, 11, none⟩ (.slice s.ho.A s.ho.val.length s.ho.c)) = wx at *
 have CM := Lib.hid (fun W (h : Below wx.heap.size wx W) => repMember s id W (HGD.out W h).2 (HGD.out W h).1)
 have CMR := Lib.hid (fun W (h : Below wx.heap.size wx W) => ref36Member s id W (HGD.out W h).1 hid)
 have CA := Lib.hid (fun W (h : Below wx.heap.size wx W) => repAll s W (HGD.out W h).2 (HGD.out W h).1)
 have car := fun W (h : Below wx.heap.size wx W) => ref36All s W (HGD.out W h).1
 rw [HALK.out] at car
 have CAR := Lib.hid car
 clear car HALK HGD
 have CS1 := Lib.hid (fun A B c d W h1 h2 => ref36Same (memberOf (repL s) id) A B c d W (Nat.le_trans HML.out (by omega)) h1 h2)
 have CS2 := Lib.hid (fun A B c d W h1 h2 => ref36Same (allL (repL s)) A B c d W HAL.out h1 h2)
 generalize memberOf (repL s) id = MO at *
 generalize allL (repL s) = AL at *
 go_region_held3 (fun w' => ((w').cell? ⟨w.heap.size, 0, none⟩ = some (.int .i64 (s).day) ∧ (w').cell? ⟨w.heap.size, 1, none⟩ = some (.slice (s).mem.A (s).mem.val.length (s).mem.c) ∧ (w').cell? ⟨w.heap.size, 2, none⟩ = some (.slice (s).ins.A (s).ins.val.length (s).ins.c) ∧ (w').cell? ⟨w.heap.size, 3, none⟩ = some (.slice (s).ats.A (s).ats.val.length (s).ats.c) ∧ (w').cell? ⟨w.heap.size, 4, none⟩ = some (.slice (s).acs.A (s).acs.val.length (s).acs.c) ∧ (w').cell? ⟨w.heap.size, 5, none⟩ = some (.slice (s).cho.A (s).cho.val.length (s).cho.c) ∧ (w').cell? ⟨w.heap.size, 6, none⟩ = some (.slice (s).grp.A (s).grp.val.length (s).grp.c) ∧ (w').cell? ⟨w.heap.size, 7, none⟩ = some (.slice (s).giv.A (s).giv.val.length (s).giv.c) ∧ (w').cell? ⟨w.heap.size, 8, none⟩ = some (.slice (s).bk.A (s).bk.val.length (s).bk.c) ∧ (w').cell? ⟨w.heap.size, 9, none⟩ = some (.slice (s).sale.A (s).sale.val.length (s).sale.c) ∧ (w').cell? ⟨w.heap.size, 10, none⟩ = some (.slice (s).pu.A (s).pu.val.length (s).pu.c) ∧ (w').cell? ⟨w.heap.size, 11, none⟩ = some (.slice (s).ho.A (s).ho.val.length (s).ho.c))) (exact tK) (first | (go_at_call 12; (with_reducible refine (CM.out _ tB).mono ?_); rintro e w4 ⟨v4, rfl, hown4, hb4⟩; obtain ⟨A4, c4, hv4, hrs4, _⟩ := hown4.rs; (rw [List.length_map] at hv4); subst hv4; have HS4 := Lib.hid hrs4.rd; clear hown4 hrs4; obtain ⟨fc4, fg4, hc4, hf4, hz4⟩ := bget hb4; (try simp at hz4)) | (go_at_call 13; (with_reducible refine (CMR.out _ tB).mono ?_); rintro e w5 ⟨v5, rfl, hown5, hb5⟩; obtain ⟨A5, c5, hv5, hrs5, _⟩ := hown5.rs; (rw [List.length_map] at hv5); subst hv5; have HS5 := Lib.hid hrs5.rd; clear hown5 hrs5; obtain ⟨fc5, fg5, hc5, hf5, hz5⟩ := bget hb5; (try simp at hz5)) | (go_at_call 11; (with_reducible refine cM (CS1.out _ _ _ _ _ (HS4.out.keep tB) (HS5.out.keep tB)) fun w6 hb6 fc6 fg6 hc6 hf6 hz6 => ?_); (try simp at hz6)) | (go_at_call 8; (with_reducible refine (CA.out _ tB).mono ?_); rintro e w7 ⟨v7, rfl, hown7, hb7⟩; obtain ⟨A7, c7, hv7, hrs7, _⟩ := hown7.rs; (rw [List.length_map] at hv7); subst hv7; have HS7 := Lib.hid hrs7.rd; clear hown7 hrs7; obtain ⟨fc7, fg7, hc7, hf7, hz7⟩ := bget hb7; (try simp at hz7)) | (go_at_call 14; (with_reducible refine (CAR.out _ tB).mono ?_); rintro e w8 ⟨v8, rfl, hown8, hb8⟩; obtain ⟨A8, c8, hv8, hrs8, _⟩ := hown8.rs; (rw [List.length_map] at hv8); subst hv8; have HS8 := Lib.hid hrs8.rd; clear hown8 hrs8; obtain ⟨fc8, fg8, hc8, hf8, hz8⟩ := bget hb8; (try simp at hz8)) | (go_at_call 11; (with_reducible refine cM (CS2.out _ _ _ _ _ (HS7.out.keep tB) (HS8.out.keep tB)) fun w9 hb9 fc9 fg9 hc9 hf9 hz9 => ?_); (try simp at hz9)) | (go_at_call 7; (with_reducible refine cM (CLV.out _ (by have h := HBX.out; exact tB)) fun w10 hb10 fc10 fg10 hc10 hf10 hz10 => ?_); (try simp at hz10)) | fail)
 all_goals
  go_wp2_with fail
  go_ret
  exact ⟨rfl, by have h := HBX.out; exact tB⟩
end Go.Proofs.YtalgfpegaobacaaGreatDoor
