/- Joined. -/
import Derived.Test.YtalgfpegaobacaaGreatDoorQz21
import Derived.Test.YtalgfpegaobacaaGreatDoorQz22
import Derived.Laws.Concat
namespace Go.Proofs.YtalgfpegaobacaaGreatDoor
set_option linter.all false
set_option maxHeartbeats 64000000
set_option maxRecDepth 100000
open Go.RowKit
open Lib (hid)
/- Pages: contract of account. -/
theorem account_bound {a : Acct} (h : In64 a.id ∧ In64 a.member) : (lnL (accountW a)).length ≤ 100000 := by
 refine Nat.le_trans (join_len (accountW a) 43 ?_) (by simp [accountW])
 have h1 := itoa_le h.1
 have h2 := itoa_le h.2
 have h3 := kind_le a.kind
 simp only [accountW, List.mem_cons, List.not_mem_nil, or_false, forall_eq_or_imp, forall_eq]
 exact ⟨by simp, by omega, by omega, by simp, by omega⟩
theorem margin_bound {R : RepL} {a : Acct} {u : Un} (hu : In64 u.acc ∧ In64 u.cli) : (lnL (marginW R a u)).length ≤ 100000 := by
 refine Nat.le_trans (join_len (marginW R a u) 43 ?_) (by simp [marginW])
 have h1 := place_le hu
 have h2 := maybe_le (e := nofC R.S.ins R.S.bk a u) (nofN_pos R.S.ins R.S.bk a u).2
 have h3 := maybe_le (e := excC R.S a u) (excN64 R.S a u)
 simp only [marginW, List.mem_cons, List.not_mem_nil, or_false, forall_eq_or_imp, forall_eq]
 exact ⟨by simp, h1, by simp, by omega, by simp, by omega⟩
theorem unitsL_app (R : RepL) : ∀ l m : List Un, unitsL R (l ++ m) = unitsL R l ++ unitsL R m
 | [], _ => rfl
 | u :: l, m => by show unitL R u ++ unitsL R (l ++ m) = _; rw [unitsL_app R l m, ← List.append_assoc]; rfl
theorem unitsL_snoc {R : RepL} {l : List Un} {k : Nat} (h : k < l.length) : unitsL R (l.take (k + 1)) = unitsL R (l.take k) ++ unitL R l[k] := by
 rw [List.take_succ_eq_append_getElem h, unitsL_app]
 show _ ++ (_ ++ []) = _
 rw [List.append_nil]
theorem unitL_le {w : World} {s : StV} (h : GoodSt w s) (u : Un) : (unitL (repL s) u).length ≤ 121 := by
 have h1 := (ofB_ok h.lb u).1
 have h2 := (ofB_ok h.lsl u).1
 have h3 := (ofT_ok h.lh u).1
 show (_ :: (legsL _ _ (ofK (s.bk.val.map lgPosV) u) ++ (legsL _ _ (ofK (s.sale.val.map lgPosV) u) ++ lotsL _ (ofK (s.ho.val.map lgHoldV) u)))).length ≤ 121
 simp [legsL, lotsL]
 omega
theorem unitsL_le {R : RepL} {m : Nat} (h : ∀ u, (unitL R u).length ≤ m) : ∀ l : List Un, (unitsL R l).length ≤ m * l.length
 | [] => Nat.le_refl _
 | u :: l => by
  have ih := unitsL_le h l
  have h1 := h u
  show (unitL R u ++ unitsL R l).length ≤ m * (l.length + 1)
  rw [List.length_append, Nat.mul_add]; omega
theorem unitsA_64 {a : Acct} (h : In64 a.id ∧ ∀ z ∈ a.clients, In64 z) : ∀ u ∈ unitsA a, In64 u.acc ∧ In64 u.cli := by
 intro u hu
 unfold unitsA at hu
 split at hu
 ·rw [List.mem_singleton] at hu; subst hu; exact ⟨h.1, by unfold In64; simp⟩
 ·obtain ⟨z, hz, rfl⟩ := List.mem_map.1 hu
  exact ⟨h.1, h.2 z hz⟩
theorem unitsN_64 {a : Acct} (h : In64 a.id ∧ ∀ z ∈ a.clients, In64 z) : ∀ u ∈ unitsN a, In64 u.acc ∧ In64 u.cli := by
 intro u hu
 unfold unitsN at hu
 split at hu
 ·rw [List.mem_singleton] at hu; subst hu; exact ⟨h.1, by unfold In64; simp⟩
 ·exact unitsA_64 h u hu
theorem pageAccount (g base : Nat) (s : StV) (a : AcctV) (ls : List Str) (w0 w : World) (h0 : Below w0.heap.size w0 w) (hg0 : w0.heap.size ≤ g) (ht : TabP w0) (hs : GoodSt w0 s) (ha : ∀ W, PgA 9 g w0.heap.size w W → GoodA W a) (hal : a.clients.val.length ≤ 40) (h64 : In64 a.id ∧ In64 a.member ∧ In64 a.kind ∧ ∀ z ∈ a.clients.val, In64 z) (hp : Page w g base ls) (hll : ls.length ≤ 800000000) :
  Calls Tryz.prog 71 #[.pointer (some ⟨g, 0, none⟩), .agg #[.int .i64 (s).day, .slice (s).mem.A (s).mem.val.length (s).mem.c, .slice (s).ins.A (s).ins.val.length (s).ins.c, .slice (s).ats.A (s).ats.val.length (s).ats.c, .slice (s).acs.A (s).acs.val.length (s).acs.c, .slice (s).cho.A (s).cho.val.length (s).cho.c, .slice (s).grp.A (s).grp.val.length (s).grp.c, .slice (s).giv.A (s).giv.val.length (s).giv.c, .slice (s).bk.A (s).bk.val.length (s).bk.c, .slice (s).sale.A (s).sale.val.length (s).sale.c, .slice (s).pu.A (s).pu.val.length (s).pu.c, .slice (s).ho.A (s).ho.val.length (s).ho.c], .agg #[.int .i64 a.id, .int .i64 a.member, .int .i64 a.kind, .slice a.clients.A a.clients.val.length a.clients.c]] w fun e w' => e = .returned (.tuple #[]) ∧ Page w' g base (ls ++ accountL (repL s) (lgA a)) ∧ PgA 9 g w0.heap.size w w' := by
 have CN1 := hid (fun W (h : Below w0.heap.size w0 W) => repNum a.id W h64.1 (ht.keep h))
 have CN2 := hid (fun W (h : Below w0.heap.size w0 W) => repNum a.member W h64.2.1 (ht.keep h))
 have CK := hid (fun W => repKind a.kind W)
 have CP := hid (fun u W (hu : In64 u.acc ∧ In64 u.cli) (h : Below w0.heap.size w0 W) => repPlace u W hu (ht.keep h))
 have CM := hid (fun n c W (hn : In64 n) (h : Below w0.heap.size w0 W) => repMaybe n c W hn (ht.keep h))
 have CNO := hid (fun u W (h : Below w0.heap.size w0 W) (h2 : GoodA W a) => (show Calls Tryz.prog 109 #[.slice s.ins.A s.ins.val.length s.ins.c, .slice s.bk.A s.bk.val.length s.bk.c, .agg #[.int .i64 a.id, .int .i64 a.member, .int .i64 a.kind, .slice a.clients.A a.clients.val.length a.clients.c], .agg #[.int .i64 u.acc, .int .i64 u.cli]] W fun e w' => e = .returned (.tuple #[.int .i64 (nofN (repL s).S.ins (repL s).S.bk (lgA a) u), .int .i64 (nofC (repL s).S.ins (repL s).S.bk (lgA a) u)]) ∧ Below W.heap.size W w' from
  needOf s.ins.val s.bk.val a u s.ins.A s.bk.A s.ins.c s.bk.c W (by have : s.ins.val.length ≤ 1000 := hs.side.li; omega) (by have : s.bk.val.length ≤ 1000 := hs.side.lb; omega) (by omega) hs.side.b64 (hs.side.ri.keep h) (fun x hx => ⟨(hs.side.gi x hx).1, (hs.side.gi x hx).2.keep h⟩) (hs.side.rb.keep h) (fun x hx => (hs.side.gb x hx).keep h) h2))
 have CEX := hid (fun u W (h : Below w0.heap.size w0 W) (h2 : GoodA W a) => (show Calls Tryz.prog 110 #[.agg #[.slice s.ats.A s.ats.val.length s.ats.c, .slice s.ins.A s.ins.val.length s.ins.c, .slice s.bk.A s.bk.val.length s.bk.c, .slice s.pu.A s.pu.val.length s.pu.c, .slice s.ho.A s.ho.val.length s.ho.c], .agg #[.int .i64 a.id, .int .i64 a.member, .int .i64 a.kind, .slice a.clients.A a.clients.val.length a.clients.c], .agg #[.int .i64 u.acc, .int .i64 u.cli]] W fun e w' => e = .returned (.tuple #[.int .i64 (excN (repL s).S (lgA a) u), .int .i64 (excC (repL s).S (lgA a) u)]) ∧ Below W.heap.size W w' from
  coverExcess (sideV s) a u W (hs.side.keep h) h2 (by omega)))
 have CNU := hid (fun W (h2 : GoodA W a) => needUnitsO a W (by omega) h2)
 have CAU := hid (fun W (h2 : GoodA W a) => acctUnitsO a W (by omega) h2)
 have hul := unitsN_len (lgA a)
 rw [show (lgA a).clients.length = a.clients.val.length from rfl] at hul
 have hua := unitsA_le (lgA a)
 rw [show (lgA a).clients.length = a.clients.val.length from rfl] at hua
 have HU64 := hid (unitsN_64 (a := lgA a) ⟨h64.1, h64.2.2.2⟩)
 have HA64 := hid (unitsA_64 (a := lgA a) ⟨h64.1, h64.2.2.2⟩)
 have HUU := hid (unitsL_le (unitL_le hs))
 have CUN := hid (fun u ls W (hu : In64 u.acc ∧ In64 u.cli) (h : Below w0.heap.size w0 W) (hp : Page W g base ls) (hll : ls.length ≤ 900000000) => pageUnit g base s u ls w0 W h hg0 ht hs hu hp hll)
 have HEND0 := (show accountL (repL s) (lgA a) = lnL [wdAccount, Lib.itoa a.id, kindL a.kind, wdMember, Lib.itoa a.member] :: (marginsL (repL s) (lgA a) (unitsN (lgA a)) ++ unitsL (repL s) (unitsA (lgA a))) from rfl)
 have HBA := hid (show (lnL [wdAccount, Lib.itoa a.id, kindL a.kind, wdMember, Lib.itoa a.member]).length ≤ 100000 from account_bound (a := lgA a) ⟨h64.1, h64.2.1⟩)
 have HN64 := hid (fun u => (nofN_pos (repL s).S.ins (repL s).S.bk (lgA a) u).2)
 have HE64 := hid (fun u => excN64 (repL s).S (lgA a) u)
 have HP0 := hid hp
 have H00 := hid h0
 have HGA := hid ha
 have hz0 := h0.size
 have hgb := hp.lt
 have hbs := hp.size
 generalize accountL (repL s) (lgA a) = AL at *
 generalize repL s = R at *
 generalize unitsN (lgA a) = US at *
 generalize unitsA (lgA a) = UA at *
 obtain ⟨L1, hL1⟩ : ∃ L, L = ls ++ [lnL [wdAccount, Lib.itoa a.id, kindL a.kind, wdMember, Lib.itoa a.member]] := ⟨_, rfl⟩
 obtain ⟨L2, hL2⟩ : ∃ L, L = L1 ++ marginsL R (lgA a) US := ⟨_, rfl⟩
 have HEND := hid (show ls ++ AL = L2 ++ unitsL R UA from by rw [hL2, hL1, HEND0]; simp)
 have l1 : L1.length ≤ 800000001 := by rw [hL1]; simp; omega
 have l2 : L2.length ≤ 800000043 := by rw [hL2]; simp [marginsL]; omega
 have HL2 := hid hL2
 have CLN0 := fun W (h : Below w.heap.size w W) => (show Calls Tryz.prog 28 #[.pointer (some ⟨g, 0, none⟩), .slice (some ⟨W.heap.size, 0, none⟩) 5 5] (W.alloc (.cells #[strV wdAccount, strV (Lib.itoa a.id), strV (kindL a.kind), strV wdMember, strV (Lib.itoa a.member)] 9)) fun e w' => e = .returned (.tuple #[]) ∧ Page w' g base (ls ++ [lnL [wdAccount, Lib.itoa a.id, kindL a.kind, wdMember, Lib.itoa a.member]]) ∧ PgA 9 g w0.heap.size (W.alloc (.cells #[strV wdAccount, strV (Lib.itoa a.id), strV (kindL a.kind), strV wdMember, strV (Lib.itoa a.member)] 9)) w' from
  pageLineP g base w0.heap.size W.heap.size 5 ls [wdAccount, Lib.itoa a.id, kindL a.kind, wdMember, Lib.itoa a.member] _ (hp.keep (h.alloc h.size _)) hg0 (rd_strs rfl rfl) (by simp) (Nat.le_refl _) (by simp) HBA.out (by omega))
 rw [← hL1] at CLN0
 have CLN := hid CLN0
 clear CLN0 hp h0 ht hs h64 hL1 hL2 HEND0 ha
 generalize Lib.itoa a.id = J1 at *
 generalize Lib.itoa a.member = J2 at *
 generalize kindL a.kind = J3 at *
 go_enter Tryz.func71, Tryz.ntmps71
 go_wp2_with fail
 have KS := hid (show Blk ((w.alloc (.cells #[.int .i64 (s).day, .slice (s).mem.A (s).mem.val.length (s).mem.c, .slice (s).ins.A (s).ins.val.length (s).ins.c, .slice (s).ats.A (s).ats.val.length (s).ats.c, .slice (s).acs.A (s).acs.val.length (s).acs.c, .slice (s).cho.A (s).cho.val.length (s).cho.c, .slice (s).grp.A (s).grp.val.length (s).grp.c, .slice (s).giv.A (s).giv.val.length (s).giv.c, .slice (s).bk.A (s).bk.val.length (s).bk.c, .slice (s).sale.A (s).sale.val.length (s).sale.c, .slice (s).pu.A (s).pu.val.length (s).pu.c, .slice (s).ho.A (s).ho.val.length (s).ho.c] 33)).alloc (.cells #[.int .i64 a.id, .int .i64 a.member, .int .i64 a.kind, .slice a.clients.A a.clients.val.length a.clients.c] 54)) w.heap.size 33 #[.int .i64 (s).day, .slice (s).mem.A (s).mem.val.length (s).mem.c, .slice (s).ins.A (s).ins.val.length (s).ins.c, .slice (s).ats.A (s).ats.val.length (s).ats.c, .slice (s).acs.A (s).acs.val.length (s).acs.c, .slice (s).cho.A (s).cho.val.length (s).cho.c, .slice (s).grp.A (s).grp.val.length (s).grp.c, .slice (s).giv.A (s).giv.val.length (s).giv.c, .slice (s).bk.A (s).bk.val.length (s).bk.c, .slice (s).sale.A (s).sale.val.length (s).sale.c, .slice (s).pu.A (s).pu.val.length (s).pu.c, .slice (s).ho.A (s).ho.val.length (s).ho.c] by exact tL)
 have KA := hid (show Blk ((w.alloc (.cells #[.int .i64 (s).day, .slice (s).mem.A (s).mem.val.length (s).mem.c, .slice (s).ins.A (s).ins.val.length (s).ins.c, .slice (s).ats.A (s).ats.val.length (s).ats.c, .slice (s).acs.A (s).acs.val.length (s).acs.c, .slice (s).cho.A (s).cho.val.length (s).cho.c, .slice (s).grp.A (s).grp.val.length (s).grp.c, .slice (s).giv.A (s).giv.val.length (s).giv.c, .slice (s).bk.A (s).bk.val.length (s).bk.c, .slice (s).sale.A (s).sale.val.length (s).sale.c, .slice (s).pu.A (s).pu.val.length (s).pu.c, .slice (s).ho.A (s).ho.val.length (s).ho.c] 33)).alloc (.cells #[.int .i64 a.id, .int .i64 a.member, .int .i64 a.kind, .slice a.clients.A a.clients.val.length a.clients.c] 54)) (w.heap.size + 1) 54 #[.int .i64 a.id, .int .i64 a.member, .int .i64 a.kind, .slice a.clients.A a.clients.val.length a.clients.c] by exact tL)
 have H0R := hid (show Below w0.heap.size w0 ((w.alloc (.cells #[.int .i64 (s).day, .slice (s).mem.A (s).mem.val.length (s).mem.c, .slice (s).ins.A (s).ins.val.length (s).ins.c, .slice (s).ats.A (s).ats.val.length (s).ats.c, .slice (s).acs.A (s).acs.val.length (s).acs.c, .slice (s).cho.A (s).cho.val.length (s).cho.c, .slice (s).grp.A (s).grp.val.length (s).grp.c, .slice (s).giv.A (s).giv.val.length (s).giv.c, .slice (s).bk.A (s).bk.val.length (s).bk.c, .slice (s).sale.A (s).sale.val.length (s).sale.c, .slice (s).pu.A (s).pu.val.length (s).pu.c, .slice (s).ho.A (s).ho.val.length (s).ho.c] 33)).alloc (.cells #[.int .i64 a.id, .int .i64 a.member, .int .i64 a.kind, .slice a.clients.A a.clients.val.length a.clients.c] 54)) by have h := H00.out; exact tB)
 go_region_held3 (fun w' => (w'.cell? ⟨w.heap.size + 1, 0, none⟩ = some (.int .i64 a.id) ∧ w'.cell? ⟨w.heap.size + 1, 1, none⟩ = some (.int .i64 a.member) ∧ w'.cell? ⟨w.heap.size + 1, 2, none⟩ = some (.int .i64 a.kind))) (exact tK) (first | (go_at_call 29; (with_reducible refine cM (CN1.out _ (by have h := H0R.out; exact tB)) fun w1 hb1 fc1 fg1 hc1 hf1 hz1 => ?_); (try simp at hz1)) | (go_at_call 107; (with_reducible refine cM (CK.out _) fun w2 hb2 fc2 fg2 hc2 hf2 hz2 => ?_); (try simp at hz2)) | (go_at_call 29; (with_reducible refine cM (CN2.out _ (by have h := H0R.out; exact tB)) fun w3 hb3 fc3 fg3 hc3 hf3 hz3 => ?_); (try simp at hz3)) | (go_at_call 28; (with_reducible refine (CLN.out _ tB).mono ?_); rintro e w5 ⟨rfl, hpg5, hpa5⟩; have HP5 := hid hpg5; have ks := hpa5.blk (t := 33) (b := w.heap.size) (cs := #[.int .i64 (s).day, .slice (s).mem.A (s).mem.val.length (s).mem.c, .slice (s).ins.A (s).ins.val.length (s).ins.c, .slice (s).ats.A (s).ats.val.length (s).ats.c, .slice (s).acs.A (s).acs.val.length (s).acs.c, .slice (s).cho.A (s).cho.val.length (s).cho.c, .slice (s).grp.A (s).grp.val.length (s).grp.c, .slice (s).giv.A (s).giv.val.length (s).giv.c, .slice (s).bk.A (s).bk.val.length (s).bk.c, .slice (s).sale.A (s).sale.val.length (s).sale.c, .slice (s).pu.A (s).pu.val.length (s).pu.c, .slice (s).ho.A (s).ho.val.length (s).ho.c]) (by have := KS.out; exact tL) (by decide) (by omega); have ka := hpa5.blk (t := 54) (b := w.heap.size + 1) (cs := #[.int .i64 a.id, .int .i64 a.member, .int .i64 a.kind, .slice a.clients.A a.clients.val.length a.clients.c]) (by have := KA.out; exact tL) (by decide) (by omega); have ka0 := (ka).cell 0; have ka1 := (ka).cell 1; have ka2 := (ka).cell 2; have ka3 := (ka).cell 3; (simp only [List.getElem?_toArray, List.getElem?_cons_zero, List.getElem?_cons_succ] at ka0 ka1 ka2 ka3); have KS5 := hid ks; have KA5 := hid ka; have H5 := hid (show PgA 9 g w0.heap.size w w5 from (PgA.of_below tB (by omega)).trans hpa5); clear hpg5 hpa5) | fail)
 all_goals
  clear hc1 hf1 hb1 hc2 hf2 hb2 hc3 hf3 hb3 ks ka CLN KS KA H0R
  (obtain ⟨wq, hwq⟩ : ∃ x, x = w5 := ⟨_, rfl⟩)
  subst hwq
  go_wp2_with (first | (go_at_call 108; (with_reducible refine (CNU.out _ (HGA.out _ (H5.out.grow (by omega) tB))).mono ?_); rintro e w6 ⟨v6, rfl, hown6, hb6⟩; obtain ⟨A6, c6, hv6, _, _⟩ := hown6.rs; (rw [List.length_map] at hv6); subst hv6; have hbw := HP5.out.size; have HO6 := hid (hown6.mono (b := base) tZ); clear hown6; obtain ⟨fc6, fg6, hc6, hf6, hz6⟩ := bget hb6; (try simp at hz6)) | fail)
  have H6 := hid (show Below wq.heap.size wq w6 from by exact tB)
  have hzq := H5.out.size
  have hz6 := H6.out.size
  have KS6 := hid (KS5.out.below H6.out KS5.out.lt)
  have KA6 := hid (KA5.out.below H6.out KA5.out.lt)
  have HPG6 := hid (HP5.out.keep H6.out)
  have HPA6 := hid (H5.out.grow (by omega) H6.out)
  clear hc6 hf6 hb6 ka0 ka1 ka2 ka3 KS5 KA5 HP5 H5 H6
  go_loopw [27] (fun i wx => ∃ k : Nat, k ≤ US.length ∧ i = .int .i64 k ∧ Page wx g base (L1 ++ marginsL R (lgA a) (US.take k)) ∧ PgA 9 g w0.heap.size w6 wx ∧ Blk wx w.heap.size 33 #[.int .i64 (s).day, .slice (s).mem.A (s).mem.val.length (s).mem.c, .slice (s).ins.A (s).ins.val.length (s).ins.c, .slice (s).ats.A (s).ats.val.length (s).ats.c, .slice (s).acs.A (s).acs.val.length (s).acs.c, .slice (s).cho.A (s).cho.val.length (s).cho.c, .slice (s).grp.A (s).grp.val.length (s).grp.c, .slice (s).giv.A (s).giv.val.length (s).giv.c, .slice (s).bk.A (s).bk.val.length (s).bk.c, .slice (s).sale.A (s).sale.val.length (s).sale.c, .slice (s).pu.A (s).pu.val.length (s).pu.c, .slice (s).ho.A (s).ho.val.length (s).ho.c] ∧ Blk wx (w.heap.size + 1) 54 #[.int .i64 a.id, .int .i64 a.member, .int .i64 a.kind, .slice a.clients.A a.clients.val.length a.clients.c]) (fun i _ => US.length - (intOf i).toNat)
  case atStart => exact ⟨0, Nat.zero_le _, rfl, by rw [List.take_zero]; show Page _ g base (L1 ++ []); rw [List.append_nil]; exact HPG6.out, PgA.refl _ _ _ _, KS6.out, KA6.out⟩
  case round =>
   obtain ⟨k, hk, rfl, hpg, hpa, hks, hka⟩ := hrel
   have HPX := hid hpg
   have HAX := hid hpa
   have KS := hid hks
   have KA := hid hka
   have hzx := hpa.size
   have hlw := hka.lt
   have hbx := hpg.size
   have HAW := hid (HPA6.out.trans hpa)
   have H0X := hid (H00.out.trans (HPA6.out.trans hpa).below)
   clear hpg hpa hks hka
   by_cases hlt : k < US.length
   ·have kl : (k : Int) < (US.length : Int) := by omega
    have dl := @dT k US.length hlt
    obtain ⟨b, o, rfl, hb, hc⟩ := (HO6.out.pga HAX.out (by decide) hgb).rd.1 k (encUn US[k]) (by simp [hlt])
    have e0 := hc 0 _ rfl
    have e1 := hc 1 _ rfl
    simp only [Nat.add_zero] at e0
    have hu64 := HU64.out US[k] (List.getElem_mem hlt)
    have HB1 := hid (show (lnL [wdMargin, placeL US[k], wdNeed, maybeL (nofN R.S.ins R.S.bk (lgA a) US[k]) (nofC R.S.ins R.S.bk (lgA a) US[k]), wdExcess, maybeL (excN R.S (lgA a) US[k]) (excC R.S (lgA a) US[k])]).length ≤ 100000 from margin_bound (R := R) (a := lgA a) hu64)
    have HSN := hid (show L1 ++ marginsL R (lgA a) (US.take (k + 1)) = L1 ++ marginsL R (lgA a) (US.take k) ++ [lnL [wdMargin, placeL US[k], wdNeed, maybeL (nofN R.S.ins R.S.bk (lgA a) US[k]) (nofC R.S.ins R.S.bk (lgA a) US[k]), wdExcess, maybeL (excN R.S (lgA a) US[k]) (excC R.S (lgA a) US[k])]] from by unfold marginsL; rw [map_snoc hlt, List.append_assoc]; rfl)
    have hlen : (L1 ++ marginsL R (lgA a) (US.take k)).length ≤ 1000000000 := by unfold marginsL; simp; omega
    have CNO1 := hid (CNO.out US[k])
    have CEX1 := hid (CEX.out US[k])
    have CP1 := hid (fun W h => CP.out US[k] W hu64 h)
    have hn64 := HN64.out US[k]
    have he64 := HE64.out US[k]
    clear hc
    generalize nofN R.S.ins R.S.bk (lgA a) US[k] = n1 at *
    generalize nofC R.S.ins R.S.bk (lgA a) US[k] = c1 at *
    generalize excN R.S (lgA a) US[k] = n2 at *
    generalize excC R.S (lgA a) US[k] = c2 at *
    have CLN0 := fun W (h : Below wr.heap.size wr W) => (show Calls Tryz.prog 28 #[.pointer (some ⟨g, 0, none⟩), .slice (some ⟨W.heap.size, 0, none⟩) 6 6] (W.alloc (.cells #[strV wdMargin, strV (placeL US[k]), strV wdNeed, strV (maybeL n1 c1), strV wdExcess, strV (maybeL n2 c2)] 9)) fun e w' => e = .returned (.tuple #[]) ∧ Page w' g base (L1 ++ marginsL R (lgA a) (US.take k) ++ [lnL [wdMargin, placeL US[k], wdNeed, maybeL n1 c1, wdExcess, maybeL n2 c2]]) ∧ PgA 9 g w0.heap.size (W.alloc (.cells #[strV wdMargin, strV (placeL US[k]), strV wdNeed, strV (maybeL n1 c1), strV wdExcess, strV (maybeL n2 c2)] 9)) w' from
     pageLineP g base w0.heap.size W.heap.size 6 (L1 ++ marginsL R (lgA a) (US.take k)) [wdMargin, placeL US[k], wdNeed, maybeL n1 c1, wdExcess, maybeL n2 c2] _ (HPX.out.keep (h.alloc h.size _)) hg0 (rd_strs rfl rfl) (by simp) (Nat.le_refl _) (by simp) HB1.out hlen)
    rw [← HSN.out] at CLN0
    have CLN := hid CLN0
    have CM1 := hid (fun W h => CM.out n1 c1 W hn64 h)
    have CM2 := hid (fun W h => CM.out n2 c2 W he64 h)
    clear CLN0 hlen
    generalize placeL US[k] = J5 at *
    generalize maybeL n1 c1 = J6 at *
    generalize maybeL n2 c2 = J7 at *
    have y0 := (KS.out).cell 0; have y1 := (KS.out).cell 1; have y2 := (KS.out).cell 2; have y3 := (KS.out).cell 3; have y4 := (KS.out).cell 4; have y5 := (KS.out).cell 5; have y6 := (KS.out).cell 6; have y7 := (KS.out).cell 7; have y8 := (KS.out).cell 8; have y9 := (KS.out).cell 9; have y10 := (KS.out).cell 10; have y11 := (KS.out).cell 11; (simp only [List.getElem?_toArray, List.getElem?_cons_zero, List.getElem?_cons_succ] at y0 y1 y2 y3 y4 y5 y6 y7 y8 y9 y10 y11)
    have za0 := (KA.out).cell 0; have za1 := (KA.out).cell 1; have za2 := (KA.out).cell 2; have za3 := (KA.out).cell 3; (simp only [List.getElem?_toArray, List.getElem?_cons_zero, List.getElem?_cons_succ] at za0 za1 za2 za3)
    go_wp2_with (first | (go_at_call 109; (with_reducible refine cM (CNO1.out _ (by have h := H0X.out; exact tB) (HGA.out _ (HAW.out.grow (by omega) tB))) fun w1 hb1 fc1 fg1 hc1 hf1 hz1 => ?_); (try simp at hz1)) | (go_at_call 67; (with_reducible refine cM (CM1.out _ (by have h := H0X.out; exact tB)) fun w2 hb2 fc2 fg2 hc2 hf2 hz2 => ?_); (try simp at hz2)) | fail)
    go_region_held3 (fun w' => ((w').cell? ⟨w.heap.size, 0, none⟩ = some (.int .i64 (s).day) ∧ (w').cell? ⟨w.heap.size, 1, none⟩ = some (.slice (s).mem.A (s).mem.val.length (s).mem.c) ∧ (w').cell? ⟨w.heap.size, 2, none⟩ = some (.slice (s).ins.A (s).ins.val.length (s).ins.c) ∧ (w').cell? ⟨w.heap.size, 3, none⟩ = some (.slice (s).ats.A (s).ats.val.length (s).ats.c) ∧ (w').cell? ⟨w.heap.size, 4, none⟩ = some (.slice (s).acs.A (s).acs.val.length (s).acs.c) ∧ (w').cell? ⟨w.heap.size, 5, none⟩ = some (.slice (s).cho.A (s).cho.val.length (s).cho.c) ∧ (w').cell? ⟨w.heap.size, 6, none⟩ = some (.slice (s).grp.A (s).grp.val.length (s).grp.c) ∧ (w').cell? ⟨w.heap.size, 7, none⟩ = some (.slice (s).giv.A (s).giv.val.length (s).giv.c) ∧ (w').cell? ⟨w.heap.size, 8, none⟩ = some (.slice (s).bk.A (s).bk.val.length (s).bk.c) ∧ (w').cell? ⟨w.heap.size, 9, none⟩ = some (.slice (s).sale.A (s).sale.val.length (s).sale.c) ∧ (w').cell? ⟨w.heap.size, 10, none⟩ = some (.slice (s).pu.A (s).pu.val.length (s).pu.c) ∧ (w').cell? ⟨w.heap.size, 11, none⟩ = some (.slice (s).ho.A (s).ho.val.length (s).ho.c)) ∧ (w'.cell? ⟨w.heap.size + 1, 0, none⟩ = some (.int .i64 a.id) ∧ w'.cell? ⟨w.heap.size + 1, 1, none⟩ = some (.int .i64 a.member) ∧ w'.cell? ⟨w.heap.size + 1, 2, none⟩ = some (.int .i64 a.kind) ∧ w'.cell? ⟨w.heap.size + 1, 3, none⟩ = some (.slice a.clients.A a.clients.val.length a.clients.c)) ∧ w'.cell? ⟨wr.heap.size, 0, none⟩ = some (.int .i64 US[k].acc) ∧ w'.cell? ⟨wr.heap.size, 1, none⟩ = some (.int .i64 US[k].cli)) (exact tK) (first | (go_at_call 111; (with_reducible refine cM (repSide s _) fun w3 hb3 fc3 fg3 hc3 hf3 hz3 => ?_); (try simp at hz3)) | (go_at_call 110; (with_reducible refine cM (CEX1.out _ (by have h := H0X.out; exact tB) (HGA.out _ (HAW.out.grow (by omega) tB))) fun w4 hb4 fc4 fg4 hc4 hf4 hz4 => ?_); (try simp at hz4)) | (go_at_call 67; (with_reducible refine cM (CM2.out _ (by have h := H0X.out; exact tB)) fun w5 hb5 fc5 fg5 hc5 hf5 hz5 => ?_); (try simp at hz5)) | fail)
    all_goals
     go_wp2_with (first | (go_at_call 61; (with_reducible refine cM (CP1.out _ (by have h := H0X.out; exact tB)) fun w6 hb6 fc6 fg6 hc6 hf6 hz6 => ?_); (try simp at hz6)) | (go_at_call 28; (with_reducible refine (CLN.out _ tB).mono ?_); rintro e w9 ⟨rfl, hpg9, hpa9⟩; have HP9 := hid hpg9; have ks := hpa9.blk (t := 33) (b := w.heap.size) (cs := #[.int .i64 (s).day, .slice (s).mem.A (s).mem.val.length (s).mem.c, .slice (s).ins.A (s).ins.val.length (s).ins.c, .slice (s).ats.A (s).ats.val.length (s).ats.c, .slice (s).acs.A (s).acs.val.length (s).acs.c, .slice (s).cho.A (s).cho.val.length (s).cho.c, .slice (s).grp.A (s).grp.val.length (s).grp.c, .slice (s).giv.A (s).giv.val.length (s).giv.c, .slice (s).bk.A (s).bk.val.length (s).bk.c, .slice (s).sale.A (s).sale.val.length (s).sale.c, .slice (s).pu.A (s).pu.val.length (s).pu.c, .slice (s).ho.A (s).ho.val.length (s).ho.c]) (by have := KS.out; exact tL) (by decide) (by omega); have ka := hpa9.blk (t := 54) (b := w.heap.size + 1) (cs := #[.int .i64 a.id, .int .i64 a.member, .int .i64 a.kind, .slice a.clients.A a.clients.val.length a.clients.c]) (by have := KA.out; exact tL) (by decide) (by omega); have KS9 := hid ks; have KA9 := hid ka; have H9 := hid (show PgA 9 g w0.heap.size wr w9 from (PgA.of_below tB (by omega)).trans hpa9); clear hpg9 hpa9 ks ka) | fail)
     go_roundw
     case rel => exact ⟨k + 1, by omega, by go_num, HP9.out, HAX.out.trans H9.out, KS9.out, KA9.out⟩
     case measure => simp [intOf]; omega
   ·have dl := @dF k US.length hlt
    have HT1 := hid (show L1 ++ marginsL R (lgA a) (US.take k) = L2 from by rw [List.take_of_length_le (by omega)]; exact HL2.out.symm)
    rw [HT1.out] at HPX
    have y0 := (KS.out).cell 0; have y1 := (KS.out).cell 1; have y2 := (KS.out).cell 2; have y3 := (KS.out).cell 3; have y4 := (KS.out).cell 4; have y5 := (KS.out).cell 5; have y6 := (KS.out).cell 6; have y7 := (KS.out).cell 7; have y8 := (KS.out).cell 8; have y9 := (KS.out).cell 9; have y10 := (KS.out).cell 10; have y11 := (KS.out).cell 11; (simp only [List.getElem?_toArray, List.getElem?_cons_zero, List.getElem?_cons_succ] at y0 y1 y2 y3 y4 y5 y6 y7 y8 y9 y10 y11)
    have za0 := (KA.out).cell 0; have za1 := (KA.out).cell 1; have za2 := (KA.out).cell 2; have za3 := (KA.out).cell 3; (simp only [List.getElem?_toArray, List.getElem?_cons_zero, List.getElem?_cons_succ] at za0 za1 za2 za3)
    go_wp2_with (first | (go_at_call 112; (with_reducible refine (CAU.out _ (HGA.out _ (HAW.out.grow (by omega) tB))).mono ?_); rintro e w8 ⟨v8, rfl, hown8, hb8⟩; obtain ⟨A8, c8, hv8, _, _⟩ := hown8.rs; (rw [List.length_map] at hv8); subst hv8; have HO8 := hid (hown8.mono (b := base) tZ); clear hown8; obtain ⟨fc8, fg8, hc8, hf8, hz8⟩ := bget hb8; (try simp at hz8)) | fail)
    have H8 := hid (show Below wr.heap.size wr w8 from by exact tB)
    have hz8 := H8.out.size
    have KS8 := hid (KS.out.below H8.out KS.out.lt)
    have KA8 := hid (KA.out.below H8.out KA.out.lt)
    have HPG8 := hid (HPX.out.keep H8.out)
    have HPA8 := hid (HAW.out.grow (by omega) H8.out)
    clear hc8 hf8 hb8 y0 y1 y2 y3 y4 y5 y6 y7 y8 y9 y10 y11 za0 za1 za2 za3 KS KA HPX HAX HAW H0X H8
    go_loopw [60] (fun i wx => ∃ k : Nat, k ≤ UA.length ∧ i = .int .i64 k ∧ Page wx g base (L2 ++ unitsL R (UA.take k)) ∧ PgA 9 g w0.heap.size w8 wx ∧ Blk wx w.heap.size 33 #[.int .i64 (s).day, .slice (s).mem.A (s).mem.val.length (s).mem.c, .slice (s).ins.A (s).ins.val.length (s).ins.c, .slice (s).ats.A (s).ats.val.length (s).ats.c, .slice (s).acs.A (s).acs.val.length (s).acs.c, .slice (s).cho.A (s).cho.val.length (s).cho.c, .slice (s).grp.A (s).grp.val.length (s).grp.c, .slice (s).giv.A (s).giv.val.length (s).giv.c, .slice (s).bk.A (s).bk.val.length (s).bk.c, .slice (s).sale.A (s).sale.val.length (s).sale.c, .slice (s).pu.A (s).pu.val.length (s).pu.c, .slice (s).ho.A (s).ho.val.length (s).ho.c]) (fun i _ => UA.length - (intOf i).toNat)
    case atStart => exact ⟨0, Nat.zero_le _, rfl, by rw [List.take_zero]; show Page _ g base (L2 ++ []); rw [List.append_nil]; exact HPG8.out, PgA.refl _ _ _ _, KS8.out⟩
    case round =>
     obtain ⟨k, hk, rfl, hpg, hpa, hks⟩ := hrel
     have HPX := hid hpg
     have HAX := hid hpa
     have KS := hid hks
     have hzx := hpa.size
     have hlw := hks.lt
     have HAW := hid (HPA8.out.trans hpa)
     have H0X := hid (H00.out.trans (HPA8.out.trans hpa).below)
     clear hpg hpa hks
     by_cases hlt : k < UA.length
     ·have kl : (k : Int) < (UA.length : Int) := by omega
      have dl := @dT k UA.length hlt
      obtain ⟨b, o, rfl, hb, hc⟩ := (HO8.out.pga HAX.out (by decide) hgb).rd.1 k (encUn UA[k]) (by simp [hlt])
      have e0 := hc 0 _ rfl
      have e1 := hc 1 _ rfl
      simp only [Nat.add_zero] at e0
      have hu64 := HA64.out UA[k] (List.getElem_mem hlt)
      have HSN := hid (show L2 ++ unitsL R (UA.take (k + 1)) = L2 ++ unitsL R (UA.take k) ++ unitL R UA[k] from by rw [unitsL_snoc hlt, List.append_assoc])
      have hlen : (L2 ++ unitsL R (UA.take k)).length ≤ 900000000 := by
       have := HUU.out (UA.take k)
       rw [List.length_take] at this
       rw [List.length_append]
       omega
      have CUN1 := hid (fun W h hp => CUN.out UA[k] (L2 ++ unitsL R (UA.take k)) W hu64 h hp hlen)
      rw [← HSN.out] at CUN1
      clear hc hlen
      have y0 := (KS.out).cell 0; have y1 := (KS.out).cell 1; have y2 := (KS.out).cell 2; have y3 := (KS.out).cell 3; have y4 := (KS.out).cell 4; have y5 := (KS.out).cell 5; have y6 := (KS.out).cell 6; have y7 := (KS.out).cell 7; have y8 := (KS.out).cell 8; have y9 := (KS.out).cell 9; have y10 := (KS.out).cell 10; have y11 := (KS.out).cell 11; (simp only [List.getElem?_toArray, List.getElem?_cons_zero, List.getElem?_cons_succ] at y0 y1 y2 y3 y4 y5 y6 y7 y8 y9 y10 y11)
      go_wp2_with (first | (go_at_call 30; (with_reducible refine (CUN1.out _ (by have h := H0X.out; exact tB) (HPX.out.keep tB)).mono ?_); rintro e w9 ⟨rfl, hpg9, hpa9⟩; have HP9 := hid hpg9; have ks := hpa9.blk (t := 33) (b := w.heap.size) (cs := #[.int .i64 (s).day, .slice (s).mem.A (s).mem.val.length (s).mem.c, .slice (s).ins.A (s).ins.val.length (s).ins.c, .slice (s).ats.A (s).ats.val.length (s).ats.c, .slice (s).acs.A (s).acs.val.length (s).acs.c, .slice (s).cho.A (s).cho.val.length (s).cho.c, .slice (s).grp.A (s).grp.val.length (s).grp.c, .slice (s).giv.A (s).giv.val.length (s).giv.c, .slice (s).bk.A (s).bk.val.length (s).bk.c, .slice (s).sale.A (s).sale.val.length (s).sale.c, .slice (s).pu.A (s).pu.val.length (s).pu.c, .slice (s).ho.A (s).ho.val.length (s).ho.c]) (by have := KS.out; exact tL) (by decide) (by omega); have KS9 := hid ks; have H9 := hid (show PgA 9 g w0.heap.size wr w9 from (PgA.of_below tB (by omega)).trans hpa9); clear hpg9 hpa9 ks) | fail)
      go_roundw
      case rel => exact ⟨k + 1, by omega, by go_num, HP9.out, HAX.out.trans H9.out, KS9.out⟩
      case measure => simp [intOf]; omega
     ·have dl := @dF k UA.length hlt
      have HT2 := hid (show L2 ++ unitsL R (UA.take k) = ls ++ AL from by rw [List.take_of_length_le (by omega)]; exact HEND.out.symm)
      rw [HT2.out] at HPX
      go_wp2_with fail
      exact bodyPost_end (v := .tuple #[]) (by simp [results, Tryz.results71, go_sem]; try rfl) rfl ⟨rfl, HPX.out, HAW.out⟩
/- The reference's report: contract of Account. -/
theorem Away.blk {E t b : Nat} {cs : Array Value} {w w' : World} (h : Away E w w') (hb : Blk w b t cs) (ht : t ≠ E) : Blk w' b t cs := by
 unfold Blk at hb ⊢
 rw [h.block b (Blk.lt hb) (fun cs' r e => by rw [hb] at e; injection e with e; injection e with _ e _; exact ht e)]
 exact hb
end Go.Proofs.YtalgfpegaobacaaGreatDoor
