/- Joined. -/
import Derived.Test.YtalgfpegaobacaaGreatDoorQz25
namespace Go.Proofs.YtalgfpegaobacaaGreatDoor
set_option linter.all false
set_option maxHeartbeats 64000000
set_option maxRecDepth 100000
open Go.RowKit
open Lib (hid)
/- Pages: contract of member. -/
theorem held64 (bk : List (Row Leg)) (us : List Un) : In64 (heldN bk us) := by
 unfold heldN
 split
 ·split
  ·exact sum64_in _
  ·unfold In64; omega
 ·unfold In64; omega
theorem member_bound {R : RepL} {m : Mb} (h : okMb m) : (lnL (memberW R m)).length ≤ 100000 := by
 refine Nat.le_trans (join_len (memberW R m) 43 ?_) (by simp [memberW])
 have h1 := itoa_le h.1
 have h2 := itoa_le h.2.1
 have h3 := phase_le m.phase
 have h4 := itoa_le h.2.2.2
 have h5 := maybe_le (e := heldC R.S.bk (unitsOfL (ofL R.acs m.id))) (held64 R.S.bk (unitsOfL (ofL R.acs m.id)))
 simp only [memberW, List.mem_cons, List.not_mem_nil, or_false, forall_eq_or_imp, forall_eq]
 exact ⟨by simp, by omega, by omega, by simp, by omega, by simp, by omega, by simp, by omega⟩
theorem accountsL_app (R : RepL) : ∀ l m : List Acct, accountsL R (l ++ m) = accountsL R l ++ accountsL R m
 | [], _ => rfl
 | u :: l, m => by show accountL R u ++ accountsL R (l ++ m) = _; rw [accountsL_app R l m, ← List.append_assoc]; rfl
theorem accountsL_snoc {R : RepL} {l : List Acct} {k : Nat} (h : k < l.length) : accountsL R (l.take (k + 1)) = accountsL R (l.take k) ++ accountL R l[k] := by
 rw [List.take_succ_eq_append_getElem h, accountsL_app]
 show _ ++ (_ ++ []) = _
 rw [List.append_nil]
theorem accountL_le {w : World} {s : StV} (h : GoodSt w s) {a : Acct} (ha : a.clients.length ≤ 40) : (accountL (repL s) a).length ≤ 6000 := by
 have h1 := unitsN_len a
 have h2 := unitsA_le a
 have h3 := unitsL_le (unitL_le h) (unitsA a)
 show (_ :: (marginsL _ a (unitsN a) ++ unitsL _ (unitsA a))).length ≤ 6000
 simp only [List.length_cons, List.length_append, marginsL, List.length_map]
 omega
theorem accountsL_le {R : RepL} : ∀ {l : List Acct} (_ : ∀ a ∈ l, (accountL R a).length ≤ 6000), (accountsL R l).length ≤ 6000 * l.length
 | [], _ => Nat.le_refl _
 | a :: l, h => by
  have ih := accountsL_le (l := l) fun x hx => h x (List.mem_cons_of_mem _ hx)
  have h1 := h a (List.mem_cons_self ..)
  show (accountL R a ++ accountsL R l).length ≤ 6000 * (l.length + 1)
  rw [List.length_append, Nat.mul_add]; omega
theorem pageMember (g base : Nat) (s : StV) (m : Mb) (ls : List Str) (w0 w : World) (h0 : Below w0.heap.size w0 w) (hg0 : w0.heap.size ≤ g) (ht : TabP w0) (hs : GoodSt w0 s) (hm : okMb m) (hp : Page w g base ls) (hll : ls.length ≤ 700000000) :
  Calls Tryz.prog 33 #[.pointer (some ⟨g, 0, none⟩), .agg #[.int .i64 (s).day, .slice (s).mem.A (s).mem.val.length (s).mem.c, .slice (s).ins.A (s).ins.val.length (s).ins.c, .slice (s).ats.A (s).ats.val.length (s).ats.c, .slice (s).acs.A (s).acs.val.length (s).acs.c, .slice (s).cho.A (s).cho.val.length (s).cho.c, .slice (s).grp.A (s).grp.val.length (s).grp.c, .slice (s).giv.A (s).giv.val.length (s).giv.c, .slice (s).bk.A (s).bk.val.length (s).bk.c, .slice (s).sale.A (s).sale.val.length (s).sale.c, .slice (s).pu.A (s).pu.val.length (s).pu.c, .slice (s).ho.A (s).ho.val.length (s).ho.c], .agg #[.int .i64 m.id, .int .i64 m.cap, .int .i64 m.phase, .int .i64 m.til]] w fun e w' => e = .returned (.tuple #[]) ∧ Page w' g base (ls ++ memberL (repL s) m) ∧ PgA 9 g w0.heap.size w w' := by
 have CN1 := hid (fun W (h : Below w0.heap.size w0 W) => repNum m.id W hm.1 (ht.keep h))
 have CN2 := hid (fun W (h : Below w0.heap.size w0 W) => repNum m.til W hm.2.2.2 (ht.keep h))
 have CLO := hid (fun W (h : Below w0.heap.size w0 W) => repLong m.cap W hm.2.1 (ht.keep h))
 have CPH := hid (fun W => repPhase m.phase W)
 have CM := hid (fun n c W (hn : In64 n) (h : Below w0.heap.size w0 W) => repMaybe n c W hn (ht.keep h))
 have CPU := hid (fun W (h : Below w0.heap.size w0 W) => (show Calls Tryz.prog 68 #[.agg #[.int .i64 (s).day, .slice (s).mem.A (s).mem.val.length (s).mem.c, .slice (s).ins.A (s).ins.val.length (s).ins.c, .slice (s).ats.A (s).ats.val.length (s).ats.c, .slice (s).acs.A (s).acs.val.length (s).acs.c, .slice (s).cho.A (s).cho.val.length (s).cho.c, .slice (s).grp.A (s).grp.val.length (s).grp.c, .slice (s).giv.A (s).giv.val.length (s).giv.c, .slice (s).bk.A (s).bk.val.length (s).bk.c, .slice (s).sale.A (s).sale.val.length (s).sale.c, .slice (s).pu.A (s).pu.val.length (s).pu.c, .slice (s).ho.A (s).ho.val.length (s).ho.c], .int .i64 m.id] W fun e w' => e = .returned (.tuple #[.int .i64 (heldN (repL s).S.bk (unitsOfL (ofL (repL s).acs m.id))), .int .i64 (heldC (repL s).S.bk (unitsOfL (ofL (repL s).acs m.id)))]) ∧ Below W.heap.size W w' from
  portUsed s m.id W (by have := hs.lc; omega) (hs.rc.keep h) (fun x hx => ⟨Nat.le_trans (hs.gc x hx).1 (by omega), (hs.gc x hx).2.keep h⟩) hs.side.lb hs.side.b64 (hs.side.rb.keep h) (fun x hx => (hs.side.gb x hx).keep h)))
 have CAO := hid (fun W (h : Below w0.heap.size w0 W) => acctOfO s.acs.val m.id s.acs.A s.acs.c W (by have := hs.lc; omega) (hs.rc.keep h) (fun x hx => ⟨Nat.le_trans (hs.gc x hx).1 (by omega), (hs.gc x hx).2.keep h⟩))
 rw [ofA_lg] at CAO
 have HLL := hid (Nat.le_trans (ofL_len (s.acs.val.map lgA) m.id) (show (s.acs.val.map lgA).length ≤ 60 by rw [List.length_map]; exact hs.lc))
 have HCM := hid (show ∀ a ∈ ofL (s.acs.val.map lgA) m.id, a.clients.length ≤ 40 ∧ In64 a.id ∧ In64 a.member ∧ In64 a.kind ∧ ∀ z ∈ a.clients, In64 z from fun a ha => by
  obtain ⟨x, hx, rfl⟩ := List.mem_map.1 (ofL_mem ha).1
  exact ⟨(hs.gc x hx).1, hs.oc x hx⟩)
 have CAC := hid (fun a ls W (h : Below w0.heap.size w0 W) h1 h2 h3 h4 h5 => pageAccount g base s a ls w0 W h hg0 ht hs h1 h2 h3 h4 h5)
 have HAL := hid (fun a (ha : a.clients.length ≤ 40) => accountL_le hs (a := a) ha)
 have HU64 := hid (held64 (repL s).S.bk (unitsOfL (ofL (repL s).acs m.id)))
 have HEND0 := (show memberL (repL s) m = lnL [wdMember, Lib.itoa m.id, phaseL m.phase, wdUntil, Lib.itoa m.til, wdCap, Lib.itoa m.cap, wdUsed, maybeL (heldN (repL s).S.bk (unitsOfL (ofL (repL s).acs m.id))) (heldC (repL s).S.bk (unitsOfL (ofL (repL s).acs m.id)))] :: accountsL (repL s) (ofL (s.acs.val.map lgA) m.id) from rfl)
 have HBA := hid (show (lnL [wdMember, Lib.itoa m.id, phaseL m.phase, wdUntil, Lib.itoa m.til, wdCap, Lib.itoa m.cap, wdUsed, maybeL (heldN (repL s).S.bk (unitsOfL (ofL (repL s).acs m.id))) (heldC (repL s).S.bk (unitsOfL (ofL (repL s).acs m.id)))]).length ≤ 100000 from member_bound hm)
 have HP0 := hid hp
 have H00 := hid h0
 have hz0 := h0.size
 have hgb := hp.lt
 have hbs := hp.size
 generalize memberL (repL s) m = ML at *
 generalize heldN (repL s).S.bk (unitsOfL (ofL (repL s).acs m.id)) = n1 at *
 generalize heldC (repL s).S.bk (unitsOfL (ofL (repL s).acs m.id)) = c1 at *
 generalize repL s = R at *
 generalize ofL (s.acs.val.map lgA) m.id = AS at *
 obtain ⟨L1, hL1⟩ : ∃ L, L = ls ++ [lnL [wdMember, Lib.itoa m.id, phaseL m.phase, wdUntil, Lib.itoa m.til, wdCap, Lib.itoa m.cap, wdUsed, maybeL n1 c1]] := ⟨_, rfl⟩
 have HEND := hid (show ls ++ ML = L1 ++ accountsL R AS from by rw [hL1, HEND0]; simp)
 have l1 : L1.length ≤ 700000001 := by rw [hL1]; simp; omega
 have CLN0 := fun W (h : Below w.heap.size w W) => (show Calls Tryz.prog 28 #[.pointer (some ⟨g, 0, none⟩), .slice (some ⟨W.heap.size, 0, none⟩) 9 9] (W.alloc (.cells #[strV wdMember, strV (Lib.itoa m.id), strV (phaseL m.phase), strV wdUntil, strV (Lib.itoa m.til), strV wdCap, strV (Lib.itoa m.cap), strV wdUsed, strV (maybeL n1 c1)] 9)) fun e w' => e = .returned (.tuple #[]) ∧ Page w' g base (ls ++ [lnL [wdMember, Lib.itoa m.id, phaseL m.phase, wdUntil, Lib.itoa m.til, wdCap, Lib.itoa m.cap, wdUsed, maybeL n1 c1]]) ∧ PgA 9 g w0.heap.size (W.alloc (.cells #[strV wdMember, strV (Lib.itoa m.id), strV (phaseL m.phase), strV wdUntil, strV (Lib.itoa m.til), strV wdCap, strV (Lib.itoa m.cap), strV wdUsed, strV (maybeL n1 c1)] 9)) w' from
  pageLineP g base w0.heap.size W.heap.size 9 ls [wdMember, Lib.itoa m.id, phaseL m.phase, wdUntil, Lib.itoa m.til, wdCap, Lib.itoa m.cap, wdUsed, maybeL n1 c1] _ (hp.keep (h.alloc h.size _)) hg0 (rd_strs rfl rfl) (by simp) (Nat.le_refl _) (by simp) HBA.out (by omega))
 rw [← hL1] at CLN0
 have CLN := hid CLN0
 have CM1 := hid (fun W h => CM.out n1 c1 W HU64.out h)
 clear CLN0 hp h0 ht hs hm hL1 HEND0
 generalize Lib.itoa m.id = J1 at *
 generalize phaseL m.phase = J2 at *
 generalize Lib.itoa m.til = J3 at *
 generalize Lib.itoa m.cap = J4 at *
 generalize maybeL n1 c1 = J5 at *
 go_enter Tryz.func33, Tryz.ntmps33
 have H0B := hid (show Below w0.heap.size w0 ((w.alloc (.cells #[.int .i64 (s).day, .slice (s).mem.A (s).mem.val.length (s).mem.c, .slice (s).ins.A (s).ins.val.length (s).ins.c, .slice (s).ats.A (s).ats.val.length (s).ats.c, .slice (s).acs.A (s).acs.val.length (s).acs.c, .slice (s).cho.A (s).cho.val.length (s).cho.c, .slice (s).grp.A (s).grp.val.length (s).grp.c, .slice (s).giv.A (s).giv.val.length (s).giv.c, .slice (s).bk.A (s).bk.val.length (s).bk.c, .slice (s).sale.A (s).sale.val.length (s).sale.c, .slice (s).pu.A (s).pu.val.length (s).pu.c, .slice (s).ho.A (s).ho.val.length (s).ho.c] 33)).alloc (.cells #[.int .i64 m.id, .int .i64 m.cap, .int .i64 m.phase, .int .i64 m.til] 49)) by have h := H00.out; exact tB)
 go_wp2_with (first | (go_at_call 68; (with_reducible refine cM (CPU.out _ (by have h := H0B.out; exact tB)) fun w1 hb1 fc1 fg1 hc1 hf1 hz1 => ?_); (try simp at hz1)) | (go_at_call 67; (with_reducible refine cM (CM1.out _ (by have h := H0B.out; exact tB)) fun w2 hb2 fc2 fg2 hc2 hf2 hz2 => ?_); (try simp at hz2)) | fail)
 have KS := hid (show Blk w2 w.heap.size 33 #[.int .i64 (s).day, .slice (s).mem.A (s).mem.val.length (s).mem.c, .slice (s).ins.A (s).ins.val.length (s).ins.c, .slice (s).ats.A (s).ats.val.length (s).ats.c, .slice (s).acs.A (s).acs.val.length (s).acs.c, .slice (s).cho.A (s).cho.val.length (s).cho.c, .slice (s).grp.A (s).grp.val.length (s).grp.c, .slice (s).giv.A (s).giv.val.length (s).giv.c, .slice (s).bk.A (s).bk.val.length (s).bk.c, .slice (s).sale.A (s).sale.val.length (s).sale.c, .slice (s).pu.A (s).pu.val.length (s).pu.c, .slice (s).ho.A (s).ho.val.length (s).ho.c] by exact tL)
 have KM := hid (show Blk w2 (w.heap.size + 1) 49 #[.int .i64 m.id, .int .i64 m.cap, .int .i64 m.phase, .int .i64 m.til] by exact tL)
 have H2 := hid (show Below w.heap.size w w2 by exact tB)
 have hz2 := H2.out.size
 have H0R := hid (show Below w0.heap.size w0 w2 by have h := H00.out; exact h.trans (H2.out.mono hz0))
 have z_a0 := (KM.out).cell 0; have z_a1 := (KM.out).cell 1; have z_a2 := (KM.out).cell 2; have z_a3 := (KM.out).cell 3; (simp only [List.getElem?_toArray, List.getElem?_cons_zero, List.getElem?_cons_succ] at z_a0 z_a1 z_a2 z_a3)
 clear hc1 hf1 hb1 hc2 hf2 hb2
 go_region_held3 (fun w' => (w'.cell? ⟨w.heap.size + 1, 0, none⟩ = some (.int .i64 m.id) ∧ w'.cell? ⟨w.heap.size + 1, 1, none⟩ = some (.int .i64 m.cap) ∧ w'.cell? ⟨w.heap.size + 1, 2, none⟩ = some (.int .i64 m.phase) ∧ w'.cell? ⟨w.heap.size + 1, 3, none⟩ = some (.int .i64 m.til))) (exact tK) (first | (go_at_call 29; (with_reducible refine cM (CN1.out _ (by have h := H0R.out; exact tB)) fun w1 hb1 fc1 fg1 hc1 hf1 hz1 => ?_); (try simp at hz1)) | (go_at_call 69; (with_reducible refine cM (CPH.out _) fun w3 hb3 fc3 fg3 hc3 hf3 hz3 => ?_); (try simp at hz3)) | (go_at_call 29; (with_reducible refine cM (CN2.out _ (by have h := H0R.out; exact tB)) fun w4 hb4 fc4 fg4 hc4 hf4 hz4 => ?_); (try simp at hz4)) | (go_at_call 62; (with_reducible refine cM (CLO.out _ (by have h := H0R.out; exact tB)) fun w6 hb6 fc6 fg6 hc6 hf6 hz6 => ?_); (try simp at hz6)) | (go_at_call 28; (with_reducible refine (CLN.out _ (by have h := H2.out; exact tB)).mono ?_); rintro e w5 ⟨rfl, hpg5, hpa5⟩; have HP5 := hid hpg5; have ks := hpa5.blk (t := 33) (b := w.heap.size) (cs := #[.int .i64 (s).day, .slice (s).mem.A (s).mem.val.length (s).mem.c, .slice (s).ins.A (s).ins.val.length (s).ins.c, .slice (s).ats.A (s).ats.val.length (s).ats.c, .slice (s).acs.A (s).acs.val.length (s).acs.c, .slice (s).cho.A (s).cho.val.length (s).cho.c, .slice (s).grp.A (s).grp.val.length (s).grp.c, .slice (s).giv.A (s).giv.val.length (s).giv.c, .slice (s).bk.A (s).bk.val.length (s).bk.c, .slice (s).sale.A (s).sale.val.length (s).sale.c, .slice (s).pu.A (s).pu.val.length (s).pu.c, .slice (s).ho.A (s).ho.val.length (s).ho.c]) (by have := KS.out; exact tL) (by decide) (by omega); have km := hpa5.blk (t := 49) (b := w.heap.size + 1) (cs := #[.int .i64 m.id, .int .i64 m.cap, .int .i64 m.phase, .int .i64 m.til]) (by have := KM.out; exact tL) (by decide) (by omega); have ka0 := (km).cell 0; have ka1 := (km).cell 1; have ka2 := (km).cell 2; have ka3 := (km).cell 3; (simp only [List.getElem?_toArray, List.getElem?_cons_zero, List.getElem?_cons_succ] at ka0 ka1 ka2 ka3); have KS5 := hid ks; have H5 := hid (show PgA 9 g w0.heap.size w w5 from (PgA.of_below (by have h := H2.out; exact tB) (by omega)).trans hpa5); clear hpg5 hpa5) | fail)
 all_goals
  clear hc1 hf1 hb1 hc3 hf3 hb3 hc4 hf4 hb4 hc6 hf6 hb6 km CLN KS KM H0R z_a0 z_a1 z_a2 z_a3
  (obtain ⟨wq, hwq⟩ : ∃ x, x = w5 := ⟨_, rfl⟩)
  subst hwq
  have H0Q := hid (H00.out.trans H5.out.below)
  have hzq := H5.out.size
  have ks4 := ks.cell 4
  (simp only [List.getElem?_toArray, List.getElem?_cons_zero, List.getElem?_cons_succ] at ks4)
  clear ks
  go_wp2_with (first | (go_at_call 70; (with_reducible refine (CAO.out _ (by have h := H0Q.out; exact tB)).mono ?_); rintro e w6 ⟨v6, ys, rfl, hlg6, hown6, hys6, hb6⟩; obtain ⟨A6, c6, hv6, _, _⟩ := hown6.rs; (rw [List.length_map] at hv6); subst hv6; have hbw := HP5.out.size; have HLG := hid hlg6; have HO6 := hid (hown6.mono (b := base) tZ); have HY6 := hid (fun y hy => (hys6 y hy).mono (b := base) tZ); clear hown6 hys6 hlg6; obtain ⟨fc6, fg6, hc6, hf6, hz6⟩ := bget hb6; (try simp at hz6)) | fail)
  have H6 := hid (show Below wq.heap.size wq w6 from by exact tB)
  have hz6 := H6.out.size
  have KS6 := hid (KS5.out.below H6.out KS5.out.lt)
  have HPG6 := hid (HP5.out.keep H6.out)
  have HPA6 := hid (H5.out.grow (by omega) H6.out)
  have hyl1 : ys.length ≤ AS.length := by have := congrArg List.length HLG.out; rw [List.length_map] at this; omega
  have hyl2 : AS.length ≤ ys.length := by have := congrArg List.length HLG.out; rw [List.length_map] at this; omega
  have hle := HLL.out
  clear hc6 hf6 hb6 ka0 ka1 ka2 ka3 ks4 KS5 HP5 H5 H6
  go_loopw [38] (fun i wx => ∃ k : Nat, k ≤ ys.length ∧ i = .int .i64 k ∧ Page wx g base (L1 ++ accountsL R (AS.take k)) ∧ PgA 9 g w0.heap.size w6 wx ∧ Blk wx w.heap.size 33 #[.int .i64 (s).day, .slice (s).mem.A (s).mem.val.length (s).mem.c, .slice (s).ins.A (s).ins.val.length (s).ins.c, .slice (s).ats.A (s).ats.val.length (s).ats.c, .slice (s).acs.A (s).acs.val.length (s).acs.c, .slice (s).cho.A (s).cho.val.length (s).cho.c, .slice (s).grp.A (s).grp.val.length (s).grp.c, .slice (s).giv.A (s).giv.val.length (s).giv.c, .slice (s).bk.A (s).bk.val.length (s).bk.c, .slice (s).sale.A (s).sale.val.length (s).sale.c, .slice (s).pu.A (s).pu.val.length (s).pu.c, .slice (s).ho.A (s).ho.val.length (s).ho.c]) (fun i _ => ys.length - (intOf i).toNat)
  case atStart => exact ⟨0, Nat.zero_le _, rfl, by rw [List.take_zero]; show Page _ g base (L1 ++ []); rw [List.append_nil]; exact HPG6.out, PgA.refl _ _ _ _, KS6.out⟩
  case round =>
   obtain ⟨k, hk, rfl, hpg, hpa, hks⟩ := hrel
   have HPX := hid hpg
   have HAX := hid hpa
   have KS := hid hks
   have hzx := hpa.size
   have hlw := hks.lt
   have HAW := hid (HPA6.out.trans hpa)
   have H0X := hid (H00.out.trans (HPA6.out.trans hpa).below)
   clear hpg hpa hks
   by_cases hlt : k < ys.length
   ·have kl : (k : Int) < (ys.length : Int) := by omega
    have dl := @dT k ys.length hlt
    obtain ⟨b, o, rfl, hb, hc⟩ := (HO6.out.pga HAX.out (by decide) hgb).rd.1 k (encAcctV ys[k]) (by simp [hlt])
    have e0 := hc 0 _ rfl
    have e1 := hc 1 _ rfl
    have e2 := hc 2 _ rfl
    have e3 := hc 3 _ rfl
    simp only [Nat.add_zero] at e0
    have hkL : k < AS.length := by omega
    have hLk : AS[k] = lgA ys[k] := by
     have := congrArg (fun z => z[k]?) HLG.out
     simp only [List.getElem?_map, List.getElem?_eq_getElem hlt, List.getElem?_eq_getElem hkL, Option.map_some, Option.some.injEq] at this
     exact this.symm
    have hcm := HCM.out AS[k] (List.getElem_mem hkL)
    have HSN := hid (show L1 ++ accountsL R (AS.take (k + 1)) = L1 ++ accountsL R (AS.take k) ++ accountL R (lgA ys[k]) from by rw [accountsL_snoc hkL, List.append_assoc, hLk])
    rw [hLk] at hcm
    have hcq : ys[k].clients.val.length ≤ 40 ∧ In64 ys[k].id ∧ In64 ys[k].member ∧ In64 ys[k].kind ∧ ∀ z ∈ ys[k].clients.val, In64 z := hcm
    have hlen : (L1 ++ accountsL R (AS.take k)).length ≤ 800000000 := by
     have := accountsL_le (R := R) (l := AS.take k) fun a ha => HAL.out a (HCM.out a (List.mem_of_mem_take ha)).1
     rw [List.length_take] at this
     rw [List.length_append]
     omega
    have HOY := hid (HY6.out ys[k] (List.getElem_mem hlt))
    have HGY := hid (show ∀ W, PgA 9 g w0.heap.size wr W → GoodA W ys[k] from fun W h => (HOY.out.pga (HAX.out.trans h) (by decide) hgb).good)
    have CAC1 := hid (CAC.out ys[k] (L1 ++ accountsL R (AS.take k)))
    clear hc hLk hcm
    have y0 := (KS.out).cell 0; have y1 := (KS.out).cell 1; have y2 := (KS.out).cell 2; have y3 := (KS.out).cell 3; have y4 := (KS.out).cell 4; have y5 := (KS.out).cell 5; have y6 := (KS.out).cell 6; have y7 := (KS.out).cell 7; have y8 := (KS.out).cell 8; have y9 := (KS.out).cell 9; have y10 := (KS.out).cell 10; have y11 := (KS.out).cell 11; (simp only [List.getElem?_toArray, List.getElem?_cons_zero, List.getElem?_cons_succ] at y0 y1 y2 y3 y4 y5 y6 y7 y8 y9 y10 y11)
    go_wp2_with (first | (go_at_call 71; (with_reducible refine (CAC1.out _ (by have h := H0X.out; exact tB) (fun W hW => HGY.out W ((PgA.of_below tB (by omega)).trans hW)) hcq.1 hcq.2 (HPX.out.keep tB) hlen).mono ?_); rintro e w9 ⟨rfl, hpg9, hpa9⟩; rw [← HSN.out] at hpg9; have HP9 := hid hpg9; have ks := hpa9.blk (t := 33) (b := w.heap.size) (cs := #[.int .i64 (s).day, .slice (s).mem.A (s).mem.val.length (s).mem.c, .slice (s).ins.A (s).ins.val.length (s).ins.c, .slice (s).ats.A (s).ats.val.length (s).ats.c, .slice (s).acs.A (s).acs.val.length (s).acs.c, .slice (s).cho.A (s).cho.val.length (s).cho.c, .slice (s).grp.A (s).grp.val.length (s).grp.c, .slice (s).giv.A (s).giv.val.length (s).giv.c, .slice (s).bk.A (s).bk.val.length (s).bk.c, .slice (s).sale.A (s).sale.val.length (s).sale.c, .slice (s).pu.A (s).pu.val.length (s).pu.c, .slice (s).ho.A (s).ho.val.length (s).ho.c]) (by have := KS.out; exact tL) (by decide) (by omega); have KS9 := hid ks; have H9 := hid (show PgA 9 g w0.heap.size wr w9 from (PgA.of_below tB (by omega)).trans hpa9); clear hpg9 hpa9 ks) | fail)
    go_roundw
    case rel => exact ⟨k + 1, by omega, by go_num, HP9.out, HAX.out.trans H9.out, KS9.out⟩
    case measure => simp [intOf]; omega
   ·have dl := @dF k ys.length hlt
    have HT2 := hid (show L1 ++ accountsL R (AS.take k) = ls ++ ML from by rw [List.take_of_length_le (by omega)]; exact HEND.out.symm)
    rw [HT2.out] at HPX
    go_wp2_with fail
    exact bodyPost_end (v := .tuple #[]) (by simp [results, Tryz.results33, go_sem]; try rfl) rfl ⟨rfl, HPX.out, HAW.out⟩
/- Pages: contracts of fall.Fund, fall.Treasury, report.Unit, report.Member, report.All. -/
theorem membersL_app (R : RepL) : ∀ l m : List Mb, membersL R (l ++ m) = membersL R l ++ membersL R m
 | [], _ => rfl
 | u :: l, m => by show memberL R u ++ membersL R (l ++ m) = _; rw [membersL_app R l m, ← List.append_assoc]; rfl
theorem membersL_snoc {R : RepL} {l : List Mb} {k : Nat} (h : k < l.length) : membersL R (l.take (k + 1)) = membersL R (l.take k) ++ memberL R l[k] := by
 rw [List.take_succ_eq_append_getElem h, membersL_app]
 show _ ++ (_ ++ []) = _
 rw [List.append_nil]
theorem memberL_le {w : World} {s : StV} (h : GoodSt w s) (m : Mb) : (memberL (repL s) m).length ≤ 361000 := by
 have h1 := accountsL_le (R := repL s) (l := ofL (s.acs.val.map lgA) m.id) fun a ha => by
  obtain ⟨x, hx, rfl⟩ := List.mem_map.1 (ofL_mem ha).1
  exact accountL_le h (h.gc x hx).1
 have h2 := ofL_len (s.acs.val.map lgA) m.id
 rw [List.length_map] at h2
 have h3 := h.lc
 show (_ :: accountsL (repL s) (ofL (s.acs.val.map lgA) m.id)).length ≤ 361000
 rw [List.length_cons]
 omega
theorem membersL_le {R : RepL} {n : Nat} (h : ∀ m, (memberL R m).length ≤ n) : ∀ l : List Mb, (membersL R l).length ≤ n * l.length
 | [] => Nat.le_refl _
 | u :: l => by
  have ih := membersL_le h l
  have h1 := h u
  show (memberL R u ++ membersL R l).length ≤ n * (l.length + 1)
  rw [List.length_append, Nat.mul_add]; omega
theorem fallFund (w : World) : Calls Tryz.prog 31 #[] w fun e w' => e = .returned (.agg #[.int .i64 0, .int .i64 0]) ∧ Below w.heap.size w w' := by
 go_enter Tryz.func31, Tryz.ntmps31
 go_wp2_with fail
 refine bodyPost_ret (by simp [results, Tryz.results31, go_sem, ]; try rfl) rfl ⟨rfl, ?_⟩
 exact tB
theorem fallTreasury (w : World) : Calls Tryz.prog 32 #[] w fun e w' => e = .returned (.agg #[.int .i64 0, .int .i64 1]) ∧ Below w.heap.size w w' := by
 go_enter Tryz.func32, Tryz.ntmps32
 go_wp2_with fail
 refine bodyPost_ret (by simp [results, Tryz.results32, go_sem, ]; try rfl) rfl ⟨rfl, ?_⟩
 exact tB
theorem page_new {w : World} {n : Nat} (hn : n = w.heap.size) (E : TypeId) : Page (w.alloc (.cells #[.slice none 0 0] E)) n (n + 1) [] := by
 subst hn
 exact ⟨⟨_, World.cell?_alloc_new .., Own.nil _ _ _ _⟩, (Blk.new w E _).frozen 0, by omega, by simp⟩
theorem repUnit (s : StV) (u : Un) (w : World) (ht : TabP w) (hs : GoodSt w s) (hu : In64 u.acc ∧ In64 u.cli) :
  Calls Tryz.prog 27 #[.agg #[.int .i64 (s).day, .slice (s).mem.A (s).mem.val.length (s).mem.c, .slice (s).ins.A (s).ins.val.length (s).ins.c, .slice (s).ats.A (s).ats.val.length (s).ats.c, .slice (s).acs.A (s).acs.val.length (s).acs.c, .slice (s).cho.A (s).cho.val.length (s).cho.c, .slice (s).grp.A (s).grp.val.length (s).grp.c, .slice (s).giv.A (s).giv.val.length (s).giv.c, .slice (s).bk.A (s).bk.val.length (s).bk.c, .slice (s).sale.A (s).sale.val.length (s).sale.c, .slice (s).pu.A (s).pu.val.length (s).pu.c, .slice (s).ho.A (s).ho.val.length (s).ho.c], .agg #[.int .i64 u.acc, .int .i64 u.cli]] w fun e w' => ∃ v, e = .returned v ∧ Own w' w.heap.size 9 1 v ((unitL (repL s) u).map encStr) ∧ Below w.heap.size w w' := by
 have CUN := hid (fun g base W (h : Below w.heap.size w W) (hg0 : w.heap.size ≤ g) (hp : Page W g base []) => pageUnit g base s u [] w W h hg0 ht hs hu hp (by simp))
 clear ht hs
 go_enter Tryz.func27, Tryz.ntmps27
 go_wp2_with (first | (go_at_call 30; (with_reducible refine (CUN.out (w.heap.size + 2) (w.heap.size + 3) _ tB (by omega) (page_new (by simp) _)).mono ?_); rintro e w9 ⟨rfl, hpg9, hpa9⟩; have HP9 := hid hpg9; have H9 := hid hpa9; obtain ⟨v9, hv9, hown9⟩ := hpg9.ex; have HO9 := hid hown9; clear hpg9 hpa9 hown9) | fail)
 go_ret
 exact ⟨_, rfl, HO9.out.mono (by omega), (show Below w.heap.size w (((w.alloc (.cells #[.int .i64 (s).day, .slice (s).mem.A (s).mem.val.length (s).mem.c, .slice (s).ins.A (s).ins.val.length (s).ins.c, .slice (s).ats.A (s).ats.val.length (s).ats.c, .slice (s).acs.A (s).acs.val.length (s).acs.c, .slice (s).cho.A (s).cho.val.length (s).cho.c, .slice (s).grp.A (s).grp.val.length (s).grp.c, .slice (s).giv.A (s).giv.val.length (s).giv.c, .slice (s).bk.A (s).bk.val.length (s).bk.c, .slice (s).sale.A (s).sale.val.length (s).sale.c, .slice (s).pu.A (s).pu.val.length (s).pu.c, .slice (s).ho.A (s).ho.val.length (s).ho.c] 33)).alloc (.cells #[.int .i64 u.acc, .int .i64 u.cli] 60)).alloc (.cells #[.slice none 0 0] 86)) by exact tB).trans H9.out.below⟩
theorem repAll (s : StV) (w : World) (ht : TabP w) (hs : GoodSt w s) :
  Calls Tryz.prog 8 #[.agg #[.int .i64 (s).day, .slice (s).mem.A (s).mem.val.length (s).mem.c, .slice (s).ins.A (s).ins.val.length (s).ins.c, .slice (s).ats.A (s).ats.val.length (s).ats.c, .slice (s).acs.A (s).acs.val.length (s).acs.c, .slice (s).cho.A (s).cho.val.length (s).cho.c, .slice (s).grp.A (s).grp.val.length (s).grp.c, .slice (s).giv.A (s).giv.val.length (s).giv.c, .slice (s).bk.A (s).bk.val.length (s).bk.c, .slice (s).sale.A (s).sale.val.length (s).sale.c, .slice (s).pu.A (s).pu.val.length (s).pu.c, .slice (s).ho.A (s).ho.val.length (s).ho.c]] w fun e w' => ∃ v, e = .returned v ∧ Own w' w.heap.size 9 1 v ((allL (repL s)).map encStr) ∧ Below w.heap.size w w' := by
 have CN := hid (fun W (h : Below w.heap.size w W) => repNum s.day W hs.day (ht.keep h))
 have CUN := hid (fun u g base ls W (hu : In64 u.acc ∧ In64 u.cli) (h : Below w.heap.size w W) (hg0 : w.heap.size ≤ g) (hp : Page W g base ls) (hll : ls.length ≤ 900000000) => pageUnit g base s u ls w W h hg0 ht hs hu hp hll)
 have CMM := hid (fun m g base ls W (hm : okMb m) (h : Below w.heap.size w W) (hg0 : w.heap.size ≤ g) (hp : Page W g base ls) (hll : ls.length ≤ 700000000) => pageMember g base s m ls w W h hg0 ht hs hm hp hll)
 have HEND0 := (show allL (repL s) = lnL [wdDay, Lib.itoa s.day] :: (unitL (repL s) ⟨0, 0⟩ ++ (unitL (repL s) ⟨0, 1⟩ ++ membersL (repL s) s.mem.val)) from rfl)
 have hu0 := unitL_le hs ⟨0, 0⟩
 have hu1 := unitL_le hs ⟨0, 1⟩
 have HML := hid (membersL_le (memberL_le hs))
 have HOK := hid hs.om
 have hlm := hs.lm
 have HRM := hid hs.rm
 have HBD := hid (show (lnL [wdDay, Lib.itoa s.day]).length ≤ 100000 from by
  refine Nat.le_trans (join_len [wdDay, Lib.itoa s.day] 43 ?_) (by simp)
  have h1 := itoa_le hs.day
  simp only [List.mem_cons, List.not_mem_nil, or_false, forall_eq_or_imp, forall_eq]
  exact ⟨by simp, by omega⟩)
 generalize allL (repL s) = AL at *
 generalize repL s = R at *
 obtain ⟨L1, hL1⟩ : ∃ L, L = [lnL [wdDay, Lib.itoa s.day]] := ⟨_, rfl⟩
 obtain ⟨L2, hL2⟩ : ∃ L, L = L1 ++ unitL R ⟨0, 0⟩ := ⟨_, rfl⟩
 obtain ⟨L3, hL3⟩ : ∃ L, L = L2 ++ unitL R ⟨0, 1⟩ := ⟨_, rfl⟩
 have HEND := hid (show AL = L3 ++ membersL R s.mem.val from by rw [hL3, hL2, hL1, HEND0]; simp)
 have l1 : L1.length ≤ 1 := by rw [hL1]; simp
 have l2 : L2.length ≤ 122 := by rw [hL2, List.length_append]; omega
 have l3 : L3.length ≤ 243 := by rw [hL3, List.length_append]; omega
 have HL2 := hid hL2
 have HL3 := hid hL3
 have CLN0 := fun W (hp : Page W (w.heap.size + 1) (w.heap.size + 2) []) => (show Calls Tryz.prog 28 #[.pointer (some ⟨w.heap.size + 1, 0, none⟩), .slice (some ⟨W.heap.size, 0, none⟩) 2 2] (W.alloc (.cells #[strV wdDay, strV (Lib.itoa s.day)] 9)) fun e w' => e = .returned (.tuple #[]) ∧ Page w' (w.heap.size + 1) (w.heap.size + 2) ([] ++ [lnL [wdDay, Lib.itoa s.day]]) ∧ PgA 9 (w.heap.size + 1) w.heap.size (W.alloc (.cells #[strV wdDay, strV (Lib.itoa s.day)] 9)) w' from
  pageLineP (w.heap.size + 1) (w.heap.size + 2) w.heap.size W.heap.size 2 [] [wdDay, Lib.itoa s.day] _ (hp.keep ((Below.refl _ _).alloc (Nat.le_refl _) _)) (by omega) (rd_strs rfl rfl) (by simp) (Nat.le_refl _) (by simp) HBD.out (by simp))
 rw [List.nil_append, ← hL1] at CLN0
 have CLN := hid CLN0
 clear CLN0 ht hs hL1 hL2 hL3 HEND0
 generalize Lib.itoa s.day = J1 at *
 go_enter Tryz.func8, Tryz.ntmps8
 have KS := hid (show Blk ((w.alloc (.cells #[.int .i64 (s).day, .slice (s).mem.A (s).mem.val.length (s).mem.c, .slice (s).ins.A (s).ins.val.length (s).ins.c, .slice (s).ats.A (s).ats.val.length (s).ats.c, .slice (s).acs.A (s).acs.val.length (s).acs.c, .slice (s).cho.A (s).cho.val.length (s).cho.c, .slice (s).grp.A (s).grp.val.length (s).grp.c, .slice (s).giv.A (s).giv.val.length (s).giv.c, .slice (s).bk.A (s).bk.val.length (s).bk.c, .slice (s).sale.A (s).sale.val.length (s).sale.c, .slice (s).pu.A (s).pu.val.length (s).pu.c, .slice (s).ho.A (s).ho.val.length (s).ho.c] 33)).alloc (.cells #[.slice none 0 0] 86)) w.heap.size 33 #[.int .i64 (s).day, .slice (s).mem.A (s).mem.val.length (s).mem.c, .slice (s).ins.A (s).ins.val.length (s).ins.c, .slice (s).ats.A (s).ats.val.length (s).ats.c, .slice (s).acs.A (s).acs.val.length (s).acs.c, .slice (s).cho.A (s).cho.val.length (s).cho.c, .slice (s).grp.A (s).grp.val.length (s).grp.c, .slice (s).giv.A (s).giv.val.length (s).giv.c, .slice (s).bk.A (s).bk.val.length (s).bk.c, .slice (s).sale.A (s).sale.val.length (s).sale.c, .slice (s).pu.A (s).pu.val.length (s).pu.c, .slice (s).ho.A (s).ho.val.length (s).ho.c] by exact tL)
 go_wp2_with (first | (go_at_call 29; (with_reducible refine cM (CN.out _ tB) fun w1 hb1 fc1 fg1 hc1 hf1 hz1 => ?_); (try simp at hz1)) | (go_at_call 28; (with_reducible refine (CLN.out _ ((page_new (n := w.heap.size + 1) (w := w.alloc (.cells #[.int .i64 (s).day, .slice (s).mem.A (s).mem.val.length (s).mem.c, .slice (s).ins.A (s).ins.val.length (s).ins.c, .slice (s).ats.A (s).ats.val.length (s).ats.c, .slice (s).acs.A (s).acs.val.length (s).acs.c, .slice (s).cho.A (s).cho.val.length (s).cho.c, .slice (s).grp.A (s).grp.val.length (s).grp.c, .slice (s).giv.A (s).giv.val.length (s).giv.c, .slice (s).bk.A (s).bk.val.length (s).bk.c, .slice (s).sale.A (s).sale.val.length (s).sale.c, .slice (s).pu.A (s).pu.val.length (s).pu.c, .slice (s).ho.A (s).ho.val.length (s).ho.c] 33)) (by simp) 86).keep tB)).mono ?_); rintro e w5 ⟨rfl, hpg5, hpa5⟩; have HP5 := hid hpg5; have ks := hpa5.blk (t := 33) (b := w.heap.size) (cs := #[.int .i64 (s).day, .slice (s).mem.A (s).mem.val.length (s).mem.c, .slice (s).ins.A (s).ins.val.length (s).ins.c, .slice (s).ats.A (s).ats.val.length (s).ats.c, .slice (s).acs.A (s).acs.val.length (s).acs.c, .slice (s).cho.A (s).cho.val.length (s).cho.c, .slice (s).grp.A (s).grp.val.length (s).grp.c, .slice (s).giv.A (s).giv.val.length (s).giv.c, .slice (s).bk.A (s).bk.val.length (s).bk.c, .slice (s).sale.A (s).sale.val.length (s).sale.c, .slice (s).pu.A (s).pu.val.length (s).pu.c, .slice (s).ho.A (s).ho.val.length (s).ho.c]) (by have := KS.out; exact tL) (by decide) (by omega); have KS5 := hid ks; have H5 := hid (show Below w.heap.size w w5 from (show Below w.heap.size w (w1.alloc (.cells #[strV wdDay, strV J1] 9)) by exact tB).trans hpa5.below); clear hpg5 hpa5 ks) | fail)
 have CU0 := fun W (h : Below w.heap.size w W) (hp : Page W (w.heap.size + 1) (w.heap.size + 2) L1) => CUN.out ⟨0, 0⟩ (w.heap.size + 1) (w.heap.size + 2) L1 W ⟨by unfold In64; simp, by unfold In64; simp⟩ h (by omega) hp (by omega)
 have CU1 := fun W (h : Below w.heap.size w W) (hp : Page W (w.heap.size + 1) (w.heap.size + 2) L2) => CUN.out ⟨0, 1⟩ (w.heap.size + 1) (w.heap.size + 2) L2 W ⟨by unfold In64; simp, by unfold In64; simp⟩ h (by omega) hp (by omega)
 rw [← HL2.out] at CU0
 rw [← HL3.out] at CU1
 dsimp only at CU0 CU1
 have CUF := hid CU0
 have CUT := hid CU1
 clear CU0 CU1 KS CLN CN CUN hc1 hf1 hb1
 (obtain ⟨wr, hwr⟩ : ∃ x, x = w5 := ⟨_, rfl⟩)
 subst hwr
 have hz5 := H5.out.size
 have hl5 := KS5.out.lt
 have y0 := (KS5.out).cell 0; have y1 := (KS5.out).cell 1; have y2 := (KS5.out).cell 2; have y3 := (KS5.out).cell 3; have y4 := (KS5.out).cell 4; have y5 := (KS5.out).cell 5; have y6 := (KS5.out).cell 6; have y7 := (KS5.out).cell 7; have y8 := (KS5.out).cell 8; have y9 := (KS5.out).cell 9; have y10 := (KS5.out).cell 10; have y11 := (KS5.out).cell 11; (simp only [List.getElem?_toArray, List.getElem?_cons_zero, List.getElem?_cons_succ] at y0 y1 y2 y3 y4 y5 y6 y7 y8 y9 y10 y11)
 go_region_held3 (fun w' => ((w').cell? ⟨w.heap.size, 0, none⟩ = some (.int .i64 (s).day) ∧ (w').cell? ⟨w.heap.size, 1, none⟩ = some (.slice (s).mem.A (s).mem.val.length (s).mem.c) ∧ (w').cell? ⟨w.heap.size, 2, none⟩ = some (.slice (s).ins.A (s).ins.val.length (s).ins.c) ∧ (w').cell? ⟨w.heap.size, 3, none⟩ = some (.slice (s).ats.A (s).ats.val.length (s).ats.c) ∧ (w').cell? ⟨w.heap.size, 4, none⟩ = some (.slice (s).acs.A (s).acs.val.length (s).acs.c) ∧ (w').cell? ⟨w.heap.size, 5, none⟩ = some (.slice (s).cho.A (s).cho.val.length (s).cho.c) ∧ (w').cell? ⟨w.heap.size, 6, none⟩ = some (.slice (s).grp.A (s).grp.val.length (s).grp.c) ∧ (w').cell? ⟨w.heap.size, 7, none⟩ = some (.slice (s).giv.A (s).giv.val.length (s).giv.c) ∧ (w').cell? ⟨w.heap.size, 8, none⟩ = some (.slice (s).bk.A (s).bk.val.length (s).bk.c) ∧ (w').cell? ⟨w.heap.size, 9, none⟩ = some (.slice (s).sale.A (s).sale.val.length (s).sale.c) ∧ (w').cell? ⟨w.heap.size, 10, none⟩ = some (.slice (s).pu.A (s).pu.val.length (s).pu.c) ∧ (w').cell? ⟨w.heap.size, 11, none⟩ = some (.slice (s).ho.A (s).ho.val.length (s).ho.c))) (exact tK) (first | (go_at_call 31; (with_reducible refine cM (fallFund _) fun w1 hb1 fc1 fg1 hc1 hf1 hz1 => ?_); (try simp at hz1)) | (go_at_call 30; (with_reducible refine (CUF.out _ (by have h := H5.out; exact tB) (HP5.out.keep tB)).mono ?_); rintro e w9 ⟨rfl, hpg9, hpa9⟩; have HP9 := hid hpg9; have KS := KS5; have ks := hpa9.blk (t := 33) (b := w.heap.size) (cs := #[.int .i64 (s).day, .slice (s).mem.A (s).mem.val.length (s).mem.c, .slice (s).ins.A (s).ins.val.length (s).ins.c, .slice (s).ats.A (s).ats.val.length (s).ats.c, .slice (s).acs.A (s).acs.val.length (s).acs.c, .slice (s).cho.A (s).cho.val.length (s).cho.c, .slice (s).grp.A (s).grp.val.length (s).grp.c, .slice (s).giv.A (s).giv.val.length (s).giv.c, .slice (s).bk.A (s).bk.val.length (s).bk.c, .slice (s).sale.A (s).sale.val.length (s).sale.c, .slice (s).pu.A (s).pu.val.length (s).pu.c, .slice (s).ho.A (s).ho.val.length (s).ho.c]) (by have := KS.out; exact tL) (by decide) (by omega); have KS9 := hid ks; have k0 := (ks).cell 0; have k1 := (ks).cell 1; have k2 := (ks).cell 2; have k3 := (ks).cell 3; have k4 := (ks).cell 4; have k5 := (ks).cell 5; have k6 := (ks).cell 6; have k7 := (ks).cell 7; have k8 := (ks).cell 8; have k9 := (ks).cell 9; have k10 := (ks).cell 10; have k11 := (ks).cell 11; (simp only [List.getElem?_toArray, List.getElem?_cons_zero, List.getElem?_cons_succ] at k0 k1 k2 k3 k4 k5 k6 k7 k8 k9 k10 k11); have H9 := hid (show Below w.heap.size w w9 from (H5.out.trans ((show Below wr.heap.size wr _ by exact tB).mono (by omega))).trans hpa9.below); clear hpg9 hpa9 ks) | fail)
 all_goals
  go_wp2_with fail
  clear hc1 hf1 hb1 y0 y1 y2 y3 y4 y5 y6 y7 y8 y9 y10 y11 HP5 KS5 H5 KS hz5 hl5
  have HP5 := HP9
  have KS5 := KS9
  have H5 := H9
  (obtain ⟨wr, hwr⟩ : ∃ x, x = w9 := ⟨_, rfl⟩)
  subst hwr
  have hz5 := H5.out.size
  have hl5 := KS5.out.lt
  clear HP9 KS9 H9
  go_region_held3 (fun w' => ((w').cell? ⟨w.heap.size, 0, none⟩ = some (.int .i64 (s).day) ∧ (w').cell? ⟨w.heap.size, 1, none⟩ = some (.slice (s).mem.A (s).mem.val.length (s).mem.c) ∧ (w').cell? ⟨w.heap.size, 2, none⟩ = some (.slice (s).ins.A (s).ins.val.length (s).ins.c) ∧ (w').cell? ⟨w.heap.size, 3, none⟩ = some (.slice (s).ats.A (s).ats.val.length (s).ats.c) ∧ (w').cell? ⟨w.heap.size, 4, none⟩ = some (.slice (s).acs.A (s).acs.val.length (s).acs.c) ∧ (w').cell? ⟨w.heap.size, 5, none⟩ = some (.slice (s).cho.A (s).cho.val.length (s).cho.c) ∧ (w').cell? ⟨w.heap.size, 6, none⟩ = some (.slice (s).grp.A (s).grp.val.length (s).grp.c) ∧ (w').cell? ⟨w.heap.size, 7, none⟩ = some (.slice (s).giv.A (s).giv.val.length (s).giv.c) ∧ (w').cell? ⟨w.heap.size, 8, none⟩ = some (.slice (s).bk.A (s).bk.val.length (s).bk.c) ∧ (w').cell? ⟨w.heap.size, 9, none⟩ = some (.slice (s).sale.A (s).sale.val.length (s).sale.c) ∧ (w').cell? ⟨w.heap.size, 10, none⟩ = some (.slice (s).pu.A (s).pu.val.length (s).pu.c) ∧ (w').cell? ⟨w.heap.size, 11, none⟩ = some (.slice (s).ho.A (s).ho.val.length (s).ho.c))) (exact tK) (first | (go_at_call 32; (with_reducible refine cM (fallTreasury _) fun w1 hb1 fc1 fg1 hc1 hf1 hz1 => ?_); (try simp at hz1)) | (go_at_call 30; (with_reducible refine (CUT.out _ (by have h := H5.out; exact tB) (HP5.out.keep tB)).mono ?_); rintro e w9 ⟨rfl, hpg9, hpa9⟩; have HP9 := hid hpg9; have KS := KS5; have ks := hpa9.blk (t := 33) (b := w.heap.size) (cs := #[.int .i64 (s).day, .slice (s).mem.A (s).mem.val.length (s).mem.c, .slice (s).ins.A (s).ins.val.length (s).ins.c, .slice (s).ats.A (s).ats.val.length (s).ats.c, .slice (s).acs.A (s).acs.val.length (s).acs.c, .slice (s).cho.A (s).cho.val.length (s).cho.c, .slice (s).grp.A (s).grp.val.length (s).grp.c, .slice (s).giv.A (s).giv.val.length (s).giv.c, .slice (s).bk.A (s).bk.val.length (s).bk.c, .slice (s).sale.A (s).sale.val.length (s).sale.c, .slice (s).pu.A (s).pu.val.length (s).pu.c, .slice (s).ho.A (s).ho.val.length (s).ho.c]) (by have := KS.out; exact tL) (by decide) (by omega); have KS9 := hid ks; have k0 := (ks).cell 0; have k1 := (ks).cell 1; have k2 := (ks).cell 2; have k3 := (ks).cell 3; have k4 := (ks).cell 4; have k5 := (ks).cell 5; have k6 := (ks).cell 6; have k7 := (ks).cell 7; have k8 := (ks).cell 8; have k9 := (ks).cell 9; have k10 := (ks).cell 10; have k11 := (ks).cell 11; (simp only [List.getElem?_toArray, List.getElem?_cons_zero, List.getElem?_cons_succ] at k0 k1 k2 k3 k4 k5 k6 k7 k8 k9 k10 k11); have H9 := hid (show Below w.heap.size w w9 from (H5.out.trans ((show Below wr.heap.size wr _ by exact tB).mono (by omega))).trans hpa9.below); clear hpg9 hpa9 ks) | fail)
  all_goals
   clear hc1 hf1 hb1 KS
   go_wp2_with fail
   clear k0 k1 k2 k3 k4 k5 k6 k7 k8 k9 k10 k11
   have hz9 := H9.out.size
   go_loopw [25] (fun i wx => ∃ k : Nat, k ≤ s.mem.val.length ∧ i = .int .i64 k ∧ Page wx (w.heap.size + 1) (w.heap.size + 2) (L3 ++ membersL R (s.mem.val.take k)) ∧ Below w.heap.size w wx ∧ Blk wx w.heap.size 33 #[.int .i64 (s).day, .slice (s).mem.A (s).mem.val.length (s).mem.c, .slice (s).ins.A (s).ins.val.length (s).ins.c, .slice (s).ats.A (s).ats.val.length (s).ats.c, .slice (s).acs.A (s).acs.val.length (s).acs.c, .slice (s).cho.A (s).cho.val.length (s).cho.c, .slice (s).grp.A (s).grp.val.length (s).grp.c, .slice (s).giv.A (s).giv.val.length (s).giv.c, .slice (s).bk.A (s).bk.val.length (s).bk.c, .slice (s).sale.A (s).sale.val.length (s).sale.c, .slice (s).pu.A (s).pu.val.length (s).pu.c, .slice (s).ho.A (s).ho.val.length (s).ho.c]) (fun i _ => s.mem.val.length - (intOf i).toNat)
   case atStart => exact ⟨0, Nat.zero_le _, rfl, by rw [List.take_zero]; show Page _ _ _ (L3 ++ []); rw [List.append_nil]; exact HP9.out, H9.out, KS9.out⟩
   case round =>
    obtain ⟨k, hk, rfl, hpg, hbl, hks⟩ := hrel
    have HPX := hid hpg
    have Hbl := hid hbl
    have KS := hid hks
    have hzx := hbl.size
    have hlw := hks.lt
    clear hpg hbl hks
    by_cases hlt : k < s.mem.val.length
    ·have kl : (k : Int) < (s.mem.val.length : Int) := by omega
     have dl : decide ((k : Int) < (s.mem.val.length : Int)) = true := by simpa using hlt
     obtain ⟨b, o, hA, hb, hc⟩ := HRM.out k (encMb s.mem.val[k]) (by simp [hlt])
     have e0 := tC Hbl hb (hc 0 _ rfl)
     have e1 := tC Hbl hb (hc 1 _ rfl)
     have e2 := tC Hbl hb (hc 2 _ rfl)
     have e3 := tC Hbl hb (hc 3 _ rfl)
     simp only [Nat.add_zero] at e0
     have hok := HOK.out s.mem.val[k] (List.getElem_mem hlt)
     have HSN := hid (show L3 ++ membersL R (s.mem.val.take (k + 1)) = L3 ++ membersL R (s.mem.val.take k) ++ memberL R s.mem.val[k] from by rw [membersL_snoc hlt, List.append_assoc])
     have hlen : (L3 ++ membersL R (s.mem.val.take k)).length ≤ 700000000 := by
      have := HML.out (s.mem.val.take k)
      rw [List.length_take] at this
      rw [List.length_append]
      omega
     have CM1 := CMM.out s.mem.val[k] (w.heap.size + 1) (w.heap.size + 2) (L3 ++ membersL R (s.mem.val.take k))
     rw [← HSN.out, hA] at CM1
     have CM2 := hid (fun W h hp => CM1 W hok h (by omega) hp hlen)
     clear hc hlen CM1
     have y0 := (KS.out).cell 0; have y1 := (KS.out).cell 1; have y2 := (KS.out).cell 2; have y3 := (KS.out).cell 3; have y4 := (KS.out).cell 4; have y5 := (KS.out).cell 5; have y6 := (KS.out).cell 6; have y7 := (KS.out).cell 7; have y8 := (KS.out).cell 8; have y9 := (KS.out).cell 9; have y10 := (KS.out).cell 10; have y11 := (KS.out).cell 11; (simp only [List.getElem?_toArray, List.getElem?_cons_zero, List.getElem?_cons_succ] at y0 y1 y2 y3 y4 y5 y6 y7 y8 y9 y10 y11)
     rw [hA]
     go_wp2_with (first | (go_at_call 33; (with_reducible refine (CM2.out _ (by have h := Hbl.out; exact tB) (HPX.out.keep tB)).mono ?_); rintro e w9 ⟨rfl, hpg9, hpa9⟩; have HP9 := hid hpg9; have ks := hpa9.blk (t := 33) (b := w.heap.size) (cs := #[.int .i64 (s).day, .slice (s).mem.A (s).mem.val.length (s).mem.c, .slice (s).ins.A (s).ins.val.length (s).ins.c, .slice (s).ats.A (s).ats.val.length (s).ats.c, .slice (s).acs.A (s).acs.val.length (s).acs.c, .slice (s).cho.A (s).cho.val.length (s).cho.c, .slice (s).grp.A (s).grp.val.length (s).grp.c, .slice (s).giv.A (s).giv.val.length (s).giv.c, .slice (s).bk.A (s).bk.val.length (s).bk.c, .slice (s).sale.A (s).sale.val.length (s).sale.c, .slice (s).pu.A (s).pu.val.length (s).pu.c, .slice (s).ho.A (s).ho.val.length (s).ho.c]) (by have := KS.out; exact tL) (by decide) (by omega); have KS9 := hid ks; have H9 := hid (show Below w.heap.size w w9 from (Hbl.out.trans ((show Below wr.heap.size wr _ by exact tB).mono (by omega))).trans hpa9.below); clear hpg9 hpa9 ks) | fail)
     go_roundw
     case rel => exact ⟨k + 1, by omega, by go_num, HP9.out, H9.out, by rw [← hA]; exact KS9.out⟩
     case measure => simp [intOf]; omega
    ·have dl : decide ((k : Int) < (s.mem.val.length : Int)) = false := by simpa using hlt
     have HT2 := hid (show L3 ++ membersL R (s.mem.val.take k) = AL from by rw [List.take_of_length_le (by omega)]; exact HEND.out.symm)
     rw [HT2.out] at HPX
     obtain ⟨v9, hv9, hown9⟩ := HPX.out.ex
     have HO9 := hid hown9
     clear hown9
     go_wp2_with fail
     go_ret
     exact ⟨_, rfl, HO9.out.mono (by omega), Hbl.out⟩
/- The reference's report: contracts of All, Same. -/
theorem ref36Same (l : List Str) (A B : Option Addr) (c d : Nat) (w : World) (hl : l.length ≤ 1000000000) (ha : Rd w A 1 (l.map encStr)) (hb : Rd w B 1 (l.map encStr)) :
  Calls Tryz.prog 11 #[.slice A l.length c, .slice B l.length d] w fun e w' => e = .returned (.bool true) ∧ Below w.heap.size w w' := by
 have HA := hid ha
 have HB := hid hb
 clear ha hb
 go_enter Tryz.func11, Tryz.ntmps11
 go_wp2_with fail
 go_loopw [5] (fun i wr => ∃ k : Nat, k ≤ l.length ∧ i = .int .i64 k ∧ Below w.heap.size w wr) (fun i _ => l.length - (intOf i).toNat)
 case atStart => exact ⟨0, Nat.zero_le _, rfl, tB⟩
 case round =>
  obtain ⟨k, hk, rfl, hbl⟩ := hrel
  have Hbl := hid hbl
  have hz := hbl.size
  clear hbl
  by_cases hlt : k < l.length
  ·have kl : (k : Int) < (l.length : Int) := by omega
   have dl := @dT k l.length hlt
   have k0 : (0 : Int) ≤ (k : Int) := by omega
   obtain ⟨b, o, rfl, hb, hc⟩ := HA.out k (encStr l[k]) (by simp [hlt])
   have e0 := tC Hbl hb (hc 0 _ rfl)
   obtain ⟨b2, o2, rfl, hb2, hc2⟩ := HB.out k (encStr l[k]) (by simp [hlt])
   have f0 := tC Hbl hb2 (hc2 0 _ rfl)
   simp only [Nat.add_zero, Nat.mul_one] at e0 f0
   clear hc hc2
   generalize l[k] = L at *
   go_wp2_with fail
   go_quiet (fail)
   go_wp2_with fail
   go_roundw
   case rel => exact ⟨k + 1, by omega, by go_num, by have h := Hbl.out; exact tB⟩
   case measure => simp [intOf]; omega
  ·have dl := @dF k l.length hlt
   go_wp2_with fail
   go_ret
   exact ⟨rfl, Hbl.out⟩
/- Each line of a ledger's report is another one, and there are as many unit lines as units, and two: plain. -/
inductive Key where
 | day
 | unit (u : Un)
 | leg (sale : Bool) (u : Un) (i : Int)
 | lot (u : Un) (a t : Int)
 | acct (i : Int)
 | margin (u : Un)
 | mem (i : Int)
def Key.hd : Key → List Str
 | .day => [wdDay]
 | .unit u => [wdUnit, placeL u]
 | .leg true u i => [wdSale, placeL u, Lib.itoa i]
 | .leg false u i => [wdPosition, placeL u, Lib.itoa i]
 | .lot u a t => [wdLot, placeL u, Lib.itoa a, Lib.itoa t]
 | .acct i => [wdAccount, Lib.itoa i]
 | .margin u => [wdMargin, placeL u]
 | .mem i => [wdMember, Lib.itoa i]
structure LedgF (R : RepL) : Prop where
 bk : ∀ u, (ofK R.S.bk u).Pairwise (fun x y => x.inst ≠ y.inst)
 sale : ∀ u, (ofK R.sale u).Pairwise (fun x y => x.inst ≠ y.inst)
 ho : ∀ u, (ofK R.S.ho u).Pairwise (fun x y => ¬ (x.asset = y.asset ∧ x.tag = y.tag))
 mem : R.mem.Pairwise (fun a b => a.id < b.id)
 acs : R.acs.Pairwise (fun a b => a.id < b.id)
 ok : ∀ a ∈ R.acs, okAAc a
 there : ∀ a ∈ R.acs, ∃ m ∈ R.mem, m.id = a.member
end Go.Proofs.YtalgfpegaobacaaGreatDoor
