/- Joined. -/
import Derived.Test.YtalgfpegaobacaaGreatDoorQb2
import Derived.Test.YtalgfpegaobacaaGreatDoorQb3
import Derived.Test.YtalgfpegaobacaaGreatDoorQz22
namespace Go.Proofs.YtalgfpegaobacaaGreatDoor
set_option linter.all false
set_option maxHeartbeats 64000000
set_option maxRecDepth 100000
open Go.RowKit
open Lib (hid)
theorem ref33Units (s : StV) (w : World) (hs : LedSt w s) :
  Calls Tryz.prog 9 #[.agg #[.int .i64 (s).day, .slice (s).mem.A (s).mem.val.length (s).mem.c, .slice (s).ins.A (s).ins.val.length (s).ins.c, .slice (s).ats.A (s).ats.val.length (s).ats.c, .slice (s).acs.A (s).acs.val.length (s).acs.c, .slice (s).cho.A (s).cho.val.length (s).cho.c, .slice (s).grp.A (s).grp.val.length (s).grp.c, .slice (s).giv.A (s).giv.val.length (s).giv.c, .slice (s).bk.A (s).bk.val.length (s).bk.c, .slice (s).sale.A (s).sale.val.length (s).sale.c, .slice (s).pu.A (s).pu.val.length (s).pu.c, .slice (s).ho.A (s).ho.val.length (s).ho.c]] w fun e w' => ∃ A c, e = .returned (.slice A (unitsOfL (s.acs.val.map lgA)).length c) ∧ Below w.heap.size w w' := by
 have HR := hid hs.rc.rd
 have HG := hid hs.gc
 have hl := hs.lc
 obtain ⟨L, hL⟩ : ∃ L, L = s.acs.val.map lgA := ⟨_, rfl⟩
 rw [← hL]
 have hLl : L.length ≤ s.acs.val.length ∧ s.acs.val.length ≤ L.length := by rw [hL, List.length_map]; omega
 have HLG := hid (show ∀ k (h : k < s.acs.val.length) (h2 : k < L.length), L[k] = lgA s.acs.val[k] from fun k h h2 => by subst hL; simp)
 have HCM := hid (show ∀ a ∈ L, a.clients.length ≤ 40 from fun a ha => by
  rw [hL] at ha
  obtain ⟨x, hx, rfl⟩ := List.mem_map.1 ha
  exact (hs.gc x hx).1)
 clear hs hL
 go_enter Tryz.func9, Tryz.ntmps9
 go_wp2_with fail
 go_loopw [3, 4] (fun v i wr => ∃ k : Nat, k ≤ s.acs.val.length ∧ i = .int .i64 k ∧ Own wr (w.heap.size + 1) 60 2 v ((unitsOfL (L.take k)).map encUn) ∧ Below w.heap.size w wr ∧ w.heap.size < wr.heap.size ∧ wr.cell? ⟨w.heap.size, 4, none⟩ = some (.slice s.acs.A s.acs.val.length s.acs.c)) (fun _ i _ => s.acs.val.length - (intOf i).toNat)
 case atStart => exact ⟨0, Nat.zero_le _, rfl, Own.nil _ _ _ _, tB, by simp, by simp [go_sem]⟩
 case round =>
  obtain ⟨k, hk, rfl, hown, hbl, hsz, hc4⟩ := hrel
  have Hown := hid hown
  have Hbl := hid hbl
  have hz := hbl.size
  clear hown hbl
  by_cases hlt : k < s.acs.val.length
  ·have kl : (k : Int) < (s.acs.val.length : Int) := by omega
   have dl : decide ((k : Int) < (s.acs.val.length : Int)) = true := by simpa using hlt
   have hgk := HG.out s.acs.val[k] (List.getElem_mem hlt)
   obtain ⟨b, o, hA, hb, hc⟩ := HR.out k (encAcctV s.acs.val[k]) (by simp [hlt])
   rw [hA] at hc4
   have HA := hid hA
   have e0 := tC Hbl hb (hc 0 _ rfl)
   have e1 := tC Hbl hb (hc 1 _ rfl)
   have e2 := tC Hbl hb (hc 2 _ rfl)
   have e3 := tC Hbl hb (hc 3 _ rfl)
   simp only [Nat.add_zero] at e0
   clear hc hA
   have hbw : b < wr.heap.size := by omega
   have hkL : k < L.length := by omega
   have hLk := HLG.out k hlt hkL
   have hst := unitsOf_snoc hkL
   rw [hLk] at hst
   have hul := unitsA_le (lgA s.acs.val[k])
   have hcl : (lgA s.acs.val[k]).clients.length ≤ 40 := hgk.1
   have htl := unitsOf_len (l := L.take k) (m := 40) fun a ha => HCM.out a (List.mem_of_mem_take ha)
   have htk : (L.take k).length ≤ 60 := by rw [List.length_take]; omega
   have htl2 : (unitsOfL (L.take k)).length ≤ 100000 := by omega
   have CU := hid (fun W (h : Below w.heap.size w W) => ref15UnitsN s.acs.val[k] W (Nat.le_trans hgk.1 (by omega)) (hgk.2.keep h))
   clear htl htk hLk hgk
   generalize unitsA (lgA s.acs.val[k]) = U at *
   have HST := hid hst
   clear hst
   go_wp2_with (first | (go_at_call 34; (with_reducible refine (CU.out _ (by have h := Hbl.out; exact tB)).mono ?_); rintro e w2 ⟨A2, c2, rfl, hrs2, hb2⟩; have HS2 := hid hrs2; clear hrs2; obtain ⟨fc2, fg2, hc2, hf2, hz2⟩ := bget hb2; (try simp at hz2)) | (at_builtin; refine wpList_app rfl _ _ _ rfl elUn (w.heap.size + 1) _ _ rfl (Hown.out.keep tB) A2 U.length c2 rfl (U.map encUn) (by simp) HS2.out.nil (HS2.out.rd) (rowsUn U) (by unfold maxLen; exact tE) tE tZ ?_; intro v3 w3 hown3 hb3) | fail)
   go_roundw
   case rel => exact ⟨k + 1, by omega, by go_num, by rw [HST.out, List.map_append]; exact hown3, by have h1 := Hbl.out; exact tB, by have := hb3.size; omega, by rw [hb3.cell (p := ⟨w.heap.size, 4, none⟩) (by simp), HA.out]; simp [hc2, hc4, hsz]⟩
   case measure => simp [intOf]; omega
  ·have dl : decide ((k : Int) < (s.acs.val.length : Int)) = false := by simpa using hlt
   have HT := hid (show L.take k = L from List.take_of_length_le (by omega))
   go_wp2_with (fail)
   go_ret
   have := Hown.out
   rw [HT.out] at this
   obtain ⟨A2, c2, rfl, hrs2, _⟩ := this.rs
   rw [List.length_map]
   exact ⟨_, _, rfl, Hbl.out⟩
def hasS (l : List AcctV) (u : Un) : Bool := l.any (fun x => hasA (lgA x) u)
theorem hasS_step {l : List AcctV} {u : Un} {k : Nat} (h : k < l.length) : hasS (l.drop k) u = (hasA (lgA l[k]) u || hasS (l.drop (k + 1)) u) := by
 unfold hasS
 rw [drop_cons' h, List.any_cons]
def ownS (l : List AcctV) (u : Un) : Bool := hasS l u || ((u.acc == 0 && u.cli == 0) || (u.acc == 0 && u.cli == 1))
theorem ref33Has (s : StV) (u : Un) (w : World) (hs : LedSt w s) :
  Calls Tryz.prog 53 #[.agg #[.int .i64 (s).day, .slice (s).mem.A (s).mem.val.length (s).mem.c, .slice (s).ins.A (s).ins.val.length (s).ins.c, .slice (s).ats.A (s).ats.val.length (s).ats.c, .slice (s).acs.A (s).acs.val.length (s).acs.c, .slice (s).cho.A (s).cho.val.length (s).cho.c, .slice (s).grp.A (s).grp.val.length (s).grp.c, .slice (s).giv.A (s).giv.val.length (s).giv.c, .slice (s).bk.A (s).bk.val.length (s).bk.c, .slice (s).sale.A (s).sale.val.length (s).sale.c, .slice (s).pu.A (s).pu.val.length (s).pu.c, .slice (s).ho.A (s).ho.val.length (s).ho.c], .agg #[.int .i64 u.acc, .int .i64 u.cli]] w fun e w' => e = .returned (.bool (hasS s.acs.val u)) ∧ Below w.heap.size w w' := by
 have HR := hid hs.rc.rd
 have hl := hs.lc
 have CH := hid (fun x (hx : x ∈ s.acs.val) W (h : Below w.heap.size w W) => ref15HasV x u W (by have := (hs.gc x hx).1; omega) ((hs.gc x hx).2.keep h))
 clear hs
 go_enter Tryz.func53, Tryz.ntmps53
 go_wp2_with fail
 go_loopw [5] (fun i wr => ∃ k : Nat, k ≤ s.acs.val.length ∧ i = .int .i64 k ∧ hasS s.acs.val u = hasS (s.acs.val.drop k) u ∧ Below w.heap.size w wr ∧ w.heap.size + 2 ≤ wr.heap.size ∧ wr.cell? ⟨w.heap.size, 4, none⟩ = some (.slice s.acs.A s.acs.val.length s.acs.c) ∧ wr.cell? ⟨w.heap.size + 1, 0, none⟩ = some (.int .i64 u.acc) ∧ wr.cell? ⟨w.heap.size + 1, 1, none⟩ = some (.int .i64 u.cli)) (fun i _ => s.acs.val.length - (intOf i).toNat)
 case atStart => exact ⟨0, Nat.zero_le _, rfl, rfl, tB, by simp, by simp [go_sem], by simp [go_sem], by simp [go_sem]⟩
 case round =>
  obtain ⟨k, hk, rfl, hv, hbl, hsz, hc4, u0, u1⟩ := hrel
  have HV := hid hv
  have Hbl := hid hbl
  have hz := hbl.size
  clear hbl hv
  have hwr : w.heap.size < wr.heap.size := by omega
  have hwr1 : w.heap.size + 1 < wr.heap.size := by omega
  by_cases hlt : k < s.acs.val.length
  ·have kl : (k : Int) < (s.acs.val.length : Int) := by omega
   have dl : decide ((k : Int) < (s.acs.val.length : Int)) = true := by simpa using hlt
   obtain ⟨b, o, hA, hb, hc⟩ := HR.out k (encAcctV s.acs.val[k]) (by simp [hlt])
   rw [hA] at hc4
   have HA := hid hA
   have e0 := tC Hbl hb (hc 0 _ rfl)
   have e1 := tC Hbl hb (hc 1 _ rfl)
   have e2 := tC Hbl hb (hc 2 _ rfl)
   have e3 := tC Hbl hb (hc 3 _ rfl)
   simp only [Nat.add_zero] at e0
   clear hc hA
   have hbw : b < wr.heap.size := by omega
   have cx := CH.out s.acs.val[k] (List.getElem_mem hlt)
   have hst := hasS_step (u := u) hlt
   generalize s.acs.val[k] = x at *
   generalize hasA (lgA x) u = hb0 at *
   have CX := hid cx
   have HST := hid hst
   clear cx hst
   cases hb0
   ·go_wp2_with fail
    go_region_held3 (fun w' => w'.cell? ⟨w.heap.size, 4, none⟩ = some (.slice (some ⟨b, o, none⟩) s.acs.val.length s.acs.c) ∧ (w'.cell? ⟨w.heap.size + 1, 0, none⟩ = some (.int .i64 u.acc) ∧ w'.cell? ⟨w.heap.size + 1, 1, none⟩ = some (.int .i64 u.cli)) ∧ w'.cell? ⟨b, o + k * 4, none⟩ = some (.int .i64 x.id) ∧ w'.cell? ⟨b, o + k * 4 + 1, none⟩ = some (.int .i64 x.member) ∧ w'.cell? ⟨b, o + k * 4 + 2, none⟩ = some (.int .i64 x.kind) ∧ w'.cell? ⟨b, o + k * 4 + 3, none⟩ = some (.slice x.clients.A x.clients.val.length x.clients.c)) (exact tK) (first | (go_at_call 90; (with_reducible refine cM (CX.out _ (by have h := Hbl.out; exact tB)) fun w2 hb2 fc2 fg2 hc2 hf2 hz2 => ?_); (try simp at hz2)) | fail)
    go_wp2_with fail
    go_roundw
    case rel => exact ⟨k + 1, by omega, by go_num, by rw [HV.out, HST.out]; rfl, by have h1 := Hbl.out; exact tB, by omega, by rw [HA.out]; simp [hc2, hc4, hwr], by simp [hc2, u0, hwr1], by simp [hc2, u1, hwr1]⟩
    case measure => simp [intOf]; omega
   ·go_wp2_with fail
    go_region_held3 (fun w' => w'.cell? ⟨w.heap.size, 4, none⟩ = some (.slice (some ⟨b, o, none⟩) s.acs.val.length s.acs.c) ∧ (w'.cell? ⟨w.heap.size + 1, 0, none⟩ = some (.int .i64 u.acc) ∧ w'.cell? ⟨w.heap.size + 1, 1, none⟩ = some (.int .i64 u.cli)) ∧ w'.cell? ⟨b, o + k * 4, none⟩ = some (.int .i64 x.id) ∧ w'.cell? ⟨b, o + k * 4 + 1, none⟩ = some (.int .i64 x.member) ∧ w'.cell? ⟨b, o + k * 4 + 2, none⟩ = some (.int .i64 x.kind) ∧ w'.cell? ⟨b, o + k * 4 + 3, none⟩ = some (.slice x.clients.A x.clients.val.length x.clients.c)) (exact tK) (first | (go_at_call 90; (with_reducible refine cM (CX.out _ (by have h := Hbl.out; exact tB)) fun w2 hb2 fc2 fg2 hc2 hf2 hz2 => ?_); (try simp at hz2)) | fail)
    go_wp2_with fail
    go_ret
    exact ⟨by rw [HV.out, HST.out]; rfl, by have h1 := Hbl.out; exact tB⟩
  ·have dl : decide ((k : Int) < (s.acs.val.length : Int)) = false := by simpa using hlt
   go_wp2_with fail
   go_ret
   exact ⟨by rw [HV.out, drop_all (by omega)]; rfl, Hbl.out⟩
theorem ref33Inst (s : StV) (id : Int) (w : World) (hs : LedSt w s) :
  Calls Tryz.prog 55 #[.agg #[.int .i64 (s).day, .slice (s).mem.A (s).mem.val.length (s).mem.c, .slice (s).ins.A (s).ins.val.length (s).ins.c, .slice (s).ats.A (s).ats.val.length (s).ats.c, .slice (s).acs.A (s).acs.val.length (s).acs.c, .slice (s).cho.A (s).cho.val.length (s).cho.c, .slice (s).grp.A (s).grp.val.length (s).grp.c, .slice (s).giv.A (s).giv.val.length (s).giv.c, .slice (s).bk.A (s).bk.val.length (s).bk.c, .slice (s).sale.A (s).sale.val.length (s).sale.c, .slice (s).pu.A (s).pu.val.length (s).pu.c, .slice (s).ho.A (s).ho.val.length (s).ho.c], .int .i64 id] w fun e w' => e = .returned (.bool (findInstV s.ins.val id).2) ∧ Below w.heap.size w w' := by
 have cf := fun W (h : Below w.heap.size w W) => ref13Find s.ins.val id s.ins.A s.ins.c W (by have h1 := hs.side.li; have h2 : s.ins.val.length ≤ 1000 := h1; omega) (hs.side.ri.keep h)
 generalize findInstV s.ins.val id = ff at *
 obtain ⟨m, fb⟩ := ff
 have CF := hid cf
 clear cf hs
 go_enter Tryz.func55, Tryz.ntmps55
 go_wp2_with (first | (go_at_call 91; (with_reducible refine cM (CF.out _ tB) fun w1 hb1 fc1 fg1 hc1 hf1 hz1 => ?_); (try simp at hz1)) | fail)
 go_ret
 exact ⟨rfl, tB⟩
theorem ref33Owner (s : StV) (u : Un) (w : World) (hs : LedSt w s) :
  Calls Tryz.prog 25 #[.agg #[.int .i64 (s).day, .slice (s).mem.A (s).mem.val.length (s).mem.c, .slice (s).ins.A (s).ins.val.length (s).ins.c, .slice (s).ats.A (s).ats.val.length (s).ats.c, .slice (s).acs.A (s).acs.val.length (s).acs.c, .slice (s).cho.A (s).cho.val.length (s).cho.c, .slice (s).grp.A (s).grp.val.length (s).grp.c, .slice (s).giv.A (s).giv.val.length (s).giv.c, .slice (s).bk.A (s).bk.val.length (s).bk.c, .slice (s).sale.A (s).sale.val.length (s).sale.c, .slice (s).pu.A (s).pu.val.length (s).pu.c, .slice (s).ho.A (s).ho.val.length (s).ho.c], .agg #[.int .i64 u.acc, .int .i64 u.cli]] w fun e w' => e = .returned (.bool (ownS s.acs.val u)) ∧ Below w.heap.size w w' := by
 have ch := fun W (h : Below w.heap.size w W) => ref33Has s u W (hs.keep h)
 have HO := hid (show ownS s.acs.val u = (hasS s.acs.val u || ((u.acc == 0 && u.cli == 0) || (u.acc == 0 && u.cli == 1))) from rfl)
 have hu : ((u.acc == 0) = true ∧ (u.cli == 0) = true ∧ (u.cli == 1) = false) ∨ ((u.acc == 0) = true ∧ (u.cli == 0) = false ∧ (u.cli == 1) = true) ∨ ((u.acc == 0) = true ∧ (u.cli == 0) = false ∧ (u.cli == 1) = false) ∨ (u.acc == 0) = false := by
  simp only [beq_iff_eq, beq_eq_false_iff_ne, ne_eq]
  omega
 generalize ownS s.acs.val u = R at *
 generalize hasS s.acs.val u = b at *
 have CH := hid ch
 clear hs ch
 rcases hu with ⟨a0, a1, a2⟩ | ⟨a0, a1, a2⟩ | ⟨a0, a1, a2⟩ | a0
 all_goals
  cases b
  all_goals
   go_enter Tryz.func25, Tryz.ntmps25
   go_wp2_with (first | (go_at_call 53; (with_reducible refine cM (CH.out _ tB) fun w1 hb1 fc1 fg1 hc1 hf1 hz1 => ?_); (try simp at hz1)) | fail)
   go_ret
   exact ⟨by rw [HO.out]; simp [*], tB⟩
theorem st_keep {w w' : World} {s : StV} {g : Nat} (h : ((w).cell? ⟨g, 0, none⟩ = some (.int .i64 (s).day) ∧ (w).cell? ⟨g, 1, none⟩ = some (.slice (s).mem.A (s).mem.val.length (s).mem.c) ∧ (w).cell? ⟨g, 2, none⟩ = some (.slice (s).ins.A (s).ins.val.length (s).ins.c) ∧ (w).cell? ⟨g, 3, none⟩ = some (.slice (s).ats.A (s).ats.val.length (s).ats.c) ∧ (w).cell? ⟨g, 4, none⟩ = some (.slice (s).acs.A (s).acs.val.length (s).acs.c) ∧ (w).cell? ⟨g, 5, none⟩ = some (.slice (s).cho.A (s).cho.val.length (s).cho.c) ∧ (w).cell? ⟨g, 6, none⟩ = some (.slice (s).grp.A (s).grp.val.length (s).grp.c) ∧ (w).cell? ⟨g, 7, none⟩ = some (.slice (s).giv.A (s).giv.val.length (s).giv.c) ∧ (w).cell? ⟨g, 8, none⟩ = some (.slice (s).bk.A (s).bk.val.length (s).bk.c) ∧ (w).cell? ⟨g, 9, none⟩ = some (.slice (s).sale.A (s).sale.val.length (s).sale.c) ∧ (w).cell? ⟨g, 10, none⟩ = some (.slice (s).pu.A (s).pu.val.length (s).pu.c) ∧ (w).cell? ⟨g, 11, none⟩ = some (.slice (s).ho.A (s).ho.val.length (s).ho.c))) (hb : Below w.heap.size w w') (hg : g < w.heap.size) : ((w').cell? ⟨g, 0, none⟩ = some (.int .i64 (s).day) ∧ (w').cell? ⟨g, 1, none⟩ = some (.slice (s).mem.A (s).mem.val.length (s).mem.c) ∧ (w').cell? ⟨g, 2, none⟩ = some (.slice (s).ins.A (s).ins.val.length (s).ins.c) ∧ (w').cell? ⟨g, 3, none⟩ = some (.slice (s).ats.A (s).ats.val.length (s).ats.c) ∧ (w').cell? ⟨g, 4, none⟩ = some (.slice (s).acs.A (s).acs.val.length (s).acs.c) ∧ (w').cell? ⟨g, 5, none⟩ = some (.slice (s).cho.A (s).cho.val.length (s).cho.c) ∧ (w').cell? ⟨g, 6, none⟩ = some (.slice (s).grp.A (s).grp.val.length (s).grp.c) ∧ (w').cell? ⟨g, 7, none⟩ = some (.slice (s).giv.A (s).giv.val.length (s).giv.c) ∧ (w').cell? ⟨g, 8, none⟩ = some (.slice (s).bk.A (s).bk.val.length (s).bk.c) ∧ (w').cell? ⟨g, 9, none⟩ = some (.slice (s).sale.A (s).sale.val.length (s).sale.c) ∧ (w').cell? ⟨g, 10, none⟩ = some (.slice (s).pu.A (s).pu.val.length (s).pu.c) ∧ (w').cell? ⟨g, 11, none⟩ = some (.slice (s).ho.A (s).ho.val.length (s).ho.c)) :=
 ⟨(hb.cell hg).trans h.1, (hb.cell hg).trans h.2.1, (hb.cell hg).trans h.2.2.1, (hb.cell hg).trans h.2.2.2.1, (hb.cell hg).trans h.2.2.2.2.1, (hb.cell hg).trans h.2.2.2.2.2.1, (hb.cell hg).trans h.2.2.2.2.2.2.1, (hb.cell hg).trans h.2.2.2.2.2.2.2.1, (hb.cell hg).trans h.2.2.2.2.2.2.2.2.1, (hb.cell hg).trans h.2.2.2.2.2.2.2.2.2.1, (hb.cell hg).trans h.2.2.2.2.2.2.2.2.2.2.1, (hb.cell hg).trans h.2.2.2.2.2.2.2.2.2.2.2⟩
theorem st_box {w : World} {s : StV} : (((w.alloc (.cells #[.int .i64 (s).day, .slice (s).mem.A (s).mem.val.length (s).mem.c, .slice (s).ins.A (s).ins.val.length (s).ins.c, .slice (s).ats.A (s).ats.val.length (s).ats.c, .slice (s).acs.A (s).acs.val.length (s).acs.c, .slice (s).cho.A (s).cho.val.length (s).cho.c, .slice (s).grp.A (s).grp.val.length (s).grp.c, .slice (s).giv.A (s).giv.val.length (s).giv.c, .slice (s).bk.A (s).bk.val.length (s).bk.c, .slice (s).sale.A (s).sale.val.length (s).sale.c, .slice (s).pu.A (s).pu.val.length (s).pu.c, .slice (s).ho.A (s).ho.val.length (s).ho.c] 33))).cell? ⟨w.heap.size, 0, none⟩ = some (.int .i64 (s).day) ∧ ((w.alloc (.cells #[.int .i64 (s).day, .slice (s).mem.A (s).mem.val.length (s).mem.c, .slice (s).ins.A (s).ins.val.length (s).ins.c, .slice (s).ats.A (s).ats.val.length (s).ats.c, .slice (s).acs.A (s).acs.val.length (s).acs.c, .slice (s).cho.A (s).cho.val.length (s).cho.c, .slice (s).grp.A (s).grp.val.length (s).grp.c, .slice (s).giv.A (s).giv.val.length (s).giv.c, .slice (s).bk.A (s).bk.val.length (s).bk.c, .slice (s).sale.A (s).sale.val.length (s).sale.c, .slice (s).pu.A (s).pu.val.length (s).pu.c, .slice (s).ho.A (s).ho.val.length (s).ho.c] 33))).cell? ⟨w.heap.size, 1, none⟩ = some (.slice (s).mem.A (s).mem.val.length (s).mem.c) ∧ ((w.alloc (.cells #[.int .i64 (s).day, .slice (s).mem.A (s).mem.val.length (s).mem.c, .slice (s).ins.A (s).ins.val.length (s).ins.c, .slice (s).ats.A (s).ats.val.length (s).ats.c, .slice (s).acs.A (s).acs.val.length (s).acs.c, .slice (s).cho.A (s).cho.val.length (s).cho.c, .slice (s).grp.A (s).grp.val.length (s).grp.c, .slice (s).giv.A (s).giv.val.length (s).giv.c, .slice (s).bk.A (s).bk.val.length (s).bk.c, .slice (s).sale.A (s).sale.val.length (s).sale.c, .slice (s).pu.A (s).pu.val.length (s).pu.c, .slice (s).ho.A (s).ho.val.length (s).ho.c] 33))).cell? ⟨w.heap.size, 2, none⟩ = some (.slice (s).ins.A (s).ins.val.length (s).ins.c) ∧ ((w.alloc (.cells #[.int .i64 (s).day, .slice (s).mem.A (s).mem.val.length (s).mem.c, .slice (s).ins.A (s).ins.val.length (s).ins.c, .slice (s).ats.A (s).ats.val.length (s).ats.c, .slice (s).acs.A (s).acs.val.length (s).acs.c, .slice (s).cho.A (s).cho.val.length (s).cho.c, .slice (s).grp.A (s).grp.val.length (s).grp.c, .slice (s).giv.A (s).giv.val.length (s).giv.c, .slice (s).bk.A (s).bk.val.length (s).bk.c, .slice (s).sale.A (s).sale.val.length (s).sale.c, .slice (s).pu.A (s).pu.val.length (s).pu.c, .slice (s).ho.A (s).ho.val.length (s).ho.c] 33))).cell? ⟨w.heap.size, 3, none⟩ = some (.slice (s).ats.A (s).ats.val.length (s).ats.c) ∧ ((w.alloc (.cells #[.int .i64 (s).day, .slice (s).mem.A (s).mem.val.length (s).mem.c, .slice (s).ins.A (s).ins.val.length (s).ins.c, .slice (s).ats.A (s).ats.val.length (s).ats.c, .slice (s).acs.A (s).acs.val.length (s).acs.c, .slice (s).cho.A (s).cho.val.length (s).cho.c, .slice (s).grp.A (s).grp.val.length (s).grp.c, .slice (s).giv.A (s).giv.val.length (s).giv.c, .slice (s).bk.A (s).bk.val.length (s).bk.c, .slice (s).sale.A (s).sale.val.length (s).sale.c, .slice (s).pu.A (s).pu.val.length (s).pu.c, .slice (s).ho.A (s).ho.val.length (s).ho.c] 33))).cell? ⟨w.heap.size, 4, none⟩ = some (.slice (s).acs.A (s).acs.val.length (s).acs.c) ∧ ((w.alloc (.cells #[.int .i64 (s).day, .slice (s).mem.A (s).mem.val.length (s).mem.c, .slice (s).ins.A (s).ins.val.length (s).ins.c, .slice (s).ats.A (s).ats.val.length (s).ats.c, .slice (s).acs.A (s).acs.val.length (s).acs.c, .slice (s).cho.A (s).cho.val.length (s).cho.c, .slice (s).grp.A (s).grp.val.length (s).grp.c, .slice (s).giv.A (s).giv.val.length (s).giv.c, .slice (s).bk.A (s).bk.val.length (s).bk.c, .slice (s).sale.A (s).sale.val.length (s).sale.c, .slice (s).pu.A (s).pu.val.length (s).pu.c, .slice (s).ho.A (s).ho.val.length (s).ho.c] 33))).cell? ⟨w.heap.size, 5, none⟩ = some (.slice (s).cho.A (s).cho.val.length (s).cho.c) ∧ ((w.alloc (.cells #[.int .i64 (s).day, .slice (s).mem.A (s).mem.val.length (s).mem.c, .slice (s).ins.A (s).ins.val.length (s).ins.c, .slice (s).ats.A (s).ats.val.length (s).ats.c, .slice (s).acs.A (s).acs.val.length (s).acs.c, .slice (s).cho.A (s).cho.val.length (s).cho.c, .slice (s).grp.A (s).grp.val.length (s).grp.c, .slice (s).giv.A (s).giv.val.length (s).giv.c, .slice (s).bk.A (s).bk.val.length (s).bk.c, .slice (s).sale.A (s).sale.val.length (s).sale.c, .slice (s).pu.A (s).pu.val.length (s).pu.c, .slice (s).ho.A (s).ho.val.length (s).ho.c] 33))).cell? ⟨w.heap.size, 6, none⟩ = some (.slice (s).grp.A (s).grp.val.length (s).grp.c) ∧ ((w.alloc (.cells #[.int .i64 (s).day, .slice (s).mem.A (s).mem.val.length (s).mem.c, .slice (s).ins.A (s).ins.val.length (s).ins.c, .slice (s).ats.A (s).ats.val.length (s).ats.c, .slice (s).acs.A (s).acs.val.length (s).acs.c, .slice (s).cho.A (s).cho.val.length (s).cho.c, .slice (s).grp.A (s).grp.val.length (s).grp.c, .slice (s).giv.A (s).giv.val.length (s).giv.c, .slice (s).bk.A (s).bk.val.length (s).bk.c, .slice (s).sale.A (s).sale.val.length (s).sale.c, .slice (s).pu.A (s).pu.val.length (s).pu.c, .slice (s).ho.A (s).ho.val.length (s).ho.c] 33))).cell? ⟨w.heap.size, 7, none⟩ = some (.slice (s).giv.A (s).giv.val.length (s).giv.c) ∧ ((w.alloc (.cells #[.int .i64 (s).day, .slice (s).mem.A (s).mem.val.length (s).mem.c, .slice (s).ins.A (s).ins.val.length (s).ins.c, .slice (s).ats.A (s).ats.val.length (s).ats.c, .slice (s).acs.A (s).acs.val.length (s).acs.c, .slice (s).cho.A (s).cho.val.length (s).cho.c, .slice (s).grp.A (s).grp.val.length (s).grp.c, .slice (s).giv.A (s).giv.val.length (s).giv.c, .slice (s).bk.A (s).bk.val.length (s).bk.c, .slice (s).sale.A (s).sale.val.length (s).sale.c, .slice (s).pu.A (s).pu.val.length (s).pu.c, .slice (s).ho.A (s).ho.val.length (s).ho.c] 33))).cell? ⟨w.heap.size, 8, none⟩ = some (.slice (s).bk.A (s).bk.val.length (s).bk.c) ∧ ((w.alloc (.cells #[.int .i64 (s).day, .slice (s).mem.A (s).mem.val.length (s).mem.c, .slice (s).ins.A (s).ins.val.length (s).ins.c, .slice (s).ats.A (s).ats.val.length (s).ats.c, .slice (s).acs.A (s).acs.val.length (s).acs.c, .slice (s).cho.A (s).cho.val.length (s).cho.c, .slice (s).grp.A (s).grp.val.length (s).grp.c, .slice (s).giv.A (s).giv.val.length (s).giv.c, .slice (s).bk.A (s).bk.val.length (s).bk.c, .slice (s).sale.A (s).sale.val.length (s).sale.c, .slice (s).pu.A (s).pu.val.length (s).pu.c, .slice (s).ho.A (s).ho.val.length (s).ho.c] 33))).cell? ⟨w.heap.size, 9, none⟩ = some (.slice (s).sale.A (s).sale.val.length (s).sale.c) ∧ ((w.alloc (.cells #[.int .i64 (s).day, .slice (s).mem.A (s).mem.val.length (s).mem.c, .slice (s).ins.A (s).ins.val.length (s).ins.c, .slice (s).ats.A (s).ats.val.length (s).ats.c, .slice (s).acs.A (s).acs.val.length (s).acs.c, .slice (s).cho.A (s).cho.val.length (s).cho.c, .slice (s).grp.A (s).grp.val.length (s).grp.c, .slice (s).giv.A (s).giv.val.length (s).giv.c, .slice (s).bk.A (s).bk.val.length (s).bk.c, .slice (s).sale.A (s).sale.val.length (s).sale.c, .slice (s).pu.A (s).pu.val.length (s).pu.c, .slice (s).ho.A (s).ho.val.length (s).ho.c] 33))).cell? ⟨w.heap.size, 10, none⟩ = some (.slice (s).pu.A (s).pu.val.length (s).pu.c) ∧ ((w.alloc (.cells #[.int .i64 (s).day, .slice (s).mem.A (s).mem.val.length (s).mem.c, .slice (s).ins.A (s).ins.val.length (s).ins.c, .slice (s).ats.A (s).ats.val.length (s).ats.c, .slice (s).acs.A (s).acs.val.length (s).acs.c, .slice (s).cho.A (s).cho.val.length (s).cho.c, .slice (s).grp.A (s).grp.val.length (s).grp.c, .slice (s).giv.A (s).giv.val.length (s).giv.c, .slice (s).bk.A (s).bk.val.length (s).bk.c, .slice (s).sale.A (s).sale.val.length (s).sale.c, .slice (s).pu.A (s).pu.val.length (s).pu.c, .slice (s).ho.A (s).ho.val.length (s).ho.c] 33))).cell? ⟨w.heap.size, 11, none⟩ = some (.slice (s).ho.A (s).ho.val.length (s).ho.c)) := by
 refine ⟨?_, ?_, ?_, ?_, ?_, ?_, ?_, ?_, ?_, ?_, ?_, ?_⟩ <;> simp [go_sem]
theorem below_one {w w1 : World} {o : Obj} (h : w1 = w.alloc o) : Below w.heap.size w w1 := by
 subst h
 exact tB
theorem ref33Book (s : StV) (l : List PosV) (A : Option Addr) (c : Nat) (w : World) (hs : LedSt w s) (hl : l.length ≤ 1000) (hr : Rd w A 3 (l.map encPosV)) (hg : ∀ x ∈ l, GoodPosV w x ∧ x.legs.val.length ≤ 40) :
  Calls Tryz.prog 22 #[.agg #[.int .i64 (s).day, .slice (s).mem.A (s).mem.val.length (s).mem.c, .slice (s).ins.A (s).ins.val.length (s).ins.c, .slice (s).ats.A (s).ats.val.length (s).ats.c, .slice (s).acs.A (s).acs.val.length (s).acs.c, .slice (s).cho.A (s).cho.val.length (s).cho.c, .slice (s).grp.A (s).grp.val.length (s).grp.c, .slice (s).giv.A (s).giv.val.length (s).giv.c, .slice (s).bk.A (s).bk.val.length (s).bk.c, .slice (s).sale.A (s).sale.val.length (s).sale.c, .slice (s).pu.A (s).pu.val.length (s).pu.c, .slice (s).ho.A (s).ho.val.length (s).ho.c], .slice A l.length c] w fun e w' => ∃ b, e = .returned (.bool b) ∧ (b = true → isPosV l = true) ∧ Below w.heap.size w w' := by
 have CH := hid (fun u W (h : Below w.heap.size w W) => ref33Has s u W (hs.keep h))
 have CN := hid (fun id W (h : Below w.heap.size w W) => ref33Inst s id W (hs.keep h))
 have CI := hid (fun W (h : Below w.heap.size w W) => refPosVIs l A c W (by omega) (hr.keep h) (fun x hx => (hg x hx).1.keep h))
 have HR := hid hr
 have HG := hid hg
 clear hs hr hg
 go_enter Tryz.func22, Tryz.ntmps22
 go_wp2_with fail
 obtain ⟨w1, hw1⟩ : ∃ w1, w1 = w.alloc (.cells #[.int .i64 (s).day, .slice (s).mem.A (s).mem.val.length (s).mem.c, .slice (s).ins.A (s).ins.val.length (s).ins.c, .slice (s).ats.A (s).ats.val.length (s).ats.c, .slice (s).acs.A (s).acs.val.length (s).acs.c, .slice (s).cho.A (s).cho.val.length (s).cho.c, .slice (s).grp.A (s).grp.val.length (s).grp.c, .slice (s).giv.A (s).giv.val.length (s).giv.c, .slice (s).bk.A (s).bk.val.length (s).bk.c, .slice (s).sale.A (s).sale.val.length (s).sale.c, .slice (s).pu.A (s).pu.val.length (s).pu.c, .slice (s).ho.A (s).ho.val.length (s).ho.c] 33) := ⟨_, rfl⟩
 have HSB := hid (show ((w1).cell? ⟨w.heap.size, 0, none⟩ = some (.int .i64 (s).day) ∧ (w1).cell? ⟨w.heap.size, 1, none⟩ = some (.slice (s).mem.A (s).mem.val.length (s).mem.c) ∧ (w1).cell? ⟨w.heap.size, 2, none⟩ = some (.slice (s).ins.A (s).ins.val.length (s).ins.c) ∧ (w1).cell? ⟨w.heap.size, 3, none⟩ = some (.slice (s).ats.A (s).ats.val.length (s).ats.c) ∧ (w1).cell? ⟨w.heap.size, 4, none⟩ = some (.slice (s).acs.A (s).acs.val.length (s).acs.c) ∧ (w1).cell? ⟨w.heap.size, 5, none⟩ = some (.slice (s).cho.A (s).cho.val.length (s).cho.c) ∧ (w1).cell? ⟨w.heap.size, 6, none⟩ = some (.slice (s).grp.A (s).grp.val.length (s).grp.c) ∧ (w1).cell? ⟨w.heap.size, 7, none⟩ = some (.slice (s).giv.A (s).giv.val.length (s).giv.c) ∧ (w1).cell? ⟨w.heap.size, 8, none⟩ = some (.slice (s).bk.A (s).bk.val.length (s).bk.c) ∧ (w1).cell? ⟨w.heap.size, 9, none⟩ = some (.slice (s).sale.A (s).sale.val.length (s).sale.c) ∧ (w1).cell? ⟨w.heap.size, 10, none⟩ = some (.slice (s).pu.A (s).pu.val.length (s).pu.c) ∧ (w1).cell? ⟨w.heap.size, 11, none⟩ = some (.slice (s).ho.A (s).ho.val.length (s).ho.c)) by rw [hw1]; exact st_box)
 have HW1 := hid (below_one hw1)
 have hsz1 : w1.heap.size = w.heap.size + 1 := by rw [hw1]; simp
 have hgs : w.heap.size < w1.heap.size := by omega
 rw [← hw1]
 clear hw1
 go_loopw [5] (fun i wr => ∃ k : Nat, k ≤ l.length ∧ i = .int .i64 k ∧ Below w1.heap.size w1 wr) (fun i _ => l.length - (intOf i).toNat)
 case atStart => exact ⟨0, Nat.zero_le _, rfl, Below.refl _ _⟩
 case round =>
  obtain ⟨k, hk, rfl, hbl⟩ := hrel
  have Hbl := hid hbl
  have hz := hbl.size
  have HW := hid (HW1.out.trans (hbl.mono (by omega)))
  clear hbl
  by_cases hlt : k < l.length
  ·have kl : (k : Int) < (l.length : Int) := by omega
   have dl := @dT k l.length hlt
   obtain ⟨b, o, rfl, hb, hc⟩ := HR.out k (encPosV l[k]) (by simp [hlt])
   have HRC := hid (And.intro (hc 0 _ rfl) (And.intro (hc 1 _ rfl) (hc 2 _ rfl)))
   simp only [Nat.add_zero] at HRC
   clear hc
   have hgx := HG.out l[k] (List.getElem_mem hlt)
   generalize l[k] = x at *
   have e0 := (HW.out.cell (p := ⟨b, o + k * 3, none⟩) hb).trans HRC.out.1
   have e1 := (HW.out.cell (p := ⟨b, o + k * 3 + 1, none⟩) hb).trans HRC.out.2.1
   have e2 := (HW.out.cell (p := ⟨b, o + k * 3 + 2, none⟩) hb).trans HRC.out.2.2
   obtain ⟨y0, y1, y2, y3, y4, y5, y6, y7, y8, y9, y10, y11⟩ := st_keep HSB.out Hbl.out hgs
   have hbw : b < wr.heap.size := by omega
   have hgw : w.heap.size < wr.heap.size := by omega
   have cx := CH.out x.unit
   cases hh : hasS s.acs.val x.unit
   ·rw [hh] at cx
    have CX := hid cx
    clear cx hh
    go_wp2_with fail
    go_region_held3 (fun w' => ((w').cell? ⟨w.heap.size, 0, none⟩ = some (.int .i64 (s).day) ∧ (w').cell? ⟨w.heap.size, 1, none⟩ = some (.slice (s).mem.A (s).mem.val.length (s).mem.c) ∧ (w').cell? ⟨w.heap.size, 2, none⟩ = some (.slice (s).ins.A (s).ins.val.length (s).ins.c) ∧ (w').cell? ⟨w.heap.size, 3, none⟩ = some (.slice (s).ats.A (s).ats.val.length (s).ats.c) ∧ (w').cell? ⟨w.heap.size, 4, none⟩ = some (.slice (s).acs.A (s).acs.val.length (s).acs.c) ∧ (w').cell? ⟨w.heap.size, 5, none⟩ = some (.slice (s).cho.A (s).cho.val.length (s).cho.c) ∧ (w').cell? ⟨w.heap.size, 6, none⟩ = some (.slice (s).grp.A (s).grp.val.length (s).grp.c) ∧ (w').cell? ⟨w.heap.size, 7, none⟩ = some (.slice (s).giv.A (s).giv.val.length (s).giv.c) ∧ (w').cell? ⟨w.heap.size, 8, none⟩ = some (.slice (s).bk.A (s).bk.val.length (s).bk.c) ∧ (w').cell? ⟨w.heap.size, 9, none⟩ = some (.slice (s).sale.A (s).sale.val.length (s).sale.c) ∧ (w').cell? ⟨w.heap.size, 10, none⟩ = some (.slice (s).pu.A (s).pu.val.length (s).pu.c) ∧ (w').cell? ⟨w.heap.size, 11, none⟩ = some (.slice (s).ho.A (s).ho.val.length (s).ho.c)) ∧ w'.cell? ⟨b, o + k * 3, none⟩ = some (.int .i64 x.unit.acc) ∧ w'.cell? ⟨b, o + k * 3 + 1, none⟩ = some (.int .i64 x.unit.cli)) (exact tK) (first | (go_at_call 53; (with_reducible refine cM (CX.out _ (by have h := HW.out; exact tB)) fun w3 hb3 fc3 fg3 hc3 hf3 hz3 => ?_); (try simp at hz3)) | fail)
    all_goals
     go_wp2_with fail
     go_ret
     exact ⟨_, rfl, (fun h => by cases h), by have h := HW.out; exact tB⟩
   ·rw [hh] at cx
    have CX := hid cx
    clear cx hh
    go_wp2_with fail
    go_region_held3 (fun w' => ((w').cell? ⟨w.heap.size, 0, none⟩ = some (.int .i64 (s).day) ∧ (w').cell? ⟨w.heap.size, 1, none⟩ = some (.slice (s).mem.A (s).mem.val.length (s).mem.c) ∧ (w').cell? ⟨w.heap.size, 2, none⟩ = some (.slice (s).ins.A (s).ins.val.length (s).ins.c) ∧ (w').cell? ⟨w.heap.size, 3, none⟩ = some (.slice (s).ats.A (s).ats.val.length (s).ats.c) ∧ (w').cell? ⟨w.heap.size, 4, none⟩ = some (.slice (s).acs.A (s).acs.val.length (s).acs.c) ∧ (w').cell? ⟨w.heap.size, 5, none⟩ = some (.slice (s).cho.A (s).cho.val.length (s).cho.c) ∧ (w').cell? ⟨w.heap.size, 6, none⟩ = some (.slice (s).grp.A (s).grp.val.length (s).grp.c) ∧ (w').cell? ⟨w.heap.size, 7, none⟩ = some (.slice (s).giv.A (s).giv.val.length (s).giv.c) ∧ (w').cell? ⟨w.heap.size, 8, none⟩ = some (.slice (s).bk.A (s).bk.val.length (s).bk.c) ∧ (w').cell? ⟨w.heap.size, 9, none⟩ = some (.slice (s).sale.A (s).sale.val.length (s).sale.c) ∧ (w').cell? ⟨w.heap.size, 10, none⟩ = some (.slice (s).pu.A (s).pu.val.length (s).pu.c) ∧ (w').cell? ⟨w.heap.size, 11, none⟩ = some (.slice (s).ho.A (s).ho.val.length (s).ho.c)) ∧ w'.cell? ⟨b, o + k * 3, none⟩ = some (.int .i64 x.unit.acc) ∧ w'.cell? ⟨b, o + k * 3 + 1, none⟩ = some (.int .i64 x.unit.cli)) (exact tK) (first | (go_at_call 53; (with_reducible refine cM (CX.out _ (by have h := HW.out; exact tB)) fun w3 hb3 fc3 fg3 hc3 hf3 hz3 => ?_); (try simp at hz3)) | fail)
    have H3 := hid (show Below w1.heap.size w1 w3 by have h := Hbl.out; exact tB)
    have hz3 := H3.out.size
    clear hc3 hf3 hb3 e0 e1 e2 y0 y1 y2 y3 y4 y5 y6 y7 y8 y9 y10 y11
    go_wp2_with fail
    go_loopw [6] (fun i wr => ∃ j : Nat, j ≤ x.legs.val.length ∧ i = .int .i64 j ∧ Below w1.heap.size w1 wr) (fun i _ => x.legs.val.length - (intOf i).toNat)
    case atStart => exact ⟨0, Nat.zero_le _, rfl, H3.out⟩
    case round =>
     obtain ⟨j, hj, rfl, hbl5⟩ := hrel
     have Hbl5 := hid hbl5
     have hz5 := hbl5.size
     have HW5 := hid (HW1.out.trans (hbl5.mono (by omega)))
     clear hbl5
     have e0 := (HW5.out.cell (p := ⟨b, o + k * 3, none⟩) hb).trans HRC.out.1
     have e1 := (HW5.out.cell (p := ⟨b, o + k * 3 + 1, none⟩) hb).trans HRC.out.2.1
     have e2 := (HW5.out.cell (p := ⟨b, o + k * 3 + 2, none⟩) hb).trans HRC.out.2.2
     obtain ⟨y0, y1, y2, y3, y4, y5, y6, y7, y8, y9, y10, y11⟩ := st_keep HSB.out Hbl5.out hgs
     have hbw5 : b < wr.heap.size := by omega
     have hgw5 : w.heap.size < wr.heap.size := by omega
     have hll := hgx.2
     by_cases hlt2 : j < x.legs.val.length
     ·have kl2 : (j : Int) < (x.legs.val.length : Int) := by omega
      have dl2 : decide ((j : Int) < (x.legs.val.length : Int)) = true := by simpa using hlt2
      obtain ⟨bl, ol, hA, hbl, hcl⟩ := hgx.1.2.rd j (encLeg x.legs.val[j]) (by simp [hlt2])
      have l0 := (HW5.out.cell (p := ⟨bl, ol + j * 2 + 0, none⟩) (by omega)).trans (hcl 0 _ rfl)
      simp only [Nat.add_zero] at l0
      rw [hA] at e2
      have hblw : bl < wr.heap.size := by omega
      generalize x.legs.val[j] = z at *
      have cn := CN.out z.inst
      clear hcl hA
      cases hf : (findInstV s.ins.val z.inst).2
      ·rw [hf] at cn
       have CNX := hid cn
       clear cn hf
       go_wp2_with fail
       go_region_held3 (fun w' => ((w').cell? ⟨w.heap.size, 0, none⟩ = some (.int .i64 (s).day) ∧ (w').cell? ⟨w.heap.size, 1, none⟩ = some (.slice (s).mem.A (s).mem.val.length (s).mem.c) ∧ (w').cell? ⟨w.heap.size, 2, none⟩ = some (.slice (s).ins.A (s).ins.val.length (s).ins.c) ∧ (w').cell? ⟨w.heap.size, 3, none⟩ = some (.slice (s).ats.A (s).ats.val.length (s).ats.c) ∧ (w').cell? ⟨w.heap.size, 4, none⟩ = some (.slice (s).acs.A (s).acs.val.length (s).acs.c) ∧ (w').cell? ⟨w.heap.size, 5, none⟩ = some (.slice (s).cho.A (s).cho.val.length (s).cho.c) ∧ (w').cell? ⟨w.heap.size, 6, none⟩ = some (.slice (s).grp.A (s).grp.val.length (s).grp.c) ∧ (w').cell? ⟨w.heap.size, 7, none⟩ = some (.slice (s).giv.A (s).giv.val.length (s).giv.c) ∧ (w').cell? ⟨w.heap.size, 8, none⟩ = some (.slice (s).bk.A (s).bk.val.length (s).bk.c) ∧ (w').cell? ⟨w.heap.size, 9, none⟩ = some (.slice (s).sale.A (s).sale.val.length (s).sale.c) ∧ (w').cell? ⟨w.heap.size, 10, none⟩ = some (.slice (s).pu.A (s).pu.val.length (s).pu.c) ∧ (w').cell? ⟨w.heap.size, 11, none⟩ = some (.slice (s).ho.A (s).ho.val.length (s).ho.c)) ∧ w'.cell? ⟨b, o + k * 3 + 2, none⟩ = some (.slice (some ⟨bl, ol, none⟩) x.legs.val.length x.legs.c) ∧ w'.cell? ⟨bl, ol + j * 2, none⟩ = some (.int .i64 z.inst)) (exact tK) (first | (go_at_call 55; (with_reducible refine cM (CNX.out _ (by have h := HW5.out; exact tB)) fun w7 hb7 fc7 fg7 hc7 hf7 hz7 => ?_); (try simp at hz7)) | fail)
       all_goals
        go_wp2_with fail
        go_ret
        exact ⟨_, rfl, (fun h => by cases h), by have h := HW5.out; exact tB⟩
      ·rw [hf] at cn
       have CNX := hid cn
       clear cn hf
       go_wp2_with fail
       go_region_held3 (fun w' => ((w').cell? ⟨w.heap.size, 0, none⟩ = some (.int .i64 (s).day) ∧ (w').cell? ⟨w.heap.size, 1, none⟩ = some (.slice (s).mem.A (s).mem.val.length (s).mem.c) ∧ (w').cell? ⟨w.heap.size, 2, none⟩ = some (.slice (s).ins.A (s).ins.val.length (s).ins.c) ∧ (w').cell? ⟨w.heap.size, 3, none⟩ = some (.slice (s).ats.A (s).ats.val.length (s).ats.c) ∧ (w').cell? ⟨w.heap.size, 4, none⟩ = some (.slice (s).acs.A (s).acs.val.length (s).acs.c) ∧ (w').cell? ⟨w.heap.size, 5, none⟩ = some (.slice (s).cho.A (s).cho.val.length (s).cho.c) ∧ (w').cell? ⟨w.heap.size, 6, none⟩ = some (.slice (s).grp.A (s).grp.val.length (s).grp.c) ∧ (w').cell? ⟨w.heap.size, 7, none⟩ = some (.slice (s).giv.A (s).giv.val.length (s).giv.c) ∧ (w').cell? ⟨w.heap.size, 8, none⟩ = some (.slice (s).bk.A (s).bk.val.length (s).bk.c) ∧ (w').cell? ⟨w.heap.size, 9, none⟩ = some (.slice (s).sale.A (s).sale.val.length (s).sale.c) ∧ (w').cell? ⟨w.heap.size, 10, none⟩ = some (.slice (s).pu.A (s).pu.val.length (s).pu.c) ∧ (w').cell? ⟨w.heap.size, 11, none⟩ = some (.slice (s).ho.A (s).ho.val.length (s).ho.c)) ∧ w'.cell? ⟨b, o + k * 3 + 2, none⟩ = some (.slice (some ⟨bl, ol, none⟩) x.legs.val.length x.legs.c) ∧ w'.cell? ⟨bl, ol + j * 2, none⟩ = some (.int .i64 z.inst)) (exact tK) (first | (go_at_call 55; (with_reducible refine cM (CNX.out _ (by have h := HW5.out; exact tB)) fun w7 hb7 fc7 fg7 hc7 hf7 hz7 => ?_); (try simp at hz7)) | fail)
       go_wp2_with fail
       go_roundw
       case rel => exact ⟨j + 1, by omega, by go_num, by have h := Hbl5.out; exact tB⟩
       case measure => simp [intOf]; omega
     ·have dl2 : decide ((j : Int) < (x.legs.val.length : Int)) = false := by simpa using hlt2
      go_wp2_with fail
      go_roundw
      case rel => exact ⟨k + 1, by omega, by go_num, Hbl5.out⟩
      case measure => simp [intOf]; omega
  ·have dl := @dF k l.length hlt
   have CIX := hid CI.out
   go_wp2_with (first | (go_at_call 56; (with_reducible refine cM (CIX.out _ (by have h := HW.out; exact tB)) fun w9 hb9 fc9 fg9 hc9 hf9 hz9 => ?_); (try simp at hz9)) | fail)
   go_ret
   exact ⟨_, rfl, (fun h => h), by have h := HW.out; exact tB⟩
def IsB (e : Ending) : Prop := ∃ b, e = .returned (.bool b)
theorem isB (b : Bool) : IsB (.returned (.bool b)) := ⟨b, rfl⟩
theorem ref33Deals (s : StV) (w : World) (hs : LedSt w s) :
  Calls Tryz.prog 21 #[.agg #[.int .i64 (s).day, .slice (s).mem.A (s).mem.val.length (s).mem.c, .slice (s).ins.A (s).ins.val.length (s).ins.c, .slice (s).ats.A (s).ats.val.length (s).ats.c, .slice (s).acs.A (s).acs.val.length (s).acs.c, .slice (s).cho.A (s).cho.val.length (s).cho.c, .slice (s).grp.A (s).grp.val.length (s).grp.c, .slice (s).giv.A (s).giv.val.length (s).giv.c, .slice (s).bk.A (s).bk.val.length (s).bk.c, .slice (s).sale.A (s).sale.val.length (s).sale.c, .slice (s).pu.A (s).pu.val.length (s).pu.c, .slice (s).ho.A (s).ho.val.length (s).ho.c]] w fun e w' => IsB e ∧ Below w.heap.size w w' := by
 have CH := hid (fun u W (h : Below w.heap.size w W) => ref33Has s u W (hs.keep h))
 have CN := hid (fun id W (h : Below w.heap.size w W) => ref33Inst s id W (hs.keep h))
 have HRG := hid hs.rg
 have HRV := hid hs.rv
 have lg := hs.lg
 have lv := hs.lv
 clear hs
 by_cases hA : 64 < s.grp.val.length ∨ 64 < s.giv.val.length
 ·have hD : (decide ((64 : Int) < (s.grp.val.length : Int)) = true) ∨ (decide ((64 : Int) < (s.grp.val.length : Int)) = false ∧ decide ((64 : Int) < (s.giv.val.length : Int)) = true) := by
   simp only [decide_eq_true_eq, decide_eq_false_iff_not]
   omega
  rcases hD with d1 | ⟨d1, d2⟩
  all_goals
   go_enter Tryz.func21, Tryz.ntmps21
   go_wp2_with fail
   go_ret
   exact ⟨isB _, tB⟩
 have d1 : decide ((64 : Int) < (s.grp.val.length : Int)) = false := by simp; omega
 have d2 : decide ((64 : Int) < (s.giv.val.length : Int)) = false := by simp; omega
 clear hA
 go_enter Tryz.func21, Tryz.ntmps21
 go_wp2_with fail
 obtain ⟨w1, hw1⟩ : ∃ w1, w1 = w.alloc (.cells #[.int .i64 (s).day, .slice (s).mem.A (s).mem.val.length (s).mem.c, .slice (s).ins.A (s).ins.val.length (s).ins.c, .slice (s).ats.A (s).ats.val.length (s).ats.c, .slice (s).acs.A (s).acs.val.length (s).acs.c, .slice (s).cho.A (s).cho.val.length (s).cho.c, .slice (s).grp.A (s).grp.val.length (s).grp.c, .slice (s).giv.A (s).giv.val.length (s).giv.c, .slice (s).bk.A (s).bk.val.length (s).bk.c, .slice (s).sale.A (s).sale.val.length (s).sale.c, .slice (s).pu.A (s).pu.val.length (s).pu.c, .slice (s).ho.A (s).ho.val.length (s).ho.c] 33) := ⟨_, rfl⟩
 have HSB := hid (show ((w1).cell? ⟨w.heap.size, 0, none⟩ = some (.int .i64 (s).day) ∧ (w1).cell? ⟨w.heap.size, 1, none⟩ = some (.slice (s).mem.A (s).mem.val.length (s).mem.c) ∧ (w1).cell? ⟨w.heap.size, 2, none⟩ = some (.slice (s).ins.A (s).ins.val.length (s).ins.c) ∧ (w1).cell? ⟨w.heap.size, 3, none⟩ = some (.slice (s).ats.A (s).ats.val.length (s).ats.c) ∧ (w1).cell? ⟨w.heap.size, 4, none⟩ = some (.slice (s).acs.A (s).acs.val.length (s).acs.c) ∧ (w1).cell? ⟨w.heap.size, 5, none⟩ = some (.slice (s).cho.A (s).cho.val.length (s).cho.c) ∧ (w1).cell? ⟨w.heap.size, 6, none⟩ = some (.slice (s).grp.A (s).grp.val.length (s).grp.c) ∧ (w1).cell? ⟨w.heap.size, 7, none⟩ = some (.slice (s).giv.A (s).giv.val.length (s).giv.c) ∧ (w1).cell? ⟨w.heap.size, 8, none⟩ = some (.slice (s).bk.A (s).bk.val.length (s).bk.c) ∧ (w1).cell? ⟨w.heap.size, 9, none⟩ = some (.slice (s).sale.A (s).sale.val.length (s).sale.c) ∧ (w1).cell? ⟨w.heap.size, 10, none⟩ = some (.slice (s).pu.A (s).pu.val.length (s).pu.c) ∧ (w1).cell? ⟨w.heap.size, 11, none⟩ = some (.slice (s).ho.A (s).ho.val.length (s).ho.c)) by rw [hw1]; exact st_box)
 have HW1 := hid (below_one hw1)
 have hsz1 : w1.heap.size = w.heap.size + 1 := by rw [hw1]; simp
 have hgs : w.heap.size < w1.heap.size := by omega
 rw [← hw1]
 clear hw1 d1 d2
 go_loopw [3] (fun i wr => ∃ k : Nat, k ≤ s.grp.val.length ∧ i = .int .i64 k ∧ Below w1.heap.size w1 wr) (fun i _ => s.grp.val.length - (intOf i).toNat)
 case atStart => exact ⟨0, Nat.zero_le _, rfl, Below.refl _ _⟩
 case round =>
  obtain ⟨k, hk, rfl, hbl⟩ := hrel
  have Hbl := hid hbl
  have hz := hbl.size
  have HW := hid (HW1.out.trans (hbl.mono (by omega)))
  clear hbl
  obtain ⟨y0, y1, y2, y3, y4, y5, y6, y7, y8, y9, y10, y11⟩ := st_keep HSB.out Hbl.out hgs
  have hgw : w.heap.size < wr.heap.size := by omega
  by_cases hlt : k < s.grp.val.length
  ·have kl : (k : Int) < (s.grp.val.length : Int) := by omega
   have dl : decide ((k : Int) < (s.grp.val.length : Int)) = true := by simpa using hlt
   obtain ⟨b, o, hA, hb, hc⟩ := HRG.out k (encGroup s.grp.val[k]) (by simp [hlt])
   replace hc := fun j v hv => (HW.out.cell (p := ⟨b, o + k * 6 + j, none⟩) hb).trans (hc j v hv)
   have e0 := hc 0 _ rfl
   have e1 := hc 1 _ rfl
   have e2 := hc 2 _ rfl
   have e3 := hc 3 _ rfl
   have e4 := hc 4 _ rfl
   have e5 := hc 5 _ rfl
   simp only [Nat.add_zero] at e0
   clear hc
   have c1 := CH.out s.grp.val[k].unit
   have c2 := CN.out s.grp.val[k].inst
   rw [hA] at y6 c1 c2
   have hbw : b < wr.heap.size := by omega
   clear hA
   generalize s.grp.val[k] = x at *
   generalize hasS s.acs.val x.unit = h1 at *
   generalize (findInstV s.ins.val x.inst).2 = h2 at *
   have C1 := hid c1
   have C2 := hid c2
   clear c1 c2
   cases h1 <;> cases h2
   all_goals
    go_wp2_with (first | (go_at_call 53; (with_reducible refine cM (C1.out _ (by have h := HW.out; exact tB)) fun w3 hb3 fc3 fg3 hc3 hf3 hz3 => ?_); (try simp at hz3)) | (go_at_call 55; (with_reducible refine cM (C2.out _ (by have h := HW.out; exact tB)) fun w4 hb4 fc4 fg4 hc4 hf4 hz4 => ?_); (try simp at hz4)) | fail)
    all_goals first
     | (go_ret; exact ⟨isB _, by have h := HW.out; exact tB⟩)
     | (go_roundw; (case rel => exact ⟨k + 1, by omega, by go_num, by have h := Hbl.out; exact tB⟩); (case measure => simp [intOf]; omega))
     | fail
  ·have dl : decide ((k : Int) < (s.grp.val.length : Int)) = false := by simpa using hlt
   have HB1 := Hbl
   go_wp2_with fail
   clear Hbl HW hlt dl hk hz hgw y0 y1 y2 y3 y4 y5 y6 y7 y8 y9 y10 y11
   go_loopw [5] (fun i wr => ∃ k : Nat, k ≤ s.giv.val.length ∧ i = .int .i64 k ∧ Below w1.heap.size w1 wr) (fun i _ => s.giv.val.length - (intOf i).toNat)
   case atStart => exact ⟨0, Nat.zero_le _, rfl, HB1.out⟩
   case round =>
    obtain ⟨k, hk, rfl, hbl⟩ := hrel
    have Hbl := hid hbl
    have hz := hbl.size
    have HW := hid (HW1.out.trans (hbl.mono (by omega)))
    clear hbl
    obtain ⟨y0, y1, y2, y3, y4, y5, y6, y7, y8, y9, y10, y11⟩ := st_keep HSB.out Hbl.out hgs
    have hgw : w.heap.size < wr.heap.size := by omega
    by_cases hlt : k < s.giv.val.length
    ·have kl : (k : Int) < (s.giv.val.length : Int) := by omega
     have dl : decide ((k : Int) < (s.giv.val.length : Int)) = true := by simpa using hlt
     obtain ⟨b, o, hA, hb, hc⟩ := HRV.out k (encGive s.giv.val[k]) (by simp [hlt])
     replace hc := fun j v hv => (HW.out.cell (p := ⟨b, o + k * 11 + j, none⟩) hb).trans (hc j v hv)
     have e0 := hc 0 _ rfl
     have e1 := hc 1 _ rfl
     have e2 := hc 2 _ rfl
     have e3 := hc 3 _ rfl
     have e4 := hc 4 _ rfl
     have e5 := hc 5 _ rfl
     have e6 := hc 6 _ rfl
     have e7 := hc 7 _ rfl
     have e8 := hc 8 _ rfl
     have e9 := hc 9 _ rfl
     have e10 := hc 10 _ rfl
     simp only [Nat.add_zero] at e0
     clear hc
     have c1 := CH.out s.giv.val[k].frm
     have c2 := CH.out s.giv.val[k].too
     have c3 := CN.out s.giv.val[k].leg.inst
     rw [hA] at y7 c1 c2 c3
     have hbw : b < wr.heap.size := by omega
     clear hA
     generalize s.giv.val[k] = x at *
     generalize hasS s.acs.val x.frm = h1 at *
     generalize hasS s.acs.val x.too = h2 at *
     generalize (findInstV s.ins.val x.leg.inst).2 = h3 at *
     have C1 := hid c1
     have C2 := hid c2
     have C3 := hid c3
     clear c1 c2 c3
     have hun : ((x.frm.acc == x.too.acc) = true ∧ (x.frm.cli == x.too.cli) = true) ∨ ((x.frm.acc == x.too.acc) = false) ∨ ((x.frm.acc == x.too.acc) = true ∧ (x.frm.cli == x.too.cli) = false) := by
      simp only [beq_iff_eq, beq_eq_false_iff_ne, ne_eq]
      omega
     cases h1
     ·go_wp2_with (first | (go_at_call 53; (with_reducible refine cM (C1.out _ (by have h := HW.out; exact tB)) fun w3 hb3 fc3 fg3 hc3 hf3 hz3 => ?_); (try simp at hz3)) | fail)
      all_goals
       go_ret
       exact ⟨isB _, by have h := HW.out; exact tB⟩
     cases h2
     ·go_wp2_with (first | (go_at_call 53; (with_reducible refine cM (C1.out _ (by have h := HW.out; exact tB)) fun w3 hb3 fc3 fg3 hc3 hf3 hz3 => ?_); (try simp at hz3)) | (go_at_call 53; (with_reducible refine cM (C2.out _ (by have h := HW.out; exact tB)) fun w4 hb4 fc4 fg4 hc4 hf4 hz4 => ?_); (try simp at hz4)) | fail)
      all_goals
       go_ret
       exact ⟨isB _, by have h := HW.out; exact tB⟩
     rcases hun with ⟨u0, u1⟩ | u0 | ⟨u0, u1⟩
     ·go_wp2_with (first | (go_at_call 53; (with_reducible refine cM (C1.out _ (by have h := HW.out; exact tB)) fun w3 hb3 fc3 fg3 hc3 hf3 hz3 => ?_); (try simp at hz3)) | (go_at_call 53; (with_reducible refine cM (C2.out _ (by have h := HW.out; exact tB)) fun w4 hb4 fc4 fg4 hc4 hf4 hz4 => ?_); (try simp at hz4)) | fail)
      all_goals
       go_ret
       exact ⟨isB _, by have h := HW.out; exact tB⟩
     all_goals
      go_wp2_with (first | (go_at_call 53; (with_reducible refine cM (C1.out _ (by have h := HW.out; exact tB)) fun w3 hb3 fc3 fg3 hc3 hf3 hz3 => ?_); (try simp at hz3)) | (go_at_call 53; (with_reducible refine cM (C2.out _ (by have h := HW.out; exact tB)) fun w4 hb4 fc4 fg4 hc4 hf4 hz4 => ?_); (try simp at hz4)) | (go_at_call 55; (with_reducible refine cM (C3.out _ (by have h := HW.out; exact tB)) fun w5 hb5 fc5 fg5 hc5 hf5 hz5 => ?_); (try simp at hz5)) | fail)
      all_goals first
       | (go_ret; exact ⟨isB _, by have h := HW.out; exact tB⟩)
       | (go_roundw; (case rel => exact ⟨k + 1, by omega, by go_num, by have h := Hbl.out; exact tB⟩); (case measure => simp [intOf]; omega))
       | fail
    ·have dl : decide ((k : Int) < (s.giv.val.length : Int)) = false := by simpa using hlt
     go_wp2_with fail
     go_ret
     exact ⟨isB _, by have h := HW.out; exact tB⟩
end Go.Proofs.YtalgfpegaobacaaGreatDoor
