/- Joined. -/
import Derived.Test.YtalgfpegaobacaaGreatDoorQz18
namespace Go.Proofs.YtalgfpegaobacaaGreatDoor
set_option linter.all false
set_option maxHeartbeats 16000000
set_option maxRecDepth 100000
open Go.RowKit
open Lib (hid)
/- Layer 24: contracts of grid.Loss, losses, worst, Margin, Worst. -/
theorem rowsG (l : List Int) : ∀ r ∈ l.map encW, r.length = 2 ∧ ∀ u ∈ r, u.oneCell' = true := by
 intro r hr
 obtain ⟨m, _, rfl⟩ := List.mem_map.1 hr
 refine ⟨rfl, ?_⟩
 simp only [encW, List.mem_cons, List.not_mem_nil, or_false, forall_eq_or_imp, forall_eq]
 exact ⟨rfl, rfl⟩
theorem instShockV (x : InstV) (q s : Int) (A : Option Addr) (c : Nat) (w : World) (hq : In64 q) (hl : x.moves.val.length ≤ 1099511627776) (hr : Rd w A 1 (x.moves.val.map encI)) :
  Calls Tryz.prog 207 #[.agg #[.int .i64 x.id, .int .i64 x.mult, .int .i64 x.price, .int .i64 x.next, .slice A x.moves.val.length c], .int .i64 q, .int .i64 s] w fun e w' => e = .returned (.agg #[.int .i64 (whi (shockI (lgI x) q s)), .int .u64 (wlo (shockI (lgI x) q s))]) ∧ Below w.heap.size w w' :=
 instShock (lgI x) q s A c w hq hl hr
theorem find_moves {t : List InstV} {id : Int} (h : ∀ x ∈ t, x.moves.val.length ≤ 1048576) : (findInstV t id).1.moves.val.length ≤ 1048576 := by
 rcases idx_findV t id with ⟨k, hk, _, _, _, hf⟩ | ⟨_, _, hf⟩
 ·rw [hf]; exact h t[k] (List.getElem_mem hk)
 ·rw [hf]; simp
theorem known_snoc {t : List InstV} {l : List Leg} {k : Nat} (h : k < l.length) : known t (l.take (k + 1)) = (known t (l.take k) && (findInstV t l[k].inst).2) := by
 unfold known
 rw [List.take_succ_eq_append_getElem h, List.all_append]
 simp
theorem known_no {t : List InstV} {l : List Leg} {k : Nat} (h : k < l.length) (hf : (findInstV t l[k].inst).2 = false) : known t l = false := by
 cases hk : known t l
 ·rfl
 ·rw [known_mem hk (List.getElem_mem h)] at hf; cases hf
theorem gridLoss (t : List InstV) (l : List Leg) (s : Int) (A B : Option Addr) (c d : Nat) (w : World) (ht : t.length ≤ 1000000) (hl : l.length ≤ 1000) (h64 : Legs64 l) (hrt : Rd w A 5 (t.map encInstV)) (hgt : ∀ x ∈ t, x.moves.val.length ≤ 1048576 ∧ GoodI w x) (hrl : Rd w B 2 (l.map encLeg)) :
  Calls Tryz.prog 192 #[.slice A t.length c, .slice B l.length d, .int .i64 s] w fun e w' => e = .returned (.tuple #[(.agg #[.int .i64 (whi (lossN t l s)), .int .u64 (wlo (lossN t l s))]), .int .i64 (lossC t l)]) ∧ Below w.heap.size w w' := by
 have HL := hid hrl
 have H64 := hid h64
 have hgi := gain_in (t := t) (s := s) h64 hl
 have HGI := hid hgi
 have HT := hid (fun W (h : Below w.heap.size w W) id => instFind t id A c W ht (hrt.keep h) (fun x hx => ⟨(hgt x hx).1, (hgt x hx).2.keep h⟩))
 have HM := hid (fun id => find_moves (t := t) (id := id) fun x hx => (hgt x hx).1)
 have CI := hid (fun W h => vecIs l B d W (by omega) h)
 clear hrl h64 hrt hgt hgi
 cases hv : isV l
 ·have HC := hid (show lossC t l = 3 from by unfold lossC; rw [hv]; rfl)
  have HN := hid (show lossN t l s = 0 from by unfold lossN; rw [hv]; rfl)
  rw [hv] at CI
  clear hv
  go_enter Tryz.func192, Tryz.ntmps192
  go_wp2_with (first | (go_at_call 160; (with_reducible refine cM (CI.out _ (HL.out.keep tB)) fun w1 hb1 fc1 fg1 hc1 hf1 hz1 => ?_); (try simp at hz1)) | fail)
  rw [HC.out, HN.out, whi_zero, wlo_zero]
  refine bodyPost_ret (by simp [results, Tryz.results192, go_sem, hc1]; try rfl) rfl ⟨rfl, ?_⟩
  exact tB
 have HV := hid hv
 rw [hv] at CI
 clear hv
 go_enter Tryz.func192, Tryz.ntmps192
 go_wp2_with (first | (go_at_call 160; (with_reducible refine cM (CI.out _ (HL.out.keep tB)) fun w1 hb1 fc1 fg1 hc1 hf1 hz1 => ?_); (try simp at hz1)) | fail)
 have Hb0 := hid (show Below w.heap.size w w1 from by exact tB)
 have x0 : w1.cell? ⟨w.heap.size, 0, none⟩ = some (.int .i64 0) := by simp [hc1, go_sem]
 have x1 : w1.cell? ⟨w.heap.size, 1, none⟩ = some (.int .u64 0) := by simp [hc1, go_sem]
 have x2 : w1.frozen? ⟨w.heap.size, 0, none⟩ = false := by simp [hf1, go_sem]
 have x3 : w1.frozen? ⟨w.heap.size, 1, none⟩ = false := by simp [hf1, go_sem]
 have X := hid (And.intro x0 (And.intro x1 (And.intro x2 x3)))
 clear x0 x1 x2 x3 hc1 hf1 hb1
 go_loopw [8, 23] (fun v i wr => ∃ k : Nat, k ≤ l.length ∧ i = .int .i64 k ∧ known t (l.take k) = true ∧ Own wr (w.heap.size + 1) 219 2 v (((l.take k).map (legS t s)).map encW) ∧ Below w.heap.size w wr ∧ w.heap.size < wr.heap.size ∧ (wr.cell? ⟨w.heap.size, 0, none⟩ = some (.int .i64 0) ∧ wr.cell? ⟨w.heap.size, 1, none⟩ = some (.int .u64 0)) ∧ wr.frozen? ⟨w.heap.size, 0, none⟩ = false ∧ wr.frozen? ⟨w.heap.size, 1, none⟩ = false) (fun _ i _ => l.length - (intOf i).toNat)
 case atStart => exact ⟨0, Nat.zero_le _, rfl, rfl, Own.nil _ _ _ _, Hb0.out, by omega, ⟨X.out.1, X.out.2.1⟩, X.out.2.2.1, X.out.2.2.2⟩
 case round =>
  clear X Hb0
  obtain ⟨k, hk, rfl, hkn, hown, hbl, hsz, ⟨z0, z1⟩, y0, y1⟩ := hrel
  have Hown := hid hown
  have Hbl := hid hbl
  have HKN := hid hkn
  have hz := hbl.size
  clear hown hbl hkn
  by_cases hlt : k < l.length
  ·have kl : (k : Int) < (l.length : Int) := by omega
   have dl := @dT k l.length hlt
   obtain ⟨be, oe, rfl, hbe, hqe⟩ := HL.out k (encLeg l[k]) (by simp [hlt])
   replace hqe := fun j v hv => (Hbl.out.cell (p := ⟨be, oe + k * 2 + j, none⟩) hbe).trans (hqe j v hv)
   have e0 := hqe 0 _ rfl
   have e1 := hqe 1 _ rfl
   simp only [Nat.add_zero] at e0
   clear hqe
   have hbw : be < wr.heap.size := by omega
   have hq64 := hid (H64.out l[k] (List.getElem_mem hlt))
   have hlen : ((l.take k).map (legS t s)).length ≤ 1000 := by simp; omega
   have hns := map_snoc hlt (legS t s)
   have hno := known_no (t := t) hlt
   have hsn := known_snoc (t := t) hlt
   have hfm := HM.out l[k].inst
   have hcf := fun W (h : Below w.heap.size w W) => HT.out W h l[k].inst
   have hls : legS t s l[k] = shockI (lgI (findInstV t l[k].inst).1) l[k].qty s := rfl
   generalize findInstV t l[k].inst = ff at *
   obtain ⟨fz, fb⟩ := ff
   simp only at hno hsn hfm hcf hls
   obtain ⟨n, hn⟩ : ∃ n, n = legS t s l[k] := ⟨_, rfl⟩
   rw [← hn] at hls hns
   have CF := hid hcf
   have CS := hid (fun W A c h => hls ▸ instShockV fz l[k].qty s A c W hq64.out (by omega) h)
   have HNS := hid hns
   have HNO := hid hno
   have HSN := hid hsn
   clear hns hno hsn hcf hls hn hfm
   cases fb
   ·have HC := hid (show lossC t l = 11 from by unfold lossC; rw [HV.out, HNO.out rfl]; rfl)
    have HN := hid (show lossN t l s = 0 from by unfold lossN; rw [HV.out, HNO.out rfl]; rfl)
    go_wp2_with (first | (go_at_call 206; (with_reducible refine (CF.out _ (by have hbl := Hbl.out; exact tB)).mono ?_); rintro e w1 ⟨⟨yi, ym, yp, yn, yA, yc, yv⟩, rfl, hl1, hg1, hb1⟩; (simp only [lgI, Inst.mk.injEq] at hl1); obtain ⟨rfl, rfl, rfl, rfl, rfl⟩ := hl1; have G1 := hid (show Rs w1 1 (fz.moves.val.map encI) yA yc from hg1); clear hg1; obtain ⟨fc1, fg1, hc1, hf1, hz1⟩ := bget hb1; (try simp at hz1)) | fail)
    have hbl := Hbl.out
    rw [HC.out, HN.out, whi_zero, wlo_zero]
    refine bodyPost_ret (by simp [results, Tryz.results192, go_sem, hc1, z0, z1, hsz, ↓IntWalk.iteOmega]; try rfl) rfl ⟨rfl, ?_⟩
    exact tB
   ·go_wp2_with (first | (go_at_call 206; (with_reducible refine (CF.out _ (by have hbl := Hbl.out; exact tB)).mono ?_); rintro e w1 ⟨⟨yi, ym, yp, yn, yA, yc, yv⟩, rfl, hl1, hg1, hb1⟩; (simp only [lgI, Inst.mk.injEq] at hl1); obtain ⟨rfl, rfl, rfl, rfl, rfl⟩ := hl1; have G1 := hid (show Rs w1 1 (fz.moves.val.map encI) yA yc from hg1); clear hg1; obtain ⟨fc1, fg1, hc1, hf1, hz1⟩ := bget hb1; (try simp at hz1)) | (go_at_call 207; (with_reducible refine cM (CS.out _ _ _ (G1.out.keep tB).rd) fun w2 hb2 fc2 fg2 hc2 hf2 hz2 => ?_); (try simp at hz2)) | (at_builtin; refine wpList_app rfl _ _ _ rfl elW (w.heap.size + 1) _ _ rfl ((Hown.out.keep tB).alloc _) (some ⟨_, 0, none⟩) 1 1 rfl [encW n] rfl (fun h => by cases h) (rd_oneN (by simp)) (rowsG [n]) (by unfold maxLen; exact tE) tE tZ ?_; intro v3 w3 hown3 hb3; obtain ⟨fc3, fg3, hc3, hf3, hz3⟩ := bget hb3; (try simp at hz3)) | fail)
    go_roundw
    case rel => exact ⟨k + 1, by omega, by go_num, by rw [HSN.out, HKN.out]; rfl, by rw [HNS.out, List.map_append]; exact hown3, by have hbl := Hbl.out; exact tB, by first | omega | (simp at hz3; omega), by simp [hc3, hc2, hc1, go_sem, z0, z1, hsz, ↓IntWalk.iteOmega], by simp [hf3, hf2, hf1, go_sem, y0, y1, hsz, ↓IntWalk.iteOmega]; exact ⟨fun h => absurd h (by omega), fun h => absurd h (by omega)⟩⟩
    case measure => simp [intOf]; omega
  ·have dl := @dF k l.length hlt
   have HTK := hid (show l.take k = l from List.take_of_length_le (by omega))
   have hown := Hown.out
   rw [HTK.out] at hown
   obtain ⟨A9, c9, hv9, hrs9, _⟩ := hown.rs
   rw [List.length_map] at hv9
   subst hv9
   have hkn := HKN.out
   rw [HTK.out] at hkn
   have HC := hid (show lossC t l = 0 from by unfold lossC; rw [HV.out, hkn]; rfl)
   have HN := hid (show lossN t l s = - gnN t l s from by unfold lossN; rw [HV.out, hkn]; rfl)
   have CA := hid (fun W (h : Below wr.heap.size wr W) => wideAddYes (l.map (legS t s)) A9 c9 W (by simp; omega) (fun z hz => by obtain ⟨y, hy, rfl⟩ := List.mem_map.1 hz; exact legS_in (H64.out y hy)) (hrs9.keep h).rd HGI.out.1)
   have CN := hid (fun W => wideNegYes (gnN t l s) W HGI.out.1 HGI.out.2)
   have HG : Hid ((l.map (legS t s)).sum = gnN t l s) := rfl
   rw [HG.out] at CA
   clear hown hrs9 hkn
   generalize l.map (legS t s) = z at *
   generalize gnN t l s = g at *
   go_wp2_with (first | (go_at_call 166; (with_reducible refine cM (CA.out _ tB) fun w1 hb1 fc1 fg1 hc1 hf1 hz1 => ?_); (try simp at hz1)) | (go_at_call 208; (with_reducible refine cM (CN.out _) fun w2 hb2 fc2 fg2 hc2 hf2 hz2 => ?_); (try simp at hz2)) | fail)
   have hbl := Hbl.out
   rw [HC.out, HN.out]
   refine bodyPost_ret (by simp [results, Tryz.results192, go_sem, hc1, hc2, z0, z1, hsz, ↓IntWalk.iteOmega]; try rfl) rfl ⟨rfl, ?_⟩
   exact tB
def losses8 (f : Int → Int) (k : Nat) : List Int := (List.range k).map fun (j : Nat) => f j
theorem losses8_succ (f : Int → Int) (k : Nat) : losses8 f (k + 1) = losses8 f k ++ [f k] := by
 unfold losses8
 rw [List.range_succ, List.map_append]; rfl
def lossesL (t : List InstV) (l : List Leg) : List Int := if lossC t l = 0 then losses8 (lossN t l) 8 else []
theorem most_losses (f : Int → Int) : ∀ n m, n ≤ m → mostN (fun s => (losses8 f m).getD s.toNat 0) n = mostN f n
 | 0, _, _ => rfl
 | n + 1, m, h => by
  have e : (losses8 f m).getD ((n : Nat) : Int).toNat 0 = f n := by
   unfold losses8
   rw [List.getD_eq_getElem?_getD, Int.toNat_natCast, List.getElem?_map, List.getElem?_range (by omega)]
   rfl
  unfold mostN
  rw [most_losses f n m (by omega), e]
theorem gridLosses (t : List InstV) (l : List Leg) (A B : Option Addr) (c d : Nat) (w : World) (ht : t.length ≤ 1000000) (hl : l.length ≤ 1000) (h64 : Legs64 l) (hrt : Rd w A 5 (t.map encInstV)) (hgt : ∀ x ∈ t, x.moves.val.length ≤ 1048576 ∧ GoodI w x) (hrl : Rd w B 2 (l.map encLeg)) :
  Calls Tryz.prog 170 #[.slice A t.length c, .slice B l.length d] w fun e w' => ∃ v, e = .returned (.tuple #[v, .int .i64 (lossC t l)]) ∧ Own w' w.heap.size 219 2 v ((lossesL t l).map encW) ∧ Below w.heap.size w w' := by
 have CL := hid (fun W (h : Below w.heap.size w W) s => gridLoss t l s A B c d W ht hl h64 (hrt.keep h) (fun x hx => ⟨(hgt x hx).1, (hgt x hx).2.keep h⟩) (hrl.keep h))
 have HLL := hid (show lossesL t l = if lossC t l = 0 then losses8 (lossN t l) 8 else [] from rfl)
 generalize lossesL t l = L at *
 generalize lossN t l = f at *
 generalize lossC t l = code at *
 clear ht hl h64 hrt hgt hrl
 by_cases h0 : code = 0
 ·subst h0
  have HL8 := hid (show L = losses8 f 8 from by rw [HLL.out]; rfl)
  clear HLL
  go_enter Tryz.func170, Tryz.ntmps170
  go_wp2_with fail
  go_loopw [6, 10] (fun v i wr => ∃ k : Nat, k ≤ 8 ∧ i = .int .i64 k ∧ Own wr w.heap.size 219 2 v ((losses8 f k).map encW) ∧ Below w.heap.size w wr) (fun _ i _ => 8 - (intOf i).toNat)
  case atStart => exact ⟨0, Nat.zero_le _, rfl, Own.nil _ _ _ _, tB⟩
  case round =>
   obtain ⟨k, hk, rfl, hown, hbl⟩ := hrel
   have Hown := hid hown
   have Hbl := hid hbl
   have hz := hbl.size
   clear hown hbl
   by_cases hlt : k < 8
   ·have dl : decide ((k : Int) < 8) = true := by simp; omega
    have hlen : (losses8 f k).length ≤ 8 := by unfold losses8; simp; omega
    have HS := hid (losses8_succ f k)
    have CK := hid (fun W (h : Below w.heap.size w W) => CL.out W h k)
    obtain ⟨n, hn⟩ : ∃ n, n = f (k : Int) := ⟨_, rfl⟩
    rw [← hn] at CK HS
    clear hn
    go_wp2_with (first | (go_at_call 192; (with_reducible refine cM (CK.out _ (by have hbl := Hbl.out; exact tB)) fun w1 hb1 fc1 fg1 hc1 hf1 hz1 => ?_); (try simp at hz1)) | (at_builtin; refine wpList_app rfl _ _ _ rfl elW w.heap.size _ _ rfl ((Hown.out.keep tB).alloc _) (some ⟨_, 0, none⟩) 1 1 rfl [encW n] rfl (fun h => by cases h) (rd_oneN (by simp)) (rowsG [n]) (by unfold maxLen; exact tE) tE tZ ?_; intro v3 w3 hown3 hb3; obtain ⟨fc3, fg3, hc3, hf3, hz3⟩ := bget hb3; (try simp at hz3)) | fail)
    go_roundw
    case rel => exact ⟨k + 1, by omega, by go_num, by rw [HS.out, List.map_append]; exact hown3, by have hbl := Hbl.out; exact tB⟩
    case measure => simp [intOf]; omega
   ·obtain rfl : k = 8 := by omega
    go_wp2_with fail
    go_ret2
    exact ⟨_, rfl, by rw [HL8.out]; exact Hown.out, by have hbl := Hbl.out; exact tB⟩
 ·have HL0 := hid (show L = [] from by rw [HLL.out, if_neg h0])
  have d0 : (code == 0) = false := by simpa using h0
  have CK := hid (fun W (h : Below w.heap.size w W) => CL.out W h 0)
  generalize f 0 = n at *
  clear HLL h0 CL
  go_enter Tryz.func170, Tryz.ntmps170
  go_wp2_with fail
  go_loopw [6, 10] (fun v i wr => v = .slice none 0 0 ∧ i = .int .i64 0 ∧ wr = w) (fun _ i _ => 8 - (intOf i).toNat)
  case atStart => exact ⟨rfl, rfl, rfl⟩
  case round =>
   obtain ⟨rfl, rfl, rfl⟩ := hrel
   go_wp2_with (first | (go_at_call 192; (with_reducible refine cM (CK.out _ tB) fun w1 hb1 fc1 fg1 hc1 hf1 hz1 => ?_); (try simp at hz1)) | fail)
   go_ret2
   exact ⟨_, rfl, by rw [HL0.out]; exact Own.nil _ _ _ _, tB⟩
theorem gridWorst (l : List Int) (A : Option Addr) (c : Nat) (w : World) (hl : l.length ≤ 1000) (h128 : ∀ z ∈ l, In128 z) (hr : Rd w A 2 (l.map encW)) :
  Calls Tryz.prog 171 #[.slice A l.length c] w fun e w' => e = .returned (.tuple #[(.agg #[.int .i64 (whi ((mostN (fun s => l.getD s.toNat 0) l.length).1)), .int .u64 (wlo ((mostN (fun s => l.getD s.toNat 0) l.length).1))]), .int .i64 (mostN (fun s => l.getD s.toNat 0) l.length).2]) ∧ Below w.heap.size w w' := by
 have HL := hid hr
 have H128 := hid h128
 have HMI := hid (fun k => most_in (f := fun s => l.getD s.toNat 0) (fun s => by
  show In128 (l.getD s.toNat 0)
  rw [List.getD_eq_getElem?_getD]
  cases h : l[s.toNat]? with
  | none => exact (show In128 0 from by unfold In128; omega)
  | some z => exact h128 z (List.mem_of_getElem? h)) k)
 have HST := hid (fun k (hk : k < l.length) => show mostN (fun s => l.getD s.toNat 0) (k + 1) = if (mostN (fun s => l.getD s.toNat 0) k).1 < l[k] then (l[k], (k : Int)) else mostN (fun s => l.getD s.toNat 0) k from by
  rw [mostN, show l.getD ((k : Nat) : Int).toNat 0 = l[k] from by rw [Int.toNat_natCast, getD_at hk]])
 have HS0 := hid (show mostN (fun s => l.getD s.toNat 0) 0 = (0, -1) from rfl)
 generalize mostN (fun s => l.getD s.toNat 0) = M at *
 clear hr h128
 go_enter Tryz.func171, Tryz.ntmps171
 go_wp2_with fail
 go_loopw [5, 11] (fun a i wr => ∃ k : Nat, k ≤ l.length ∧ i = .int .i64 k ∧ a = .int .i64 (M k).2 ∧ Blk wr (w.heap.size + 1) 219 #[.int .i64 (whi (M k).1), .int .u64 (wlo (M k).1)] ∧ Below (w.heap.size + 1) (w.alloc (.cells #[.int .i64 0, .int .u64 0] 219)) wr) (fun _ i _ => l.length - (intOf i).toNat)
 case atStart => exact ⟨0, Nat.zero_le _, rfl, by rw [HS0.out], by rw [HS0.out, whi_zero, wlo_zero]; exact tL, tB⟩
 case round =>
  obtain ⟨k, hk, rfl, rfl, hB, hbl⟩ := hrel
  have HB := hid hB
  have Hbl := hid hbl
  have hz := hbl.size
  simp at hz
  have b0 := hB.cell 0
  have b1 := hB.cell 1
  have y0 := hB.frozen 0
  have y1 := hB.frozen 1
  have hlt2 := hB.lt
  simp at b0 b1
  clear hB hbl
  by_cases hlt : k < l.length
  ·have kl : (k : Int) < (l.length : Int) := by omega
   have dl := @dT k l.length hlt
   obtain ⟨b, o, rfl, hb, hc⟩ := HL.out k (encW l[k]) (by simp [hlt])
   have c0 := (Hbl.out.cell (p := ⟨b, o + k * 2 + 0, none⟩) (by exact Nat.lt_succ_of_lt hb)).trans (cell_alloc hb (hc 0 _ rfl))
   have c1 := (Hbl.out.cell (p := ⟨b, o + k * 2 + 1, none⟩) (by exact Nat.lt_succ_of_lt hb)).trans (cell_alloc hb (hc 1 _ rfl))
   simp only [Nat.add_zero] at c0
   have hbw : b < wr.heap.size := by omega
   clear hc
   have CC := hid (fun W => wideCmp l[k] (M k).1 W (H128.out _ (List.getElem_mem hlt)) (HMI.out k))
   have hst := HST.out k hlt
   by_cases hm : (M k).1 < l[k]
   ·rw [if_pos hm] at hst
    have HSK := hid hst
    have ho : ord l[k] (M k).1 = 1 := by unfold ord; rw [if_neg (by omega), if_pos hm]
    rw [ho] at CC
    generalize M k = m at *
    clear hst ho hm
    go_wp2_with (first | (go_at_call 193; (with_reducible refine cM (CC.out _) fun w1 hb1 fc1 fg1 hc1 hf1 hz1 => ?_); (try simp at hz1)) | fail)
    go_roundw
    case rel =>
     refine ⟨k + 1, by omega, by go_num, by rw [HSK.out], ?_, ?_⟩
     ·rw [HSK.out]
      have hB := HB.out
      have h1 := ((hB.below (show Below wr.heap.size wr w1 from by exact tB) (by omega)).set 0 (.int .i64 (whi l[k]))).set 1 (.int .u64 (wlo l[k]))
      simpa using h1
     ·have hbl := Hbl.out
      exact tB
    case measure => simp [intOf]; omega
   ·rw [if_neg hm] at hst
    have HSK := hid hst
    have ho : decide (0 < ord l[k] (M k).1) = false := by unfold ord; rw [if_neg hm]; split <;> simp
    generalize ord l[k] (M k).1 = oo at *
    generalize M k = m at *
    clear hst hm
    go_wp2_with (first | (go_at_call 193; (with_reducible refine cM (CC.out _) fun w1 hb1 fc1 fg1 hc1 hf1 hz1 => ?_); (try simp at hz1)) | fail)
    go_roundw
    case rel =>
     refine ⟨k + 1, by omega, by go_num, by rw [HSK.out], ?_, ?_⟩
     ·rw [HSK.out]
      exact HB.out.below (show Below wr.heap.size wr w1 from by exact tB) (by omega)
     ·have hbl := Hbl.out
      exact tB
    case measure => simp [intOf]; omega
  ·obtain rfl : k = l.length := by omega
   obtain ⟨hfc, hff⟩ : (∀ b o, b < w.heap.size + 1 → wr.cell? ⟨b, o, none⟩ = (w.alloc (.cells #[.int .i64 0, .int .u64 0] 219)).cell? ⟨b, o, none⟩) ∧ (∀ b o, b < w.heap.size + 1 → wr.frozen? ⟨b, o, none⟩ = (w.alloc (.cells #[.int .i64 0, .int .u64 0] 219)).frozen? ⟨b, o, none⟩) := ⟨fun b o h => Hbl.out.cell (p := ⟨b, o, none⟩) h, fun b o h => Hbl.out.frozen (p := ⟨b, o, none⟩) h⟩
   have r0 := hfc w.heap.size 0 (by omega)
   have r1 := hfc w.heap.size 1 (by omega)
   have z0 := hff w.heap.size 0 (by omega)
   have z1 := hff w.heap.size 1 (by omega)
   simp at r0 r1 z0 z1
   clear hfc hff
   go_wp2_with fail
   refine bodyPost_ret (by simp [results, Tryz.results171, go_sem, r0, r1]; try rfl) rfl ⟨rfl, ?_⟩
   have hb := Hbl.out.mono (B' := w.heap.size) (by omega)
   have hb2 : Below w.heap.size w wr := ((Below.refl _ _).alloc (Nat.le_refl _) _).trans hb
   exact tB
/- Layer 24: contracts of the reference's Most, Margin; of grid.Margin, Worst. -/
theorem most_lossesL (t : List InstV) (l : List Leg) : mostN (fun s => (lossesL t l).getD s.toNat 0) (lossesL t l).length = mostN (lossN t l) 8 := by
 unfold lossesL
 by_cases h : lossC t l = 0
 ·rw [if_pos h, show (losses8 (lossN t l) 8).length = 8 from by unfold losses8; simp, most_losses _ 8 8 (Nat.le_refl _)]
 ·rw [if_neg h, most_zero (loss_no h)]; rfl
theorem lossesL_in {t : List InstV} {l : List Leg} (h : Legs64 l) (hl : l.length ≤ 1000) : (∀ z ∈ lossesL t l, In128 z) ∧ (lossesL t l).length ≤ 8 := by
 unfold lossesL
 split
 ·refine ⟨fun z hz => ?_, by unfold losses8; simp⟩
  unfold losses8 at hz
  obtain ⟨k, _, rfl⟩ := List.mem_map.1 hz
  exact loss_in h hl
 ·exact ⟨fun z hz => absurd hz (by simp), by simp⟩
theorem gridMargin (t : List InstV) (l : List Leg) (A B : Option Addr) (c d : Nat) (w : World) (ht : t.length ≤ 1000000) (hl : l.length ≤ 1000) (h64 : Legs64 l) (hrt : Rd w A 5 (t.map encInstV)) (hgt : ∀ x ∈ t, x.moves.val.length ≤ 1048576 ∧ GoodI w x) (hrl : Rd w B 2 (l.map encLeg)) :
  Calls Tryz.prog 142 #[.slice A t.length c, .slice B l.length d] w fun e w' => e = .returned (.tuple #[.int .i64 (marginN t l), .int .i64 (marginC t l)]) ∧ Below w.heap.size w w' := by
 have CL := hid (fun W (h : Below w.heap.size w W) => gridLosses t l A B c d W ht hl h64 (hrt.keep h) (fun x hx => ⟨(hgt x hx).1, (hgt x hx).2.keep h⟩) (hrl.keep h))
 have hll := lossesL_in (t := t) h64 hl
 have cw := fun W A1 c1 h => most_lossesL t l ▸ gridWorst (lossesL t l) A1 c1 W (by omega) hll.1 h
 have hmi := most_in (fun s => loss_in (t := t) (s := s) h64 hl) 8
 have hmn : marginN t l = if lossC t l = 0 then (if in64 (mostN (lossN t l) 8).1 then (mostN (lossN t l) 8).1 else 0) else 0 := rfl
 have hmc : marginC t l = if lossC t l = 0 then (if in64 (mostN (lossN t l) 8).1 then 0 else 7) else lossC t l := rfl
 generalize marginN t l = mn at *
 generalize marginC t l = mc at *
 generalize mostN (lossN t l) 8 = M at *
 obtain ⟨m, at_⟩ := M
 simp only at cw hmn hmc hmi
 have CW := hid cw
 clear cw hll
 generalize lossesL t l = L at *
 generalize lossC t l = code at *
 clear ht hl h64 hrt hgt hrl
 by_cases h0 : code = 0
 ·subst h0
  rw [if_pos rfl] at hmn hmc
  cases h64 : in64 m
  ·rw [h64] at hmn hmc
   simp only [Bool.false_eq_true, if_false] at hmn hmc
   subst hmn hmc
   have CI := hid (fun W => wideIntNo m W hmi (in64_no h64))
   clear h64 hmi
   go_enter Tryz.func142, Tryz.ntmps142
   go_wp2_with (first | (go_at_call 170; (with_reducible refine (CL.out _ tB).mono ?_); rintro e w1 ⟨v1, rfl, hown1, hb1⟩; obtain ⟨A1, c1, rfl, hrs1, _⟩ := hown1.rs; (rw [List.length_map]); have HR1 := hid hrs1.rd; clear hown1 hrs1; obtain ⟨fc1, fg1, hc1, hf1, hz1⟩ := bget hb1; (try simp at hz1)) | (go_at_call 171; (with_reducible refine cM (CW.out _ _ _ (HR1.out.keep tB)) fun w2 hb2 fc2 fg2 hc2 hf2 hz2 => ?_); (try simp at hz2)) | (go_at_call 172; (with_reducible refine cM (CI.out _) fun w3 hb3 fc3 fg3 hc3 hf3 hz3 => ?_); (try simp at hz3)) | fail)
   go_ret2
   exact ⟨rfl, tB⟩
  ·rw [h64] at hmn hmc
   simp only [if_true] at hmn hmc
   subst hmn hmc
   have CI := hid (fun W => wideIntYes mn W (in64_iff.1 h64))
   clear h64 hmi
   go_enter Tryz.func142, Tryz.ntmps142
   go_wp2_with (first | (go_at_call 170; (with_reducible refine (CL.out _ tB).mono ?_); rintro e w1 ⟨v1, rfl, hown1, hb1⟩; obtain ⟨A1, c1, rfl, hrs1, _⟩ := hown1.rs; (rw [List.length_map]); have HR1 := hid hrs1.rd; clear hown1 hrs1; obtain ⟨fc1, fg1, hc1, hf1, hz1⟩ := bget hb1; (try simp at hz1)) | (go_at_call 171; (with_reducible refine cM (CW.out _ _ _ (HR1.out.keep tB)) fun w2 hb2 fc2 fg2 hc2 hf2 hz2 => ?_); (try simp at hz2)) | (go_at_call 172; (with_reducible refine cM (CI.out _) fun w3 hb3 fc3 fg3 hc3 hf3 hz3 => ?_); (try simp at hz3)) | fail)
   go_ret2
   exact ⟨rfl, tB⟩
 ·rw [if_neg h0] at hmn hmc
  subst hmn hmc
  have d0 : (mc == 0) = false := by simpa using h0
  clear h0 hmi
  go_enter Tryz.func142, Tryz.ntmps142
  go_wp2_with (first | (go_at_call 170; (with_reducible refine (CL.out _ tB).mono ?_); rintro e w1 ⟨v1, rfl, hown1, hb1⟩; obtain ⟨A1, c1, rfl, hrs1, _⟩ := hown1.rs; (rw [List.length_map]); have HR1 := hid hrs1.rd; clear hown1 hrs1; obtain ⟨fc1, fg1, hc1, hf1, hz1⟩ := bget hb1; (try simp at hz1)) | fail)
  go_ret2
  exact ⟨rfl, tB⟩
/- Margin units: contracts of book.Net, need.Of. -/
def encSN (y : SlOf Leg) : List Value := [.slice y.A y.val.length y.c]
theorem net_rss {w : World} {base : Nat} {ys : List (SlOf Leg)} {A : Option Addr} {c : Nat} (hr : Rs w 1 (ys.map encSN) A c) (hg : ∀ y ∈ ys, Own w base 64 2 (.slice y.A y.val.length y.c) (y.val.map encLeg)) : RsS 2 encLeg w (ys.map (·.val)) A c := by
 refine ⟨⟨ys.map (fun y => .slice y.A y.val.length y.c), ⟨by simp, fun i a b h1 h2 => ?_⟩, by rw [List.map_map]; exact hr⟩⟩
 rw [List.getElem?_map] at h1 h2
 cases hy : ys[i]? with
 | none => rw [hy] at h1; cases h1
 | some y =>
  rw [hy] at h1 h2
  simp only [Option.map_some, Option.some.injEq] at h1 h2
  subst h1 h2
  exact isl (hg y (List.mem_of_getElem? hy)).good
theorem bookNet (l : List PosV) (us : List Un) (A B : Option Addr) (c d : Nat) (w : World) (hl : l.length ≤ 1000000) (hul : us.length ≤ 2000000) (h64 : L64 (l.map lgPosV)) (hr : Rd w A 3 (l.map encPosV)) (hg : ∀ x ∈ l, GoodPosV w x) (hru : Rd w B 2 (us.map encUn)) :
  Calls Tryz.prog 140 #[.slice A l.length c, .slice B us.length d] w (LegsPost w (netC (l.map lgPosV) us) (netL (l.map lgPosV) us)) := by
 have HR := hid hr
 have HG := hid hg
 have HU := hid hru
 have HS := hid (show ∀ ys : List (SlOf Leg), ys.map (·.val) = us.map (ofK (l.map lgPosV)) → Short (ys.map (·.val)) ∧ ∀ z ∈ ys.map (·.val), Legs64 z from fun ys h => by
  rw [h]
  refine ⟨⟨by rw [List.length_map]; omega, fun z hz => ?_⟩, fun z hz => ?_⟩
  ·obtain ⟨u, _, rfl⟩ := List.mem_map.1 hz
   have := of_len hg u
   omega
  ·obtain ⟨u, _, rfl⟩ := List.mem_map.1 hz
   exact of64 h64 u)
 have ci := fun W (h : Below w.heap.size w W) => bookIs l A c W (by omega) (hr.keep h) (fun x hx => (hg x hx).keep h)
 have hib : isPosV l = isK isV (l.map lgPosV) := rfl
 rw [hib] at ci
 have HOF := hid (fun u => of_len hg u)
 clear hr hg hru h64 hib
 cases hk : isK isV (l.map lgPosV)
 ·rw [hk] at ci
  have CI := hid ci
  have HC := hid (show netC (l.map lgPosV) us = 3 from by unfold netC; rw [hk]; rfl)
  have HL := hid (show netL (l.map lgPosV) us = [] from by unfold netL; rw [hk]; rfl)
  rw [HC.out, HL.out]
  clear ci hk
  go_enter Tryz.func140, Tryz.ntmps140
  go_wp2_with (first | (go_at_call 133; (with_reducible refine cM (CI.out _ tB) fun w1 hb1 fc1 fg1 hc1 hf1 hz1 => ?_); (try simp at hz1)) | fail)
  go_ret2
  exact ⟨_, rfl, Own.nil _ _ _ _, tB⟩
 rw [hk] at ci
 have CI := hid ci
 have HC := hid (show netC (l.map lgPosV) us = addC (us.map (ofK (l.map lgPosV))) from by unfold netC; rw [hk]; rfl)
 have HL := hid (show netL (l.map lgPosV) us = addL (us.map (ofK (l.map lgPosV))) from by unfold netL; rw [hk]; rfl)
 rw [HC.out, HL.out]
 clear ci hk HC HL
 go_enter Tryz.func140, Tryz.ntmps140
 go_wp2_with (first | (go_at_call 133; (with_reducible refine cM (CI.out _ tB) fun w1 hb1 fc1 fg1 hc1 hf1 hz1 => ?_); (try simp at hz1)) | fail)
 have Hb1 := hid hb1
 clear hc1 hf1 hb1
 go_loopw [6, 14] (fun v i wr => ∃ (k : Nat) (ys : List (SlOf Leg)), k ≤ us.length ∧ i = .int .i64 k ∧ ys.map (·.val) = (us.take k).map (ofK (l.map lgPosV)) ∧ Own wr w.heap.size 80 1 v (ys.map encSN) ∧ (∀ y ∈ ys, Own wr w.heap.size 64 2 (.slice y.A y.val.length y.c) (y.val.map encLeg)) ∧ Below w.heap.size w wr) (fun _ i _ => us.length - (intOf i).toNat)
 case atStart => exact ⟨0, [], Nat.zero_le _, rfl, rfl, Own.nil _ _ _ _, fun y hy => absurd hy (by simp), Hb1.out⟩
 case round =>
  obtain ⟨k, ys, hk, rfl, hlg, hown, hgd, hbl⟩ := hrel
  have Hlg := hid hlg
  have Hown := hid hown
  have Hgd := hid hgd
  have Hbl := hid hbl
  have hz := hbl.size
  have hyl : ys.length = k := by have := congrArg List.length hlg; simp only [List.length_map, List.length_take] at this; omega
  have HYL := hid hyl
  have hyl2 : ys.length ≤ 2000000 := by omega
  clear hlg hown hgd hbl hyl
  by_cases hlt : k < us.length
  ·have kl : (k : Int) < (us.length : Int) := by omega
   have dl := @dT k us.length hlt
   obtain ⟨b, o, rfl, hb, hc⟩ := HU.out k (encUn us[k]) (by simp [hlt])
   have e0 := tC Hbl hb (hc 0 _ rfl)
   have e1 := tC Hbl hb (hc 1 _ rfl)
   simp only [Nat.add_zero] at e0
   clear hc
   have hbw : b < wr.heap.size := by omega
   have HM := hid (show (us.take (k + 1)).map (ofK (l.map lgPosV)) = (us.take k).map (ofK (l.map lgPosV)) ++ [ofK (l.map lgPosV) us[k]] from map_snoc hlt _)
   have hol := HOF.out us[k]
   have co := fun W (h : Below w.heap.size w W) => bookOf l us[k] A c W (by omega) (HR.out.keep h) (fun x hx => (HG.out x hx).keep h)
   generalize ofK (l.map lgPosV) us[k] = O at *
   have CO := hid co
   clear co
   go_wp2_with (first | (go_at_call 65; (with_reducible refine (CO.out _ (by have hbl := Hbl.out; exact tB)).mono ?_); rintro e w3 ⟨v3, rfl, hown3, hb3⟩; obtain ⟨A3, c3, hv3, hrs3, hform3⟩ := hown3.rs; (rw [List.length_map] at hv3); subst hv3; have HO3 := hid hown3; clear hown3 hrs3 hform3; obtain ⟨fc3, fg3, hc3, hf3, hz3⟩ := bget hb3; (try simp at hz3)) | (at_builtin; refine wpList_appG rfl _ _ _ rfl elLs w.heap.size _ _ rfl (Hown.out.keep tB) ⟨_, 0, none⟩ 1 1 rfl [[.slice A3 O.length c3]] rfl (rd_oneN (by simp)) (rows1 _ rfl) (by unfold maxLen; simp; omega) (by simp; omega) tZ ?_; intro v4 w4 hown4 hb4 hg4; have HO4 := hid hown4; have HG4 := hid hg4; clear hown4 hg4; obtain ⟨fc4, fg4, hc4, hf4, hz4⟩ := bget hb4; (try simp at hz4)) | fail)
   go_roundw
   case rel =>
    have h03 : Below wr.heap.size wr w3 := by clear hb4; exact tB
    have h3a := (Below.refl w3.heap.size w3).alloc (Nat.le_refl _) (.cells #[.slice A3 O.length c3] 80)
    have ho3 := HO3.out.mono (b := w.heap.size) (by simp; omega)
    have ha4 : Away 80 w3 w4 := (Away.below h3a).trans (Away.grown HG4.out (Own.typed ((Hown.out.keep h03).keep h3a)))
    refine ⟨k + 1, ys ++ [⟨A3, c3, O⟩], by omega, by go_num, ?_, ?_, ?_, ?_⟩
    ·rw [HM.out, List.map_append, Hlg.out]; rfl
    ·rw [List.map_append]; exact HO4.out
    ·intro y hy
     rcases List.mem_append.1 hy with h | h
     ·exact (Hgd.out y h).away ((Away.below h03).trans ha4) (by decide)
     ·rw [List.mem_singleton] at h
      subst h
      exact ho3.away ha4 (by decide)
    ·have hbl := Hbl.out
     clear h03 h3a ha4
     exact tB
   case measure => simp [intOf]; omega
  ·have dl := @dF k us.length hlt
   have hys : ys.map (·.val) = us.map (ofK (l.map lgPosV)) := by rw [Hlg.out, List.take_of_length_le (by omega)]
   obtain ⟨hs1, hs2⟩ := HS.out ys hys
   have hyz : ys.length = (ys.map (·.val)).length := by rw [List.length_map]
   have ho := Hown.out
   obtain ⟨A2, c2, hv2, hrs2, _⟩ := ho.rs
   rw [List.length_map, hyz] at hv2
   have hrn := net_rss hrs2 Hgd.out
   obtain ⟨ls, hls⟩ : ∃ ls, ls = ys.map (·.val) := ⟨_, rfl⟩
   rw [← hls] at hs1 hs2 hv2 hrn
   subst hv2
   have HLS := hid (hls.trans hys)
   have CA := hid (vecAdd ls A2 c2 wr hs1 hs2 hrn)
   clear hys hs1 hs2 ho hrs2 hyz HYL hls hrn hyl2
   go_wp2_with (first | (go_at_call 169; (with_reducible refine CA.out.mono ?_); rintro e w5 ⟨v5, rfl, hown5, hb5⟩; have HO5 := hid hown5; clear hown5; obtain ⟨fc5, fg5, hc5, hf5, hz5⟩ := bget hb5; (try simp at hz5)) | fail)
   go_ret2
   exact ⟨_, by rw [← HLS.out]; rfl, by rw [← HLS.out]; exact HO5.out.mono tZ, by have hbl := Hbl.out; exact tB⟩
theorem needOf (t : List InstV) (l : List PosV) (x : AcctV) (u : Un) (A B : Option Addr) (c d : Nat) (w : World) (ht : t.length ≤ 1000000) (hl : l.length ≤ 1000000) (hxl : x.clients.val.length ≤ 1000000) (h64 : L64 (l.map lgPosV))
  (hrt : Rd w A 5 (t.map encInstV)) (hgt : ∀ x ∈ t, x.moves.val.length ≤ 1048576 ∧ GoodI w x) (hr : Rd w B 3 (l.map encPosV)) (hg : ∀ x ∈ l, GoodPosV w x) (hx : GoodA w x) :
  Calls Tryz.prog 109 #[.slice A t.length c, .slice B l.length d, .agg #[.int .i64 x.id, .int .i64 x.member, .int .i64 x.kind, .slice x.clients.A x.clients.val.length x.clients.c], .agg #[.int .i64 u.acc, .int .i64 u.cli]] w fun e w' => e = .returned (.tuple #[.int .i64 (nofN t (l.map lgPosV) (lgA x) u), .int .i64 (nofC t (l.map lgPosV) (lgA x) u)]) ∧ Below w.heap.size w w' := by
 have HX := hid hx
 have hul := unitsN_len (lgA x)
 have hpl := partsN_len (lgA x) u
 have hul2 : (lgA x).clients.length ≤ 1000000 := hxl
 have ci := fun W (h : Below w.heap.size w W) => bookIs l B d W (by omega) (hr.keep h) (fun x hx => (hg x hx).keep h)
 have hib : isPosV l = isK isV (l.map lgPosV) := rfl
 rw [hib] at ci
 have CN := hid (fun W B2 d2 (h : Below w.heap.size w W) (h2 : Rd W B2 2 ((partsN (lgA x) u).map encUn)) => bookNet l (partsN (lgA x) u) B B2 d d2 W hl (by omega) h64 (hr.keep h) (fun x hx => (hg x hx).keep h) h2)
 have CM := hid (fun W B2 d2 (h : Below w.heap.size w W) (h2 : Rd W B2 2 ((netL (l.map lgPosV) (partsN (lgA x) u)).map encLeg)) => gridMargin t (netL (l.map lgPosV) (partsN (lgA x) u)) A B2 c d2 W ht (by have := netL_len (l.map lgPosV) (partsN (lgA x) u); omega) (netL64 _ _) (hrt.keep h) (fun x hx => ⟨(hgt x hx).1, (hgt x hx).2.keep h⟩) h2)
 clear hib hr hg hrt hgt hx h64
 cases hk : isK isV (l.map lgPosV)
 ·rw [hk] at ci
  have CI := hid ci
  have HC := hid (show nofC t (l.map lgPosV) (lgA x) u = 3 from by unfold nofC; rw [hk]; rfl)
  have HN := hid (nofN_no (show nofC t (l.map lgPosV) (lgA x) u ≠ 0 by rw [HC.out]; decide))
  rw [HC.out, HN.out]
  clear ci hk
  go_enter Tryz.func109, Tryz.ntmps109
  go_wp2_with (first | (go_at_call 133; (with_reducible refine cM (CI.out _ tB) fun w1 hb1 fc1 fg1 hc1 hf1 hz1 => ?_); (try simp at hz1)) | fail)
  go_ret2
  exact ⟨rfl, tB⟩
 rw [hk] at ci
 have CI := hid ci
 clear ci
 by_cases hin : u ∈ unitsN (lgA x)
 rotate_left
 ·have HIN := hid (decide_eq_false hin)
  have HC := hid (show nofC t (l.map lgPosV) (lgA x) u = 11 from by unfold nofC; rw [hk, if_pos rfl, if_neg hin])
  have HN := hid (nofN_no (show nofC t (l.map lgPosV) (lgA x) u ≠ 0 by rw [HC.out]; decide))
  rw [HC.out, HN.out]
  clear hin hk
  go_enter Tryz.func109, Tryz.ntmps109
  go_wp2_with (first | (go_at_call 133; (with_reducible refine cM (CI.out _ tB) fun w1 hb1 fc1 fg1 hc1 hf1 hz1 => ?_); (try simp at hz1)) | fail)
  go_region_held3 (fun w' => ((w'.cell? ⟨w.heap.size, 0, none⟩ = some (.int .i64 x.id) ∧ w'.cell? ⟨w.heap.size, 1, none⟩ = some (.int .i64 x.member) ∧ w'.cell? ⟨w.heap.size, 2, none⟩ = some (.int .i64 x.kind) ∧ w'.cell? ⟨w.heap.size, 3, none⟩ = some (.slice x.clients.A x.clients.val.length x.clients.c)) ∧ w'.cell? ⟨w.heap.size + 1, 0, none⟩ = some (.int .i64 u.acc) ∧ w'.cell? ⟨w.heap.size + 1, 1, none⟩ = some (.int .i64 u.cli))) (exact tK) (first | (go_at_call 108; (with_reducible refine (needUnits x _ hxl (HX.out.keep tB)).mono ?_); rintro e w2 ⟨A2, c2, rfl, hrs2, hb2⟩; have HS2 := hid hrs2.rd; clear hrs2; obtain ⟨fc2, fg2, hc2, hf2, hz2⟩ := bget hb2; (try simp at hz2)) | (go_at_call 139; (with_reducible refine (unContains (unitsN (lgA x)) u A2 c2 _ (by omega) (HS2.out.keep tB)).mono ?_); rw [HIN.out]; rintro e w3 ⟨rfl, hb3⟩; obtain ⟨fc3, fg3, hc3, hf3, hz3⟩ := bget hb3; (try simp at hz3)) | fail)
  all_goals
   go_wp2_with fail
   go_ret2
   exact ⟨rfl, tB⟩
 have HIN := hid (decide_eq_true hin)
 by_cases hn : netC (l.map lgPosV) (partsN (lgA x) u) = 0
 ·have HC := hid (show nofC t (l.map lgPosV) (lgA x) u = marginC t (netL (l.map lgPosV) (partsN (lgA x) u)) from by unfold nofC; rw [hk, if_pos rfl, if_pos hin, if_pos hn])
  have HN := hid (show nofN t (l.map lgPosV) (lgA x) u = marginN t (netL (l.map lgPosV) (partsN (lgA x) u)) from by unfold nofN; rw [hk, if_pos rfl, if_pos hin, if_pos hn])
  rw [HC.out, HN.out]
  rw [hn] at CN
  clear hin hk hn HC HN
  generalize netL (l.map lgPosV) (partsN (lgA x) u) = M at *
  go_enter Tryz.func109, Tryz.ntmps109
  go_wp2_with (first | (go_at_call 133; (with_reducible refine cM (CI.out _ tB) fun w1 hb1 fc1 fg1 hc1 hf1 hz1 => ?_); (try simp at hz1)) | fail)
  go_region_held3 (fun w' => ((w'.cell? ⟨w.heap.size, 0, none⟩ = some (.int .i64 x.id) ∧ w'.cell? ⟨w.heap.size, 1, none⟩ = some (.int .i64 x.member) ∧ w'.cell? ⟨w.heap.size, 2, none⟩ = some (.int .i64 x.kind) ∧ w'.cell? ⟨w.heap.size, 3, none⟩ = some (.slice x.clients.A x.clients.val.length x.clients.c)) ∧ w'.cell? ⟨w.heap.size + 1, 0, none⟩ = some (.int .i64 u.acc) ∧ w'.cell? ⟨w.heap.size + 1, 1, none⟩ = some (.int .i64 u.cli))) (exact tK) (first | (go_at_call 108; (with_reducible refine (needUnits x _ hxl (HX.out.keep tB)).mono ?_); rintro e w2 ⟨A2, c2, rfl, hrs2, hb2⟩; have HS2 := hid hrs2.rd; clear hrs2; obtain ⟨fc2, fg2, hc2, hf2, hz2⟩ := bget hb2; (try simp at hz2)) | (go_at_call 139; (with_reducible refine (unContains (unitsN (lgA x)) u A2 c2 _ (by omega) (HS2.out.keep tB)).mono ?_); rw [HIN.out]; rintro e w3 ⟨rfl, hb3⟩; obtain ⟨fc3, fg3, hc3, hf3, hz3⟩ := bget hb3; (try simp at hz3)) | fail)
  all_goals
   go_wp2_with (first | (go_at_call 141; (with_reducible refine (needParts x u _ hxl (HX.out.keep tB)).mono ?_); rintro e w4 ⟨A4, c4, rfl, hrs4, hb4⟩; have HS4 := hid hrs4.rd; clear hrs4; obtain ⟨fc4, fg4, hc4, hf4, hz4⟩ := bget hb4; (try simp at hz4)) | (go_at_call 140; (with_reducible refine (CN.out _ _ _ tB (HS4.out.keep tB)).mono ?_); rintro e w5 ⟨v5, rfl, hown5, hb5⟩; obtain ⟨A5, c5, hv5, hrs5, hfm5⟩ := hown5.rs; (rw [List.length_map] at hv5); subst hv5; have HS5 := hid hrs5.rd; clear hown5 hrs5 hfm5; obtain ⟨fc5, fg5, hc5, hf5, hz5⟩ := bget hb5; (try simp at hz5)) | (go_at_call 142; (with_reducible refine cM (CM.out _ _ _ tB (HS5.out.keep tB)) fun w6 hb6 fc6 fg6 hc6 hf6 hz6 => ?_); (try simp at hz6)) | fail)
   go_ret2
   exact ⟨rfl, tB⟩
 ·have HC := hid (show nofC t (l.map lgPosV) (lgA x) u = netC (l.map lgPosV) (partsN (lgA x) u) from by unfold nofC; rw [hk, if_pos rfl, if_pos hin, if_neg hn])
  have HN := hid (nofN_no (show nofC t (l.map lgPosV) (lgA x) u ≠ 0 by rw [HC.out]; exact hn))
  rw [HC.out, HN.out]
  have dn : (netC (l.map lgPosV) (partsN (lgA x) u) != 0) = true := by simpa using hn
  have dn2 : (netC (l.map lgPosV) (partsN (lgA x) u) == 0) = false := by simpa using hn
  clear hin hk hn HC HN
  generalize netL (l.map lgPosV) (partsN (lgA x) u) = M at *
  generalize netC (l.map lgPosV) (partsN (lgA x) u) = code at *
  go_enter Tryz.func109, Tryz.ntmps109
  go_wp2_with (first | (go_at_call 133; (with_reducible refine cM (CI.out _ tB) fun w1 hb1 fc1 fg1 hc1 hf1 hz1 => ?_); (try simp at hz1)) | fail)
  go_region_held3 (fun w' => ((w'.cell? ⟨w.heap.size, 0, none⟩ = some (.int .i64 x.id) ∧ w'.cell? ⟨w.heap.size, 1, none⟩ = some (.int .i64 x.member) ∧ w'.cell? ⟨w.heap.size, 2, none⟩ = some (.int .i64 x.kind) ∧ w'.cell? ⟨w.heap.size, 3, none⟩ = some (.slice x.clients.A x.clients.val.length x.clients.c)) ∧ w'.cell? ⟨w.heap.size + 1, 0, none⟩ = some (.int .i64 u.acc) ∧ w'.cell? ⟨w.heap.size + 1, 1, none⟩ = some (.int .i64 u.cli))) (exact tK) (first | (go_at_call 108; (with_reducible refine (needUnits x _ hxl (HX.out.keep tB)).mono ?_); rintro e w2 ⟨A2, c2, rfl, hrs2, hb2⟩; have HS2 := hid hrs2.rd; clear hrs2; obtain ⟨fc2, fg2, hc2, hf2, hz2⟩ := bget hb2; (try simp at hz2)) | (go_at_call 139; (with_reducible refine (unContains (unitsN (lgA x)) u A2 c2 _ (by omega) (HS2.out.keep tB)).mono ?_); rw [HIN.out]; rintro e w3 ⟨rfl, hb3⟩; obtain ⟨fc3, fg3, hc3, hf3, hz3⟩ := bget hb3; (try simp at hz3)) | fail)
  all_goals
   go_wp2_with (first | (go_at_call 141; (with_reducible refine (needParts x u _ hxl (HX.out.keep tB)).mono ?_); rintro e w4 ⟨A4, c4, rfl, hrs4, hb4⟩; have HS4 := hid hrs4.rd; clear hrs4; obtain ⟨fc4, fg4, hc4, hf4, hz4⟩ := bget hb4; (try simp at hz4)) | (go_at_call 140; (with_reducible refine (CN.out _ _ _ tB (HS4.out.keep tB)).mono ?_); rintro e w5 ⟨v5, rfl, hown5, hb5⟩; obtain ⟨A5, c5, hv5, hrs5, hfm5⟩ := hown5.rs; (rw [List.length_map] at hv5); subst hv5; have HS5 := hid hrs5.rd; clear hown5 hrs5 hfm5; obtain ⟨fc5, fg5, hc5, hf5, hz5⟩ := bget hb5; (try simp at hz5)) | fail)
   go_ret2
   exact ⟨rfl, tB⟩
/- What a margin unit has more than it must: contracts of cover.right, Excess. -/
structure SideV where
 ats : SlOf Asset
 ins : SlOf InstV
 bk : SlOf PosV
 pu : SlOf Flow
 ho : SlOf HoldV
def sideL (s : SideV) : SideL := ⟨s.ats.val, s.ins.val, s.bk.val.map lgPosV, s.pu.val, s.ho.val.map lgHoldV⟩
structure GoodS (w : World) (s : SideV) : Prop where
 ra : Rd w s.ats.A 3 (s.ats.val.map encAsset)
 la : s.ats.val.length ≤ 1000
 ri : Rd w s.ins.A 5 (s.ins.val.map encInstV)
 li : s.ins.val.length ≤ 1000
 gi : ∀ x ∈ s.ins.val, x.moves.val.length ≤ 1048576 ∧ GoodI w x
 rb : Rd w s.bk.A 3 (s.bk.val.map encPosV)
 lb : s.bk.val.length ≤ 1000
 gb : ∀ x ∈ s.bk.val, GoodPosV w x
 b64 : L64 (s.bk.val.map lgPosV)
 rp : Rs w 3 (s.pu.val.map encFlow) s.pu.A s.pu.c
 lp : s.pu.val.length ≤ 300
 p64 : ∀ x ∈ s.pu.val, In64 x.amount
 rh : Rs w 3 (s.ho.val.map encHoldV) s.ho.A s.ho.c
 lh : s.ho.val.length ≤ 1000
 gh : ∀ x ∈ s.ho.val, GoodHoldV w x
 hq : LQ (s.ho.val.map lgHoldV)
theorem GoodS.keep {w w' : World} {s : SideV} (h : GoodS w s) (hb : Below w.heap.size w w') : GoodS w' s :=
 ⟨h.ra.keep hb, h.la, h.ri.keep hb, h.li, fun x hx => ⟨(h.gi x hx).1, (h.gi x hx).2.keep hb⟩, h.rb.keep hb, h.lb, fun x hx => (h.gb x hx).keep hb, h.b64, h.rp.keep hb, h.lp, h.p64, h.rh.keep hb, h.lh, fun x hx => (h.gh x hx).keep hb, h.hq⟩
theorem coverRight (s : SideV) (w : World) (hg : GoodS w s) :
  Calls Tryz.prog 143 #[.agg #[.slice (s).ats.A (s).ats.val.length (s).ats.c, .slice (s).ins.A (s).ins.val.length (s).ins.c, .slice (s).bk.A (s).bk.val.length (s).bk.c, .slice (s).pu.A (s).pu.val.length (s).pu.c, .slice (s).ho.A (s).ho.val.length (s).ho.c]] w fun e w' => e = .returned (.bool (rightS (sideL s))) ∧ Below w.heap.size w w' := by
 have HG := hid hg
 have cb := fun W (h : GoodS W s) => bookIs s.bk.val s.bk.A s.bk.c W (by have := h.lb; omega) h.rb h.gb
 have cp := fun W (h : GoodS W s) => purseIs s.pu.val s.pu.A s.pu.c W (by have := h.lp; omega) h.rp.rd
 have ch := fun W (h : GoodS W s) => holdIs s.ho.val s.ho.A s.ho.c W (by have := h.lh; omega) h.rh.rd h.gh
 have hr : rightS (sideL s) = (isPosV s.bk.val && (isPu s.pu.val && isHoldV s.ho.val)) := rfl
 rw [hr]
 clear hg hr
 cases h1 : isPosV s.bk.val
 ·rw [h1] at cb
  have CB := hid cb
  clear cb cp ch h1
  go_enter Tryz.func143, Tryz.ntmps143
  go_wp2_with (first | (go_at_call 133; (with_reducible refine cM (CB.out _ (HG.out.keep tB)) fun w1 hb1 fc1 fg1 hc1 hf1 hz1 => ?_); (try simp at hz1)) | fail)
  go_ret
  exact ⟨rfl, tB⟩
 rw [h1] at cb
 have CB := hid cb
 cases h2 : isPu s.pu.val
 ·rw [h2] at cp
  have CP := hid cp
  clear cb cp ch h1 h2
  go_enter Tryz.func143, Tryz.ntmps143
  go_wp2_with (first | (go_at_call 133; (with_reducible refine cM (CB.out _ (HG.out.keep tB)) fun w1 hb1 fc1 fg1 hc1 hf1 hz1 => ?_); (try simp at hz1)) | (go_at_call 173; (with_reducible refine cM (CP.out _ (HG.out.keep tB)) fun w2 hb2 fc2 fg2 hc2 hf2 hz2 => ?_); (try simp at hz2)) | fail)
  go_ret
  exact ⟨rfl, tB⟩
 rw [h2] at cp
 have CP := hid cp
 cases h3 : isHoldV s.ho.val
 all_goals
  rw [h3] at ch
  have CH := hid ch
  clear cb cp ch h1 h2 h3
  go_enter Tryz.func143, Tryz.ntmps143
  go_wp2_with (first | (go_at_call 133; (with_reducible refine cM (CB.out _ (HG.out.keep tB)) fun w1 hb1 fc1 fg1 hc1 hf1 hz1 => ?_); (try simp at hz1)) | (go_at_call 173; (with_reducible refine cM (CP.out _ (HG.out.keep tB)) fun w2 hb2 fc2 fg2 hc2 hf2 hz2 => ?_); (try simp at hz2)) | (go_at_call 174; (with_reducible refine cM (CH.out _ (HG.out.keep tB)) fun w3 hb3 fc3 fg3 hc3 hf3 hz3 => ?_); (try simp at hz3)) | fail)
  go_ret
  exact ⟨rfl, tB⟩
theorem own_lit {w : World} {base g : Nat} {E : TypeId} {v : Value} (hg : base ≤ g) (h : Blk w g E #[v]) : Own w base E 1 (.slice (some ⟨g, 0, none⟩) 1 1) [[v]] :=
 ⟨by simp, by simp, .inr ⟨g, 1, #[v], rfl, hg, h, Nat.le_refl _, by unfold maxLen; omega, by simp, by simp⟩⟩
/- The reference's layers 17, 19, 25: contracts of Get, Net, has, Units, Parts, Of. -/
theorem ref15UnitsN (x : AcctV) (w : World) (hl : x.clients.val.length ≤ 1048576) (hg : GoodA w x) :
  Calls Tryz.prog 34 #[.agg #[.int .i64 x.id, .int .i64 x.member, .int .i64 x.kind, .slice x.clients.A x.clients.val.length x.clients.c]] w fun e w' => ∃ A c, e = .returned (.slice A (unitsA (lgA x)).length c) ∧ Rs w' 2 ((unitsA (lgA x)).map encUn) A c ∧ Below w.heap.size w w' :=
 (ref15Units (lgA x) x.clients.A x.clients.c w hl hg.rd).mono fun e w' ⟨v, h1, ⟨A, c, h2, h3⟩, h4⟩ => ⟨A, c, by rw [h1, h2], h3, h4⟩
end Go.Proofs.YtalgfpegaobacaaGreatDoor
