/- Joined. -/
import Derived.Test.YtalgfpegaobacaaGreatDoorQz27
namespace Go.Proofs.YtalgfpegaobacaaGreatDoor
set_option linter.all false
set_option maxHeartbeats 32000000
set_option maxRecDepth 100000
open Go.RowKit
open Lib (hid)
/- The law's lives (36). -/
def nilSl {α : Type} : SlOf α := ⟨none, 0, []⟩
def liveSt (a b : Nat) : StV := ⟨0, nilSl, nilSl, nilSl, nilSl, nilSl, nilSl, nilSl, ⟨some ⟨b, 0, none⟩, 1, [⟨⟨1, 0⟩, ⟨some ⟨a, 0, none⟩, 1, [⟨1, 3⟩]⟩⟩]⟩, nilSl, nilSl, nilSl⟩
theorem rd_nil (w : World) (A : Option Addr) (k : Nat) : Rd w A k [] := fun i r hr => by simp at hr
theorem live_good {w : World} {a b : Nat} (ha : Blk w a 64 #[.int .i64 1, .int .i64 3]) (hb : Blk w b 82 #[.int .i64 1, .int .i64 0, .slice (some ⟨a, 0, none⟩) 1 1]) : GoodSt w (liveSt a b) := by
 have hla : Rs w 2 ([(⟨1, 3⟩ : Leg)].map encLeg) (some ⟨a, 0, none⟩) 1 := (own_lit2 (base := 0) (by omega) ha).rs.elim fun A h => by
  obtain ⟨c, h1, h2, _⟩ := h
  injection h1 with e1 _ e2
  subst e1 e2
  exact h2
 have hgp : ∀ x ∈ (liveSt a b).bk.val, GoodPosV w x := fun x hx => by
  rw [show (liveSt a b).bk.val = [⟨⟨1, 0⟩, ⟨some ⟨a, 0, none⟩, 1, [⟨1, 3⟩]⟩⟩] from rfl, List.mem_singleton] at hx
  subst hx
  exact ⟨by simp, hla⟩
 have hrb : Rd w (some ⟨b, 0, none⟩) 3 ((liveSt a b).bk.val.map encPosV) := by
  intro i r hr
  match i, hr with
  | 0, hr =>
   simp [liveSt] at hr
   subst hr
   refine ⟨b, 0, rfl, hb.lt, fun j v hv => ?_⟩
   have := hb.cell j
   match j, hv with
   | 0, hv => simp [encPosV] at hv; subst hv; simpa using this
   | 1, hv => simp [encPosV] at hv; subst hv; simpa using this
   | 2, hv => simp [encPosV] at hv; subst hv; simpa using this
   | j + 3, hv => simp [encPosV] at hv
  | i + 1, hr => simp [liveSt] at hr
 have i1 : In64 1 := by unfold In64; omega
 have i3 : In64 3 := by unfold In64; omega
 have i0 : In64 0 := by unfold In64; omega
 exact ⟨⟨rd_nil _ _ _, by simp [sideV, liveSt, nilSl], rd_nil _ _ _, by simp [sideV, liveSt, nilSl], by simp [sideV, liveSt, nilSl], hrb, by simp [sideV, liveSt], hgp, by
   intro r hr
   simp [sideV, liveSt, lgPosV] at hr
   subst hr
   intro z hz
   simp at hz
   subst hz
   exact i3, Rs.empty _ _, by simp [sideV, liveSt, nilSl], by simp [sideV, liveSt, nilSl], Rs.empty _ _, by simp [sideV, liveSt, nilSl], by simp [sideV, liveSt, nilSl], by
   intro r hr
   simp [sideV, liveSt, nilSl] at hr⟩,
  by simp [liveSt, nilSl], rd_nil _ _ _, by simp [liveSt, nilSl], by simp [liveSt, nilSl], by
   intro x hx
   simp [liveSt] at hx
   subst hx
   exact ⟨by simp, by simp [i1, i3]⟩, by simp [liveSt, nilSl], by simp [liveSt, nilSl], rd_nil _ _ _, by simp [liveSt, nilSl], by simp [liveSt, nilSl], Rs.empty _ _, by simp [liveSt, nilSl], by simp [liveSt, nilSl], by simp [liveSt, nilSl], i0⟩
def liveLs : List Str := [[117, 110, 105, 116, 32, 49, 46, 48, 32, 99, 97, 115, 104, 32, 48], [112, 111, 115, 105, 116, 105, 111, 110, 32, 49, 46, 48, 32, 49, 32, 51]]
theorem itoa0 : Lib.itoa 0 = [48] := by unfold Lib.itoa; rw [if_neg (by omega)]; rw [Lib.decDigits]; rfl
theorem itoa1 : Lib.itoa 1 = [49] := by unfold Lib.itoa; rw [if_neg (by omega)]; rw [Lib.decDigits]; rfl
theorem itoa3 : Lib.itoa 3 = [51] := by unfold Lib.itoa; rw [if_neg (by omega)]; rw [Lib.decDigits]; rfl
theorem live_lines (a b : Nat) : unitL (repL (liveSt a b)) ⟨1, 0⟩ = liveLs := by
 have h : unitL (repL (liveSt a b)) ⟨1, 0⟩ = [lnL [wdUnit, Lib.itoa 1 ++ ([46] ++ Lib.itoa 0), wdCash, Lib.itoa 0], lnL [wdPosition, Lib.itoa 1 ++ ([46] ++ Lib.itoa 0), Lib.itoa 1, Lib.itoa 3]] := rfl
 rw [h, itoa0, itoa1, itoa3]
 rfl
theorem law36lives (w : World) (ht : TabP w) : Calls Tryz.prog 7 #[] w fun e w' => e = .returned (.bool true) ∧ Below w.heap.size w w' := by
 have CU := hid (fun a b W (h : Below w.heap.size w W) (hg : GoodSt W (liveSt a b)) => (show Calls Tryz.prog 27 #[.agg #[.int .i64 0, .slice none 0 0, .slice none 0 0, .slice none 0 0, .slice none 0 0, .slice none 0 0, .slice none 0 0, .slice none 0 0, .slice (some ⟨b, 0, none⟩) 1 1, .slice none 0 0, .slice none 0 0, .slice none 0 0], .agg #[.int .i64 1, .int .i64 0]] W fun e w' => ∃ v, e = .returned v ∧ Own w' W.heap.size 9 1 v (liveLs.map encStr) ∧ Below W.heap.size W w' from by
  have h1 := repUnit (liveSt a b) ⟨1, 0⟩ W (ht.keep h) hg ⟨by unfold In64; simp, by unfold In64; simp⟩
  rw [live_lines] at h1
  exact h1))
 have CS := hid (fun A B c d W h1 h2 => (show Calls Tryz.prog 11 #[.slice A liveLs.length c, .slice B 2 d] W fun e w' => e = .returned (.bool true) ∧ Below W.heap.size W w' from ref36Same liveLs A B c d W (by simp [liveLs]) h1 h2))
 have HRL := hid (fun W : World => (show Rd (W.alloc (.cells #[.string ⟨#[117, 110, 105, 116, 32, 49, 46, 48, 32, 99, 97, 115, 104, 32, 48]⟩, .string ⟨#[112, 111, 115, 105, 116, 105, 111, 110, 32, 49, 46, 48, 32, 49, 32, 51]⟩] 9)) (some ⟨W.heap.size, 0, none⟩) 1 (liveLs.map encStr) from rd_strs (ws := liveLs) rfl rfl))
 clear ht
 go_enter Tryz.func7, Tryz.ntmps7
 go_wp2_with (first | (go_at_call 27; (with_reducible refine (CU.out (w.heap.size + 1) (w.heap.size + 2) _ tB (live_good tL tL)).mono ?_); rintro e w4 ⟨v4, rfl, hown4, hb4⟩; obtain ⟨A4, c4, hv4, hrs4, _⟩ := hown4.rs; (rw [List.length_map] at hv4); subst hv4; have HS4 := hid hrs4; clear hown4 hrs4; obtain ⟨fc4, fg4, hc4, hf4, hz4⟩ := bget hb4; (try simp at hz4)) | (go_at_call 11; (with_reducible refine cM (CS.out _ _ _ _ _ (HS4.out.rd.keep tB) (HRL.out _)) fun w5 hb5 fc5 fg5 hc5 hf5 hz5 => ?_); (try simp at hz5)) | fail)
 go_ret
 exact ⟨rfl, tB⟩
/- States handed in, and cut short. -/
theorem allL_le {w : World} {s : StV} (h : GoodSt w s) : (allL (repL s)).length ≤ 1000000000 := by
 have h1 := unitL_le h ⟨0, 0⟩
 have h2 := unitL_le h ⟨0, 1⟩
 have h3 := membersL_le (memberL_le h) s.mem.val
 have h4 := h.lm
 show (_ :: (unitL (repL s) ⟨0, 0⟩ ++ (unitL (repL s) ⟨0, 1⟩ ++ membersL (repL s) s.mem.val))).length ≤ 1000000000
 rw [List.length_cons, List.length_append, List.length_append]
 omega
end Go.Proofs.YtalgfpegaobacaaGreatDoor
