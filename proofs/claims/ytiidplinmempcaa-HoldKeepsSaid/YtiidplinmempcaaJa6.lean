/- Joined: Lot4, Lot6, Ref18c. -/
import Derived.Test.YtiidplinmempcaaJa1
import Derived.Test.YtiidplinmempcaaJz7
import Derived.Test.YtiidplinmempcaaJz4
import Derived.Test.YtiidplinmempcaaJa3
import Derived.Deep.CutRange
import Derived.Deep.DeepCutAuto
/- Lots: contracts of lots.Put, Take. -/
namespace Go.Proofs.Ytiidplinmempcaa
open Go.RowKit
def LotsPost (w : World) (L : List Lot) (code : Int) (e : Ending) (w' : World) : Prop :=
  ∃ v, e = .returned (.tuple #[v, .int .i64 code]) ∧ Own w' w.heap.size 62 3 v (L.map encLot) ∧ Below w.heap.size w w'
theorem sort_mono {l : List Lot} (hs : SortL l) (x : Lot) : ∀ i j (_ : i < j) (hj : j < l.length), (fun y : Lot => decide (ordL y x < 0)) l[j] = true → (fun y : Lot => decide (ordL y x < 0)) l[i] = true := by
  intro i j hij hj h
  have h1 : ltL l[i] l[j] = true := List.pairwise_iff_getElem.1 hs i j (by omega) hj hij
  exact ltL_trans h1 h
theorem rd_two {w : World} {g : Nat} {u v : Int} (hg : g < w.heap.size) (h0 : w.cell? ⟨g, 0, none⟩ = some (.int .i64 u)) (h1 : w.cell? ⟨g, 1, none⟩ = some (.int .i64 v)) : Rd w (some ⟨g, 0, none⟩) 1 ([u, v].map encI) := by
  intro i r hr
  match i, hr with
  | 0, hr =>
    simp [encI] at hr; subst hr
    refine ⟨g, 0, rfl, hg, fun j z hz => ?_⟩
    match j with
    | 0 => simp at hz; subst hz; simpa using h0
    | j + 1 => simp at hz
  | 1, hr =>
    simp [encI] at hr; subst hr
    refine ⟨g, 0, rfl, hg, fun j z hz => ?_⟩
    match j with
    | 0 => simp at hz; subst hz; simpa using h1
    | j + 1 => simp at hz
theorem in_two {a b : Int} (ha : In64 a) (hb : In64 b) : ∀ z ∈ [a, b], In64 z := by
  intro z hz
  rcases List.mem_cons.1 hz with rfl | hz
  · exact ha
  · rcases List.mem_cons.1 hz with rfl | hz
    · exact hb
    · cases hz
theorem fixSum2Yes (a b : Int) (A : Option Addr) (c : Nat) (w : World) (ha : In64 a) (hb : In64 b) (hr : Rd w A 1 ([a, b].map encI)) (hs : In64 (a + b)) :
    Calls Try.prog 139 #[.slice A 2 c] w fun e w' => e = .returned (.tuple #[.int .i64 (a + b), .int .i64 0]) ∧ Below w.heap.size w w' := by
  have e : [a, b].sum = a + b := by simp
  have := fixSumYes [a, b] A c w (by simp) (in_two ha hb) hr (by rw [e]; exact hs)
  rw [e] at this
  exact this
theorem fixSum2No (a b : Int) (A : Option Addr) (c : Nat) (w : World) (ha : In64 a) (hb : In64 b) (hr : Rd w A 1 ([a, b].map encI)) (hs : ¬ In64 (a + b)) :
    Calls Try.prog 139 #[.slice A 2 c] w fun e w' => e = .returned (.tuple #[.int .i64 0, .int .i64 7]) ∧ Below w.heap.size w w' := by
  have e : [a, b].sum = a + b := by simp
  exact fixSumNo [a, b] A c w (by simp) (in_two ha hb) hr (by rw [e]; exact hs)
set_option maxRecDepth 100000 in
set_option maxHeartbeats 8000000 in
theorem lotPut (l : List Lot) (x : Lot) (A : Option Addr) (c : Nat) (w : World) (hl : l.length ≤ 900000) (hin : ∀ y ∈ l, In64 y.qty) (hx : In64 x.qty) (hr : Rs w 3 (l.map encLot) A c) :
    Calls Try.prog 116 #[.slice A l.length c, .agg #[.int .i64 x.asset, .int .i64 x.tag, .int .i64 x.qty]] w (LotsPost w (putLL l x) (putLC l x)) := by
  have HR := Lib.hid hr
  have c1 := fun W h => lotChecked l x A c W (by omega) h
  clear hr
  by_cases hc : codeL l x = 0
  rotate_left
  · have hb : (codeL l x == 0) = false := by simpa using hc
    have hn : (codeL l x != 0) = true := by simpa using hc
    have HQ := Lib.hid (show putLC l x = codeL l x from if_neg hc)
    have HP := Lib.hid (show putLL l x = [] from if_neg (by unfold putLC; rw [if_neg hc]; exact hc))
    generalize codeL l x = cc at *
    have C1 := Lib.hid c1
    clear c1 hc
    go_enter Try.func116, Try.ntmps116
    go_wp2_with (first | (go_at_call 149; (with_reducible refine (C1.out _ (HR.out.rd.keep (by (repeat' (first | (with_reducible exact Below.refl _ _) | (with_reducible assumption) | (with_reducible refine Below.alloc ?_ ?_ _) | (with_reducible refine Below.setCell ?_ ?_ _) | (with_reducible refine Below.drew ?_) | (with_reducible refine below_drewN ?_ _) | (with_reducible refine below_via ?_ (by with_reducible assumption) ?_) | omega | (simp; done) | (simp; omega)))))).mono ?_); rintro e w1 ⟨rfl, hb1⟩; obtain ⟨fc1, fg1, hc1, hf1, hz1⟩ := bget hb1; try simp at hz1) | fail)
    go_ret2
    exact ⟨_, by rw [HQ.out]; rfl, by rw [HP.out]; exact Own.nil _ _ _ _, by (repeat' (first | (with_reducible exact Below.refl _ _) | (with_reducible assumption) | (with_reducible refine Below.alloc ?_ ?_ _) | (with_reducible refine Below.setCell ?_ ?_ _) | (with_reducible refine Below.drew ?_) | (with_reducible refine below_drewN ?_ _) | (with_reducible refine below_via ?_ (by with_reducible assumption) ?_) | omega | (simp; done) | (simp; omega)))⟩
  have hil : isL l = true := by
    cases h : isL l
    · unfold codeL at hc; rw [h] at hc; cases hc
    · rfl
  have hq0 : putLC l x = (if thL l x then (if in64 ((l.getD (plL l x) ⟨0, 0, 0⟩).qty + x.qty) then 0 else 7) else if 16 ≤ l.length then 25 else 0) := if_pos hc
  rw [hc] at c1
  have hs := isL_sort hil
  have c2 := fun W (h : Rd W A 3 (l.map encLot)) => lotSearch l x A c W (by omega) h (sort_mono hs.1 x)
  have hpl := plL_le l x
  have C1 := Lib.hid c1
  clear c1 hc hil hs
  cases ht : thL l x
  · have c2' : ∀ W, Rd W A 3 (l.map encLot) → _ := c2
    have hth : atB (fun y => ordL y x == 0) l (plL l x) = false := ht
    unfold plL at hth
    rw [hth] at c2
    rw [ht, if_neg (by simp)] at hq0
    by_cases h16 : 16 ≤ l.length
    · rw [if_pos h16] at hq0
      have d16 : decide (16 ≤ (l.length : Int)) = true := decide_eq_true (by omega)
      have HQ := Lib.hid hq0
      have HP := Lib.hid (show putLL l x = [] from if_neg (by rw [hq0]; decide))
      have C2 := Lib.hid c2
      clear c2 c2' hth hq0
      go_enter Try.func116, Try.ntmps116
      go_wp2_with (first | (go_at_call 149; (with_reducible refine (C1.out _ (HR.out.rd.keep (by (repeat' (first | (with_reducible exact Below.refl _ _) | (with_reducible assumption) | (with_reducible refine Below.alloc ?_ ?_ _) | (with_reducible refine Below.setCell ?_ ?_ _) | (with_reducible refine Below.drew ?_) | (with_reducible refine below_drewN ?_ _) | (with_reducible refine below_via ?_ (by with_reducible assumption) ?_) | omega | (simp; done) | (simp; omega)))))).mono ?_); rintro e w1 ⟨rfl, hb1⟩; obtain ⟨fc1, fg1, hc1, hf1, hz1⟩ := bget hb1; try simp at hz1) | (go_at_call 150; (with_reducible refine (C2.out _ (HR.out.rd.keep (by (repeat' (first | (with_reducible exact Below.refl _ _) | (with_reducible assumption) | (with_reducible refine Below.alloc ?_ ?_ _) | (with_reducible refine Below.setCell ?_ ?_ _) | (with_reducible refine Below.drew ?_) | (with_reducible refine below_drewN ?_ _) | (with_reducible refine below_via ?_ (by with_reducible assumption) ?_) | omega | (simp; done) | (simp; omega)))))).mono ?_); rintro e w2 ⟨rfl, hb2⟩; obtain ⟨fc2, fg2, hc2, hf2, hz2⟩ := bget hb2; try simp at hz2) | fail)
      go_ret2
      exact ⟨_, by rw [HQ.out]; rfl, by rw [HP.out]; exact Own.nil _ _ _ _, by (repeat' (first | (with_reducible exact Below.refl _ _) | (with_reducible assumption) | (with_reducible refine Below.alloc ?_ ?_ _) | (with_reducible refine Below.setCell ?_ ?_ _) | (with_reducible refine Below.drew ?_) | (with_reducible refine below_drewN ?_ _) | (with_reducible refine below_via ?_ (by with_reducible assumption) ?_) | omega | (simp; done) | (simp; omega)))⟩
    · rw [if_neg h16] at hq0
      have d16 : decide (16 ≤ (l.length : Int)) = false := decide_eq_false (by omega)
      have HQ := Lib.hid hq0
      have HP := Lib.hid (show putLL l x = l.take (plL l x) ++ x :: l.drop (plL l x) from by unfold putLL; rw [if_pos hq0, ht]; rfl)
      have c3 : ∀ W, Rd W A 3 (l.map encLot) → Calls Try.prog 150 #[.slice A l.length c, .agg #[.int .i64 x.asset, .int .i64 x.tag, .int .i64 x.qty], .func (Fn.func 146) #[] #[]] W fun e w' => e = .returned (.tuple #[.int .i64 (plL l x), .bool false]) ∧ Below W.heap.size W w' := c2
      generalize plL l x = n at *
      have C2 := Lib.hid c3
      clear c2 c2' c3 hth hq0
      go_enter Try.func116, Try.ntmps116
      go_wp2_with (first | (go_at_call 149; (with_reducible refine (C1.out _ (HR.out.rd.keep (by (repeat' (first | (with_reducible exact Below.refl _ _) | (with_reducible assumption) | (with_reducible refine Below.alloc ?_ ?_ _) | (with_reducible refine Below.setCell ?_ ?_ _) | (with_reducible refine Below.drew ?_) | (with_reducible refine below_drewN ?_ _) | (with_reducible refine below_via ?_ (by with_reducible assumption) ?_) | omega | (simp; done) | (simp; omega)))))).mono ?_); rintro e w1 ⟨rfl, hb1⟩; obtain ⟨fc1, fg1, hc1, hf1, hz1⟩ := bget hb1; try simp at hz1) | (go_at_call 150; (with_reducible refine (C2.out _ (HR.out.rd.keep (by (repeat' (first | (with_reducible exact Below.refl _ _) | (with_reducible assumption) | (with_reducible refine Below.alloc ?_ ?_ _) | (with_reducible refine Below.setCell ?_ ?_ _) | (with_reducible refine Below.drew ?_) | (with_reducible refine below_drewN ?_ _) | (with_reducible refine below_via ?_ (by with_reducible assumption) ?_) | omega | (simp; done) | (simp; omega)))))).mono ?_); rintro e w2 ⟨rfl, hb2⟩; obtain ⟨fc2, fg2, hc2, hf2, hz2⟩ := bget hb2; try simp at hz2) | fail)
      go_region_held3 (fun w' => w'.cell? ⟨w.heap.size, 0, none⟩ = some (.int .i64 x.asset) ∧ w'.cell? ⟨w.heap.size, 1, none⟩ = some (.int .i64 x.tag) ∧ w'.cell? ⟨w.heap.size, 2, none⟩ = some (.int .i64 x.qty)) (first | (simp [go_sem]; done) | (repeat' (first | (with_reducible assumption) | (with_reducible refine And.intro ?_ ?_) | (with_reducible refine cell_drew ?_) | (with_reducible refine cell_via (by with_reducible assumption) ?_ ?_) | (simp [*]; done) | (simp [go_sem]; done) | (with_reducible refine cell_alloc ?_ ?_) | (with_reducible refine cell_set_far ?_ ?_) | omega | (simp; omega)))) (first | (go_at_call 114; (with_reducible refine (lotClone l A c _ (by omega) (HR.out.keep (by (repeat' (first | (with_reducible exact Below.refl _ _) | (with_reducible assumption) | (with_reducible refine Below.alloc ?_ ?_ _) | (with_reducible refine Below.setCell ?_ ?_ _) | (with_reducible refine Below.drew ?_) | (with_reducible refine below_drewN ?_ _) | (with_reducible refine below_via ?_ (by with_reducible assumption) ?_) | omega | (simp; done) | (simp; omega)))))).mono ?_); rintro e w4 ⟨v4, rfl, hown4, hb4⟩; have HO4 := Lib.hid hown4; have HW4 := Lib.hid hown4.block; clear hown4; obtain ⟨fc4, fg4, hc4, hf4, hz4⟩ := bget hb4; (try simp at hz4)) | (go_at_call 151; (with_reducible refine (insLotAt l x n v4 w2.heap.size _ _ (by omega) (by omega) ?_ ?_ ?_ ?_).mono ?_); (focus (first | omega | (simp; done) | (simp; omega))); (focus (first | exact HO4.out.alloc _ | exact HO4.out.mono (by simp) | exact (HO4.out.mono (by simp)).alloc _)); (focus (first | exact Blk.new _ _ _ | (refine Blk.below (Blk.drew (Blk.here ?_)) hb4 ?_ <;> (simp; done)) | (refine Blk.below (Blk.here ?_) hb4 ?_ <;> (simp; done)))); (focus (intro h; have h2 := HW4.out _ h; (first | omega | (simp at h2; done) | (simp at h2; omega)))); rintro e w6 ⟨v6, rfl, hown6, hb6, _⟩; have HO6 := Lib.hid hown6; clear hown6; obtain ⟨fc6, fg6, hc6, hf6, hz6⟩ := bget hb6; (try simp at hz6)) | fail)
      all_goals
        go_wp2_with fail
        go_ret2
        exact ⟨_, by rw [HQ.out]; rfl, by rw [HP.out]; exact HO6.out.mono (by omega), by (repeat' (first | (with_reducible exact Below.refl _ _) | (with_reducible assumption) | (with_reducible refine Below.alloc ?_ ?_ _) | (with_reducible refine Below.setCell ?_ ?_ _) | (with_reducible refine Below.drew ?_) | (with_reducible refine below_drewN ?_ _) | (with_reducible refine below_via ?_ (by with_reducible assumption) ?_) | omega | (simp; done) | (simp; omega)))⟩
  · have hlt0 := thL_lt ht
    have hke := thL_eq ht
    have hth : atB (fun y => ordL y x == 0) l (plL l x) = true := ht
    unfold plL at hth
    rw [hth] at c2
    have c3 : ∀ W, Rd W A 3 (l.map encLot) → Calls Try.prog 150 #[.slice A l.length c, .agg #[.int .i64 x.asset, .int .i64 x.tag, .int .i64 x.qty], .func (Fn.func 146) #[] #[]] W fun e w' => e = .returned (.tuple #[.int .i64 (plL l x), .bool true]) ∧ Below W.heap.size W w' := c2
    rw [ht, if_pos rfl, getD_at hlt0] at hq0
    have hp0 : putLC l x = 0 → putLL l x = l.set (plL l x) ⟨l[plL l x].asset, l[plL l x].tag, l[plL l x].qty + x.qty⟩ := fun h => by
      unfold putLL; rw [if_pos h, ht, if_pos rfl, getD_at hlt0, hke.1, hke.2]
    obtain ⟨n, hlt, hq1, hp1, c4⟩ : ∃ n, ∃ hlt : n < l.length, putLC l x = (if in64 (l[n].qty + x.qty) = true then 0 else 7) ∧ (putLC l x = 0 → putLL l x = l.set n ⟨l[n].asset, l[n].tag, l[n].qty + x.qty⟩) ∧ ∀ W, Rd W A 3 (l.map encLot) → Calls Try.prog 150 #[.slice A l.length c, .agg #[.int .i64 x.asset, .int .i64 x.tag, .int .i64 x.qty], .func (Fn.func 146) #[] #[]] W fun e w' => e = .returned (.tuple #[.int .i64 n, .bool true]) ∧ Below W.heap.size W w' := ⟨plL l x, hlt0, hq0, hp0, c3⟩
    clear hq0 hp0 c3
    have C2 := Lib.hid c4
    have hn64 := hin l[n] (List.getElem_mem hlt)
    have nl : (n : Int) < (l.length : Int) := by omega
    obtain ⟨b, o, hA, hb, hc⟩ := HR.out.rd n (encLot l[n]) (by simp [hlt])
    have e0 := hc 0 _ rfl
    have e1 := hc 1 _ rfl
    have e2 := hc 2 _ rfl
    simp only [Nat.add_zero] at e0
    subst hA
    clear c2 c4 hth hc hke hpl
    cases h64 : in64 (l[n].qty + x.qty)
    · rw [h64] at hq1
      have HQ := Lib.hid (show putLC l x = 7 from hq1)
      have HP := Lib.hid (show putLL l x = [] from if_neg (by rw [hq1]; decide))
      have CS := Lib.hid (fun W A c (h : Rd W A 1 ([l[n].qty, x.qty].map encI)) => fixSum2No l[n].qty x.qty A c W hn64 hx h (in64_no h64))
      clear hq1 hp1
      go_enter Try.func116, Try.ntmps116
      go_wp2_with (first | (go_at_call 149; (with_reducible refine (C1.out _ (HR.out.rd.keep (by (repeat' (first | (with_reducible exact Below.refl _ _) | (with_reducible assumption) | (with_reducible refine Below.alloc ?_ ?_ _) | (with_reducible refine Below.setCell ?_ ?_ _) | (with_reducible refine Below.drew ?_) | (with_reducible refine below_drewN ?_ _) | (with_reducible refine below_via ?_ (by with_reducible assumption) ?_) | omega | (simp; done) | (simp; omega)))))).mono ?_); rintro e w1 ⟨rfl, hb1⟩; obtain ⟨fc1, fg1, hc1, hf1, hz1⟩ := bget hb1; try simp at hz1) | (go_at_call 150; (with_reducible refine (C2.out _ (HR.out.rd.keep (by (repeat' (first | (with_reducible exact Below.refl _ _) | (with_reducible assumption) | (with_reducible refine Below.alloc ?_ ?_ _) | (with_reducible refine Below.setCell ?_ ?_ _) | (with_reducible refine Below.drew ?_) | (with_reducible refine below_drewN ?_ _) | (with_reducible refine below_via ?_ (by with_reducible assumption) ?_) | omega | (simp; done) | (simp; omega)))))).mono ?_); rintro e w2 ⟨rfl, hb2⟩; obtain ⟨fc2, fg2, hc2, hf2, hz2⟩ := bget hb2; try simp at hz2) | fail)
      go_region_held3 (fun w' => w'.cell? ⟨b, o + n * 3 + 2, none⟩ = some (.int .i64 l[n].qty) ∧ w'.cell? ⟨w.heap.size, 2, none⟩ = some (.int .i64 x.qty)) (first | (simp [go_sem]; done) | (repeat' (first | (with_reducible assumption) | (with_reducible refine And.intro ?_ ?_) | (with_reducible refine cell_drew ?_) | (with_reducible refine cell_via (by with_reducible assumption) ?_ ?_) | (simp [*]; done) | (simp [go_sem]; done) | (with_reducible refine cell_alloc ?_ ?_) | (with_reducible refine cell_set_far ?_ ?_) | omega | (simp; omega)))) (first | (go_at_call 139; (with_reducible refine (CS.out _ _ _ (rd_two ?_ ?_ ?_)).mono ?_); (focus (first | omega | (simp; done) | (simp; omega))); (focus (simp [go_sem]; done)); (focus (simp [go_sem]; done)); rintro e w3 ⟨rfl, hb3⟩; obtain ⟨fc3, fg3, hc3, hf3, hz3⟩ := bget hb3; (try simp at hz3)) | fail)
      all_goals
        go_wp2_with fail
        go_ret2
        exact ⟨_, by rw [HQ.out]; rfl, by rw [HP.out]; exact Own.nil _ _ _ _, by (repeat' (first | (with_reducible exact Below.refl _ _) | (with_reducible assumption) | (with_reducible refine Below.alloc ?_ ?_ _) | (with_reducible refine Below.setCell ?_ ?_ _) | (with_reducible refine Below.drew ?_) | (with_reducible refine below_drewN ?_ _) | (with_reducible refine below_via ?_ (by with_reducible assumption) ?_) | omega | (simp; done) | (simp; omega)))⟩
    · rw [h64] at hq1
      have HQ := Lib.hid (show putLC l x = 0 from hq1)
      have HP := Lib.hid (hp1 hq1)
      have CS := Lib.hid (fun W A c (h : Rd W A 1 ([l[n].qty, x.qty].map encI)) => fixSum2Yes l[n].qty x.qty A c W hn64 hx h (in64_iff.1 h64))
      have HCL := Lib.hid (fun W (h : Below w.heap.size w W) => lotClone l (some ⟨b, o, none⟩) c W (by omega) (HR.out.keep h))
      clear hq1 hp1
      go_enter Try.func116, Try.ntmps116
      go_wp2_with (first | (go_at_call 149; (with_reducible refine (C1.out _ (HR.out.rd.keep (by (repeat' (first | (with_reducible exact Below.refl _ _) | (with_reducible assumption) | (with_reducible refine Below.alloc ?_ ?_ _) | (with_reducible refine Below.setCell ?_ ?_ _) | (with_reducible refine Below.drew ?_) | (with_reducible refine below_drewN ?_ _) | (with_reducible refine below_via ?_ (by with_reducible assumption) ?_) | omega | (simp; done) | (simp; omega)))))).mono ?_); rintro e w1 ⟨rfl, hb1⟩; obtain ⟨fc1, fg1, hc1, hf1, hz1⟩ := bget hb1; try simp at hz1) | (go_at_call 150; (with_reducible refine (C2.out _ (HR.out.rd.keep (by (repeat' (first | (with_reducible exact Below.refl _ _) | (with_reducible assumption) | (with_reducible refine Below.alloc ?_ ?_ _) | (with_reducible refine Below.setCell ?_ ?_ _) | (with_reducible refine Below.drew ?_) | (with_reducible refine below_drewN ?_ _) | (with_reducible refine below_via ?_ (by with_reducible assumption) ?_) | omega | (simp; done) | (simp; omega)))))).mono ?_); rintro e w2 ⟨rfl, hb2⟩; obtain ⟨fc2, fg2, hc2, hf2, hz2⟩ := bget hb2; try simp at hz2) | fail)
      go_region_held3 (fun w' => w'.cell? ⟨b, o + n * 3 + 2, none⟩ = some (.int .i64 l[n].qty) ∧ w'.cell? ⟨w.heap.size, 2, none⟩ = some (.int .i64 x.qty)) (first | (simp [go_sem]; done) | (repeat' (first | (with_reducible assumption) | (with_reducible refine And.intro ?_ ?_) | (with_reducible refine cell_drew ?_) | (with_reducible refine cell_via (by with_reducible assumption) ?_ ?_) | (simp [*]; done) | (simp [go_sem]; done) | (with_reducible refine cell_alloc ?_ ?_) | (with_reducible refine cell_set_far ?_ ?_) | omega | (simp; omega)))) (first | (go_at_call 139; (with_reducible refine (CS.out _ _ _ (rd_two ?_ ?_ ?_)).mono ?_); (focus (first | omega | (simp; done) | (simp; omega))); (focus (simp [go_sem]; done)); (focus (simp [go_sem]; done)); rintro e w3 ⟨rfl, hb3⟩; obtain ⟨fc3, fg3, hc3, hf3, hz3⟩ := bget hb3; (try simp at hz3)) | fail)
      go_upto_region 13 with (first | (go_at_call 114; (with_reducible refine (HCL.out _ (by (repeat' (first | (with_reducible exact Below.refl _ _) | (with_reducible assumption) | (with_reducible refine Below.alloc ?_ ?_ _) | (with_reducible refine Below.setCell ?_ ?_ _) | (with_reducible refine Below.drew ?_) | (with_reducible refine below_drewN ?_ _) | (with_reducible refine below_via ?_ (by with_reducible assumption) ?_) | omega | (simp; done) | (simp; omega))))).mono ?_); rintro e w4 ⟨v4, rfl, hown4, hb4⟩; have HO4 := Lib.hid hown4; clear hown4; obtain ⟨fc4, fg4, hc4, hf4, hz4⟩ := bget hb4; (try simp at hz4)) | fail)
      obtain ⟨A4, c4, hv4, _, _⟩ := HO4.out.rs
      rw [List.length_map] at hv4
      subst hv4
      obtain ⟨g, rfl, hg1, hg2⟩ := HO4.out.at (by rw [List.length_map]; omega)
      obtain ⟨cur, hblk⟩ := HO4.out.blk rfl
      have fz := fun i => hblk.frozen i
      obtain ⟨b', o', e', hb', hcc⟩ := (HO4.out.rd).1 n (encLot l[n]) (by simp [hlt])
      injection e' with e'
      injection e' with e1' e2' _
      subst e1' e2'
      have q2 := hcc 2 _ rfl
      simp only [Nat.zero_add] at q2
      have hbl4 := Lib.hid (show Below w.heap.size w w4 from by (repeat' (first | (with_reducible exact Below.refl _ _) | (with_reducible assumption) | (with_reducible refine Below.alloc ?_ ?_ _) | (with_reducible refine Below.setCell ?_ ?_ _) | (with_reducible refine Below.drew ?_) | (with_reducible refine below_drewN ?_ _) | (with_reducible refine below_via ?_ (by with_reducible assumption) ?_) | omega | (simp; done) | (simp; omega))))
      clear hcc hblk hc4 hf4
      go_wp2_with fail
      go_ret2
      exact ⟨_, by rw [HQ.out]; rfl, by rw [HP.out, List.map_set]; exact (HO4.out.put rfl (i := n) (r := encLot l[n]) (by simp [hlt]) (show 2 < 3 by omega) (.int .i64 (l[n].qty + x.qty))).mono (by first | omega | (simp; omega)), by have hbl := hbl4.out; (repeat' (first | (with_reducible exact Below.refl _ _) | (with_reducible assumption) | (with_reducible refine Below.alloc ?_ ?_ _) | (with_reducible refine Below.setCell ?_ ?_ _) | (with_reducible refine Below.drew ?_) | (with_reducible refine below_drewN ?_ _) | (with_reducible refine below_via ?_ (by with_reducible assumption) ?_) | omega | (simp; done) | (simp; omega)))⟩
end Go.Proofs.Ytiidplinmempcaa

/- Lots: contract of lots.Take. -/
namespace Go.Proofs.Ytiidplinmempcaa
open Go.RowKit
set_option maxRecDepth 100000 in
set_option maxHeartbeats 8000000 in
theorem lotTake (l : List Lot) (x : Lot) (A : Option Addr) (c : Nat) (w : World) (hl : l.length ≤ 900000) (hin : ∀ y ∈ l, In64 y.qty) (hx : In64 x.qty) (hr : Rs w 3 (l.map encLot) A c) :
    Calls Try.prog 119 #[.slice A l.length c, .agg #[.int .i64 x.asset, .int .i64 x.tag, .int .i64 x.qty]] w (LotsPost w (takLL l x) (takLC l x)) := by
  have HR := Lib.hid hr
  have c1 := fun W h => lotChecked l x A c W (by omega) h
  clear hr
  by_cases hc : codeL l x = 0
  rotate_left
  · have hb : (codeL l x == 0) = false := by simpa using hc
    have hn : (codeL l x != 0) = true := by simpa using hc
    have HQ := Lib.hid (show takLC l x = codeL l x from if_neg hc)
    have HP := Lib.hid (show takLL l x = [] from if_neg (by unfold takLC; rw [if_neg hc]; exact hc))
    generalize codeL l x = cc at *
    have C1 := Lib.hid c1
    clear c1 hc
    go_enter Try.func119, Try.ntmps119
    go_wp2_with (first | (go_at_call 149; (with_reducible refine (C1.out _ (HR.out.rd.keep (by (repeat' (first | (with_reducible exact Below.refl _ _) | (with_reducible assumption) | (with_reducible refine Below.alloc ?_ ?_ _) | (with_reducible refine Below.setCell ?_ ?_ _) | (with_reducible refine Below.drew ?_) | (with_reducible refine below_drewN ?_ _) | (with_reducible refine below_via ?_ (by with_reducible assumption) ?_) | omega | (simp; done) | (simp; omega)))))).mono ?_); rintro e w1 ⟨rfl, hb1⟩; obtain ⟨fc1, fg1, hc1, hf1, hz1⟩ := bget hb1; try simp at hz1) | fail)
    go_ret2
    exact ⟨_, by rw [HQ.out]; rfl, by rw [HP.out]; exact Own.nil _ _ _ _, by (repeat' (first | (with_reducible exact Below.refl _ _) | (with_reducible assumption) | (with_reducible refine Below.alloc ?_ ?_ _) | (with_reducible refine Below.setCell ?_ ?_ _) | (with_reducible refine Below.drew ?_) | (with_reducible refine below_drewN ?_ _) | (with_reducible refine below_via ?_ (by with_reducible assumption) ?_) | omega | (simp; done) | (simp; omega)))⟩
  have hr2 : isL l = true ∧ rightL x = true := by
    unfold codeL at hc
    cases h : isL l
    · rw [h] at hc; cases hc
    · rw [h] at hc
      cases h2 : rightL x
      · rw [h2] at hc; cases hc
      · exact ⟨rfl, rfl⟩
  have hxp := (rightL_iff.1 hr2.2).2.2.2.2
  have hq0 : takLC l x = (if thL l x = true ∧ x.qty ≤ (l.getD (plL l x) ⟨0, 0, 0⟩).qty then 0 else 23) := if_pos hc
  rw [hc] at c1
  have hs := isL_sort hr2.1
  have c2 := fun W (h : Rd W A 3 (l.map encLot)) => lotSearch l x A c W (by omega) h (sort_mono hs.1 x)
  have C1 := Lib.hid c1
  have hpos := hs.2.1
  clear c1 hc hr2 hs
  cases ht : thL l x
  · have c3 : ∀ W, Rd W A 3 (l.map encLot) → Calls Try.prog 150 #[.slice A l.length c, .agg #[.int .i64 x.asset, .int .i64 x.tag, .int .i64 x.qty], .func (Fn.func 146) #[] #[]] W fun e w' => e = .returned (.tuple #[.int .i64 (plL l x), .bool false]) ∧ Below W.heap.size W w' := by rw [← ht]; exact c2
    have hpl := plL_le l x
    rw [ht, if_neg (by simp)] at hq0
    have HQ := Lib.hid hq0
    have HP := Lib.hid (show takLL l x = [] from if_neg (by rw [hq0]; decide))
    clear c2 hq0
    generalize plL l x = n at *
    have C2 := Lib.hid c3
    clear c3 ht
    go_enter Try.func119, Try.ntmps119
    go_wp2_with (first | (go_at_call 149; (with_reducible refine (C1.out _ (HR.out.rd.keep (by (repeat' (first | (with_reducible exact Below.refl _ _) | (with_reducible assumption) | (with_reducible refine Below.alloc ?_ ?_ _) | (with_reducible refine Below.setCell ?_ ?_ _) | (with_reducible refine Below.drew ?_) | (with_reducible refine below_drewN ?_ _) | (with_reducible refine below_via ?_ (by with_reducible assumption) ?_) | omega | (simp; done) | (simp; omega)))))).mono ?_); rintro e w1 ⟨rfl, hb1⟩; obtain ⟨fc1, fg1, hc1, hf1, hz1⟩ := bget hb1; try simp at hz1) | (go_at_call 150; (with_reducible refine (C2.out _ (HR.out.rd.keep (by (repeat' (first | (with_reducible exact Below.refl _ _) | (with_reducible assumption) | (with_reducible refine Below.alloc ?_ ?_ _) | (with_reducible refine Below.setCell ?_ ?_ _) | (with_reducible refine Below.drew ?_) | (with_reducible refine below_drewN ?_ _) | (with_reducible refine below_via ?_ (by with_reducible assumption) ?_) | omega | (simp; done) | (simp; omega)))))).mono ?_); rintro e w2 ⟨rfl, hb2⟩; obtain ⟨fc2, fg2, hc2, hf2, hz2⟩ := bget hb2; try simp at hz2) | fail)
    go_quiet (fail)
    go_wp2_with fail
    go_ret2
    exact ⟨_, by rw [HQ.out]; rfl, by rw [HP.out]; exact Own.nil _ _ _ _, by (repeat' (first | (with_reducible exact Below.refl _ _) | (with_reducible assumption) | (with_reducible refine Below.alloc ?_ ?_ _) | (with_reducible refine Below.setCell ?_ ?_ _) | (with_reducible refine Below.drew ?_) | (with_reducible refine below_drewN ?_ _) | (with_reducible refine below_via ?_ (by with_reducible assumption) ?_) | omega | (simp; done) | (simp; omega)))⟩
  have hlt0 := thL_lt ht
  have hke := thL_eq ht
  have c3 : ∀ W, Rd W A 3 (l.map encLot) → Calls Try.prog 150 #[.slice A l.length c, .agg #[.int .i64 x.asset, .int .i64 x.tag, .int .i64 x.qty], .func (Fn.func 146) #[] #[]] W fun e w' => e = .returned (.tuple #[.int .i64 (plL l x), .bool true]) ∧ Below W.heap.size W w' := by rw [← ht]; exact c2
  rw [getD_at hlt0] at hq0
  have hp0 : takLC l x = 0 → takLL l x = (if l[plL l x].qty = x.qty then l.take (plL l x) ++ l.drop (plL l x + 1) else l.set (plL l x) ⟨l[plL l x].asset, l[plL l x].tag, l[plL l x].qty - x.qty⟩) := fun h => by
    unfold takLL; rw [if_pos h, getD_at hlt0, hke.1, hke.2]
  rw [ht] at hq0
  obtain ⟨n, hlt, hq1, hp1, c4⟩ : ∃ n, ∃ hlt : n < l.length, takLC l x = (if true = true ∧ x.qty ≤ l[n].qty then 0 else 23) ∧ (takLC l x = 0 → takLL l x = (if l[n].qty = x.qty then l.take n ++ l.drop (n + 1) else l.set n ⟨l[n].asset, l[n].tag, l[n].qty - x.qty⟩)) ∧ ∀ W, Rd W A 3 (l.map encLot) → Calls Try.prog 150 #[.slice A l.length c, .agg #[.int .i64 x.asset, .int .i64 x.tag, .int .i64 x.qty], .func (Fn.func 146) #[] #[]] W fun e w' => e = .returned (.tuple #[.int .i64 n, .bool true]) ∧ Below W.heap.size W w' := ⟨plL l x, hlt0, hq0, hp0, c3⟩
  clear hq0 hp0 c3 c2 hke
  have C2 := Lib.hid c4
  have hn64 := hin l[n] (List.getElem_mem hlt)
  have nl : (n : Int) < (l.length : Int) := by omega
  obtain ⟨b, o, hA, hb, hcc0⟩ := HR.out.rd n (encLot l[n]) (by simp [hlt])
  have e0 := hcc0 0 _ rfl
  have e1 := hcc0 1 _ rfl
  have e2 := hcc0 2 _ rfl
  simp only [Nat.add_zero] at e0
  subst hA
  have HCL := Lib.hid (fun W (h : Below w.heap.size w W) => lotClone l (some ⟨b, o, none⟩) c W (by omega) (HR.out.keep h))
  unfold In64 at hn64 hx
  clear c4 hcc0 ht hpos hin
  by_cases hlo : l[n].qty < x.qty
  · rw [if_neg (by omega)] at hq1
    have d1 := decide_eq_true hlo
    have HQ := Lib.hid hq1
    have HP := Lib.hid (show takLL l x = [] from if_neg (by rw [hq1]; decide))
    clear hq1 hp1 HCL
    go_enter Try.func119, Try.ntmps119
    go_wp2_with (first | (go_at_call 149; (with_reducible refine (C1.out _ (HR.out.rd.keep (by (repeat' (first | (with_reducible exact Below.refl _ _) | (with_reducible assumption) | (with_reducible refine Below.alloc ?_ ?_ _) | (with_reducible refine Below.setCell ?_ ?_ _) | (with_reducible refine Below.drew ?_) | (with_reducible refine below_drewN ?_ _) | (with_reducible refine below_via ?_ (by with_reducible assumption) ?_) | omega | (simp; done) | (simp; omega)))))).mono ?_); rintro e w1 ⟨rfl, hb1⟩; obtain ⟨fc1, fg1, hc1, hf1, hz1⟩ := bget hb1; try simp at hz1) | (go_at_call 150; (with_reducible refine (C2.out _ (HR.out.rd.keep (by (repeat' (first | (with_reducible exact Below.refl _ _) | (with_reducible assumption) | (with_reducible refine Below.alloc ?_ ?_ _) | (with_reducible refine Below.setCell ?_ ?_ _) | (with_reducible refine Below.drew ?_) | (with_reducible refine below_drewN ?_ _) | (with_reducible refine below_via ?_ (by with_reducible assumption) ?_) | omega | (simp; done) | (simp; omega)))))).mono ?_); rintro e w2 ⟨rfl, hb2⟩; obtain ⟨fc2, fg2, hc2, hf2, hz2⟩ := bget hb2; try simp at hz2) | fail)
    go_quiet (fail)
    go_wp2_with fail
    go_ret2
    exact ⟨_, by rw [HQ.out]; rfl, by rw [HP.out]; exact Own.nil _ _ _ _, by (repeat' (first | (with_reducible exact Below.refl _ _) | (with_reducible assumption) | (with_reducible refine Below.alloc ?_ ?_ _) | (with_reducible refine Below.setCell ?_ ?_ _) | (with_reducible refine Below.drew ?_) | (with_reducible refine below_drewN ?_ _) | (with_reducible refine below_via ?_ (by with_reducible assumption) ?_) | omega | (simp; done) | (simp; omega)))⟩
  have d1 := decide_eq_false hlo
  rw [if_pos ⟨rfl, by omega⟩] at hq1
  have HQ := Lib.hid hq1
  have hp2 := hp1 hq1
  clear hq1 hp1
  by_cases heq : l[n].qty = x.qty
  · rw [if_pos heq] at hp2
    have HP := Lib.hid hp2
    have b0 : (l[n].qty - x.qty == 0) = true := by rw [heq]; simp
    clear hp2
    go_enter Try.func119, Try.ntmps119
    go_wp2_with (first | (go_at_call 149; (with_reducible refine (C1.out _ (HR.out.rd.keep (by (repeat' (first | (with_reducible exact Below.refl _ _) | (with_reducible assumption) | (with_reducible refine Below.alloc ?_ ?_ _) | (with_reducible refine Below.setCell ?_ ?_ _) | (with_reducible refine Below.drew ?_) | (with_reducible refine below_drewN ?_ _) | (with_reducible refine below_via ?_ (by with_reducible assumption) ?_) | omega | (simp; done) | (simp; omega)))))).mono ?_); rintro e w1 ⟨rfl, hb1⟩; obtain ⟨fc1, fg1, hc1, hf1, hz1⟩ := bget hb1; try simp at hz1) | (go_at_call 150; (with_reducible refine (C2.out _ (HR.out.rd.keep (by (repeat' (first | (with_reducible exact Below.refl _ _) | (with_reducible assumption) | (with_reducible refine Below.alloc ?_ ?_ _) | (with_reducible refine Below.setCell ?_ ?_ _) | (with_reducible refine Below.drew ?_) | (with_reducible refine below_drewN ?_ _) | (with_reducible refine below_via ?_ (by with_reducible assumption) ?_) | omega | (simp; done) | (simp; omega)))))).mono ?_); rintro e w2 ⟨rfl, hb2⟩; obtain ⟨fc2, fg2, hc2, hf2, hz2⟩ := bget hb2; try simp at hz2) | fail)
    go_quiet (fail)
    go_upto_region 8 with (first | (go_at_call 114; (with_reducible refine (HCL.out _ (by (repeat' (first | (with_reducible exact Below.refl _ _) | (with_reducible assumption) | (with_reducible refine Below.alloc ?_ ?_ _) | (with_reducible refine Below.setCell ?_ ?_ _) | (with_reducible refine Below.drew ?_) | (with_reducible refine below_drewN ?_ _) | (with_reducible refine below_via ?_ (by with_reducible assumption) ?_) | omega | (simp; done) | (simp; omega))))).mono ?_); rintro e w4 ⟨v4, rfl, hown4, hb4⟩; have HO4 := Lib.hid (hown4.mono (b := w.heap.size + 1) (by first | omega | (simp; omega))); clear hown4; obtain ⟨fc4, fg4, hc4, hf4, hz4⟩ := bget hb4; (try simp at hz4)) | fail)
    obtain ⟨A4, c4, hv4, _, _⟩ := HO4.out.rs
    rw [List.length_map] at hv4
    subst hv4
    obtain ⟨g, rfl, hg1, hg2⟩ := HO4.out.at (by rw [List.length_map]; omega)
    obtain ⟨cur, hblk⟩ := HO4.out.blk rfl
    have fz := fun i => hblk.frozen i
    obtain ⟨b', o', e', hb', hcc⟩ := (HO4.out.rd).1 n (encLot l[n]) (by simp [hlt])
    injection e' with e'
    injection e' with e1' e2' _
    subst e1' e2'
    have q2 := hcc 2 _ rfl
    simp only [Nat.zero_add] at q2
    have HPU := Lib.hid (fun W (h : Own W (w.heap.size + 1) 62 3 (.slice (some ⟨g, 0, none⟩) l.length c4) (l.map encLot)) => show Own (W.setCell ⟨g, n * 3 + 2, none⟩ (.int .i64 (0))) (w.heap.size + 1) 62 3 (.slice (some ⟨g, 0, none⟩) l.length c4) ((l.set n ⟨l[n].asset, l[n].tag, 0⟩).map encLot) from by rw [List.map_set]; exact h.put rfl (i := n) (r := encLot l[n]) (by simp [hlt]) (show 2 < 3 by omega) (.int .i64 (0)))
    have hbl4 := Lib.hid (show Below w.heap.size w w4 from by (repeat' (first | (with_reducible exact Below.refl _ _) | (with_reducible assumption) | (with_reducible refine Below.alloc ?_ ?_ _) | (with_reducible refine Below.setCell ?_ ?_ _) | (with_reducible refine Below.drew ?_) | (with_reducible refine below_drewN ?_ _) | (with_reducible refine below_via ?_ (by with_reducible assumption) ?_) | omega | (simp; done) | (simp; omega))))
    have xq : w4.cell? ⟨w.heap.size, 2, none⟩ = some (.int .i64 x.qty) := (by simp [hc4, hc2, hc1, go_sem, ↓IntWalk.iteOmega])
    clear hcc hblk hc4 hf4 hc2 hf2 hc1 hf1
    have wk : IntKind.i64.wrap (l[n].qty - x.qty) = 0 := (IntWalk.i64_in _ (by omega)).trans (by omega)
    go_region_law (fail)
    all_goals clear wk
    all_goals go_wp2_with (first | (go_at_call 154; (with_reducible refine (delLotAt (l.set n ⟨l[n].asset, l[n].tag, 0⟩) n _ (w.heap.size + 1) _ (by rw [List.length_set]; exact hlt) (by rw [List.length_set]; omega) ?_ ?_).mono ?_); (focus (first | omega | (simp; omega))); (focus (first | exact HPU.out _ HO4.out | exact (HPU.out _ HO4.out).drew | exact (HPU.out _ HO4.out.drew).drew | exact HPU.out _ HO4.out.drew)); rintro e w6 ⟨v6, rfl, hown6, hb6⟩; have HO6 := Lib.hid hown6; clear hown6) | fail)
    all_goals
      go_ret2
      refine ⟨_, by rw [HQ.out]; rfl, ?_, by have hbl := hbl4.out; (repeat' (first | (with_reducible exact Below.refl _ _) | (with_reducible assumption) | (with_reducible refine Below.alloc ?_ ?_ _) | (with_reducible refine Below.setCell ?_ ?_ _) | (with_reducible refine Below.drew ?_) | (with_reducible refine below_drewN ?_ _) | (with_reducible refine below_via ?_ (by with_reducible assumption) ?_) | omega | (simp; done) | (simp; omega)))⟩
      rw [HP.out]
      have h6 := HO6.out
      rw [List.take_set_of_le (Nat.le_refl _), List.drop_set_of_lt (by omega)] at h6
      exact h6.mono (by omega)
  · rw [if_neg heq] at hp2
    have HP := Lib.hid hp2
    have b0 : (l[n].qty - x.qty == 0) = false := by rw [beq_eq_false_iff_ne]; omega
    clear hp2
    go_enter Try.func119, Try.ntmps119
    go_wp2_with (first | (go_at_call 149; (with_reducible refine (C1.out _ (HR.out.rd.keep (by (repeat' (first | (with_reducible exact Below.refl _ _) | (with_reducible assumption) | (with_reducible refine Below.alloc ?_ ?_ _) | (with_reducible refine Below.setCell ?_ ?_ _) | (with_reducible refine Below.drew ?_) | (with_reducible refine below_drewN ?_ _) | (with_reducible refine below_via ?_ (by with_reducible assumption) ?_) | omega | (simp; done) | (simp; omega)))))).mono ?_); rintro e w1 ⟨rfl, hb1⟩; obtain ⟨fc1, fg1, hc1, hf1, hz1⟩ := bget hb1; try simp at hz1) | (go_at_call 150; (with_reducible refine (C2.out _ (HR.out.rd.keep (by (repeat' (first | (with_reducible exact Below.refl _ _) | (with_reducible assumption) | (with_reducible refine Below.alloc ?_ ?_ _) | (with_reducible refine Below.setCell ?_ ?_ _) | (with_reducible refine Below.drew ?_) | (with_reducible refine below_drewN ?_ _) | (with_reducible refine below_via ?_ (by with_reducible assumption) ?_) | omega | (simp; done) | (simp; omega)))))).mono ?_); rintro e w2 ⟨rfl, hb2⟩; obtain ⟨fc2, fg2, hc2, hf2, hz2⟩ := bget hb2; try simp at hz2) | fail)
    go_quiet (fail)
    go_upto_region 8 with (first | (go_at_call 114; (with_reducible refine (HCL.out _ (by (repeat' (first | (with_reducible exact Below.refl _ _) | (with_reducible assumption) | (with_reducible refine Below.alloc ?_ ?_ _) | (with_reducible refine Below.setCell ?_ ?_ _) | (with_reducible refine Below.drew ?_) | (with_reducible refine below_drewN ?_ _) | (with_reducible refine below_via ?_ (by with_reducible assumption) ?_) | omega | (simp; done) | (simp; omega))))).mono ?_); rintro e w4 ⟨v4, rfl, hown4, hb4⟩; have HO4 := Lib.hid (hown4.mono (b := w.heap.size + 1) (by first | omega | (simp; omega))); clear hown4; obtain ⟨fc4, fg4, hc4, hf4, hz4⟩ := bget hb4; (try simp at hz4)) | fail)
    obtain ⟨A4, c4, hv4, _, _⟩ := HO4.out.rs
    rw [List.length_map] at hv4
    subst hv4
    obtain ⟨g, rfl, hg1, hg2⟩ := HO4.out.at (by rw [List.length_map]; omega)
    obtain ⟨cur, hblk⟩ := HO4.out.blk rfl
    have fz := fun i => hblk.frozen i
    obtain ⟨b', o', e', hb', hcc⟩ := (HO4.out.rd).1 n (encLot l[n]) (by simp [hlt])
    injection e' with e'
    injection e' with e1' e2' _
    subst e1' e2'
    have q2 := hcc 2 _ rfl
    simp only [Nat.zero_add] at q2
    have HPU := Lib.hid (fun W (h : Own W (w.heap.size + 1) 62 3 (.slice (some ⟨g, 0, none⟩) l.length c4) (l.map encLot)) => show Own (W.setCell ⟨g, n * 3 + 2, none⟩ (.int .i64 (l[n].qty - x.qty))) (w.heap.size + 1) 62 3 (.slice (some ⟨g, 0, none⟩) l.length c4) ((l.set n ⟨l[n].asset, l[n].tag, l[n].qty - x.qty⟩).map encLot) from by rw [List.map_set]; exact h.put rfl (i := n) (r := encLot l[n]) (by simp [hlt]) (show 2 < 3 by omega) (.int .i64 (l[n].qty - x.qty)))
    have hbl4 := Lib.hid (show Below w.heap.size w w4 from by (repeat' (first | (with_reducible exact Below.refl _ _) | (with_reducible assumption) | (with_reducible refine Below.alloc ?_ ?_ _) | (with_reducible refine Below.setCell ?_ ?_ _) | (with_reducible refine Below.drew ?_) | (with_reducible refine below_drewN ?_ _) | (with_reducible refine below_via ?_ (by with_reducible assumption) ?_) | omega | (simp; done) | (simp; omega))))
    have xq : w4.cell? ⟨w.heap.size, 2, none⟩ = some (.int .i64 x.qty) := (by simp [hc4, hc2, hc1, go_sem, ↓IntWalk.iteOmega])
    clear hcc hblk hc4 hf4 hc2 hf2 hc1 hf1
    have wk : IntKind.i64.wrap (l[n].qty - x.qty) = l[n].qty - x.qty := (IntWalk.i64_in _ (by omega)).trans (by omega)
    go_region_law (fail)
    all_goals clear wk
    all_goals
      go_wp2_with fail
      go_ret2
      refine ⟨_, by rw [HQ.out]; rfl, ?_, by have hbl := hbl4.out; (repeat' (first | (with_reducible exact Below.refl _ _) | (with_reducible assumption) | (with_reducible refine Below.alloc ?_ ?_ _) | (with_reducible refine Below.setCell ?_ ?_ _) | (with_reducible refine Below.drew ?_) | (with_reducible refine below_drewN ?_ _) | (with_reducible refine below_via ?_ (by with_reducible assumption) ?_) | omega | (simp; done) | (simp; omega)))⟩
      rw [HP.out]
      refine Own.mono (base := w.heap.size + 1) ?_ (by omega)
      first | exact HPU.out _ HO4.out | exact (HPU.out _ HO4.out).drew | exact (HPU.out _ HO4.out.drew).drew | exact HPU.out _ HO4.out.drew
end Go.Proofs.Ytiidplinmempcaa

/- Lots: contract of the reference's Sum. -/
namespace Go.Proofs.Ytiidplinmempcaa
open Go.RowKit
theorem isBig_nil2 {w : World} : IsBig w 0 false none [] 0 := ⟨fun i r hr => by simp at hr, bit_nil, top_nil, rfl, by simp, by simp, rfl⟩
set_option maxRecDepth 100000 in
set_option maxHeartbeats 16000000 in
theorem ref18Sum (l : List Lot) (a : Int) (A : Option Addr) (c : Nat) (w : World) (h40 : l.length ≤ 40) (hin : ∀ y ∈ l, In64 y.qty) (hr : Rd w A 3 (l.map encLot)) :
    Calls Try.prog 115 #[.slice A l.length c, .int .i64 a] w (BigPost w (sumL l a) 200) := by
  have HR := Lib.hid hr
  have HIN := Lib.hid hin
  clear hr hin
  go_enter Try.func115, Try.ntmps115
  go_wp2_with fail
  go_loopw [6] (fun i wr => ∃ (k : Nat) (s2 : Bool) (A2 : Option Addr) (l2 : List Int) (c2 : Nat), k ≤ l.length ∧ i = .int .i64 k ∧ IsBig wr (sumL (l.take k) a) s2 A2 l2 c2 ∧ l2.length ≤ 65 + k ∧ Blk wr (w.heap.size + 1) 34 #[.bool s2, .slice A2 l2.length c2] ∧ Below (w.heap.size + 1) (w.alloc (.cells #[.bool false, .slice none 0 0] 34)) wr) (fun i _ => l.length - (intOf i).toNat)
  case atStart => exact ⟨0, false, none, [], 0, Nat.zero_le _, rfl, isBig_nil2, by simp, Blk.here (by simp), by (repeat' (first | (with_reducible exact Below.refl _ _) | (with_reducible assumption) | (with_reducible refine Below.alloc ?_ ?_ _) | (with_reducible refine Below.setCell ?_ ?_ _) | (with_reducible refine Below.drew ?_) | (with_reducible refine below_drewN ?_ _) | (with_reducible refine below_via ?_ (by with_reducible assumption) ?_) | omega | (simp; done) | (simp; omega)))⟩
  case round =>
    obtain ⟨k, s2, A2, l2, c2, hk, rfl, hB2, hl2, hbk, hbl⟩ := hrel
    have hz := hbl.size
    simp at hz
    have b0 := hbk.cell 0
    have b1 := hbk.cell 1
    have z0 := hbk.frozen 0
    have z1 := hbk.frozen 1
    have ug := hbk.lt
    have r0 := (hbl.cell (p := ⟨w.heap.size, 0, none⟩) (by simp))
    have r1 := (hbl.cell (p := ⟨w.heap.size, 1, none⟩) (by simp))
    have f0 := (hbl.frozen (p := ⟨w.heap.size, 0, none⟩) (by simp))
    have f1 := (hbl.frozen (p := ⟨w.heap.size, 1, none⟩) (by simp))
    simp [go_sem] at b0 b1 r0 r1 f0 f1
    have HB2 := Lib.hid hB2
    have Hbk := Lib.hid hbk
    have Hbl := Lib.hid hbl
    clear hB2 hbk hbl
    by_cases hlt : k < l.length
    · have d2 : decide ((k : Int) < (l.length : Int)) = true := by simpa using hlt
      have kl : (k : Int) < (l.length : Int) := by omega
      obtain ⟨b, o, rfl, hb, hc⟩ := HR.out k (encLot l[k]) (by simp [hlt])
      have hbw : b < wr.heap.size := by omega
      have e0 := (Hbl.out.cell (p := ⟨b, o + k * 3 + 0, none⟩) (by simp; omega)).trans ((World.cell?_alloc_lt w _ ⟨b, o + k * 3 + 0, none⟩ hb).trans (hc 0 _ rfl))
      have e1 := (Hbl.out.cell (p := ⟨b, o + k * 3 + 1, none⟩) (by simp; omega)).trans ((World.cell?_alloc_lt w _ ⟨b, o + k * 3 + 1, none⟩ hb).trans (hc 1 _ rfl))
      have e2 := (Hbl.out.cell (p := ⟨b, o + k * 3 + 2, none⟩) (by simp; omega)).trans ((World.cell?_alloc_lt w _ ⟨b, o + k * 3 + 2, none⟩ hb).trans (hc 2 _ rfl))
      simp only [Nat.add_zero] at e0
      clear hc
      have hq := qtyL_snoc hlt a
      have hx := HIN.out l[k] (List.getElem_mem hlt)
      cases h1 : (l[k].asset == a)
      · have HS := Lib.hid (show sumL (l.take (k + 1)) a = sumL (l.take k) a from by unfold sumL; rw [hq, h1]; simp)
        clear hq
        generalize sumL (l.take k) a = sm at *
        go_wp2_with fail
        go_roundw
        case rel => exact ⟨k + 1, s2, A2, l2, c2, by omega, by go_num, by rw [HS.out]; exact HB2.out, by omega, Hbk.out, Hbl.out⟩
        case measure => simp [intOf]; omega
      · have HS := Lib.hid (show sumL (l.take (k + 1)) a = sumL (l.take k) a + l[k].qty from by unfold sumL; rw [hq, h1, List.sum_append]; simp)
        clear hq
        generalize sumL (l.take k) a = sm at *
        go_wp2_with fail
        go_region_with (first | (go_at_call 25; (with_reducible refine (bigOf l[k].qty _ hx).mono ?_); rintro e w3 ⟨s3, A3, l3, c3, rfl, hB3, hl3, hb3⟩; have HB3 := Lib.hid hB3; clear hB3; obtain ⟨fc3, fg3, hc3, hf3, hz3⟩ := bget hb3; (try simp at hz3)) | (go_at_call 24; (with_reducible refine (bigAdd sm l[k].qty s2 s3 l2 l3 A2 A3 c2 c3 (65 + k) _ (by omega) (by omega) (by omega) (HB2.out.keep (by (repeat' (first | (with_reducible exact Below.refl _ _) | (with_reducible assumption) | (with_reducible refine Below.alloc ?_ ?_ _) | (with_reducible refine Below.setCell ?_ ?_ _) | (with_reducible refine Below.drew ?_) | (with_reducible refine below_drewN ?_ _) | (with_reducible refine below_via ?_ (by with_reducible assumption) ?_) | omega | (simp; done) | (simp; omega))))) (HB3.out.keep (by (repeat' (first | (with_reducible exact Below.refl _ _) | (with_reducible assumption) | (with_reducible refine Below.alloc ?_ ?_ _) | (with_reducible refine Below.setCell ?_ ?_ _) | (with_reducible refine Below.drew ?_) | (with_reducible refine below_drewN ?_ _) | (with_reducible refine below_via ?_ (by with_reducible assumption) ?_) | omega | (simp; done) | (simp; omega)))))).mono ?_); rintro e w4 ⟨s4, A4, l4, c4, rfl, hB4, hl4, hb4⟩; have HB4 := Lib.hid hB4; clear hB4; obtain ⟨fc4, fg4, hc4, hf4, hz4⟩ := bget hb4; (try simp at hz4)) | fail)
        all_goals
          go_wp2_with fail
          go_roundw
          case rel =>
            have h4 : Below wr.heap.size wr w4 := by (repeat' (first | (with_reducible exact Below.refl _ _) | (with_reducible assumption) | (with_reducible refine Below.alloc ?_ ?_ _) | (with_reducible refine Below.setCell ?_ ?_ _) | (with_reducible refine Below.drew ?_) | (with_reducible refine below_drewN ?_ _) | (with_reducible refine below_via ?_ (by with_reducible assumption) ?_) | omega | (simp; done) | (simp; omega)))
            have t0 : w4.cell? ⟨w.heap.size + 1, 0, none⟩ = some (.bool s2) := (h4.cell (p := ⟨w.heap.size + 1, 0, none⟩) ug).trans b0
            have t1 : w4.cell? ⟨w.heap.size + 1, 1, none⟩ = some (.slice A2 l2.length c2) := (h4.cell (p := ⟨w.heap.size + 1, 1, none⟩) ug).trans b1
            refine ⟨k + 1, s4, A4, l4, c4, by omega, by go_num, ?_, by omega, ?_, ?_⟩
            · rw [HS.out]
              exact (HB4.out.far t0 (by simp) _).far ((World.cell?_setCell_other _ _ _ _ (by simp)).trans t1) (by simp) _
            · have h5 := ((Hbk.out.below h4 ug).set 0 (.bool s4)).set 1 (.slice A4 l4.length c4)
              simpa using h5
            · have hbl := Hbl.out
              (repeat' (first | (with_reducible exact Below.refl _ _) | (with_reducible assumption) | (with_reducible refine Below.alloc ?_ ?_ _) | (with_reducible refine Below.setCell ?_ ?_ _) | (with_reducible refine Below.drew ?_) | (with_reducible refine below_drewN ?_ _) | (with_reducible refine below_via ?_ (by with_reducible assumption) ?_) | omega | (simp; done) | (simp; omega)))
          case measure => (simp [intOf]; omega)
    · have d2 : decide ((k : Int) < (l.length : Int)) = false := by simpa using hlt
      have hke : k = l.length := by omega
      have HSUM := Lib.hid (show IsBig wr (sumL l a) s2 A2 l2 c2 from by have h := HB2.out; rw [hke, List.take_length] at h; exact h)
      clear hke
      go_wp2_with fail
      refine bodyPost_ret (v := .agg #[.bool s2, .slice A2 l2.length c2]) (by simp [results, Try.results115, go_sem, r0, r1]; try rfl) rfl ⟨_, A2, l2, c2, rfl, (HSUM.out.far r0 (by simp) _).far ((World.cell?_setCell_other _ _ _ _ (by simp)).trans r1) (by simp) _, by omega, ?_⟩
      have hbl := Hbl.out.mono (show w.heap.size ≤ w.heap.size + 1 by omega)
      (repeat' (first | (with_reducible exact Below.refl _ _) | (with_reducible assumption) | (with_reducible refine Below.alloc ?_ ?_ _) | (with_reducible refine Below.setCell ?_ ?_ _) | (with_reducible refine Below.drew ?_) | (with_reducible refine below_drewN ?_ _) | (with_reducible refine below_via ?_ (by with_reducible assumption) ?_) | omega | (simp; done) | (simp; omega)))
end Go.Proofs.Ytiidplinmempcaa
