/- Accounts in tables: contracts of acct.Find, Put. -/
import Derived.Test.YtemhhojenocddaaAcct4
namespace Go.Proofs.Ytemhhojenocddaa
open Go.RowKit
theorem own_put4 {w : World} {base E : Nat} {v : Value} {rows : List (List Value)} (h : Own w base E 4 v rows) {g n c : Nat} (hv : v = .slice (some ⟨g, 0, none⟩) n c) {i : Nat} (hi : i < rows.length) (v0 v1 v2 v3 : Value) :
    Own ((((w.setCell ⟨g, i * 4, none⟩ v0).setCell ⟨g, i * 4 + 1, none⟩ v1).setCell ⟨g, i * 4 + 2, none⟩ v2).setCell ⟨g, i * 4 + 3, none⟩ v3) base E 4 v (rows.set i [v0, v1, v2, v3]) := by
  have hr := h.1 _ (List.getElem_mem hi)
  obtain ⟨p0, p1, p2, p3, he⟩ : ∃ p0 p1 p2 p3, rows[i] = [p0, p1, p2, p3] := by
    match h4 : rows[i], hr with
    | [p0, p1, p2, p3], _ => exact ⟨p0, p1, p2, p3, rfl⟩
  have h0 := h.put hv (List.getElem?_eq_getElem hi) (show 0 < 4 from by omega) v0
  have h1 := h0.put hv (List.getElem?_set_self (by simpa using hi)) (show 1 < 4 from by omega) v1
  have h2 := h1.put hv (List.getElem?_set_self (by simpa using hi)) (show 2 < 4 from by omega) v2
  have h3 := h2.put hv (List.getElem?_set_self (by simpa using hi)) (show 3 < 4 from by omega) v3
  simp only [List.set_set, he, List.set_cons_zero, List.set_cons_succ, Nat.add_zero] at h3
  exact h3
theorem insAcctAt_over (w : World) (gv g o lb cb m vc : Nat) (x : AcctV) (cur : Array Value) (hv : Blk w gv 24 #[.int .i64 x.id, .int .i64 x.member, .int .i64 x.kind, .slice x.clients.A x.clients.val.length x.clients.c]) (hg : Blk w g 24 cur) (hne : gv ≠ g) (hc : cur.size ≠ 0) :
    (callFunc 98 #[.slice (some ⟨gv, 0, none⟩) m vc, .slice (some ⟨g, o, none⟩) lb cb]).run Try.prog w = .ok (.value (.bool false)) w := by
  rw [run_callFunc_extern Try.func98 (by kernel_rfl) (by kernel_rfl) (by kernel_rfl) (e := Extern.SlicesOverlaps.overlaps #[42, 42] #[4]) (by kernel_rfl),
    Lib.run_overlaps_apart w 42 4 24 Try.underlying42 4 (fun _ => by kernel_rfl) ⟨gv, 0, none⟩ ⟨g, o, none⟩ m vc lb cb hne _ _ _ _ hv.shape hg.shape hc (hv.frozen 0) (hv.frozen _)]
  rfl
set_option maxRecDepth 100000 in
set_option maxHeartbeats 4000000 in
theorem insAcctAt (l : List AcctV) (x : AcctV) (i : Nat) (v : Value) (base gv : Nat) (w : World) (hi : i ≤ l.length) (hl : l.length ≤ 1048576) (hbs : base ≤ w.heap.size) (hown : Own w base 24 4 v (l.map encAcctV)) (hv : Blk w gv 24 #[.int .i64 x.id, .int .i64 x.member, .int .i64 x.kind, .slice x.clients.A x.clients.val.length x.clients.c]) (hne : v.ownBlock ≠ some gv) :
    Calls Try.prog 64 #[v, .int .i64 i, .slice (some ⟨gv, 0, none⟩) 1 1] w fun e w' => ∃ v', e = .returned v' ∧ Own w' base 24 4 v' ((l.take i ++ x :: l.drop i).map encAcctV) ∧ Below base w w' ∧ w.grownBy w' v.ownBlock := by
  have HOWN := Lib.hid hown
  have HV := Lib.hid hv
  have hil : (i : Int) ≤ (l.length : Int) := by omega
  obtain ⟨A, c, hv0, hrs, hform⟩ := hown.rs
  have hcap := hrs.cap
  have hroom := hrs.room
  rw [List.length_map] at hv0 hcap
  unfold maxLen at hroom
  subst hv0
  have HRD := Lib.hid hrs.rd
  clear hown hrs hv
  cases he : ((i : Int) == (l.length : Int))
  rotate_left
  · have hie : i = l.length := by have := eq_of_beq he; omega
    have HE := Lib.hid (show (l.take i ++ x :: l.drop i).map encAcctV = l.map encAcctV ++ [encAcctV x] from by rw [hie, List.take_length, List.drop_length]; simp)
    have hie1 : i ≤ l.length ∧ l.length ≤ i := by omega
    clear hie
    have tailc : (A = none ∧ l.length = 0 ∧ c = 0 ∧ i = 0) ∨ (∃ g, A = some ⟨g, 0, none⟩ ∧ c = i) ∨ (∃ g, A = some ⟨g, 0, none⟩ ∧ ¬ c = i) := by
      rcases hform with ⟨h1, h2, h3⟩ | ⟨g, h1, _⟩
      · left; exact ⟨h1, by simpa using congrArg List.length h2, h3, by have := congrArg List.length h2; simp at this; rw [this] at hie1; simpa using hie1.1⟩
      · right
        by_cases h : c = i
        · left; exact ⟨g, h1, h⟩
        · right; exact ⟨g, h1, h⟩
    rcases tailc with ⟨rfl, hl0, rfl, rfl⟩ | ⟨g, rfl, hc⟩ | ⟨g, rfl, hc⟩
    · have hl1 : l = [] := List.eq_nil_of_length_eq_zero hl0
      subst hl1
      simp only [List.length_nil]
      go_enter Try.func64, Try.ntmps64
      go_wp2_with (at_builtin; refine wpList_appG rfl _ _ _ rfl elAcctV base (.slice none 0 0) [] rfl (Own.nil _ _ _ _) ⟨gv, 0, none⟩ 1 1 rfl [encAcctV x] rfl HV.out.rd (rowsAcctV [x]) (by unfold maxLen; first | (simp; done) | omega | (simp; omega)) (by first | (simp; done) | omega | (simp; omega)) hbs ?_; intro v' w3 hown3 hb3 hg3)
      go_ret
      exact ⟨v', rfl, by simpa using hown3, hb3, hg3⟩
    · have hc' : ¬ c < i := by omega
      have hc2 : c ≤ i ∧ i ≤ c := by omega
      subst hc
      go_enter Try.func64, Try.ntmps64
      go_wp2_with (at_builtin; refine wpList_appG rfl _ _ _ rfl elAcctV base (.slice (some ⟨g, 0, none⟩) l.length c) (l.map encAcctV) rfl HOWN.out ⟨gv, 0, none⟩ 1 1 rfl [encAcctV x] rfl HV.out.rd (rowsAcctV [x]) (by unfold maxLen; first | (simp; done) | omega | (simp; omega)) (by first | (simp; done) | omega | (simp; omega)) hbs ?_; intro v' w3 hown3 hb3 hg3)
      go_ret
      exact ⟨v', rfl, by rw [HE.out]; exact hown3, hb3, hg3⟩
    · have hc' : ¬ i = c := by omega
      go_enter Try.func64, Try.ntmps64
      go_wp2_with (at_builtin; refine wpList_appG rfl _ _ _ rfl elAcctV base (.slice (some ⟨g, 0, none⟩) l.length c) (l.map encAcctV) rfl HOWN.out ⟨gv, 0, none⟩ 1 1 rfl [encAcctV x] rfl HV.out.rd (rowsAcctV [x]) (by unfold maxLen; first | (simp; done) | omega | (simp; omega)) (by first | (simp; done) | omega | (simp; omega)) hbs ?_; intro v' w3 hown3 hb3 hg3)
      go_ret
      exact ⟨v', rfl, by rw [HE.out]; exact hown3, hb3, hg3⟩
  have hlt : i < l.length := by
    rcases Nat.lt_or_ge i l.length with h | h
    · exact h
    · exfalso
      have e : (i : Int) = (l.length : Int) := by omega
      rw [e] at he
      simp at he
  obtain ⟨g, rfl, hgb, hgl⟩ : ∃ g, A = some ⟨g, 0, none⟩ ∧ base ≤ g ∧ g < w.heap.size := by
    rcases hform with ⟨_, h2, _⟩ | h
    · exfalso; have := congrArg List.length h2; simp at this; rw [this] at hlt; simp at hlt
    · exact h
  have hgne : g ≠ gv := by simpa [Value.ownBlock] using hne
  have hci : ¬ c = i := by omega
  have hci' : ¬ i = c := by omega
  have HX : Hid ((l.take i ++ x :: l.drop i).map encAcctV = (l.map encAcctV).take i ++ encAcctV x :: (l.map encAcctV).drop i) := by unfold Hid; simp [List.map_take, List.map_drop]
  have hrl : i < (l.map encAcctV).length := by rw [List.length_map]; exact hlt
  have il : (i : Int) < (l.length : Int) := by omega
  by_cases hgrow : c < l.length + 1
  · have hg1 : decide ((c : Int) < (l.length : Int) + 1) = true := by simp; omega
    have RT := Lib.hid (rd_take' HRD.out i)
    have rdr := rd_dropR HRD.out i
    rw [Nat.zero_add] at rdr
    have RDR := Lib.hid rdr
    clear rdr
    have lt1 : ((l.map encAcctV).take i).length = i := by rw [List.length_take]; omega
    have LT1 := Lib.hid lt1
    have LD1 := Lib.hid (show ((l.map encAcctV).drop i).length = l.length - i from by simp)
    have HRW := Lib.hid (rowsAcctV l)
    clear hform lt1
    go_enter Try.func64, Try.ntmps64
    go_wp2_with (first | (at_builtin; refine wpList_appZ rfl _ _ _ _ (kn := .i64) (by kernel_rfl) rfl elAcctV (sLen := i) (sCap := c) (m := l.length + 1 - i) (N := l.length + 1) rfl rfl (by omega) LT1.out RT.out (fun r hr => (HRW.out r (List.mem_of_mem_take hr)).1) (by omega) (by omega) (by omega) (by unfold maxLen; omega) (by omega) ?_; intro w3 c3 junk hj hown3 hb3; have HJ := Lib.hid hj; have hc3 := hown3.rd.2.2; have hjl : l.length + 1 ≤ c3 := (by have := hown3.rd.2.1; omega); have hm3 : c3 ≤ 9223372036854775807 := (by have := hc3.2; unfold maxLen at this; omega); have HO3 := Lib.hid hown3; have Hb3 := Lib.hid hb3; have hz3 := hb3.size; have hi3 : ¬ c3 = i := (by omega); have hi3' : ¬ i = c3 := (by omega); clear hj hown3 hc3 hb3) | (refine wpList_copyR rfl _ _ _ _ rfl elAcctV (base := w.heap.size) (g := w.heap.size) (n := l.length + 1) (d := i) (sLen := 1) (src := [encAcctV x]) rfl rfl HO3.out (by change 1 = min _ _; omega) (by change i + 1 ≤ _; omega) (HV.out.below Hb3.out HV.out.lt).rd (rowsAcctV [x]) ?_; intro w4 hown4 ho4; have HO4 := Lib.hid hown4; have Ho4 := Lib.hid ho4; have hz4 := ho4.size; clear hown4 ho4))
    have S1 := Lib.hid (show ((l.map encAcctV).drop i).length = Nat.min (l.length - i) (l.length - i) from by rw [LD1.out]; change _ = min _ _; omega)
    have S2 := Lib.hid (show i + 1 + ((l.map encAcctV).drop i).length ≤ l.length + 1 from by rw [LD1.out]; omega)
    have S3 := Lib.hid (show g ≠ w.heap.size from by omega)
    have wk : IntKind.i64.wrap ((i : Int) + 1) = (i : Int) + 1 := IntWalk.i64_in _ (by omega)
    have tk : ((i : Int) + 1).toNat = i + 1 := by omega
    have nk : (0 : Int) ≤ (i : Int) + 1 := by omega
    have ck : ¬ c3 = i + 1 := by omega
    have il1 : (i : Int) ≤ (l.length : Int) + 1 := by omega
    go_region_law (refine step_copyR rfl (.tmp 50) (.tmp 53) 42 42 rfl elAcctV (base := w.heap.size) (g := w.heap.size) (n := l.length + 1) (c := c3) (d := i + 1) (dLen := l.length - i) (dCap := c3 - (i + 1)) (sLen := l.length - i) (sCap := c - i) (ad := ⟨g, i * 4, none⟩) (rows := lay ((l.map encAcctV).take i ++ junk) [encAcctV x] i) (src := (l.map encAcctV).drop i) ?_ ?_ HO4.out.drew S1.out S2.out ((RDR.out.keep Hb3.out).only rfl Ho4.out S3.out).drew (fun r hr => HRW.out r (List.mem_of_mem_drop hr)) ?_; go_simp; go_simp; intro w5 hown5 ho5; have HO5 := Lib.hid hown5; have Ho5 := Lib.hid ho5.undrew; clear hown5 ho5)
    clear wk tk nk
    go_wp2_with fail
    go_ret
    refine ⟨_, rfl, ?_, ?_, ?_⟩
    · rw [HX.out, ← ins_grow hrl (by rw [HJ.out, List.length_map])]
      exact HO5.out.mono hbs
    · exact below_only (below_only (Hb3.out.mono hbs) Ho4.out (by omega) hbs) Ho5.out (by omega) hbs
    · exact grown_of_below (below_only (below_only Hb3.out Ho4.out (by omega) (Nat.le_refl _)) Ho5.out (by omega) (Nat.le_refl _))
  · have hg1 : decide ((c : Int) < (l.length : Int) + 1) = false := by simp; omega
    obtain ⟨junk, hj, hfull⟩ := HOWN.out.full
    have hhead := hfull.head (m := l.length + 1) (by omega)
    obtain ⟨cur, hcur⟩ := HOWN.out.blk rfl
    have hcs : cur.size ≠ 0 := by
      obtain ⟨cur', h1, _, _, _, _, h2, _⟩ := HOWN.out.raw
      unfold Blk at hcur
      rw [hcur] at h1
      injection h1 with h1
      injection h1 with h1 _ _
      subst h1
      omega
    have HJ := Lib.hid (show 0 < junk.length from by omega)
    have HH := Lib.hid hhead
    have hov := fun lb cb => insAcctAt_over w gv g ((i + 1) * 4) lb cb 1 1 x cur HV.out hcur (fun e => hgne e.symm) hcs
    have LD1 := Lib.hid (show ((l.map encAcctV).drop i).length = l.length - i from by simp)
    have HRW := Lib.hid (rowsAcctV l)
    have rdr := rd_dropR HRD.out i
    rw [Nat.zero_add] at rdr
    have RDR := Lib.hid rdr
    clear rdr
    clear hform hfull hhead hcur hcs hj
    go_enter Try.func64, Try.ntmps64
    go_wp2_with fail
    clear hov
    have S1 := Lib.hid (show ((l.map encAcctV).drop i).length = Nat.min (l.length + 1 - i) (l.length - i) from by rw [LD1.out]; change _ = min _ _; omega)
    have S2 := Lib.hid (show i + 1 + ((l.map encAcctV).drop i).length ≤ l.length + 1 from by rw [LD1.out]; omega)
    have wk : IntKind.i64.wrap ((i : Int) + 1) = (i : Int) + 1 := IntWalk.i64_in _ (by omega)
    have tk : ((i : Int) + 1).toNat = i + 1 := by omega
    have nk : (0 : Int) ≤ (i : Int) + 1 := by omega
    have ck : ¬ c = i + 1 := by omega
    have il1 : (i : Int) ≤ (l.length : Int) + 1 := by omega
    go_region_law (refine step_copyR rfl (.tmp 73) (.tmp 76) 42 42 rfl elAcctV (base := base) (g := g) (n := l.length + 1) (c := c) (d := i + 1) (dLen := l.length - i) (dCap := c - (i + 1)) (sLen := l.length + 1 - i) (sCap := c - i) (ad := ⟨g, i * 4, none⟩) (rows := (l.map encAcctV ++ junk).take (l.length + 1)) (src := (l.map encAcctV).drop i) ?_ ?_ HH.out.drew S1.out S2.out RDR.out.drew (fun r hr => HRW.out r (List.mem_of_mem_drop hr)) ?_; go_simp; go_simp; intro w5 hown5 ho5; have HO5 := Lib.hid hown5; have Ho5 := Lib.hid ho5.undrew; clear hown5 ho5)
    clear wk tk nk
    go_wp2_with (refine wpList_copyR rfl _ _ _ _ rfl elAcctV (base := base) (g := g) (n := l.length + 1) (c := c) (d := i) (sLen := 1) (src := [encAcctV x]) rfl rfl HO5.out (by change 1 = min _ _; omega) (by change i + 1 ≤ _; omega) (HV.out.only Ho5.out (fun e => hgne e.symm)).rd (rowsAcctV [x]) ?_; intro w6 hown6 ho6; have HO6 := Lib.hid hown6; have Ho6 := Lib.hid ho6; clear hown6 ho6)
    go_ret
    refine ⟨_, rfl, ?_, ?_, ?_⟩
    · rw [HX.out, ← ins_room hrl HJ.out, List.length_map]
      exact HO6.out
    · exact below_only (below_only (Below.refl _ _) Ho5.out hbs hgb) Ho6.out (by have := Ho5.out.size; omega) hgb
    · exact grown_of_only Ho5.out Ho6.out
/-- A table in memory of its own, and why not: what the program's Put, Set answer. -/
def AcctPost (w : World) (L : List Acct) (code : Int) (e : Ending) (w' : World) : Prop :=
  ∃ (v : Value) (ys : List AcctV), e = .returned (.tuple #[v, .int .i64 code]) ∧ ys.map lgA = L ∧ Own w' w.heap.size 24 4 v (ys.map encAcctV) ∧ (∀ y ∈ ys, Rs w' 1 (y.clients.val.map encI) y.clients.A y.clients.c) ∧ Below w.heap.size w w'
set_option maxRecDepth 100000 in
set_option maxHeartbeats 4000000 in
theorem acctFind (l : List AcctV) (id : Int) (A : Option Addr) (c : Nat) (w : World) (hl : l.length ≤ 1000000) (hs : SortedAcctV l) (hr : Rd w A 4 (l.map encAcctV)) (hg : ∀ x ∈ l, x.clients.val.length ≤ 1048576 ∧ GoodA w x) :
    Calls Try.prog 29 #[.slice A l.length c, .int .i64 id] w fun e w' => ∃ y : AcctV, e = .returned (.tuple #[.agg #[.int .i64 y.id, .int .i64 y.member, .int .i64 y.kind, .slice y.clients.A y.clients.val.length y.clients.c], .bool (findAcctV l id).2]) ∧ lgA y = lgA (findAcctV l id).1 ∧ GoodA w' y ∧ Below w.heap.size w w' := by
  have c1 := fun W (h : Rd W A 4 (l.map encAcctV)) => acctPlace l id A c W (by omega) h
  have HR := Lib.hid hr
  have hf := find_place hs id
  cases hb : plB l id
  · rw [hb] at c1
    have hz : findAcctV l id = (⟨0, 0, 0, ⟨none, 0, []⟩⟩, false) := findAcctV_miss (fun j hj => by
      cases h : (l[j].id == id)
      · rfl
      · exfalso
        have h1 := hf.1
        rw [hb] at h1
        unfold findAcctV at h1
        cases hq : l.find? (fun m => m.id == id) with
        | none => rw [List.find?_eq_none] at hq; exact hq _ (List.getElem_mem hj) h
        | some m => rw [hq] at h1; cases h1)
    rw [hz]
    have C1 := Lib.hid c1
    clear hr c1 hf hg hb hz
    go_enter Try.func29, Try.ntmps29
    go_wp2_with (go_at_call 63; (with_reducible refine (C1.out _ (HR.out.keep (by (repeat' (first | (with_reducible exact Below.refl _ _) | (with_reducible assumption) | (with_reducible refine Below.alloc ?_ ?_ _) | (with_reducible refine Below.setCell ?_ ?_ _) | (with_reducible refine Below.drew ?_) | (with_reducible refine below_drewN ?_ _) | (with_reducible refine below_via ?_ (by with_reducible assumption) ?_) | omega | (simp; done) | (simp; omega)))))).mono ?_); rintro e w1 ⟨rfl, hb1⟩; obtain ⟨fc1, fg1, hc1, hf1, hz1⟩ := bget hb1; try simp at hz1)
    refine bodyPost_ret (v := .tuple #[.agg #[.int .i64 0, .int .i64 0, .int .i64 0, .slice none 0 0], .bool false]) (by simp [results, Try.results29, go_sem, hc1]; try rfl) rfl ⟨⟨0, 0, 0, ⟨none, 0, []⟩⟩, rfl, rfl, Rs.empty _ _, ?_⟩
    (repeat' (first | (with_reducible exact Below.refl _ _) | (with_reducible assumption) | (with_reducible refine Below.alloc ?_ ?_ _) | (with_reducible refine Below.setCell ?_ ?_ _) | (with_reducible refine Below.drew ?_) | (with_reducible refine below_drewN ?_ _) | (with_reducible refine below_via ?_ (by with_reducible assumption) ?_) | omega | (simp; done) | (simp; omega)))
  · rw [hb] at c1
    have hk := plB_lt hb
    rw [hf.2 hk hb]
    generalize plN l id = k at c1 hk
    have C1 := Lib.hid c1
    have kl : (k : Int) < (l.length : Int) := by omega
    obtain ⟨b, o, rfl, hb, hc⟩ := hr k (encAcctV l[k]) (by simp [hk])
    have e0 := hc 0 _ rfl
    have e1 := hc 1 _ rfl
    have e2 := hc 2 _ rfl
    have e3 := hc 3 _ rfl
    simp only [Nat.add_zero] at e0
    have hx := hg l[k] (List.getElem_mem hk)
    have HX := Lib.hid (fun W (h : Below w.heap.size w W) => acctOwn l[k] W hx.1 (hx.2.keep h))
    clear hr hc c1 hf hg hx
    go_enter Try.func29, Try.ntmps29
    go_wp2_with (first | (go_at_call 63; (with_reducible refine (C1.out _ (HR.out.keep (by (repeat' (first | (with_reducible exact Below.refl _ _) | (with_reducible assumption) | (with_reducible refine Below.alloc ?_ ?_ _) | (with_reducible refine Below.setCell ?_ ?_ _) | (with_reducible refine Below.drew ?_) | (with_reducible refine below_drewN ?_ _) | (with_reducible refine below_via ?_ (by with_reducible assumption) ?_) | omega | (simp; done) | (simp; omega)))))).mono ?_); rintro e w1 ⟨rfl, hb1⟩; obtain ⟨fc1, fg1, hc1, hf1, hz1⟩ := bget hb1; try simp at hz1) | (go_at_call 66; (with_reducible refine (HX.out _ (by (repeat' (first | (with_reducible exact Below.refl _ _) | (with_reducible assumption) | (with_reducible refine Below.alloc ?_ ?_ _) | (with_reducible refine Below.setCell ?_ ?_ _) | (with_reducible refine Below.drew ?_) | (with_reducible refine below_drewN ?_ _) | (with_reducible refine below_via ?_ (by with_reducible assumption) ?_) | omega | (simp; done) | (simp; omega))))).mono ?_); rintro e w2 ⟨s, hs, rfl, hown2, hb2⟩; have Hs := Lib.hid hs; have Hown2 := Lib.hid hown2; clear hs hown2; obtain ⟨fc2, fg2, hc2, hf2, hz2⟩ := bget hb2; (try simp at hz2)) | fail)
    refine bodyPost_ret (v := .tuple #[.agg #[.int .i64 l[k].id, .int .i64 l[k].member, .int .i64 l[k].kind, .slice s.A s.val.length s.c], .bool true]) (by simp [results, Try.results29, go_sem, hc2, hc1, ↓IntWalk.iteOmega]; try rfl) rfl ⟨{ l[k] with clients := s }, rfl, ?_, ?_, ?_⟩
    · simp only [lgA, Hs.out]
    · have h0 := Hown2.out.mono (b := w.heap.size + 1) (by omega)
      refine Own.good (base := w.heap.size + 1) (E := 3) (n := s.val.length) ?_
      (repeat' (first | (with_reducible assumption) | (with_reducible refine Own.farLow ?_ ?_ _) | (simp; done) | omega))
    · (repeat' (first | (with_reducible exact Below.refl _ _) | (with_reducible assumption) | (with_reducible refine Below.alloc ?_ ?_ _) | (with_reducible refine Below.setCell ?_ ?_ _) | (with_reducible refine Below.drew ?_) | (with_reducible refine below_drewN ?_ _) | (with_reducible refine below_via ?_ (by with_reducible assumption) ?_) | omega | (simp; done) | (simp; omega)))
theorem map_ins {α β : Type} {f : α → β} {ys l : List α} (h : ys.map f = l.map f) (n : Nat) {a b : α} (hab : f a = f b) : (ys.take n ++ a :: ys.drop n).map f = (l.take n ++ b :: l.drop n).map f := by
  simp only [List.map_append, List.map_cons, List.map_take, List.map_drop, h, hab]
theorem ins_placeA (l : List AcctV) (m : AcctV) : insAcctV l m = l.take (plN l m.id) ++ m :: l.drop (plN l m.id) := by
  unfold insAcctV plN; rw [← tw_take, ← dw_drop]
set_option maxRecDepth 100000 in
set_option maxHeartbeats 8000000 in
theorem acctPut (l : List AcctV) (m : AcctV) (A : Option Addr) (c : Nat) (w : World) (hl : l.length ≤ 900000) (hs : SortedAcctV l) (hr : Rs w 4 (l.map encAcctV) A c) (hg : ∀ x ∈ l, x.clients.val.length ≤ 1048576 ∧ GoodA w x) (hml : m.clients.val.length ≤ 1048576) (hmg : GoodA w m) :
    Calls Try.prog 25 #[.slice A l.length c, .agg #[.int .i64 m.id, .int .i64 m.member, .int .i64 m.kind, .slice m.clients.A m.clients.val.length m.clients.c]] w (AcctPost w ((putAcctVL (okAV m) l m).map lgA) (putAcctVC (okAV m) l m)) := by
  have HR := Lib.hid hr
  have c1 := fun W (h : Below w.heap.size w W) => acctCheckV m W (by omega) (hmg.keep h)
  have c2 := fun W (h : Rd W A 4 (l.map encAcctV)) => acctPlace l m.id A c W (by omega) h
  clear hr
  by_cases hok : okA (lgA m)
  rotate_left
  · rw [codeA_no hok] at c1
    rw [show okAV m = false from decide_eq_false hok]
    have hp : putAcctVL false l m = [] := by unfold putAcctVL; rw [if_neg (fun h => by cases h.1)]
    have hq : putAcctVC false l m = 2 := rfl
    have HP := Lib.hid hp
    have HQ := Lib.hid hq
    have C1 := Lib.hid c1
    clear c1 c2 hp hq hok hg hmg
    go_enter Try.func25, Try.ntmps25
    go_wp2_with (go_at_call 11; (with_reducible refine (C1.out _ (by (repeat' (first | (with_reducible exact Below.refl _ _) | (with_reducible assumption) | (with_reducible refine Below.alloc ?_ ?_ _) | (with_reducible refine Below.setCell ?_ ?_ _) | (with_reducible refine Below.drew ?_) | (with_reducible refine below_drewN ?_ _) | (with_reducible refine below_via ?_ (by with_reducible assumption) ?_) | omega | (simp; done) | (simp; omega))))).mono ?_); rintro e w1 ⟨rfl, hb1⟩; obtain ⟨fc1, fg1, hc1, hf1, hz1⟩ := bget hb1; try simp at hz1)
    go_ret2
    exact ⟨_, [], by rw [HQ.out]; rfl, by rw [HP.out], Own.nil _ _ _ _, fun y hy => absurd hy (by simp), by (repeat' (first | (with_reducible exact Below.refl _ _) | (with_reducible assumption) | (with_reducible refine Below.alloc ?_ ?_ _) | (with_reducible refine Below.setCell ?_ ?_ _) | (with_reducible refine Below.drew ?_) | (with_reducible refine below_drewN ?_ _) | (with_reducible refine below_via ?_ (by with_reducible assumption) ?_) | omega | (simp; done) | (simp; omega)))⟩
  rw [codeA_yes hok] at c1
  rw [show okAV m = true from decide_eq_true hok]
  have C1 := Lib.hid c1
  have hf2 := (find_place hs m.id).1
  have hin := ins_placeA l m
  have hnl : plN l m.id ≤ l.length := tw_len _ _
  cases hb : plB l m.id
  rotate_left
  · rw [hb] at c2 hf2
    have hp : putAcctVL true l m = [] := by unfold putAcctVL; rw [hf2, if_neg (by simp)]
    have hq : putAcctVC true l m = 12 := by unfold putAcctVC; rw [hf2]; rfl
    have HP := Lib.hid hp
    have HQ := Lib.hid hq
    have C2 := Lib.hid c2
    clear c1 c2 hp hq hok hf2 hg hmg hb hin
    go_enter Try.func25, Try.ntmps25
    go_wp2_with (first | (go_at_call 11; (with_reducible refine (C1.out _ (by (repeat' (first | (with_reducible exact Below.refl _ _) | (with_reducible assumption) | (with_reducible refine Below.alloc ?_ ?_ _) | (with_reducible refine Below.setCell ?_ ?_ _) | (with_reducible refine Below.drew ?_) | (with_reducible refine below_drewN ?_ _) | (with_reducible refine below_via ?_ (by with_reducible assumption) ?_) | omega | (simp; done) | (simp; omega))))).mono ?_); rintro e w1 ⟨rfl, hb1⟩; obtain ⟨fc1, fg1, hc1, hf1, hz1⟩ := bget hb1; try simp at hz1) | (go_at_call 63; (with_reducible refine (C2.out _ (HR.out.rd.keep (by (repeat' (first | (with_reducible exact Below.refl _ _) | (with_reducible assumption) | (with_reducible refine Below.alloc ?_ ?_ _) | (with_reducible refine Below.setCell ?_ ?_ _) | (with_reducible refine Below.drew ?_) | (with_reducible refine below_drewN ?_ _) | (with_reducible refine below_via ?_ (by with_reducible assumption) ?_) | omega | (simp; done) | (simp; omega)))))).mono ?_); rintro e w2 ⟨rfl, hb2⟩; obtain ⟨fc2, fg2, hc2, hf2, hz2⟩ := bget hb2; try simp at hz2) | fail)
    go_ret2
    exact ⟨_, [], by rw [HQ.out]; rfl, by rw [HP.out], Own.nil _ _ _ _, fun y hy => absurd hy (by simp), by (repeat' (first | (with_reducible exact Below.refl _ _) | (with_reducible assumption) | (with_reducible refine Below.alloc ?_ ?_ _) | (with_reducible refine Below.setCell ?_ ?_ _) | (with_reducible refine Below.drew ?_) | (with_reducible refine below_drewN ?_ _) | (with_reducible refine below_via ?_ (by with_reducible assumption) ?_) | omega | (simp; done) | (simp; omega)))⟩
  rw [hb] at c2 hf2
  have hp : putAcctVL true l m = l.take (plN l m.id) ++ m :: l.drop (plN l m.id) := by unfold putAcctVL; rw [hf2, if_pos ⟨rfl, rfl⟩]; exact hin
  have hq : putAcctVC true l m = 0 := by unfold putAcctVC; rw [hf2]; rfl
  generalize plN l m.id = n at c2 hp hnl
  have HP := Lib.hid hp
  have HQ := Lib.hid hq
  have C2 := Lib.hid c2
  have HG := Lib.hid (fun W (h : Below w.heap.size w W) => acctCopied l A c W (by omega) (HR.out.rd.keep h) (fun x hx => ⟨(hg x hx).1, (hg x hx).2.keep h⟩))
  have HM := Lib.hid (fun W (h : Below w.heap.size w W) => acctOwn m W hml (hmg.keep h))
  clear c1 c2 hp hq hok hf2 hg hmg hb hin
  go_enter Try.func25, Try.ntmps25
  go_wp2_with (first | (go_at_call 11; (with_reducible refine (C1.out _ (by (repeat' (first | (with_reducible exact Below.refl _ _) | (with_reducible assumption) | (with_reducible refine Below.alloc ?_ ?_ _) | (with_reducible refine Below.setCell ?_ ?_ _) | (with_reducible refine Below.drew ?_) | (with_reducible refine below_drewN ?_ _) | (with_reducible refine below_via ?_ (by with_reducible assumption) ?_) | omega | (simp; done) | (simp; omega))))).mono ?_); rintro e w1 ⟨rfl, hb1⟩; obtain ⟨fc1, fg1, hc1, hf1, hz1⟩ := bget hb1; try simp at hz1) | (go_at_call 63; (with_reducible refine (C2.out _ (HR.out.rd.keep (by (repeat' (first | (with_reducible exact Below.refl _ _) | (with_reducible assumption) | (with_reducible refine Below.alloc ?_ ?_ _) | (with_reducible refine Below.setCell ?_ ?_ _) | (with_reducible refine Below.drew ?_) | (with_reducible refine below_drewN ?_ _) | (with_reducible refine below_via ?_ (by with_reducible assumption) ?_) | omega | (simp; done) | (simp; omega)))))).mono ?_); rintro e w2 ⟨rfl, hb2⟩; obtain ⟨fc2, fg2, hc2, hf2, hz2⟩ := bget hb2; try simp at hz2) | fail)
  have m0 : w2.cell? ⟨w.heap.size, 0, none⟩ = some (.int .i64 m.id) := (by simp [hc2, hc1, go_sem, ↓IntWalk.iteOmega])
  have m1 : w2.cell? ⟨w.heap.size, 1, none⟩ = some (.int .i64 m.member) := (by simp [hc2, hc1, go_sem, ↓IntWalk.iteOmega])
  have m2 : w2.cell? ⟨w.heap.size, 2, none⟩ = some (.int .i64 m.kind) := (by simp [hc2, hc1, go_sem, ↓IntWalk.iteOmega])
  have m3 : w2.cell? ⟨w.heap.size, 3, none⟩ = some (.slice m.clients.A m.clients.val.length m.clients.c) := (by simp [hc2, hc1, go_sem, ↓IntWalk.iteOmega])
  go_region_held3 (fun w' => w'.cell? ⟨w.heap.size, 0, none⟩ = some (.int .i64 m.id) ∧ w'.cell? ⟨w.heap.size, 1, none⟩ = some (.int .i64 m.member) ∧ w'.cell? ⟨w.heap.size, 2, none⟩ = some (.int .i64 m.kind) ∧ w'.cell? ⟨w.heap.size, 3, none⟩ = some (.slice m.clients.A m.clients.val.length m.clients.c)) (first | (simp [go_sem]; done) | (repeat' (first | (with_reducible assumption) | (with_reducible refine And.intro ?_ ?_) | (with_reducible refine cell_drew ?_) | (with_reducible refine cell_via (by with_reducible assumption) ?_ ?_) | (simp [*]; done) | (simp [go_sem]; done) | (with_reducible refine cell_alloc ?_ ?_) | (with_reducible refine cell_set_far ?_ ?_) | omega | (simp; omega)))) (first | (go_at_call 65; (with_reducible refine (HG.out _ (by (repeat' (first | (with_reducible exact Below.refl _ _) | (with_reducible assumption) | (with_reducible refine Below.alloc ?_ ?_ _) | (with_reducible refine Below.setCell ?_ ?_ _) | (with_reducible refine Below.drew ?_) | (with_reducible refine below_drewN ?_ _) | (with_reducible refine below_via ?_ (by with_reducible assumption) ?_) | omega | (simp; done) | (simp; omega))))).mono ?_); rintro e w4 ⟨v4, ys, rfl, hlg4, hown4, hys4, hb4⟩; have HL4 := Lib.hid hlg4; have HO4 := Lib.hid hown4; have HY4 := Lib.hid hys4; have HW4 := Lib.hid hown4.block; clear hlg4 hown4 hys4; obtain ⟨fc4, fg4, hc4, hf4, hz4⟩ := bget hb4; (try simp at hz4)) | (go_at_call 66; (with_reducible refine (HM.out _ (by (repeat' (first | (with_reducible exact Below.refl _ _) | (with_reducible assumption) | (with_reducible refine Below.alloc ?_ ?_ _) | (with_reducible refine Below.setCell ?_ ?_ _) | (with_reducible refine Below.drew ?_) | (with_reducible refine below_drewN ?_ _) | (with_reducible refine below_via ?_ (by with_reducible assumption) ?_) | omega | (simp; done) | (simp; omega))))).mono ?_); rintro e w5 ⟨s, hs, rfl, hown5, hb5⟩; have HS := Lib.hid hs; have HO5 := Lib.hid hown5; clear hs hown5; obtain ⟨fc5, fg5, hc5, hf5, hz5⟩ := bget hb5; (try simp at hz5)) | (go_at_call 64; (with_reducible refine (insAcctAt ys { m with clients := s } n v4 w2.heap.size _ _ ?_ ?_ ?_ ?_ ?_ ?_).mono ?_); (focus (have := congrArg List.length HL4.out; simp only [List.length_map] at this; omega)); (focus (have := congrArg List.length HL4.out; simp only [List.length_map] at this; omega)); (focus (first | omega | (simp; done) | (simp; omega))); (focus (exact ((HO4.out.keep hb5).alloc _))); (focus (exact Blk.new _ _ _)); (focus (intro h; have h2 := HW4.out _ h; (first | omega | (simp at h2; done) | (simp at h2; omega)))); rintro e w6 ⟨v6, rfl, hown6, hb6, hg6⟩; have HO6 := Lib.hid hown6; have HG6 := Lib.hid hg6; clear hown6 hg6; obtain ⟨fc6, fg6, hc6, hf6, hz6⟩ := bget hb6; (try simp at hz6)) | fail)
  all_goals
    go_wp2_with fail
    go_ret2
    have haw : Away 24 w5 w6 := (Away.below ((Below.refl _ _).alloc (Nat.le_refl _) _)).trans (Away.grown HG6.out (Own.typed ((HO4.out.keep hb5).alloc _)))
    refine ⟨_, ys.take n ++ { m with clients := s } :: ys.drop n, by rw [HQ.out]; rfl, ?_, ?_, ?_, by (repeat' (first | (with_reducible exact Below.refl _ _) | (with_reducible assumption) | (with_reducible refine Below.alloc ?_ ?_ _) | (with_reducible refine Below.setCell ?_ ?_ _) | (with_reducible refine Below.drew ?_) | (with_reducible refine below_drewN ?_ _) | (with_reducible refine below_via ?_ (by with_reducible assumption) ?_) | omega | (simp; done) | (simp; omega)))⟩
    · rw [HP.out]
      exact map_ins HL4.out n (by simp only [lgA, HS.out])
    · exact HO6.out.mono (by omega)
    · intro y hy
      rcases List.mem_append.1 hy with h | h
      · exact Own.good (((HY4.out y (List.mem_of_mem_take h)).keep hb5).away haw (by decide))
      · rcases List.mem_cons.1 h with rfl | h
        · exact Own.good (HO5.out.away haw (by decide))
        · exact Own.good (((HY4.out y (List.mem_of_mem_drop h)).keep hb5).away haw (by decide))
end Go.Proofs.Ytemhhojenocddaa
