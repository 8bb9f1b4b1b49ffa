/- Accounts: contracts of slices.Insert of a whole number, acct.Bind. -/
import Derived.Test.YtemhhojenocddaaAcct2
namespace Go.Proofs.Ytemhhojenocddaa
open Go.RowKit
theorem insIntAt_over (w : World) (gv g o lb cb m vc : Nat) (x : Int) (cur : Array Value) (hv : Blk w gv 3 #[.int .i64 x]) (hg : Blk w g 3 cur) (hne : gv ≠ g) (hc : cur.size ≠ 0) :
    (callFunc 96 #[.slice (some ⟨gv, 0, none⟩) m vc, .slice (some ⟨g, o, none⟩) lb cb]).run Try.prog w = .ok (.value (.bool false)) w := by
  rw [run_callFunc_extern Try.func96 (by kernel_rfl) (by kernel_rfl) (by kernel_rfl) (e := Extern.SlicesOverlaps.overlaps #[22, 22] #[4]) (by kernel_rfl),
    Lib.run_overlaps_apart w 22 4 3 Try.underlying22 1 (fun _ => by kernel_rfl) ⟨gv, 0, none⟩ ⟨g, o, none⟩ m vc lb cb hne _ _ _ _ hv.shape hg.shape hc (hv.frozen 0) (hv.frozen _)]
  rfl
set_option maxRecDepth 100000 in
set_option maxHeartbeats 4000000 in
theorem insIntAt (l : List Int) (x : Int) (i : Nat) (v : Value) (base gv : Nat) (w : World) (hi : i ≤ l.length) (hl : l.length ≤ 1048576) (hbs : base ≤ w.heap.size) (hown : Own w base 3 1 v (l.map encI)) (hv : Blk w gv 3 #[.int .i64 x]) (hne : v.ownBlock ≠ some gv) :
    Calls Try.prog 61 #[v, .int .i64 i, .slice (some ⟨gv, 0, none⟩) 1 1] w fun e w' => ∃ v', e = .returned v' ∧ Own w' base 3 1 v' ((l.take i ++ x :: l.drop i).map encI) ∧ Below base w w' ∧ w.grownBy w' v.ownBlock := by
  have HOWN := Lib.hid hown
  have HV := Lib.hid hv
  have hil : (i : Int) ≤ (l.length : Int) := by omega
  obtain ⟨A, c, hv0, hrs, hform⟩ := hown.rs
  have hcap := hrs.cap
  have hroom := hrs.room
  rw [List.length_map] at hv0 hcap
  unfold maxLen at hroom
  subst hv0
  have HRD := Lib.hid hrs.rd
  clear hown hrs hv
  cases he : ((i : Int) == (l.length : Int))
  rotate_left
  · have hie : i = l.length := by have := eq_of_beq he; omega
    have HE := Lib.hid (show (l.take i ++ x :: l.drop i).map encI = l.map encI ++ [encI x] from by rw [hie, List.take_length, List.drop_length]; simp)
    have hie1 : i ≤ l.length ∧ l.length ≤ i := by omega
    clear hie
    have tailc : (A = none ∧ l.length = 0 ∧ c = 0 ∧ i = 0) ∨ (∃ g, A = some ⟨g, 0, none⟩ ∧ c = i) ∨ (∃ g, A = some ⟨g, 0, none⟩ ∧ ¬ c = i) := by
      rcases hform with ⟨h1, h2, h3⟩ | ⟨g, h1, _⟩
      · left; exact ⟨h1, by simpa using congrArg List.length h2, h3, by have := congrArg List.length h2; simp at this; rw [this] at hie1; simpa using hie1.1⟩
      · right
        by_cases h : c = i
        · left; exact ⟨g, h1, h⟩
        · right; exact ⟨g, h1, h⟩
    rcases tailc with ⟨rfl, hl0, rfl, rfl⟩ | ⟨g, rfl, hc⟩ | ⟨g, rfl, hc⟩
    · have hl1 : l = [] := List.eq_nil_of_length_eq_zero hl0
      subst hl1
      simp only [List.length_nil]
      go_enter Try.func61, Try.ntmps61
      go_wp2_with (at_builtin; refine wpList_appG rfl _ _ _ rfl elN base (.slice none 0 0) [] rfl (Own.nil _ _ _ _) ⟨gv, 0, none⟩ 1 1 rfl [encI x] rfl HV.out.rd (rowsJ [x]) (by unfold maxLen; first | (simp; done) | omega | (simp; omega)) (by first | (simp; done) | omega | (simp; omega)) hbs ?_; intro v' w3 hown3 hb3 hg3)
      go_ret
      exact ⟨v', rfl, by simpa using hown3, hb3, hg3⟩
    · have hc' : ¬ c < i := by omega
      have hc2 : c ≤ i ∧ i ≤ c := by omega
      subst hc
      go_enter Try.func61, Try.ntmps61
      go_wp2_with (at_builtin; refine wpList_appG rfl _ _ _ rfl elN base (.slice (some ⟨g, 0, none⟩) l.length c) (l.map encI) rfl HOWN.out ⟨gv, 0, none⟩ 1 1 rfl [encI x] rfl HV.out.rd (rowsJ [x]) (by unfold maxLen; first | (simp; done) | omega | (simp; omega)) (by first | (simp; done) | omega | (simp; omega)) hbs ?_; intro v' w3 hown3 hb3 hg3)
      go_ret
      exact ⟨v', rfl, by rw [HE.out]; exact hown3, hb3, hg3⟩
    · have hc' : ¬ i = c := by omega
      go_enter Try.func61, Try.ntmps61
      go_wp2_with (at_builtin; refine wpList_appG rfl _ _ _ rfl elN base (.slice (some ⟨g, 0, none⟩) l.length c) (l.map encI) rfl HOWN.out ⟨gv, 0, none⟩ 1 1 rfl [encI x] rfl HV.out.rd (rowsJ [x]) (by unfold maxLen; first | (simp; done) | omega | (simp; omega)) (by first | (simp; done) | omega | (simp; omega)) hbs ?_; intro v' w3 hown3 hb3 hg3)
      go_ret
      exact ⟨v', rfl, by rw [HE.out]; exact hown3, hb3, hg3⟩
  have hlt : i < l.length := by
    rcases Nat.lt_or_ge i l.length with h | h
    · exact h
    · exfalso
      have e : (i : Int) = (l.length : Int) := by omega
      rw [e] at he
      simp at he
  obtain ⟨g, rfl, hgb, hgl⟩ : ∃ g, A = some ⟨g, 0, none⟩ ∧ base ≤ g ∧ g < w.heap.size := by
    rcases hform with ⟨_, h2, _⟩ | h
    · exfalso; have := congrArg List.length h2; simp at this; rw [this] at hlt; simp at hlt
    · exact h
  have hgne : g ≠ gv := by simpa [Value.ownBlock] using hne
  have hci : ¬ c = i := by omega
  have hci' : ¬ i = c := by omega
  have HX : Hid ((l.take i ++ x :: l.drop i).map encI = (l.map encI).take i ++ encI x :: (l.map encI).drop i) := by unfold Hid; simp [List.map_take, List.map_drop]
  have hrl : i < (l.map encI).length := by rw [List.length_map]; exact hlt
  have il : (i : Int) < (l.length : Int) := by omega
  by_cases hgrow : c < l.length + 1
  · have hg1 : decide ((c : Int) < (l.length : Int) + 1) = true := by simp; omega
    have RT := Lib.hid (rd_take' HRD.out i)
    have rdr := rd_dropR HRD.out i
    rw [Nat.zero_add, Nat.mul_one] at rdr
    have RDR := Lib.hid rdr
    clear rdr
    have lt1 : ((l.map encI).take i).length = i := by rw [List.length_take]; omega
    have LT1 := Lib.hid lt1
    have LD1 := Lib.hid (show ((l.map encI).drop i).length = l.length - i from by simp)
    have HRW := Lib.hid (rowsJ l)
    clear hform lt1
    go_enter Try.func61, Try.ntmps61
    go_wp2_with (first | (at_builtin; refine wpList_appZ rfl _ _ _ _ (kn := .i64) (by kernel_rfl) rfl elN (sLen := i) (sCap := c) (m := l.length + 1 - i) (N := l.length + 1) rfl rfl (by omega) LT1.out RT.out (fun r hr => (HRW.out r (List.mem_of_mem_take hr)).1) (by omega) (by omega) (by omega) (by unfold maxLen; omega) (by omega) ?_; intro w3 c3 junk hj hown3 hb3; have HJ := Lib.hid hj; have hc3 := hown3.rd.2.2; have hjl : l.length + 1 ≤ c3 := (by have := hown3.rd.2.1; omega); have hm3 : c3 ≤ 9223372036854775807 := (by have := hc3.2; unfold maxLen at this; omega); have HO3 := Lib.hid hown3; have Hb3 := Lib.hid hb3; have hz3 := hb3.size; have hi3 : ¬ c3 = i := (by omega); have hi3' : ¬ i = c3 := (by omega); clear hj hown3 hc3 hb3) | (refine wpList_copyR rfl _ _ _ _ rfl elN (base := w.heap.size) (g := w.heap.size) (n := l.length + 1) (d := i) (sLen := 1) (src := [encI x]) (by simp only [Nat.mul_one]; rfl) rfl HO3.out (by change 1 = min _ _; omega) (by change i + 1 ≤ _; omega) (HV.out.below Hb3.out HV.out.lt).rd (rowsJ [x]) ?_; intro w4 hown4 ho4; have HO4 := Lib.hid hown4; have Ho4 := Lib.hid ho4; have hz4 := ho4.size; clear hown4 ho4))
    have S1 := Lib.hid (show ((l.map encI).drop i).length = Nat.min (l.length - i) (l.length - i) from by rw [LD1.out]; change _ = min _ _; omega)
    have S2 := Lib.hid (show i + 1 + ((l.map encI).drop i).length ≤ l.length + 1 from by rw [LD1.out]; omega)
    have S3 := Lib.hid (show g ≠ w.heap.size from by omega)
    have wk : IntKind.i64.wrap ((i : Int) + 1) = (i : Int) + 1 := IntWalk.i64_in _ (by omega)
    have tk : ((i : Int) + 1).toNat = i + 1 := by omega
    have nk : (0 : Int) ≤ (i : Int) + 1 := by omega
    have ck : ¬ c3 = i + 1 := by omega
    have il1 : (i : Int) ≤ (l.length : Int) + 1 := by omega
    go_region_law (refine step_copyR rfl (.tmp 50) (.tmp 53) 22 22 rfl elN (base := w.heap.size) (g := w.heap.size) (n := l.length + 1) (c := c3) (d := i + 1) (dLen := l.length - i) (dCap := c3 - (i + 1)) (sLen := l.length - i) (sCap := c - i) (ad := ⟨g, i, none⟩) (rows := lay ((l.map encI).take i ++ junk) [encI x] i) (src := (l.map encI).drop i) ?_ ?_ HO4.out.drew S1.out S2.out ((RDR.out.keep Hb3.out).only rfl Ho4.out S3.out).drew (fun r hr => HRW.out r (List.mem_of_mem_drop hr)) ?_; (simp only [Nat.mul_one]; go_simp); go_simp; intro w5 hown5 ho5; have HO5 := Lib.hid hown5; have Ho5 := Lib.hid ho5.undrew; clear hown5 ho5)
    clear wk tk nk
    go_wp2_with fail
    go_ret
    refine ⟨_, rfl, ?_, ?_, ?_⟩
    · rw [HX.out, ← ins_grow hrl (by rw [HJ.out, List.length_map])]
      exact HO5.out.mono hbs
    · exact below_only (below_only (Hb3.out.mono hbs) Ho4.out (by omega) hbs) Ho5.out (by omega) hbs
    · exact grown_of_below (below_only (below_only Hb3.out Ho4.out (by omega) (Nat.le_refl _)) Ho5.out (by omega) (Nat.le_refl _))
  · have hg1 : decide ((c : Int) < (l.length : Int) + 1) = false := by simp; omega
    obtain ⟨junk, hj, hfull⟩ := HOWN.out.full
    have hhead := hfull.head (m := l.length + 1) (by omega)
    obtain ⟨cur, hcur⟩ := HOWN.out.blk rfl
    have hcs : cur.size ≠ 0 := by
      obtain ⟨cur', h1, _, _, _, _, h2, _⟩ := HOWN.out.raw
      unfold Blk at hcur
      rw [hcur] at h1
      injection h1 with h1
      injection h1 with h1 _ _
      subst h1
      omega
    have HJ := Lib.hid (show 0 < junk.length from by omega)
    have HH := Lib.hid hhead
    have hov := fun lb cb => insIntAt_over w gv g ((i + 1)) lb cb 1 1 x cur HV.out hcur (fun e => hgne e.symm) hcs
    have LD1 := Lib.hid (show ((l.map encI).drop i).length = l.length - i from by simp)
    have HRW := Lib.hid (rowsJ l)
    have rdr := rd_dropR HRD.out i
    rw [Nat.zero_add, Nat.mul_one] at rdr
    have RDR := Lib.hid rdr
    clear rdr
    clear hform hfull hhead hcur hcs hj
    go_enter Try.func61, Try.ntmps61
    go_wp2_with fail
    clear hov
    have S1 := Lib.hid (show ((l.map encI).drop i).length = Nat.min (l.length + 1 - i) (l.length - i) from by rw [LD1.out]; change _ = min _ _; omega)
    have S2 := Lib.hid (show i + 1 + ((l.map encI).drop i).length ≤ l.length + 1 from by rw [LD1.out]; omega)
    have wk : IntKind.i64.wrap ((i : Int) + 1) = (i : Int) + 1 := IntWalk.i64_in _ (by omega)
    have tk : ((i : Int) + 1).toNat = i + 1 := by omega
    have nk : (0 : Int) ≤ (i : Int) + 1 := by omega
    have ck : ¬ c = i + 1 := by omega
    have il1 : (i : Int) ≤ (l.length : Int) + 1 := by omega
    go_region_law (refine step_copyR rfl (.tmp 73) (.tmp 76) 22 22 rfl elN (base := base) (g := g) (n := l.length + 1) (c := c) (d := i + 1) (dLen := l.length - i) (dCap := c - (i + 1)) (sLen := l.length + 1 - i) (sCap := c - i) (ad := ⟨g, i, none⟩) (rows := (l.map encI ++ junk).take (l.length + 1)) (src := (l.map encI).drop i) ?_ ?_ HH.out.drew S1.out S2.out RDR.out.drew (fun r hr => HRW.out r (List.mem_of_mem_drop hr)) ?_; (simp only [Nat.mul_one]; go_simp); go_simp; intro w5 hown5 ho5; have HO5 := Lib.hid hown5; have Ho5 := Lib.hid ho5.undrew; clear hown5 ho5)
    clear wk tk nk
    go_wp2_with (refine wpList_copyR rfl _ _ _ _ rfl elN (base := base) (g := g) (n := l.length + 1) (c := c) (d := i) (sLen := 1) (src := [encI x]) (by simp only [Nat.mul_one]; rfl) rfl HO5.out (by change 1 = min _ _; omega) (by change i + 1 ≤ _; omega) (HV.out.only Ho5.out (fun e => hgne e.symm)).rd (rowsJ [x]) ?_; intro w6 hown6 ho6; have HO6 := Lib.hid hown6; have Ho6 := Lib.hid ho6; clear hown6 ho6)
    go_ret
    refine ⟨_, rfl, ?_, ?_, ?_⟩
    · rw [HX.out, ← ins_room hrl HJ.out, List.length_map]
      exact HO6.out
    · exact below_only (below_only (Below.refl _ _) Ho5.out hbs hgb) Ho6.out (by have := Ho5.out.size; omega) hgb
    · exact grown_of_only Ho5.out Ho6.out
def BindPost (w : World) (x : Acct) (c : Int) (e : Ending) (w' : World) : Prop :=
  ∃ y : AcctV, e = .returned (.tuple #[.agg #[.int .i64 y.id, .int .i64 y.member, .int .i64 y.kind, .slice y.clients.A y.clients.val.length y.clients.c], .int .i64 (bindC x c)]) ∧ lgA y = bindA x c ∧ GoodA w' y ∧ Below w.heap.size w w'
theorem bindA_no {x : Acct} {c : Int} (h : bindC x c ≠ 0) : bindA x c = ⟨0, 0, 0, []⟩ := if_neg h
theorem acctCheckV (m : AcctV) (w : World) (hl : m.clients.val.length ≤ 1099511627776) (hg : GoodA w m) :
    Calls Try.prog 11 #[.agg #[.int .i64 m.id, .int .i64 m.member, .int .i64 m.kind, .slice m.clients.A m.clients.val.length m.clients.c]] w fun e w' => e = .returned (.int .i64 (codeA (lgA m))) ∧ Below w.heap.size w w' :=
  acctCheck (lgA m) m.clients.A m.clients.c w hl hg.rd
theorem insC_at (l : List Int) (c : Int) : insC l c = l.take (l.takeWhile (fun x : Int => decide (x < c))).length ++ c :: l.drop (l.takeWhile (fun x : Int => decide (x < c))).length := by
  unfold insC; rw [← tw_take, ← dw_drop]
set_option maxRecDepth 100000 in
set_option maxHeartbeats 8000000 in
theorem acctBind (x : AcctV) (t : Int) (w : World) (hl : x.clients.val.length ≤ 1000000) (hg : GoodA w x) :
    Calls Try.prog 18 #[.agg #[.int .i64 x.id, .int .i64 x.member, .int .i64 x.kind, .slice x.clients.A x.clients.val.length x.clients.c], .int .i64 t] w (BindPost w (lgA x) t) := by
  have HG := Lib.hid (show Rs w 1 (x.clients.val.map encI) x.clients.A x.clients.c from hg)
  have c1 := fun W (h : Below w.heap.size w W) => acctCheckV x W (by omega) (hg.keep h)
  have CM := Lib.hid (fun W => acctMost x.kind W)
  clear hg
  by_cases hok : okA (lgA x)
  rotate_left
  · rw [codeA_no hok] at c1
    have C1 := Lib.hid c1
    have hq : bindC (lgA x) t = 2 := by unfold bindC; rw [if_neg hok]
    clear c1 hok
    have HQ := Lib.hid hq
    have HP := Lib.hid (bindA_no (x := lgA x) (c := t) (by rw [hq]; decide))
    clear hq
    go_enter Try.func18, Try.ntmps18
    go_wp2_with (first | (go_at_call 11; (with_reducible refine (C1.out _ (by (repeat' (first | (with_reducible exact Below.refl _ _) | (with_reducible assumption) | (with_reducible refine Below.alloc ?_ ?_ _) | (with_reducible refine Below.setCell ?_ ?_ _) | (with_reducible refine Below.drew ?_) | (with_reducible refine below_drewN ?_ _) | (with_reducible refine below_via ?_ (by with_reducible assumption) ?_) | omega | (simp; done) | (simp; omega))))).mono ?_); rintro e w1 ⟨rfl, hb1⟩; obtain ⟨fc1, fg1, hc1, hf1, hz1⟩ := bget hb1; try simp at hz1) | fail)
    refine bodyPost_ret (v := .tuple #[.agg #[.int .i64 0, .int .i64 0, .int .i64 0, .slice none 0 0], .int .i64 (bindC (lgA x) t)]) (by rw [HQ.out]; simp [results, Try.results18, go_sem, hc1, ↓IntWalk.iteOmega]; try rfl) rfl ⟨⟨0, 0, 0, ⟨none, 0, []⟩⟩, rfl, by rw [HP.out]; rfl, Rs.empty _ _, ?_⟩
    (repeat' (first | (with_reducible exact Below.refl _ _) | (with_reducible assumption) | (with_reducible refine Below.alloc ?_ ?_ _) | (with_reducible refine Below.setCell ?_ ?_ _) | (with_reducible refine Below.drew ?_) | (with_reducible refine below_drewN ?_ _) | (with_reducible refine below_via ?_ (by with_reducible assumption) ?_) | omega | (simp; done) | (simp; omega)))
  rw [codeA_yes hok] at c1
  have hpair : x.clients.val.Pairwise (· < ·) := (risC_pair hok.2.2.2.2).1
  have c2 := fun W (h : Below w.heap.size w W) => intSearch x.clients.val t x.clients.A x.clients.c W (by omega) (HG.out.keep h).rd (fun i j hij hj h => by
    have h1 := List.pairwise_iff_getElem.1 hpair i j (by omega) hj hij
    have h2 : x.clients.val[j] < t := by simpa using h
    simp; omega)
  rw [at_mem hpair t] at c2
  have hins := insC_at x.clients.val t
  have hnl := tw_len (fun x : Int => decide (x < t)) x.clients.val
  generalize (x.clients.val.takeWhile (fun x : Int => decide (x < t))).length = n at c2 hins hnl
  have C1 := Lib.hid c1
  have hq0 : bindC (lgA x) t = (if x.kind = 1 then 17 else if t < 1 ∨ 16 < t then 2 else if t ∈ x.clients.val then 12 else if mostA x.kind ≤ x.clients.val.length then 10 else 0) := by unfold bindC; rw [if_pos hok]; rfl
  clear c1 hok hpair
  by_cases hk : x.kind = 1
  · rw [if_pos hk] at hq0
    have bk : (x.kind == 1) = true := by simpa using hk
    have C2 := Lib.hid c2
    have hq := hq0
    clear c2 hk hins hq0
    have HQ := Lib.hid hq
    have HP := Lib.hid (bindA_no (x := lgA x) (c := t) (by rw [hq]; decide))
    clear hq
    go_enter Try.func18, Try.ntmps18
    go_wp2_with (first | (go_at_call 11; (with_reducible refine (C1.out _ (by (repeat' (first | (with_reducible exact Below.refl _ _) | (with_reducible assumption) | (with_reducible refine Below.alloc ?_ ?_ _) | (with_reducible refine Below.setCell ?_ ?_ _) | (with_reducible refine Below.drew ?_) | (with_reducible refine below_drewN ?_ _) | (with_reducible refine below_via ?_ (by with_reducible assumption) ?_) | omega | (simp; done) | (simp; omega))))).mono ?_); rintro e w1 ⟨rfl, hb1⟩; obtain ⟨fc1, fg1, hc1, hf1, hz1⟩ := bget hb1; try simp at hz1) | (go_at_call 60; (with_reducible refine (C2.out _ (by (repeat' (first | (with_reducible exact Below.refl _ _) | (with_reducible assumption) | (with_reducible refine Below.alloc ?_ ?_ _) | (with_reducible refine Below.setCell ?_ ?_ _) | (with_reducible refine Below.drew ?_) | (with_reducible refine below_drewN ?_ _) | (with_reducible refine below_via ?_ (by with_reducible assumption) ?_) | omega | (simp; done) | (simp; omega))))).mono ?_); rintro e w2 ⟨rfl, hb2⟩; obtain ⟨fc2, fg2, hc2, hf2, hz2⟩ := bget hb2; try simp at hz2) | fail)
    refine bodyPost_ret (v := .tuple #[.agg #[.int .i64 0, .int .i64 0, .int .i64 0, .slice none 0 0], .int .i64 (bindC (lgA x) t)]) (by rw [HQ.out]; simp [results, Try.results18, go_sem, hc2, hc1, ↓IntWalk.iteOmega]; try rfl) rfl ⟨⟨0, 0, 0, ⟨none, 0, []⟩⟩, rfl, by rw [HP.out]; rfl, Rs.empty _ _, ?_⟩
    (repeat' (first | (with_reducible exact Below.refl _ _) | (with_reducible assumption) | (with_reducible refine Below.alloc ?_ ?_ _) | (with_reducible refine Below.setCell ?_ ?_ _) | (with_reducible refine Below.drew ?_) | (with_reducible refine below_drewN ?_ _) | (with_reducible refine below_via ?_ (by with_reducible assumption) ?_) | omega | (simp; done) | (simp; omega)))
  rw [if_neg hk] at hq0
  have bk : (x.kind == 1) = false := by simpa using hk
  by_cases ht1 : t < 1
  · have b1 := decide_eq_true ht1
    have hq : bindC (lgA x) t = 2 := by rw [hq0, if_pos (.inl ht1)]
    have C2 := Lib.hid c2
    clear c2 hins hq0
    have HQ := Lib.hid hq
    have HP := Lib.hid (bindA_no (x := lgA x) (c := t) (by rw [hq]; decide))
    clear hq
    go_enter Try.func18, Try.ntmps18
    go_wp2_with (first | (go_at_call 11; (with_reducible refine (C1.out _ (by (repeat' (first | (with_reducible exact Below.refl _ _) | (with_reducible assumption) | (with_reducible refine Below.alloc ?_ ?_ _) | (with_reducible refine Below.setCell ?_ ?_ _) | (with_reducible refine Below.drew ?_) | (with_reducible refine below_drewN ?_ _) | (with_reducible refine below_via ?_ (by with_reducible assumption) ?_) | omega | (simp; done) | (simp; omega))))).mono ?_); rintro e w1 ⟨rfl, hb1⟩; obtain ⟨fc1, fg1, hc1, hf1, hz1⟩ := bget hb1; try simp at hz1) | (go_at_call 60; (with_reducible refine (C2.out _ (by (repeat' (first | (with_reducible exact Below.refl _ _) | (with_reducible assumption) | (with_reducible refine Below.alloc ?_ ?_ _) | (with_reducible refine Below.setCell ?_ ?_ _) | (with_reducible refine Below.drew ?_) | (with_reducible refine below_drewN ?_ _) | (with_reducible refine below_via ?_ (by with_reducible assumption) ?_) | omega | (simp; done) | (simp; omega))))).mono ?_); rintro e w2 ⟨rfl, hb2⟩; obtain ⟨fc2, fg2, hc2, hf2, hz2⟩ := bget hb2; try simp at hz2) | fail)
    refine bodyPost_ret (v := .tuple #[.agg #[.int .i64 0, .int .i64 0, .int .i64 0, .slice none 0 0], .int .i64 (bindC (lgA x) t)]) (by rw [HQ.out]; simp [results, Try.results18, go_sem, hc2, hc1, ↓IntWalk.iteOmega]; try rfl) rfl ⟨⟨0, 0, 0, ⟨none, 0, []⟩⟩, rfl, by rw [HP.out]; rfl, Rs.empty _ _, ?_⟩
    (repeat' (first | (with_reducible exact Below.refl _ _) | (with_reducible assumption) | (with_reducible refine Below.alloc ?_ ?_ _) | (with_reducible refine Below.setCell ?_ ?_ _) | (with_reducible refine Below.drew ?_) | (with_reducible refine below_drewN ?_ _) | (with_reducible refine below_via ?_ (by with_reducible assumption) ?_) | omega | (simp; done) | (simp; omega)))
  have b1 := decide_eq_false ht1
  by_cases ht2 : 16 < t
  · have b2 := decide_eq_true ht2
    have hq : bindC (lgA x) t = 2 := by rw [hq0, if_pos (.inr ht2)]
    have C2 := Lib.hid c2
    clear c2 hins hq0
    have HQ := Lib.hid hq
    have HP := Lib.hid (bindA_no (x := lgA x) (c := t) (by rw [hq]; decide))
    clear hq
    go_enter Try.func18, Try.ntmps18
    go_wp2_with (first | (go_at_call 11; (with_reducible refine (C1.out _ (by (repeat' (first | (with_reducible exact Below.refl _ _) | (with_reducible assumption) | (with_reducible refine Below.alloc ?_ ?_ _) | (with_reducible refine Below.setCell ?_ ?_ _) | (with_reducible refine Below.drew ?_) | (with_reducible refine below_drewN ?_ _) | (with_reducible refine below_via ?_ (by with_reducible assumption) ?_) | omega | (simp; done) | (simp; omega))))).mono ?_); rintro e w1 ⟨rfl, hb1⟩; obtain ⟨fc1, fg1, hc1, hf1, hz1⟩ := bget hb1; try simp at hz1) | (go_at_call 60; (with_reducible refine (C2.out _ (by (repeat' (first | (with_reducible exact Below.refl _ _) | (with_reducible assumption) | (with_reducible refine Below.alloc ?_ ?_ _) | (with_reducible refine Below.setCell ?_ ?_ _) | (with_reducible refine Below.drew ?_) | (with_reducible refine below_drewN ?_ _) | (with_reducible refine below_via ?_ (by with_reducible assumption) ?_) | omega | (simp; done) | (simp; omega))))).mono ?_); rintro e w2 ⟨rfl, hb2⟩; obtain ⟨fc2, fg2, hc2, hf2, hz2⟩ := bget hb2; try simp at hz2) | fail)
    refine bodyPost_ret (v := .tuple #[.agg #[.int .i64 0, .int .i64 0, .int .i64 0, .slice none 0 0], .int .i64 (bindC (lgA x) t)]) (by rw [HQ.out]; simp [results, Try.results18, go_sem, hc2, hc1, ↓IntWalk.iteOmega]; try rfl) rfl ⟨⟨0, 0, 0, ⟨none, 0, []⟩⟩, rfl, by rw [HP.out]; rfl, Rs.empty _ _, ?_⟩
    (repeat' (first | (with_reducible exact Below.refl _ _) | (with_reducible assumption) | (with_reducible refine Below.alloc ?_ ?_ _) | (with_reducible refine Below.setCell ?_ ?_ _) | (with_reducible refine Below.drew ?_) | (with_reducible refine below_drewN ?_ _) | (with_reducible refine below_via ?_ (by with_reducible assumption) ?_) | omega | (simp; done) | (simp; omega)))
  have b2 := decide_eq_false ht2
  rw [if_neg (by omega)] at hq0
  by_cases hm : t ∈ x.clients.val
  · have hq : bindC (lgA x) t = 12 := by rw [hq0, if_pos hm]
    rw [show decide (t ∈ x.clients.val) = true from decide_eq_true hm] at c2
    have C2 := Lib.hid c2
    clear c2 hins hq0 hm
    have HQ := Lib.hid hq
    have HP := Lib.hid (bindA_no (x := lgA x) (c := t) (by rw [hq]; decide))
    clear hq
    go_enter Try.func18, Try.ntmps18
    go_wp2_with (first | (go_at_call 11; (with_reducible refine (C1.out _ (by (repeat' (first | (with_reducible exact Below.refl _ _) | (with_reducible assumption) | (with_reducible refine Below.alloc ?_ ?_ _) | (with_reducible refine Below.setCell ?_ ?_ _) | (with_reducible refine Below.drew ?_) | (with_reducible refine below_drewN ?_ _) | (with_reducible refine below_via ?_ (by with_reducible assumption) ?_) | omega | (simp; done) | (simp; omega))))).mono ?_); rintro e w1 ⟨rfl, hb1⟩; obtain ⟨fc1, fg1, hc1, hf1, hz1⟩ := bget hb1; try simp at hz1) | (go_at_call 60; (with_reducible refine (C2.out _ (by (repeat' (first | (with_reducible exact Below.refl _ _) | (with_reducible assumption) | (with_reducible refine Below.alloc ?_ ?_ _) | (with_reducible refine Below.setCell ?_ ?_ _) | (with_reducible refine Below.drew ?_) | (with_reducible refine below_drewN ?_ _) | (with_reducible refine below_via ?_ (by with_reducible assumption) ?_) | omega | (simp; done) | (simp; omega))))).mono ?_); rintro e w2 ⟨rfl, hb2⟩; obtain ⟨fc2, fg2, hc2, hf2, hz2⟩ := bget hb2; try simp at hz2) | fail)
    refine bodyPost_ret (v := .tuple #[.agg #[.int .i64 0, .int .i64 0, .int .i64 0, .slice none 0 0], .int .i64 (bindC (lgA x) t)]) (by rw [HQ.out]; simp [results, Try.results18, go_sem, hc2, hc1, ↓IntWalk.iteOmega]; try rfl) rfl ⟨⟨0, 0, 0, ⟨none, 0, []⟩⟩, rfl, by rw [HP.out]; rfl, Rs.empty _ _, ?_⟩
    (repeat' (first | (with_reducible exact Below.refl _ _) | (with_reducible assumption) | (with_reducible refine Below.alloc ?_ ?_ _) | (with_reducible refine Below.setCell ?_ ?_ _) | (with_reducible refine Below.drew ?_) | (with_reducible refine below_drewN ?_ _) | (with_reducible refine below_via ?_ (by with_reducible assumption) ?_) | omega | (simp; done) | (simp; omega)))
  rw [if_neg hm] at hq0
  rw [show decide (t ∈ x.clients.val) = false from decide_eq_false hm] at c2
  have C2 := Lib.hid c2
  clear c2 hm
  by_cases hf : mostA x.kind ≤ x.clients.val.length
  · have bf := decide_eq_true hf
    have hq : bindC (lgA x) t = 10 := by rw [hq0, if_pos hf]
    have HQ := Lib.hid hq
    have HP := Lib.hid (bindA_no (x := lgA x) (c := t) (by rw [hq]; decide))
    clear hq hq0 hins
    go_enter Try.func18, Try.ntmps18
    go_wp2_with (first | (go_at_call 11; (with_reducible refine (C1.out _ (by (repeat' (first | (with_reducible exact Below.refl _ _) | (with_reducible assumption) | (with_reducible refine Below.alloc ?_ ?_ _) | (with_reducible refine Below.setCell ?_ ?_ _) | (with_reducible refine Below.drew ?_) | (with_reducible refine below_drewN ?_ _) | (with_reducible refine below_via ?_ (by with_reducible assumption) ?_) | omega | (simp; done) | (simp; omega))))).mono ?_); rintro e w1 ⟨rfl, hb1⟩; obtain ⟨fc1, fg1, hc1, hf1, hz1⟩ := bget hb1; try simp at hz1) | (go_at_call 60; (with_reducible refine (C2.out _ (by (repeat' (first | (with_reducible exact Below.refl _ _) | (with_reducible assumption) | (with_reducible refine Below.alloc ?_ ?_ _) | (with_reducible refine Below.setCell ?_ ?_ _) | (with_reducible refine Below.drew ?_) | (with_reducible refine below_drewN ?_ _) | (with_reducible refine below_via ?_ (by with_reducible assumption) ?_) | omega | (simp; done) | (simp; omega))))).mono ?_); rintro e w2 ⟨rfl, hb2⟩; obtain ⟨fc2, fg2, hc2, hf2, hz2⟩ := bget hb2; try simp at hz2) | fail)
    go_quiet ((go_at_call 58; exact Calls.quiet_of_same (CM.out _)))
    go_wp2_with (fail)
    refine bodyPost_ret (v := .tuple #[.agg #[.int .i64 0, .int .i64 0, .int .i64 0, .slice none 0 0], .int .i64 (bindC (lgA x) t)]) (by rw [HQ.out]; simp [results, Try.results18, go_sem, hc2, hc1, ↓IntWalk.iteOmega]; try rfl) rfl ⟨⟨0, 0, 0, ⟨none, 0, []⟩⟩, rfl, by rw [HP.out]; rfl, Rs.empty _ _, ?_⟩
    (repeat' (first | (with_reducible exact Below.refl _ _) | (with_reducible assumption) | (with_reducible refine Below.alloc ?_ ?_ _) | (with_reducible refine Below.setCell ?_ ?_ _) | (with_reducible refine Below.drew ?_) | (with_reducible refine below_drewN ?_ _) | (with_reducible refine below_via ?_ (by with_reducible assumption) ?_) | omega | (simp; done) | (simp; omega)))
  have bf := decide_eq_false hf
  have hq : bindC (lgA x) t = 0 := by rw [hq0, if_neg hf]
  have HQ := Lib.hid hq
  have HP := Lib.hid (show bindA (lgA x) t = ⟨x.id, x.member, x.kind, x.clients.val.take n ++ t :: x.clients.val.drop n⟩ from by unfold bindA; rw [if_pos hq, ← hins]; rfl)
  clear hq hq0 hins
  go_enter Try.func18, Try.ntmps18
  go_wp2_with (first | (go_at_call 11; (with_reducible refine (C1.out _ (by (repeat' (first | (with_reducible exact Below.refl _ _) | (with_reducible assumption) | (with_reducible refine Below.alloc ?_ ?_ _) | (with_reducible refine Below.setCell ?_ ?_ _) | (with_reducible refine Below.drew ?_) | (with_reducible refine below_drewN ?_ _) | (with_reducible refine below_via ?_ (by with_reducible assumption) ?_) | omega | (simp; done) | (simp; omega))))).mono ?_); rintro e w1 ⟨rfl, hb1⟩; obtain ⟨fc1, fg1, hc1, hf1, hz1⟩ := bget hb1; try simp at hz1) | (go_at_call 60; (with_reducible refine (C2.out _ (by (repeat' (first | (with_reducible exact Below.refl _ _) | (with_reducible assumption) | (with_reducible refine Below.alloc ?_ ?_ _) | (with_reducible refine Below.setCell ?_ ?_ _) | (with_reducible refine Below.drew ?_) | (with_reducible refine below_drewN ?_ _) | (with_reducible refine below_via ?_ (by with_reducible assumption) ?_) | omega | (simp; done) | (simp; omega))))).mono ?_); rintro e w2 ⟨rfl, hb2⟩; obtain ⟨fc2, fg2, hc2, hf2, hz2⟩ := bget hb2; try simp at hz2) | fail)
  go_quiet ((go_at_call 58; exact Calls.quiet_of_same (CM.out _)))
  go_wp2_with (first | (go_at_call 62; (with_reducible refine (natsClone x.clients.val x.clients.A x.clients.c _ (by omega) (HG.out.keep (by (repeat' (first | (with_reducible exact Below.refl _ _) | (with_reducible assumption) | (with_reducible refine Below.alloc ?_ ?_ _) | (with_reducible refine Below.setCell ?_ ?_ _) | (with_reducible refine Below.drew ?_) | (with_reducible refine below_drewN ?_ _) | (with_reducible refine below_via ?_ (by with_reducible assumption) ?_) | omega | (simp; done) | (simp; omega)))))).mono ?_); rintro e w3 ⟨v3, rfl, hown3, hb3⟩; have HO3 := Lib.hid hown3; have HW3 := Lib.hid hown3.block; clear hown3; obtain ⟨fc3, fg3, hc3, hf3, hz3⟩ := bget hb3; (try simp at hz3)) | (go_at_call 61; (with_reducible refine (insIntAt x.clients.val t n v3 (w2.heap.size) _ _ (by omega) (by omega) ?_ ?_ ?_ ?_).mono ?_); (focus (first | omega | (simp; done) | (simp; omega))); (focus (exact HO3.out.alloc _)); (focus (exact Blk.new _ _ _)); (focus (intro h; have h2 := HW3.out _ h; (first | omega | (simp at h2; done) | (simp at h2; omega)))); rintro e w6 ⟨v6, rfl, hown6, hb6, hg6⟩; obtain ⟨A6, c6, hv6, hrs6, hform6⟩ := hown6.rs; rw [List.length_map] at hv6; subst hv6; have HO6 := Lib.hid hown6; clear hown6 hg6 hrs6 hform6; obtain ⟨fc6, fg6, hc6, hf6, hz6⟩ := bget hb6; (try simp at hz6)) | fail)
  refine bodyPost_ret (v := .tuple #[.agg #[.int .i64 x.id, .int .i64 x.member, .int .i64 x.kind, .slice A6 (x.clients.val.take n ++ t :: x.clients.val.drop n).length c6], .int .i64 (bindC (lgA x) t)]) (by rw [HQ.out]; simp [results, Try.results18, go_sem, hc6, hc3, hc2, hc1, ↓IntWalk.iteOmega]; first | done | rfl | omega) rfl ⟨⟨x.id, x.member, x.kind, ⟨A6, c6, x.clients.val.take n ++ t :: x.clients.val.drop n⟩⟩, rfl, by rw [HP.out]; rfl, ?_, ?_⟩
  · have h0 := HO6.out
    refine Own.good (base := w2.heap.size) (E := 3) (n := (x.clients.val.take n ++ t :: x.clients.val.drop n).length) ?_
    (repeat' (first | (with_reducible assumption) | (with_reducible refine Own.farLow ?_ ?_ _) | (simp; done) | omega | (simp; omega)))
  · (repeat' (first | (with_reducible exact Below.refl _ _) | (with_reducible assumption) | (with_reducible refine Below.alloc ?_ ?_ _) | (with_reducible refine Below.setCell ?_ ?_ _) | (with_reducible refine Below.drew ?_) | (with_reducible refine below_drewN ?_ _) | (with_reducible refine below_via ?_ (by with_reducible assumption) ?_) | omega | (simp; done) | (simp; omega)))
end Go.Proofs.Ytemhhojenocddaa
