/- Units, choices: contracts of acct.Less, the reference's Less, Clone, IndexFunc. -/
import Derived.Test.YtffmljkpbgohkaaRowL
import Derived.Test.YtffmljkpbgohkaaList
import Derived.Test.YtffmljkpbgohkaaFix1
import Derived.Outline
namespace Go.Proofs.Ytffmljkpbgohkaa
open Go.RowKit
structure Un where
  acc : Int
  cli : Int
  deriving DecidableEq
def encUn (x : Un) : List Value := [.int .i64 x.acc, .int .i64 x.cli]
def okUn (x : Un) : Prop := In64 x.acc ∧ In64 x.cli
theorem rowsUn (l : List Un) : ∀ r ∈ l.map encUn, r.length = 2 ∧ ∀ u ∈ r, u.oneCell' = true := by
  intro r hr
  obtain ⟨m, _, rfl⟩ := List.mem_map.1 hr
  refine ⟨rfl, ?_⟩
  simp only [encUn, List.mem_cons, List.not_mem_nil, or_false, forall_eq_or_imp, forall_eq]
  exact ⟨rfl, rfl⟩
theorem encUn_inj {x y : Un} (h : encUn x = encUn y) : x = y := by
  unfold encUn at h
  simp only [List.cons.injEq, Value.int.injEq, and_true, true_and] at h
  obtain ⟨h0, h1⟩ := h
  obtain ⟨xacc, xcli⟩ := x
  obtain ⟨yacc, ycli⟩ := y
  simp only at h0 h1
  subst h0 h1
  rfl
theorem neqUn {x y : Un} (h : x ≠ y) : ((x.acc == y.acc) = false) ∨ ((x.cli == y.cli) = false) := by
  cases h0 : (x.acc == y.acc)
  · simp
  cases h1 : (x.cli == y.cli)
  · simp
  · exfalso
    apply h
    obtain ⟨xacc, xcli⟩ := x
    obtain ⟨yacc, ycli⟩ := y
    simp_all
structure Choice where
  frm : Un
  too : Un
  con : Bool
  deriving DecidableEq
def encChoice (x : Choice) : List Value := [.int .i64 x.frm.acc, .int .i64 x.frm.cli, .int .i64 x.too.acc, .int .i64 x.too.cli, .bool x.con]
def okChoice (x : Choice) : Prop := In64 x.frm.acc ∧ In64 x.frm.cli ∧ In64 x.too.acc ∧ In64 x.too.cli
theorem rowsChoice (l : List Choice) : ∀ r ∈ l.map encChoice, r.length = 5 ∧ ∀ u ∈ r, u.oneCell' = true := by
  intro r hr
  obtain ⟨m, _, rfl⟩ := List.mem_map.1 hr
  refine ⟨rfl, ?_⟩
  simp only [encChoice, List.mem_cons, List.not_mem_nil, or_false, forall_eq_or_imp, forall_eq]
  exact ⟨rfl, rfl, rfl, rfl, rfl⟩
theorem encChoice_inj {x y : Choice} (h : encChoice x = encChoice y) : x = y := by
  unfold encChoice at h
  simp only [List.cons.injEq, Value.int.injEq, Value.bool.injEq, and_true, true_and] at h
  obtain ⟨h0, h1, h2, h3, h4⟩ := h
  obtain ⟨⟨xfrmacc, xfrmcli⟩, ⟨xtooacc, xtoocli⟩, xcon⟩ := x
  obtain ⟨⟨yfrmacc, yfrmcli⟩, ⟨ytooacc, ytoocli⟩, ycon⟩ := y
  simp only at h0 h1 h2 h3 h4
  subst h0 h1 h2 h3 h4
  rfl
theorem neqChoice {x y : Choice} (h : x ≠ y) : ((x.frm.acc == y.frm.acc) = false) ∨ ((x.frm.cli == y.frm.cli) = false) ∨ ((x.too.acc == y.too.acc) = false) ∨ ((x.too.cli == y.too.cli) = false) ∨ ((x.con == y.con) = false) := by
  cases h0 : (x.frm.acc == y.frm.acc)
  · simp
  cases h1 : (x.frm.cli == y.frm.cli)
  · simp
  cases h2 : (x.too.acc == y.too.acc)
  · simp
  cases h3 : (x.too.cli == y.too.cli)
  · simp
  cases h4 : (x.con == y.con)
  · simp
  · exfalso
    apply h
    obtain ⟨⟨xfrmacc, xfrmcli⟩, ⟨xtooacc, xtoocli⟩, xcon⟩ := x
    obtain ⟨⟨yfrmacc, yfrmcli⟩, ⟨ytooacc, ytoocli⟩, ycon⟩ := y
    simp_all
theorem elChoice : Elem Try.prog 64 76 5 40 := elem_of Try.underlying64 (z := .agg #[.int .i64 0, .int .i64 0, .int .i64 0, .int .i64 0, .bool false]) (by kernel_rfl) rfl (by omega)
/-- What a closure holds of one variable: its cells. -/
def CapC (w : World) (g : Nat) (vs : List Value) : Prop := g < w.heap.size ∧ ∀ (j : Nat) (v : Value), vs[j]? = some v → w.cell? ⟨g, j, none⟩ = some v
theorem CapC.keep {w w' : World} {g : Nat} {vs : List Value} (h : CapC w g vs) (hb : Below w.heap.size w w') : CapC w' g vs := ⟨Nat.lt_of_lt_of_le h.1 hb.size, fun j v hv => cell_via hb h.1 (h.2 j v hv)⟩
theorem CapC.low {w w' : World} {g B : Nat} {vs : List Value} (h : CapC w g vs) (hg : g < B) (hb : Below B w w') : CapC w' g vs := ⟨Nat.lt_of_lt_of_le h.1 hb.size, fun j v hv => cell_via hb hg (h.2 j v hv)⟩
def lessU (a b : Un) : Bool := decide (a.acc < b.acc) || (a.acc == b.acc && decide (a.cli < b.cli))
set_option maxRecDepth 100000 in
set_option maxHeartbeats 1000000 in
theorem acctLess (a b : Un) (w : World) :
    Calls Try.prog 74 #[.agg #[.int .i64 a.acc, .int .i64 a.cli], .agg #[.int .i64 b.acc, .int .i64 b.cli]] w fun e w' => e = .returned (.bool (lessU a b)) ∧ Below w.heap.size w w' := by
  cases he : (a.acc == b.acc)
  · have hne : (a.acc != b.acc) = true := by simp only [bne, he]; rfl
    have HE := Lib.hid (show lessU a b = decide (a.acc < b.acc) from by unfold lessU; rw [he]; simp)
    go_enter Try.func74, Try.ntmps74
    go_wp2_with fail
    go_ret
    exact ⟨by rw [HE.out]; rfl, by (repeat' (first | (with_reducible exact Below.refl _ _) | (with_reducible assumption) | (with_reducible refine Below.alloc ?_ ?_ _) | (with_reducible refine Below.setCell ?_ ?_ _) | (with_reducible refine Below.drew ?_) | (with_reducible refine below_drewN ?_ _) | (with_reducible refine below_via ?_ (by with_reducible assumption) ?_) | omega | (simp; done) | (simp; omega)))⟩
  · have hne : (a.acc != b.acc) = false := by simp only [bne, he]; rfl
    have heq : a.acc = b.acc := by simpa using he
    have HE := Lib.hid (show lessU a b = decide (a.cli < b.cli) from by unfold lessU; rw [he]; simp [heq])
    clear heq
    go_enter Try.func74, Try.ntmps74
    go_wp2_with fail
    go_ret
    exact ⟨by rw [HE.out]; rfl, by (repeat' (first | (with_reducible exact Below.refl _ _) | (with_reducible assumption) | (with_reducible refine Below.alloc ?_ ?_ _) | (with_reducible refine Below.setCell ?_ ?_ _) | (with_reducible refine Below.drew ?_) | (with_reducible refine below_drewN ?_ _) | (with_reducible refine below_via ?_ (by with_reducible assumption) ?_) | omega | (simp; done) | (simp; omega)))⟩
set_option maxRecDepth 100000 in
set_option maxHeartbeats 1000000 in
theorem ref15Less (a b : Un) (w : World) :
    Calls Try.prog 75 #[.agg #[.int .i64 a.acc, .int .i64 a.cli], .agg #[.int .i64 b.acc, .int .i64 b.cli]] w fun e w' => e = .returned (.bool (lessU a b)) ∧ Below w.heap.size w w' := by
  by_cases h1 : a.acc < b.acc
  · have d1 := decide_eq_true h1
    have HE := Lib.hid (show lessU a b = true from by unfold lessU; simp [h1])
    go_enter Try.func75, Try.ntmps75
    go_wp2_with fail
    go_ret
    exact ⟨by rw [HE.out]; rfl, by (repeat' (first | (with_reducible exact Below.refl _ _) | (with_reducible assumption) | (with_reducible refine Below.alloc ?_ ?_ _) | (with_reducible refine Below.setCell ?_ ?_ _) | (with_reducible refine Below.drew ?_) | (with_reducible refine below_drewN ?_ _) | (with_reducible refine below_via ?_ (by with_reducible assumption) ?_) | omega | (simp; done) | (simp; omega)))⟩
  · have d1 := decide_eq_false h1
    cases he : (a.acc == b.acc)
    · have HE := Lib.hid (show lessU a b = false from by unfold lessU; rw [he, d1]; rfl)
      go_enter Try.func75, Try.ntmps75
      go_wp2_with fail
      go_ret
      exact ⟨by rw [HE.out]; rfl, by (repeat' (first | (with_reducible exact Below.refl _ _) | (with_reducible assumption) | (with_reducible refine Below.alloc ?_ ?_ _) | (with_reducible refine Below.setCell ?_ ?_ _) | (with_reducible refine Below.drew ?_) | (with_reducible refine below_drewN ?_ _) | (with_reducible refine below_via ?_ (by with_reducible assumption) ?_) | omega | (simp; done) | (simp; omega)))⟩
    · have HE := Lib.hid (show lessU a b = decide (a.cli < b.cli) from by unfold lessU; rw [he, d1]; simp)
      go_enter Try.func75, Try.ntmps75
      go_wp2_with fail
      go_ret
      exact ⟨by rw [HE.out]; rfl, by (repeat' (first | (with_reducible exact Below.refl _ _) | (with_reducible assumption) | (with_reducible refine Below.alloc ?_ ?_ _) | (with_reducible refine Below.setCell ?_ ?_ _) | (with_reducible refine Below.drew ?_) | (with_reducible refine below_drewN ?_ _) | (with_reducible refine below_via ?_ (by with_reducible assumption) ?_) | omega | (simp; done) | (simp; omega)))⟩
set_option maxRecDepth 100000 in
set_option maxHeartbeats 1000000 in
theorem cloneChoice (l : List Choice) (A : Option Addr) (c : Nat) (w : World) (hl : l.length ≤ 1099511627776) (hr : Rs w 5 (l.map encChoice) A c) :
    Calls Try.prog 77 #[.slice A l.length c] w fun e w' => ∃ v, e = .returned v ∧ Own w' w.heap.size 76 5 v (l.map encChoice) ∧ Below w.heap.size w w' := by
  have Hr := Lib.hid hr
  have hnil := fun W : World => Lib.run_eql_slice_nil (P := Try.prog) W 64 76 A l.length c 0 0 Try.underlying64
  rcases A with _ | ad
  · have hl0 : l = [] := List.map_eq_nil_iff.1 hr.nilrows
    have hc0 : c = 0 := hr.nil rfl
    subst hl0 hc0
    simp only [List.length_nil] at hnil ⊢
    clear hr
    go_enter Try.func77, Try.ntmps77
    go_wp2_with fail
    go_ret
    exact ⟨_, rfl, Own.nil _ _ _ _, by (repeat' (first | (with_reducible exact Below.refl _ _) | (with_reducible assumption) | (with_reducible refine Below.alloc ?_ ?_ _) | (with_reducible refine Below.setCell ?_ ?_ _) | (with_reducible refine Below.drew ?_) | (with_reducible refine below_drewN ?_ _) | (with_reducible refine below_via ?_ (by with_reducible assumption) ?_) | omega | (simp; done) | (simp; omega)))⟩
  · clear hr
    go_enter Try.func77, Try.ntmps77
    go_wp2_with (at_builtin; refine wpList_app rfl _ _ _ rfl elChoice w.heap.size _ [] rfl (Own.made w (Nat.le_refl _)) (some ad) l.length c rfl (l.map encChoice) (by simp) (fun h => by cases h) (Hr.out.keep ((Below.refl _ _).alloc (Nat.le_refl _) _)).rd (rowsChoice l) (by unfold maxLen; simp; omega) (by simp; omega) (by simp) ?_; intro v' w3 hown3 hb3)
    go_ret
    exact ⟨v', rfl, by simpa using hown3, ((Below.refl _ _).alloc (Nat.le_refl _) _).trans hb3⟩
/-- A test of two units, as the walk has it. -/
theorem un_test {x u : Un} : x = u ∨ ((x.acc == u.acc) = false) ∨ ((x.cli == u.cli) = false) := by
  by_cases h : x = u
  · exact .inl h
  · exact .inr (neqUn h)
set_option maxRecDepth 100000 in
set_option maxHeartbeats 1000000 in
theorem electAtFn (x : Choice) (u : Un) (g : Nat) (w : World) (hcap : CapC w g (encUn u)) :
    Calls Try.prog 100 #[.agg #[.int .i64 x.frm.acc, .int .i64 x.frm.cli, .int .i64 x.too.acc, .int .i64 x.too.cli, .bool x.con], .pointer (some ⟨g, 0, none⟩)] w fun e w' => e = .returned (.bool (decide (x.frm = u))) ∧ Below w.heap.size w w' := by
  have c0 := hcap.2 0 _ rfl
  have c1 := hcap.2 1 _ rfl
  have hg := hcap.1
  clear hcap
  rcases un_test (x := x.frm) (u := u) with he | he | he
  · have HE := Lib.hid (decide_eq_true he)
    rw [← he] at c0 c1
    clear he
    go_enter Try.func100, Try.ntmps100
    go_wp2_with fail
    go_ret
    exact ⟨by rw [HE.out]; first | done | rfl, by (repeat' (first | (with_reducible exact Below.refl _ _) | (with_reducible assumption) | (with_reducible refine Below.alloc ?_ ?_ _) | (with_reducible refine Below.setCell ?_ ?_ _) | (with_reducible refine Below.drew ?_) | (with_reducible refine below_drewN ?_ _) | (with_reducible refine below_via ?_ (by with_reducible assumption) ?_) | omega | (simp; done) | (simp; omega)))⟩
  all_goals
    have HE := Lib.hid (decide_eq_false (show ¬ x.frm = u from by rintro rfl; simp at he))
    go_enter Try.func100, Try.ntmps100
    go_wp2_with fail
    go_ret
    exact ⟨by rw [HE.out]; first | done | rfl, by (repeat' (first | (with_reducible exact Below.refl _ _) | (with_reducible assumption) | (with_reducible refine Below.alloc ?_ ?_ _) | (with_reducible refine Below.setCell ?_ ?_ _) | (with_reducible refine Below.drew ?_) | (with_reducible refine below_drewN ?_ _) | (with_reducible refine below_via ?_ (by with_reducible assumption) ?_) | omega | (simp; done) | (simp; omega)))⟩
set_option maxRecDepth 100000 in
set_option maxHeartbeats 1000000 in
theorem electDropFn (x : Choice) (u : Un) (g : Nat) (w : World) (hcap : CapC w g (encUn u)) :
    Calls Try.prog 78 #[.agg #[.int .i64 x.frm.acc, .int .i64 x.frm.cli, .int .i64 x.too.acc, .int .i64 x.too.cli, .bool x.con], .pointer (some ⟨g, 0, none⟩)] w fun e w' => e = .returned (.bool (decide (x.frm = u))) ∧ Below w.heap.size w w' := by
  have c0 := hcap.2 0 _ rfl
  have c1 := hcap.2 1 _ rfl
  have hg := hcap.1
  clear hcap
  rcases un_test (x := x.frm) (u := u) with he | he | he
  · have HE := Lib.hid (decide_eq_true he)
    rw [← he] at c0 c1
    clear he
    go_enter Try.func78, Try.ntmps78
    go_wp2_with fail
    go_ret
    exact ⟨by rw [HE.out]; first | done | rfl, by (repeat' (first | (with_reducible exact Below.refl _ _) | (with_reducible assumption) | (with_reducible refine Below.alloc ?_ ?_ _) | (with_reducible refine Below.setCell ?_ ?_ _) | (with_reducible refine Below.drew ?_) | (with_reducible refine below_drewN ?_ _) | (with_reducible refine below_via ?_ (by with_reducible assumption) ?_) | omega | (simp; done) | (simp; omega)))⟩
  all_goals
    have HE := Lib.hid (decide_eq_false (show ¬ x.frm = u from by rintro rfl; simp at he))
    go_enter Try.func78, Try.ntmps78
    go_wp2_with fail
    go_ret
    exact ⟨by rw [HE.out]; first | done | rfl, by (repeat' (first | (with_reducible exact Below.refl _ _) | (with_reducible assumption) | (with_reducible refine Below.alloc ?_ ?_ _) | (with_reducible refine Below.setCell ?_ ?_ _) | (with_reducible refine Below.drew ?_) | (with_reducible refine below_drewN ?_ _) | (with_reducible refine below_via ?_ (by with_reducible assumption) ?_) | omega | (simp; done) | (simp; omega)))⟩
end Go.Proofs.Ytffmljkpbgohkaa
