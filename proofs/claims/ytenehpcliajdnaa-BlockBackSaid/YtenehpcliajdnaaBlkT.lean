/- Fills and groups: the types; which fills may be, how many they are, what they cost. No program in sight. -/
import Derived.Test.YtenehpcliajdnaaWhile
import Derived.Test.YtenehpcliajdnaaWide2
namespace Go.Proofs.Ytenehpcliajdnaa
open Go.RowKit
structure Fill where
  qty : Int
  price : Int
  deriving DecidableEq
def encFill (x : Fill) : List Value := [.int .i64 x.qty, .int .i64 x.price]
def okFill (x : Fill) : Prop := In64 x.qty ∧ In64 x.price
theorem rowsFill (l : List Fill) : ∀ r ∈ l.map encFill, r.length = 2 ∧ ∀ u ∈ r, u.oneCell' = true := by
  intro r hr
  obtain ⟨m, _, rfl⟩ := List.mem_map.1 hr
  refine ⟨rfl, ?_⟩
  simp only [encFill, List.mem_cons, List.not_mem_nil, or_false, forall_eq_or_imp, forall_eq]
  exact ⟨rfl, rfl⟩
theorem encFill_inj {x y : Fill} (h : encFill x = encFill y) : x = y := by
  unfold encFill at h
  simp only [List.cons.injEq, Value.int.injEq, and_true, true_and] at h
  obtain ⟨h0, h1⟩ := h
  obtain ⟨xqty, xprice⟩ := x
  obtain ⟨yqty, yprice⟩ := y
  simp only at h0 h1
  subst h0 h1
  rfl
theorem neqFill {x y : Fill} (h : x ≠ y) : ((x.qty == y.qty) = false) ∨ ((x.price == y.price) = false) := by
  cases h0 : (x.qty == y.qty)
  · simp
  cases h1 : (x.price == y.price)
  · simp
  · exfalso
    apply h
    obtain ⟨xqty, xprice⟩ := x
    obtain ⟨yqty, yprice⟩ := y
    simp_all
structure Un where
  acc : Int
  cli : Int
  deriving DecidableEq
def encUn (x : Un) : List Value := [.int .i64 x.acc, .int .i64 x.cli]
def okUn (x : Un) : Prop := In64 x.acc ∧ In64 x.cli
theorem rowsUn (l : List Un) : ∀ r ∈ l.map encUn, r.length = 2 ∧ ∀ u ∈ r, u.oneCell' = true := by
  intro r hr
  obtain ⟨m, _, rfl⟩ := List.mem_map.1 hr
  refine ⟨rfl, ?_⟩
  simp only [encUn, List.mem_cons, List.not_mem_nil, or_false, forall_eq_or_imp, forall_eq]
  exact ⟨rfl, rfl⟩
theorem encUn_inj {x y : Un} (h : encUn x = encUn y) : x = y := by
  unfold encUn at h
  simp only [List.cons.injEq, Value.int.injEq, and_true, true_and] at h
  obtain ⟨h0, h1⟩ := h
  obtain ⟨xacc, xcli⟩ := x
  obtain ⟨yacc, ycli⟩ := y
  simp only at h0 h1
  subst h0 h1
  rfl
theorem neqUn {x y : Un} (h : x ≠ y) : ((x.acc == y.acc) = false) ∨ ((x.cli == y.cli) = false) := by
  cases h0 : (x.acc == y.acc)
  · simp
  cases h1 : (x.cli == y.cli)
  · simp
  · exfalso
    apply h
    obtain ⟨xacc, xcli⟩ := x
    obtain ⟨yacc, ycli⟩ := y
    simp_all
structure Group where
  id : Int
  unit : Un
  inst : Int
  price : Int
  left : Int
  deriving DecidableEq
def encGroup (x : Group) : List Value := [.int .i64 x.id, .int .i64 x.unit.acc, .int .i64 x.unit.cli, .int .i64 x.inst, .int .i64 x.price, .int .i64 x.left]
def okGroup (x : Group) : Prop := In64 x.id ∧ In64 x.unit.acc ∧ In64 x.unit.cli ∧ In64 x.inst ∧ In64 x.price ∧ In64 x.left
theorem rowsGroup (l : List Group) : ∀ r ∈ l.map encGroup, r.length = 6 ∧ ∀ u ∈ r, u.oneCell' = true := by
  intro r hr
  obtain ⟨m, _, rfl⟩ := List.mem_map.1 hr
  refine ⟨rfl, ?_⟩
  simp only [encGroup, List.mem_cons, List.not_mem_nil, or_false, forall_eq_or_imp, forall_eq]
  exact ⟨rfl, rfl, rfl, rfl, rfl, rfl⟩
theorem encGroup_inj {x y : Group} (h : encGroup x = encGroup y) : x = y := by
  unfold encGroup at h
  simp only [List.cons.injEq, Value.int.injEq, and_true, true_and] at h
  obtain ⟨h0, h1, h2, h3, h4, h5⟩ := h
  obtain ⟨xid, ⟨xunitacc, xunitcli⟩, xinst, xprice, xleft⟩ := x
  obtain ⟨yid, ⟨yunitacc, yunitcli⟩, yinst, yprice, yleft⟩ := y
  simp only at h0 h1 h2 h3 h4 h5
  subst h0 h1 h2 h3 h4 h5
  rfl
theorem neqGroup {x y : Group} (h : x ≠ y) : ((x.id == y.id) = false) ∨ ((x.unit.acc == y.unit.acc) = false) ∨ ((x.unit.cli == y.unit.cli) = false) ∨ ((x.inst == y.inst) = false) ∨ ((x.price == y.price) = false) ∨ ((x.left == y.left) = false) := by
  cases h0 : (x.id == y.id)
  · simp
  cases h1 : (x.unit.acc == y.unit.acc)
  · simp
  cases h2 : (x.unit.cli == y.unit.cli)
  · simp
  cases h3 : (x.inst == y.inst)
  · simp
  cases h4 : (x.price == y.price)
  · simp
  cases h5 : (x.left == y.left)
  · simp
  · exfalso
    apply h
    obtain ⟨xid, ⟨xunitacc, xunitcli⟩, xinst, xprice, xleft⟩ := x
    obtain ⟨yid, ⟨yunitacc, yunitcli⟩, yinst, yprice, yleft⟩ := y
    simp_all
def withinQ (q : Int) : Bool := decide (-1099511627776 ≤ q) && decide (q ≤ 1099511627776)
def fbad (f : Fill) : Bool := decide (f.price < 0) || decide (2147483647 < f.price) || (f.qty == 0) || !withinQ f.qty
/-- A fill that may be. -/
def FOk (f : Fill) : Prop := 0 ≤ f.price ∧ f.price ≤ 2147483647 ∧ f.qty ≠ 0 ∧ -1099511627776 ≤ f.qty ∧ f.qty ≤ 1099511627776
theorem fbad_ok {f : Fill} : fbad f = false ↔ FOk f := by
  unfold fbad FOk withinQ
  simp
  omega
def qS (l : List Fill) : Int := (l.map (·.qty)).sum
def cS (l : List Fill) : Int := (l.map fun f => f.qty * f.price).sum
def aQ (l : List Fill) : Int := (l.map fun f => iabs f.qty).sum
def aC (l : List Fill) : Int := (l.map fun f => iabs f.qty * f.price).sum
/-- Whether a fill is on the other side than the first one. -/
def other (l : List Fill) (f : Fill) : Bool := decide (f.qty < 0) != decide ((l.headD ⟨0, 0⟩).qty < 0)
def mixed (l : List Fill) : Bool := l.any (other l)
def avC (l : List Fill) : Int := if l.length < 1 then 2 else if 16 < l.length then 2 else if l.any fbad = true then 2 else if mixed l = true then 2 else if 1099511627776 < aQ l then 25 else 0
def szQ (l : List Fill) : Int := if avC l = 0 then aQ l else 0
def szC (l : List Fill) : Int := if avC l = 0 then aC l else 0
def avQ (l : List Fill) : Int := if avC l = 0 then qS l else 0
def avA (l : List Fill) : Int := if avC l = 0 then aC l / aQ l else 0
def avR (l : List Fill) : Int := if avC l = 0 then aC l % aQ l else 0
theorem iabs_most {q : Int} (h : -1099511627776 ≤ q) (k : q ≤ 1099511627776) : 0 ≤ iabs q ∧ iabs q ≤ 1099511627776 := by unfold iabs; split <;> omega
theorem sum_snoc {l : List Fill} {k : Nat} (h : k < l.length) (f : Fill → Int) : ((l.take (k + 1)).map f).sum = ((l.take k).map f).sum + f l[k] := by
  rw [List.take_succ_eq_append_getElem h, List.map_append, List.sum_append]; simp
theorem aQ_bound : ∀ {l : List Fill} (_ : ∀ f ∈ l, FOk f), 0 ≤ aQ l ∧ aQ l ≤ 1099511627776 * (l.length : Int) ∧ (l.length : Int) ≤ aQ l
  | [], _ => by simp [aQ]
  | f :: t, h => by
    have h1 := aQ_bound (l := t) fun g hg => h g (by simp [hg])
    have h2 := h f (by simp)
    unfold FOk at h2
    have h3 := iabs_most h2.2.2.2.1 h2.2.2.2.2
    have h4 : 1 ≤ iabs f.qty := by unfold iabs; split <;> omega
    unfold aQ at h1 ⊢
    simp only [List.map_cons, List.sum_cons, List.length_cons]
    omega
theorem mul_bound {a p : Int} (h0 : 0 ≤ a) (p0 : 0 ≤ p) (p1 : p ≤ 2147483647) : 0 ≤ a * p ∧ a * p ≤ a * 2147483647 :=
  ⟨Int.mul_nonneg h0 p0, Int.mul_le_mul_of_nonneg_left p1 h0⟩
theorem aC_bound : ∀ {l : List Fill} (_ : ∀ f ∈ l, FOk f), 0 ≤ aC l ∧ aC l ≤ aQ l * 2147483647
  | [], _ => by simp [aC, aQ]
  | f :: t, h => by
    have h1 := aC_bound (l := t) fun g hg => h g (by simp [hg])
    have h2 := h f (by simp)
    unfold FOk at h2
    have h3 := iabs_most h2.2.2.2.1 h2.2.2.2.2
    have h4 := mul_bound h3.1 h2.1 h2.2.1
    unfold aC aQ at h1 ⊢
    simp only [List.map_cons, List.sum_cons]
    rw [Int.add_mul]
    omega
theorem any_fbad {l : List Fill} (h : l.any fbad = false) : ∀ f ∈ l, FOk f := by
  intro f hf
  rw [List.any_eq_false] at h
  exact fbad_ok.1 (by simpa using h f hf)
theorem take_ok {l : List Fill} (h : ∀ f ∈ l, FOk f) (k : Nat) : ∀ f ∈ l.take k, FOk f := fun f hf => h f (List.mem_of_mem_take hf)
theorem head_at {l : List Fill} (h : 0 < l.length) : l.headD ⟨0, 0⟩ = l[0] := by
  cases l with
  | nil => simp at h
  | cons a t => rfl
/-- Signs alike: what holds with signs and without. -/
theorem same_neg : ∀ {l : List Fill} (_ : ∀ f ∈ l, f.qty < 0), qS l = - aQ l ∧ cS l = - aC l
  | [], _ => by simp [qS, cS, aQ, aC]
  | f :: t, h => by
    have h1 := same_neg (l := t) fun g hg => h g (by simp [hg])
    have h2 : iabs f.qty = - f.qty := iabs_neg (h f (by simp))
    unfold qS cS aQ aC at h1 ⊢
    simp only [List.map_cons, List.sum_cons]
    rw [h2, Int.neg_mul]
    omega
theorem same_pos : ∀ {l : List Fill} (_ : ∀ f ∈ l, 0 ≤ f.qty), qS l = aQ l ∧ cS l = aC l
  | [], _ => by simp [qS, cS, aQ, aC]
  | f :: t, h => by
    have h1 := same_pos (l := t) fun g hg => h g (by simp [hg])
    have h2 : iabs f.qty = f.qty := iabs_pos (h f (by simp))
    unfold qS cS aQ aC at h1 ⊢
    simp only [List.map_cons, List.sum_cons]
    rw [h2]
    omega
theorem signs {l : List Fill} (h0 : 0 < l.length) (hm : mixed l = false) : (l[0].qty < 0 ∧ qS l = - aQ l ∧ cS l = - aC l) ∨ (0 ≤ l[0].qty ∧ qS l = aQ l ∧ cS l = aC l) := by
  unfold mixed at hm
  rw [List.any_eq_false] at hm
  have hh := head_at h0
  by_cases hn : l[0].qty < 0
  · exact .inl ⟨hn, same_neg fun f hf => by
      have := hm f hf
      unfold other at this
      rw [hh] at this
      simpa [hn] using this⟩
  · exact .inr ⟨by omega, same_pos fun f hf => by
      have := hm f hf
      unfold other at this
      rw [hh] at this
      simpa [hn] using this⟩
end Go.Proofs.Ytenehpcliajdnaa
