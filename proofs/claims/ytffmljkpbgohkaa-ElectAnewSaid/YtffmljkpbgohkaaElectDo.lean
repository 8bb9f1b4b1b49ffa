/- The law's Do's. -/
import Derived.Test.YtffmljkpbgohkaaElect1
namespace Go.Proofs.Ytffmljkpbgohkaa
open Go.RowKit
structure Do where
  kind : Int
  u : Un
  t : Un
  deriving DecidableEq
def encDo (x : Do) : List Value := [.int .i64 x.kind, .int .i64 x.u.acc, .int .i64 x.u.cli, .int .i64 x.t.acc, .int .i64 x.t.cli]
def okDo (x : Do) : Prop := In64 x.kind ∧ In64 x.u.acc ∧ In64 x.u.cli ∧ In64 x.t.acc ∧ In64 x.t.cli
theorem rowsDo (l : List Do) : ∀ r ∈ l.map encDo, r.length = 5 ∧ ∀ u ∈ r, u.oneCell' = true := by
  intro r hr
  obtain ⟨m, _, rfl⟩ := List.mem_map.1 hr
  refine ⟨rfl, ?_⟩
  simp only [encDo, List.mem_cons, List.not_mem_nil, or_false, forall_eq_or_imp, forall_eq]
  exact ⟨rfl, rfl, rfl, rfl, rfl⟩
theorem encDo_inj {x y : Do} (h : encDo x = encDo y) : x = y := by
  unfold encDo at h
  simp only [List.cons.injEq, Value.int.injEq, and_true, true_and] at h
  obtain ⟨h0, h1, h2, h3, h4⟩ := h
  obtain ⟨xkind, ⟨xuacc, xucli⟩, ⟨xtacc, xtcli⟩⟩ := x
  obtain ⟨ykind, ⟨yuacc, yucli⟩, ⟨ytacc, ytcli⟩⟩ := y
  simp only at h0 h1 h2 h3 h4
  subst h0 h1 h2 h3 h4
  rfl
theorem neqDo {x y : Do} (h : x ≠ y) : ((x.kind == y.kind) = false) ∨ ((x.u.acc == y.u.acc) = false) ∨ ((x.u.cli == y.u.cli) = false) ∨ ((x.t.acc == y.t.acc) = false) ∨ ((x.t.cli == y.t.cli) = false) := by
  cases h0 : (x.kind == y.kind)
  · simp
  cases h1 : (x.u.acc == y.u.acc)
  · simp
  cases h2 : (x.u.cli == y.u.cli)
  · simp
  cases h3 : (x.t.acc == y.t.acc)
  · simp
  cases h4 : (x.t.cli == y.t.cli)
  · simp
  · exfalso
    apply h
    obtain ⟨xkind, ⟨xuacc, xucli⟩, ⟨xtacc, xtcli⟩⟩ := x
    obtain ⟨ykind, ⟨yuacc, yucli⟩, ⟨ytacc, ytcli⟩⟩ := y
    simp_all
end Go.Proofs.Ytffmljkpbgohkaa
