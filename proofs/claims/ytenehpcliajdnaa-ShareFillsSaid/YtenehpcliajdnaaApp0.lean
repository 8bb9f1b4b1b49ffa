/- append(v, x...) onto a slice of the call's own, whatever x is; a nil x too, whatever its room. -/
import Derived.Test.YtenehpcliajdnaaOwn
namespace Go.Proofs.Ytenehpcliajdnaa
open Go.RowKit
theorem run_append_none {P : Program} {w : World} (base : Nat) (t ty e : TypeId) (i : TypeInfo) (size : Nat) (ht : P.underlying t = some (.slice e)) (hi : P.info? e = some i)
    (v : Value) (n c : Nat) (xs : List Value) (hown : w.ownsRow base e size v n xs) :
    (Builtin.append_ #[t, t] ty #[v, .slice none 0 c]).run P w = .ok v w := by
  rcases hown.2 with ⟨rfl, rfl⟩ | ⟨g, cap, cur, rfl, _, _, hnc, _⟩
  · simp [Builtin.append_, run_underlying ht, sizeOf, typeInfo, hi, Builtin.lenOf, Builtin.firstCells]
  · simp [Builtin.append_, run_underlying ht, sizeOf, typeInfo, hi, Builtin.lenOf, Builtin.firstCells, hnc, storeCells]
theorem wpList_any {P : Program} {ops : Array Oper} {rest : List Oper} {o : Oper} {a : Act} {Q : Exit → Act → World → Prop} {w : World} (hgd : o.guard = none) (s x : Operand) (T : TypeId)
    (ho : o.op = .call { callee := .builtin .append, args := #[s, x], argTypes := #[T, T] }) {E k bytes : Nat} (el : Elem P T E k bytes)
    (base : Nat) (v : Value) (rows : List (List Value)) (hs : a.eval s = v) (hown : Own w base E k v rows)
    (A : Option Addr) (m c : Nat) (hx : a.eval x = .slice A m c) (news : List (List Value)) (hm : news.length = m) (hr : Rd w A k news) (hk : ∀ r ∈ news, r.length = k ∧ ∀ u ∈ r, u.oneCell' = true)
    (h63 : rows.length + m ≤ maxLen) (hbytes : (rows.length + m) * bytes ≤ 140737488355328) (hbase : base ≤ w.heap.size)
    (h : ∀ v' w', Own w' base E k v' (rows ++ news) → Below base w w' → wpList P ops Q rest (a.put o.dst v') w') : wpList P ops Q (o :: rest) a w := by
  rcases A with _ | ad
  · have hn : news = [] := by
      rcases news with _ | ⟨r, news⟩
      · rfl
      · obtain ⟨b, o, hA, _⟩ := hr 0 r rfl
        cases hA
    subst hn
    simp at hm
    subst hm
    refine wpList_plain hgd fun _ hK => ?_
    obtain ⟨i, z, hi, hz, hsize, hby, hzs⟩ := el.info
    have hrun := run_append_none (P := P) (w := w) base T o.type E i k el.ty hi v rows.length c rows.flatten hown.2
    unfold Oper.wp
    simp [execOp, ho, resolve, invoke, builtin, hs, hx, hrun, Result.andThen]
    exact hK _ _ (h v w (by simpa using hown) (Below.refl _ _))
  · exact wpList_app hgd s x T ho el base v rows hs hown (some ad) m c hx news hm (fun h => by cases h) hr hk h63 hbytes hbase h
end Go.Proofs.Ytenehpcliajdnaa
