/- What an append to one own slice leaves of another one. No program in sight. -/
import Derived.Test.YtenehpcliajdnaaAway
namespace Go.Proofs.Ytenehpcliajdnaa
open Go.RowKit
section
variable {w w1 w' : World} {row : Option Nat}
theorem grown_via (hb : Below w.heap.size w w1) (hg : w1.grownBy w' row) : w.grownBy w' row :=
  ⟨hg.os.trans hb.os, hg.tape.trans hb.tape, hg.output.trans hb.output, Nat.le_trans hb.size hg.size, fun k hk hne => (hg.block k (Nat.lt_of_lt_of_le hk hb.size) hne).trans (hb.block k hk)⟩
theorem grown_cell (hg : w.grownBy w' row) {p : Addr} (hp : p.block < w.heap.size) (hne : row ≠ some p.block) : w'.cell? p = w.cell? p :=
  World.cell?_of_block (hg.block _ hp (fun e => hne e.symm))
theorem Own.grown {base E k : Nat} {v : Value} {rows : List (List Value)} (h : Own w base E k v rows) (hg : w.grownBy w' row) (hne : ∀ g, v.ownBlock = some g → row ≠ some g) : Own w' base E k v rows := by
  refine ⟨h.1, h.2.1, ?_⟩
  rcases h.2.2 with h2 | ⟨g, cap, cur, hv, hgb, hh, r⟩
  · exact .inl h2
  · exact .inr ⟨g, cap, cur, hv, hgb, by rw [hg.block g (Array.getElem?_eq_some_iff.1 hh).1 (fun e => hne g (by rw [hv]; rfl) e.symm)]; exact hh, r⟩
end
/-- append, and where the row lies behind it. -/
theorem wpList_appAt {P : Program} {ops : Array Oper} {rest : List Oper} {o : Oper} {a : Act} {Q : Exit → Act → World → Prop} {w : World} (hgd : o.guard = none) (s x : Operand) (T : TypeId)
    (ho : o.op = .call { callee := .builtin .append, args := #[s, x], argTypes := #[T, T] }) {E k bytes : Nat} (el : Elem P T E k bytes)
    (base : Nat) (v : Value) (rows : List (List Value)) (hs : a.eval s = v) (hown : Own w base E k v rows)
    (ad : Addr) (m c : Nat) (hx : a.eval x = .slice (some ad) m c) (news : List (List Value)) (hm : news.length = m) (hr : Rd w (some ad) k news) (hk : ∀ r ∈ news, r.length = k ∧ ∀ u ∈ r, u.oneCell' = true)
    (h63 : rows.length + m ≤ maxLen) (hbytes : (rows.length + m) * bytes ≤ 140737488355328) (hbase : base ≤ w.heap.size)
    (h : ∀ v' w', Own w' base E k v' (rows ++ news) → Below base w w' → w.grownBy w' v.ownBlock → (v'.ownBlock = v.ownBlock ∨ v'.ownBlock = some w.heap.size) → wpList P ops Q rest (a.put o.dst v') w') : wpList P ops Q (o :: rest) a w := by
  obtain ⟨i, z, hi, hz, hsize, hby, hzs⟩ := el.info
  have hkl : ∀ r ∈ news, r.length = k := fun r hr => (hk r hr).1
  have hall : ∀ r ∈ rows ++ news, r.length = k := fun r hr => by
    rcases List.mem_append.1 hr with h1 | h1
    · exact hown.1 r h1
    · exact hkl r h1
  refine wpList_append_own_at w hgd s x T ho base E i z k bytes el.ty hi hz hsize hby hzs el.pos v rows.length rows.flatten hs hown.2 ad m c news.flatten hx (by rw [flatten_length hkl, hm]) (rd_cells hkl hr) (fun u hu => by
      obtain ⟨r, hr1, hr2⟩ := List.mem_flatten.1 hu
      exact (hk r hr1).2 u hr2) h63 hbytes hbase fun v' w' h1 h2 _ h4 => ?_
  exact h v' w' ⟨hall, by rw [List.length_append, hm, List.flatten_append]; exact h1⟩ ((Below.refl base w).grown h2 hbase (fun g hg => (hown.block g hg).1)) h2 h4
end Go.Proofs.Ytenehpcliajdnaa
