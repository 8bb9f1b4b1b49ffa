/- Joined. -/
import Derived.Test.YtalgfpegaobacaaGreatDoorQz3
import Derived.Test.YtalgfpegaobacaaGreatDoorQz4
namespace Go.Proofs.YtalgfpegaobacaaGreatDoor
set_option linter.all false
set_option maxRecDepth 100000
open Go.RowKit
/- What an append to one own slice leaves of another one. No program in sight. -/
section
variable {w w1 w' : World} {row : Option Nat}
theorem Own.grown {base E k : Nat} {v : Value} {rows : List (List Value)} (h : Own w base E k v rows) (hg : w.grownBy w' row) (hne : ∀ g, v.ownBlock = some g → row ≠ some g) : Own w' base E k v rows := by
 refine ⟨h.1, h.2.1, ?_⟩
 rcases h.2.2 with h2 | ⟨g, cap, cur, hv, hgb, hh, r⟩
 ·exact .inl h2
 ·exact .inr ⟨g, cap, cur, hv, hgb, by rw [hg.block g (Array.getElem?_eq_some_iff.1 hh).1 (fun e => hne g (by rw [hv]; rfl) e.symm)]; exact hh, r⟩
end
theorem wpList_appAt {P : Program} {ops : Array Oper} {rest : List Oper} {o : Oper} {a : Act} {Q : Exit → Act → World → Prop} {w : World} (hgd : o.guard = none) (s x : Operand) (T : TypeId)
  (ho : o.op = .call { callee := .builtin .append, args := #[s, x], argTypes := #[T, T] }) {E k bytes : Nat} (el : Elem P T E k bytes)
  (base : Nat) (v : Value) (rows : List (List Value)) (hs : a.eval s = v) (hown : Own w base E k v rows)
  (ad : Addr) (m c : Nat) (hx : a.eval x = .slice (some ad) m c) (news : List (List Value)) (hm : news.length = m) (hr : Rd w (some ad) k news) (hk : ∀ r ∈ news, r.length = k ∧ ∀ u ∈ r, u.oneCell' = true)
  (h63 : rows.length + m ≤ maxLen) (hbytes : (rows.length + m) * bytes ≤ 140737488355328) (hbase : base ≤ w.heap.size)
  (h : ∀ v' w', Own w' base E k v' (rows ++ news) → Below base w w' → w.grownBy w' v.ownBlock → (v'.ownBlock = v.ownBlock ∨ v'.ownBlock = some w.heap.size) → wpList P ops Q rest (a.put o.dst v') w') : wpList P ops Q (o :: rest) a w := by
 obtain ⟨i, z, hi, hz, hsize, hby, hzs⟩ := el.info
 have hkl : ∀ r ∈ news, r.length = k := fun r hr => (hk r hr).1
 have hall : ∀ r ∈ rows ++ news, r.length = k := fun r hr => by
  rcases List.mem_append.1 hr with h1 | h1
  ·exact hown.1 r h1
  ·exact hkl r h1
 refine wpList_append_own_at w hgd s x T ho base E i z k bytes el.ty hi hz hsize hby hzs el.pos v rows.length rows.flatten hs hown.2 ad m c news.flatten hx (by rw [flatten_length hkl, hm]) (rd_cells hkl hr) (fun u hu => by
   obtain ⟨r, hr1, hr2⟩ := List.mem_flatten.1 hu
   exact (hk r hr1).2 u hr2) h63 hbytes hbase fun v' w' h1 h2 _ h4 => ?_
 exact h v' w' ⟨hall, by rw [List.length_append, hm, List.flatten_append]; exact h1⟩ ((Below.refl base w).grown h2 hbase (fun g hg => (hown.block g hg).1)) h2 h4
section
open Go.ChangeShapes Go.WideShapes Go.ChangeAt Go.RowKit Go.Joins
/- Units handed in. -/
theorem Un_cells {H : Type} {enc : TypeId × Value → H} {W : World} {spare : Nat → Bool} {held : Bool} (cs : List Value) (n : Nat) (y : DataW H × List MemPlace) (hlen : cs.length = 2) (h : DataW.trod enc Tryz.prog W 0 spare held n 60 cs = some y) : ∃ x : Un, okUn x ∧ cs = encUn x := by
 obtain ⟨xs, n, _, rfl, _, hxs, hf⟩ := DataW.trod_struct Tryz.underlying60 h
 match cs, hlen, xs, hxs with
 | [c0, c1], _, [y0, y1], _ =>
  have h0 : DataW.trod enc Tryz.prog W 0 spare held n 3 (([c0, c1].drop 0).take (Tryz.prog.cellsOf 3)) = some y0 := hf 0 _ rfl
  have h1 : DataW.trod enc Tryz.prog W 0 spare held n 3 (([c0, c1].drop 1).take (Tryz.prog.cellsOf 3)) = some y1 := hf 1 _ rfl
  obtain ⟨x0, e0, _, w0⟩ := DataW.trod_int (k := .i64) (by kernel_rfl) h0
  rw [show Tryz.prog.cellsOf _ = 1 from by kernel_rfl] at e0
  simp at e0
  subst e0
  obtain ⟨x1, e1, _, w1⟩ := DataW.trod_int (k := .i64) (by kernel_rfl) h1
  rw [show Tryz.prog.cellsOf _ = 1 from by kernel_rfl] at e1
  simp at e1
  subst e1
  exact ⟨⟨x0, x1⟩, ⟨in64_of_wf w0, in64_of_wf w1⟩, rfl⟩
end
end Go.Proofs.YtalgfpegaobacaaGreatDoor
