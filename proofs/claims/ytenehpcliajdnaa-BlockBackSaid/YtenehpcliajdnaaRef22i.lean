/- Groups: contracts of the reference's Open, Table. -/
import Derived.Test.YtenehpcliajdnaaRef22h
namespace Go.Proofs.Ytenehpcliajdnaa
open Go.RowKit
set_option maxRecDepth 100000 in
set_option maxHeartbeats 8000000 in
theorem ref22Open (l : List Group) (g : Group) (A0 : Option Addr) (c : Nat) (w : World) (hl : l.length ≤ 1000) (hid : ∀ x ∈ l, 0 ≤ x.id ∧ x.id ≤ 1000) (hr : Rs w 6 (l.map encGroup) A0 c) :
    Calls Try.prog 29 #[.slice A0 l.length c, .agg #[.int .i64 g.id, .int .i64 g.unit.acc, .int .i64 g.unit.cli, .int .i64 g.inst, .int .i64 g.price, .int .i64 g.left]] w (OpenPost w l g) := by
  have HR := Lib.hid hr
  have HD := Lib.hid (show opC l g = (if g.left = 0 then 2 else if withinQ g.left = true then (if 64 ≤ l.length then 25 else 0) else 2) from rfl)
  clear hr
  by_cases t0 : g.left = 0
  · have d0 : (g.left == 0) = true := by simpa using t0
    have HC := Lib.hid (show opC l g = 2 from by rw [HD.out, if_pos t0])
    clear HD
    obtain ⟨y1, y2⟩ := op_not HC.out (by decide)
    have Y1 := Lib.hid y1
    have Y2 := Lib.hid y2
    clear y1 y2
    go_enter Try.func29, Try.ntmps29
    go_wp2_with fail
    refine bodyPost_ret (by simp [results, Try.results29, go_sem]; try rfl) rfl ⟨_, by rw [Y1.out, HC.out], by rw [Y2.out]; exact Own.nil _ _ _ _, ?_⟩
    (repeat' (first | (with_reducible exact Below.refl _ _) | (with_reducible assumption) | (with_reducible refine Below.alloc ?_ ?_ _) | (with_reducible refine Below.setCell ?_ ?_ _) | (with_reducible refine Below.drew ?_) | (with_reducible refine below_drewN ?_ _) | (with_reducible refine below_via ?_ (by with_reducible assumption) ?_) | omega | (simp; done) | (simp; omega)))
  have d0 : (g.left == 0) = false := by simpa using t0
  by_cases t1 : g.left < -1099511627776
  · have d1 : decide (g.left < -1099511627776) = true := by simpa using t1
    have HC := Lib.hid (show opC l g = 2 from by rw [HD.out, if_neg t0, show withinQ g.left = false from by unfold withinQ; simp; omega]; rfl)
    clear HD
    obtain ⟨y1, y2⟩ := op_not HC.out (by decide)
    have Y1 := Lib.hid y1
    have Y2 := Lib.hid y2
    clear y1 y2
    go_enter Try.func29, Try.ntmps29
    go_wp2_with fail
    refine bodyPost_ret (by simp [results, Try.results29, go_sem]; try rfl) rfl ⟨_, by rw [Y1.out, HC.out], by rw [Y2.out]; exact Own.nil _ _ _ _, ?_⟩
    (repeat' (first | (with_reducible exact Below.refl _ _) | (with_reducible assumption) | (with_reducible refine Below.alloc ?_ ?_ _) | (with_reducible refine Below.setCell ?_ ?_ _) | (with_reducible refine Below.drew ?_) | (with_reducible refine below_drewN ?_ _) | (with_reducible refine below_via ?_ (by with_reducible assumption) ?_) | omega | (simp; done) | (simp; omega)))
  have d1 : decide (g.left < -1099511627776) = false := by simpa using t1
  by_cases t1' : 1099511627776 < g.left
  · have d1' : decide (1099511627776 < g.left) = true := by simpa using t1'
    have HC := Lib.hid (show opC l g = 2 from by rw [HD.out, if_neg t0, show withinQ g.left = false from by unfold withinQ; simp; omega]; rfl)
    clear HD
    obtain ⟨y1, y2⟩ := op_not HC.out (by decide)
    have Y1 := Lib.hid y1
    have Y2 := Lib.hid y2
    clear y1 y2
    go_enter Try.func29, Try.ntmps29
    go_wp2_with fail
    refine bodyPost_ret (by simp [results, Try.results29, go_sem]; try rfl) rfl ⟨_, by rw [Y1.out, HC.out], by rw [Y2.out]; exact Own.nil _ _ _ _, ?_⟩
    (repeat' (first | (with_reducible exact Below.refl _ _) | (with_reducible assumption) | (with_reducible refine Below.alloc ?_ ?_ _) | (with_reducible refine Below.setCell ?_ ?_ _) | (with_reducible refine Below.drew ?_) | (with_reducible refine below_drewN ?_ _) | (with_reducible refine below_via ?_ (by with_reducible assumption) ?_) | omega | (simp; done) | (simp; omega)))
  have d1' : decide (1099511627776 < g.left) = false := by simpa using t1'
  have t3 : withinQ g.left = true := by unfold withinQ; simp; omega
  by_cases t2 : 64 ≤ l.length
  · have HC := Lib.hid (show opC l g = 25 from by rw [HD.out, if_neg t0, t3, if_pos rfl, if_pos t2])
    have d2 : decide (63 < (l.length : Int)) = true := by simp; omega
    clear HD t3
    obtain ⟨y1, y2⟩ := op_not HC.out (by decide)
    have Y1 := Lib.hid y1
    have Y2 := Lib.hid y2
    clear y1 y2
    go_enter Try.func29, Try.ntmps29
    go_wp2_with fail
    refine bodyPost_ret (by simp [results, Try.results29, go_sem]; try rfl) rfl ⟨_, by rw [Y1.out, HC.out], by rw [Y2.out]; exact Own.nil _ _ _ _, ?_⟩
    (repeat' (first | (with_reducible exact Below.refl _ _) | (with_reducible assumption) | (with_reducible refine Below.alloc ?_ ?_ _) | (with_reducible refine Below.setCell ?_ ?_ _) | (with_reducible refine Below.drew ?_) | (with_reducible refine below_drewN ?_ _) | (with_reducible refine below_via ?_ (by with_reducible assumption) ?_) | omega | (simp; done) | (simp; omega)))
  have HC := Lib.hid (show opC l g = 0 from by rw [HD.out, if_neg t0, t3, if_pos rfl, if_neg t2])
  have d2 : decide (63 < (l.length : Int)) = false := by simp; omega
  obtain ⟨y1, y2⟩ := op_yes HC.out
  have hln : (l.map encGroup).length = l.length := by simp
  clear HD t3
  by_cases h0 : l.length = 0
  · have hl0 : l = [] := List.eq_nil_of_length_eq_zero h0
    have hn : nextG l = 1 := by rw [hl0]; rfl
    rw [hn] at y1 y2
    have Y1 := Lib.hid y1
    have Y2 := Lib.hid (show (opL l g).map encGroup = l.map encGroup ++ [encGroup (withId g 1)] from by rw [y2, List.map_append]; rfl)
    have d3 : decide (0 < (l.length : Int)) = false := by simp; omega
    clear y1 y2 hn hl0 hid
    go_enter Try.func29, Try.ntmps29
    go_wp2_with (first | (at_builtin; refine wpList_any rfl _ _ _ rfl elGroup (w.heap.size + 1) _ _ rfl (Own.nil _ _ _ _) _ l.length c rfl (l.map encGroup) (by simp) (HR.out.rd.keep (by (repeat' (first | (with_reducible exact Below.refl _ _) | (with_reducible assumption) | (with_reducible refine Below.alloc ?_ ?_ _) | (with_reducible refine Below.setCell ?_ ?_ _) | (with_reducible refine Below.drew ?_) | (with_reducible refine below_drewN ?_ _) | (with_reducible refine below_via ?_ (by with_reducible assumption) ?_) | omega | (simp; done) | (simp; omega))))) (rowsGroup l) (by unfold maxLen; first | (simp; done) | omega | (simp; omega)) (by first | (simp; done) | omega | (simp; omega)) (by simp) ?_; intro v3 w3 hown3 hb3; have HO3 := Lib.hid (show Own w3 (w.heap.size + 1) 51 6 v3 (l.map encGroup) from by simpa using hown3); clear hown3) | fail)
    have bk3 := (show Blk (w.alloc (.cells #[.int .i64 (1), .int .i64 g.unit.acc, .int .i64 g.unit.cli, .int .i64 g.inst, .int .i64 g.price, .int .i64 g.left] 51)) w.heap.size 51 #[.int .i64 (1), .int .i64 g.unit.acc, .int .i64 g.unit.cli, .int .i64 g.inst, .int .i64 g.price, .int .i64 g.left] from Blk.here (by simp)).below hb3 (by omega)
    have p0 := bk3.cell 0
    have p1 := bk3.cell 1
    have p2 := bk3.cell 2
    have p3 := bk3.cell 3
    have p4 := bk3.cell 4
    have p5 := bk3.cell 5
    simp at p0 p1 p2 p3 p4 p5
    have hz3 := bk3.lt
    have Hb3 := Lib.hid (show Below w.heap.size w w3 from by (repeat' (first | (with_reducible exact Below.refl _ _) | (with_reducible assumption) | (with_reducible refine Below.alloc ?_ ?_ _) | (with_reducible refine Below.setCell ?_ ?_ _) | (with_reducible refine Below.drew ?_) | (with_reducible refine below_drewN ?_ _) | (with_reducible refine below_via ?_ (by with_reducible assumption) ?_) | omega | (simp; done) | (simp; omega))))
    clear bk3 hb3
    go_region_held3 (fun w' => w'.cell? ⟨w.heap.size, 0, none⟩ = some (.int .i64 (1)) ∧ w'.cell? ⟨w.heap.size, 1, none⟩ = some (.int .i64 g.unit.acc) ∧ w'.cell? ⟨w.heap.size, 2, none⟩ = some (.int .i64 g.unit.cli) ∧ w'.cell? ⟨w.heap.size, 3, none⟩ = some (.int .i64 g.inst) ∧ w'.cell? ⟨w.heap.size, 4, none⟩ = some (.int .i64 g.price) ∧ w'.cell? ⟨w.heap.size, 5, none⟩ = some (.int .i64 g.left)) (first | (simp [go_sem]; done) | (repeat' (first | (with_reducible assumption) | (with_reducible refine And.intro ?_ ?_) | (with_reducible refine cell_drew ?_) | (with_reducible refine cell_via (by with_reducible assumption) ?_ ?_) | (simp [*]; done) | (simp [go_sem]; done) | (with_reducible refine cell_alloc ?_ ?_) | (with_reducible refine cell_set_far ?_ ?_) | omega | (simp; omega)))) (first | (refine step_app rfl _ _ _ rfl elGroup (w.heap.size + 1) _ (l.map encGroup) rfl (by first | exact HO3.out.alloc _ | exact HO3.out.drew.alloc _) _ 1 1 rfl [encGroup (withId g (1))] rfl (fun h => by cases h) (by first | exact rd_one | exact rd_one.drew) (rowsG1 _) (by unfold maxLen; first | (simp; done) | omega | (simp; omega)) (by first | (simp; done) | omega | (simp; omega)) (by first | omega | (simp; done) | (simp; omega)) ?_; intro v4 w4 hown4 hb4; have HO4 := Lib.hid hown4; clear hown4; obtain ⟨fc4, fg4, hc4, hf4, hz4⟩ := bget hb4; (try simp at hz4)) | fail)
    all_goals
      go_wp2_with fail
      have hbl3 := Hb3.out
      refine bodyPost_ret (by simp [results, Try.results29, go_sem]; try rfl) rfl ⟨_, by rw [Y1.out, HC.out], by rw [Y2.out]; exact HO4.out.mono (by first | omega | (simp; omega)), ?_⟩
      (repeat' (first | (with_reducible exact Below.refl _ _) | (with_reducible assumption) | (with_reducible refine Below.alloc ?_ ?_ _) | (with_reducible refine Below.setCell ?_ ?_ _) | (with_reducible refine Below.drew ?_) | (with_reducible refine below_drewN ?_ _) | (with_reducible refine below_via ?_ (by with_reducible assumption) ?_) | omega | (simp; done) | (simp; omega)))
  · have hpos : 0 < l.length := by omega
    have hn := getLast_at hpos
    have hii := hid _ (List.getElem_mem (show l.length - 1 < l.length by omega))
    obtain ⟨b, o, hA, hb, hc⟩ := HR.out.rd (l.length - 1) (encGroup (l[l.length - 1]'(by omega))) (by rw [List.getElem?_map, List.getElem?_eq_getElem (by omega)]; rfl)
    have e0 := hc 0 _ rfl
    simp only [Nat.add_zero] at e0
    generalize hx : (l[l.length - 1]'(by omega)) = x at *
    rw [hn] at y1 y2
    have Y1 := Lib.hid y1
    have Y2 := Lib.hid (show (opL l g).map encGroup = l.map encGroup ++ [encGroup (withId g (x.id + 1))] from by rw [y2, List.map_append]; rfl)
    have d3 : decide (0 < (l.length : Int)) = true := by simp; omega
    have wk : IntKind.i64.wrap ((l.length : Int) - 1) = (l.length : Int) - 1 := IntWalk.i64_in _ (by omega)
    have tk : ((l.length : Int) - 1).toNat = l.length - 1 := by omega
    clear y1 y2 hn hid hc hx
    subst hA
    go_enter Try.func29, Try.ntmps29
    go_wp2_with (first | (at_builtin; refine wpList_any rfl _ _ _ rfl elGroup (w.heap.size + 1) _ _ rfl (Own.nil _ _ _ _) _ l.length c rfl (l.map encGroup) (by simp) (HR.out.rd.keep (by (repeat' (first | (with_reducible exact Below.refl _ _) | (with_reducible assumption) | (with_reducible refine Below.alloc ?_ ?_ _) | (with_reducible refine Below.setCell ?_ ?_ _) | (with_reducible refine Below.drew ?_) | (with_reducible refine below_drewN ?_ _) | (with_reducible refine below_via ?_ (by with_reducible assumption) ?_) | omega | (simp; done) | (simp; omega))))) (rowsGroup l) (by unfold maxLen; first | (simp; done) | omega | (simp; omega)) (by first | (simp; done) | omega | (simp; omega)) (by simp) ?_; intro v3 w3 hown3 hb3; have HO3 := Lib.hid (show Own w3 (w.heap.size + 1) 51 6 v3 (l.map encGroup) from by simpa using hown3); clear hown3) | fail)
    have bk3 := (show Blk (w.alloc (.cells #[.int .i64 (x.id + 1), .int .i64 g.unit.acc, .int .i64 g.unit.cli, .int .i64 g.inst, .int .i64 g.price, .int .i64 g.left] 51)) w.heap.size 51 #[.int .i64 (x.id + 1), .int .i64 g.unit.acc, .int .i64 g.unit.cli, .int .i64 g.inst, .int .i64 g.price, .int .i64 g.left] from Blk.here (by simp)).below hb3 (by omega)
    have p0 := bk3.cell 0
    have p1 := bk3.cell 1
    have p2 := bk3.cell 2
    have p3 := bk3.cell 3
    have p4 := bk3.cell 4
    have p5 := bk3.cell 5
    simp at p0 p1 p2 p3 p4 p5
    have hz3 := bk3.lt
    have Hb3 := Lib.hid (show Below w.heap.size w w3 from by (repeat' (first | (with_reducible exact Below.refl _ _) | (with_reducible assumption) | (with_reducible refine Below.alloc ?_ ?_ _) | (with_reducible refine Below.setCell ?_ ?_ _) | (with_reducible refine Below.drew ?_) | (with_reducible refine below_drewN ?_ _) | (with_reducible refine below_via ?_ (by with_reducible assumption) ?_) | omega | (simp; done) | (simp; omega))))
    clear bk3 hb3
    go_region_held3 (fun w' => w'.cell? ⟨w.heap.size, 0, none⟩ = some (.int .i64 (x.id + 1)) ∧ w'.cell? ⟨w.heap.size, 1, none⟩ = some (.int .i64 g.unit.acc) ∧ w'.cell? ⟨w.heap.size, 2, none⟩ = some (.int .i64 g.unit.cli) ∧ w'.cell? ⟨w.heap.size, 3, none⟩ = some (.int .i64 g.inst) ∧ w'.cell? ⟨w.heap.size, 4, none⟩ = some (.int .i64 g.price) ∧ w'.cell? ⟨w.heap.size, 5, none⟩ = some (.int .i64 g.left)) (first | (simp [go_sem]; done) | (repeat' (first | (with_reducible assumption) | (with_reducible refine And.intro ?_ ?_) | (with_reducible refine cell_drew ?_) | (with_reducible refine cell_via (by with_reducible assumption) ?_ ?_) | (simp [*]; done) | (simp [go_sem]; done) | (with_reducible refine cell_alloc ?_ ?_) | (with_reducible refine cell_set_far ?_ ?_) | omega | (simp; omega)))) (first | (refine step_app rfl _ _ _ rfl elGroup (w.heap.size + 1) _ (l.map encGroup) rfl (by first | exact HO3.out.alloc _ | exact HO3.out.drew.alloc _) _ 1 1 rfl [encGroup (withId g (x.id + 1))] rfl (fun h => by cases h) (by first | exact rd_one | exact rd_one.drew) (rowsG1 _) (by unfold maxLen; first | (simp; done) | omega | (simp; omega)) (by first | (simp; done) | omega | (simp; omega)) (by first | omega | (simp; done) | (simp; omega)) ?_; intro v4 w4 hown4 hb4; have HO4 := Lib.hid hown4; clear hown4; obtain ⟨fc4, fg4, hc4, hf4, hz4⟩ := bget hb4; (try simp at hz4)) | fail)
    all_goals
      go_wp2_with fail
      have hbl3 := Hb3.out
      refine bodyPost_ret (by simp [results, Try.results29, go_sem]; try rfl) rfl ⟨_, by rw [Y1.out, HC.out], by rw [Y2.out]; exact HO4.out.mono (by first | omega | (simp; omega)), ?_⟩
      (repeat' (first | (with_reducible exact Below.refl _ _) | (with_reducible assumption) | (with_reducible refine Below.alloc ?_ ?_ _) | (with_reducible refine Below.setCell ?_ ?_ _) | (with_reducible refine Below.drew ?_) | (with_reducible refine below_drewN ?_ _) | (with_reducible refine below_via ?_ (by with_reducible assumption) ?_) | omega | (simp; done) | (simp; omega)))
end Go.Proofs.Ytenehpcliajdnaa
