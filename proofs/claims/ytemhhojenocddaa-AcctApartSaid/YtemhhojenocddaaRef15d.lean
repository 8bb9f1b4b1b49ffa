/- Accounts: contracts of the reference's SameOne, Same, SameUnits. -/
import Derived.Test.YtemhhojenocddaaRef15b
namespace Go.Proofs.Ytemhhojenocddaa
open Go.RowKit
set_option maxRecDepth 100000 in
set_option maxHeartbeats 1000000 in
theorem sameUnits (l : List Un) (A B : Option Addr) (c d : Nat) (w : World) (hl : l.length ≤ 1099511627776) (ha : Rd w A 2 (l.map encUn)) (hb : Rd w B 2 (l.map encUn)) :
    Calls Try.prog 13 #[.slice A l.length c, .slice B l.length d] w fun e w' => e = .returned (.bool true) ∧ Below w.heap.size w w' := by
  have HA := Lib.hid ha
  have HB := Lib.hid hb
  clear ha hb
  go_enter Try.func13, Try.ntmps13
  go_wp2_with fail
  go_loopw [5] (fun i wr => ∃ k : Nat, k ≤ l.length ∧ i = .int .i64 k ∧ ∃ n, wr = w.drewN n) (fun i _ => l.length - (intOf i).toNat)
  case atStart => exact ⟨0, Nat.zero_le _, rfl, 0, rfl⟩
  case round =>
    obtain ⟨k, hk, rfl, nn, rfl⟩ := hrel
    by_cases hlt : k < l.length
    · have kl : (k : Int) < (l.length : Int) := by omega
      obtain ⟨b1, o1, rfl, hb1, hc1⟩ := HA.out k (encUn l[k]) (by simp [hlt])
      obtain ⟨b2, o2, rfl, hb2, hc2⟩ := HB.out k (encUn l[k]) (by simp [hlt])
      have e0 := hc1 0 _ rfl
      have e1 := hc1 1 _ rfl
      have f0 := hc2 0 _ rfl
      have f1 := hc2 1 _ rfl
      simp only [Nat.add_zero] at e0 f0
      clear hc1 hc2
      go_wp2_with fail
      go_quiet (fail)
      go_wp2_with fail
      go_roundw
      case rel => exact ⟨k + 1, by omega, by go_num, _, rfl⟩
      case measure => simp [intOf]; omega
    · go_wp2_with fail
      go_ret
      exact ⟨rfl, by (repeat' (first | (with_reducible exact Below.refl _ _) | (with_reducible assumption) | (with_reducible refine Below.alloc ?_ ?_ _) | (with_reducible refine Below.setCell ?_ ?_ _) | (with_reducible refine Below.drew ?_) | (with_reducible refine below_drewN ?_ _) | (with_reducible refine below_via ?_ (by with_reducible assumption) ?_) | omega | (simp; done) | (simp; omega)))⟩
theorem lgA_eq {x y : AcctV} (h : lgA x = lgA y) : x.id = y.id ∧ x.member = y.member ∧ x.kind = y.kind ∧ x.clients.val = y.clients.val := by
  simp only [lgA, Acct.mk.injEq] at h
  exact h
set_option maxRecDepth 100000 in
set_option maxHeartbeats 4000000 in
theorem ref15SameOne (x : AcctV) (B : Option Addr) (d : Nat) (w : World) (hl : x.clients.val.length ≤ 1048576) (hg : GoodA w x) (hr : Rs w 1 (x.clients.val.map encI) B d) :
    Calls Try.prog 20 #[.agg #[.int .i64 x.id, .int .i64 x.member, .int .i64 x.kind, .slice x.clients.A x.clients.val.length x.clients.c], .agg #[.int .i64 x.id, .int .i64 x.member, .int .i64 x.kind, .slice B x.clients.val.length d]] w fun e w' => e = .returned (.bool true) ∧ Below w.heap.size w w' := by
  have HG := Lib.hid (show Rs w 1 (x.clients.val.map encI) x.clients.A x.clients.c from hg).rd
  have HR := Lib.hid hr.rd
  clear hg hr
  go_enter Try.func20, Try.ntmps20
  go_wp2_with fail
  go_loopw [5] (fun i wr => ∃ k : Nat, k ≤ x.clients.val.length ∧ i = .int .i64 k ∧ Below w.heap.size w wr ∧ wr.cell? ⟨w.heap.size, 3, none⟩ = some (.slice x.clients.A x.clients.val.length x.clients.c) ∧ wr.cell? ⟨w.heap.size + 1, 3, none⟩ = some (.slice B x.clients.val.length d)) (fun i _ => x.clients.val.length - (intOf i).toNat)
  case atStart => exact ⟨0, Nat.zero_le _, rfl, by (repeat' (first | (with_reducible exact Below.refl _ _) | (with_reducible assumption) | (with_reducible refine Below.alloc ?_ ?_ _) | (with_reducible refine Below.setCell ?_ ?_ _) | (with_reducible refine Below.drew ?_) | (with_reducible refine below_drewN ?_ _) | (with_reducible refine below_via ?_ (by with_reducible assumption) ?_) | omega | (simp; done) | (simp; omega))), by simp [go_sem], by simp [go_sem]⟩
  case round =>
    obtain ⟨k, hk, rfl, hbl, g3, h3⟩ := hrel
    have Hbl := Lib.hid hbl
    have hz := hbl.size
    clear hbl
    by_cases hlt : k < x.clients.val.length
    · have kl : (k : Int) < (x.clients.val.length : Int) := by omega
      have dl : decide ((k : Int) < (x.clients.val.length : Int)) = true := by simpa using hlt
      obtain ⟨b1, o1, hA, hb1, hc1⟩ := HG.out k (encI x.clients.val[k]) (by simp [hlt])
      obtain ⟨b2, o2, hB, hb2, hc2⟩ := HR.out k (encI x.clients.val[k]) (by simp [hlt])
      have e0 := (Hbl.out.cell (p := ⟨b1, o1 + k * 1 + 0, none⟩) hb1).trans (hc1 0 _ rfl)
      have f0 := (Hbl.out.cell (p := ⟨b2, o2 + k * 1 + 0, none⟩) hb2).trans (hc2 0 _ rfl)
      simp only [Nat.add_zero, Nat.mul_one] at e0 f0
      rw [hA] at g3
      rw [hB] at h3
      have HA := Lib.hid hA
      have HB := Lib.hid hB
      clear hc1 hc2 hA hB
      go_wp2_with fail
      go_quiet (fail)
      go_wp2_with fail
      go_roundw
      case rel => exact ⟨k + 1, by omega, by go_num, by have hbl := Hbl.out; (repeat' (first | (with_reducible exact Below.refl _ _) | (with_reducible assumption) | (with_reducible refine Below.alloc ?_ ?_ _) | (with_reducible refine Below.setCell ?_ ?_ _) | (with_reducible refine Below.drew ?_) | (with_reducible refine below_drewN ?_ _) | (with_reducible refine below_via ?_ (by with_reducible assumption) ?_) | omega | (simp; done) | (simp; omega))), by rw [HA.out]; simpa [go_sem] using g3, by rw [HB.out]; simpa [go_sem] using h3⟩
      case measure => simp [intOf]; omega
    · have dl : decide ((k : Int) < (x.clients.val.length : Int)) = false := by simpa using hlt
      go_wp2_with fail
      go_ret
      exact ⟨rfl, by have hbl := Hbl.out; (repeat' (first | (with_reducible exact Below.refl _ _) | (with_reducible assumption) | (with_reducible refine Below.alloc ?_ ?_ _) | (with_reducible refine Below.setCell ?_ ?_ _) | (with_reducible refine Below.drew ?_) | (with_reducible refine below_drewN ?_ _) | (with_reducible refine below_via ?_ (by with_reducible assumption) ?_) | omega | (simp; done) | (simp; omega)))⟩
set_option maxRecDepth 100000 in
set_option maxHeartbeats 8000000 in
theorem ref15Same (l m : List AcctV) (A B : Option Addr) (c d : Nat) (w : World) (hlm : l.map lgA = m.map lgA) (hl : l.length ≤ 1000000) (ha : Rs w 4 (l.map encAcctV) A c) (hb : Rs w 4 (m.map encAcctV) B d) (hgl : ∀ x ∈ l, x.clients.val.length ≤ 1048576 ∧ GoodA w x) (hgm : ∀ x ∈ m, GoodA w x) :
    Calls Try.prog 31 #[.slice A l.length c, .slice B m.length d] w fun e w' => e = .returned (.bool true) ∧ Below w.heap.size w w' := by
  have HA := Lib.hid ha.rd
  have HB := Lib.hid hb.rd
  have HGL := Lib.hid hgl
  have HGM := Lib.hid hgm
  have hml : m.length = l.length := by have := congrArg List.length hlm; simpa using this.symm
  have HE := Lib.hid (fun k (h1 : k < l.length) (h2 : k < m.length) => show lgA l[k] = lgA m[k] from by
    have h3 := congrArg (fun z => z[k]?) hlm
    simpa [List.getElem?_map, h1, h2] using h3)
  have HML := Lib.hid hml
  rw [hml]
  clear ha hb hgl hgm hlm hml
  go_enter Try.func31, Try.ntmps31
  go_wp2_with fail
  go_loopw [5] (fun i wr => ∃ k : Nat, k ≤ l.length ∧ i = .int .i64 k ∧ Below w.heap.size w wr) (fun i _ => l.length - (intOf i).toNat)
  case atStart => exact ⟨0, Nat.zero_le _, rfl, Below.refl _ _⟩
  case round =>
    obtain ⟨k, hk, rfl, hbl⟩ := hrel
    have Hbl := Lib.hid hbl
    have hz := hbl.size
    clear hbl
    by_cases hlt : k < l.length
    · have kl : (k : Int) < (l.length : Int) := by omega
      have dl : decide ((k : Int) < (l.length : Int)) = true := by simpa using hlt
      have hkm : k < m.length := by rw [HML.out]; exact hlt
      have hx := HGL.out l[k] (List.getElem_mem hlt)
      have hy := HGM.out m[k] (List.getElem_mem hkm)
      have he := lgA_eq (HE.out k hlt hkm)
      obtain ⟨b1, o1, rfl, hb1, hc1⟩ := HA.out k (encAcctV l[k]) (by simp [hlt])
      obtain ⟨b2, o2, rfl, hb2, hc2⟩ := HB.out k (encAcctV m[k]) (by simp [hkm])
      unfold GoodA at hy
      unfold encAcctV at hc2
      rw [← he.1, ← he.2.1, ← he.2.2.1, ← he.2.2.2] at hc2
      rw [← he.2.2.2] at hy
      generalize m[k].clients.A = B' at hc2 hy
      generalize m[k].clients.c = d' at hc2 hy
      have e0 := (Hbl.out.cell (p := ⟨b1, o1 + k * 4 + 0, none⟩) hb1).trans (hc1 0 _ rfl)
      have e1 := (Hbl.out.cell (p := ⟨b1, o1 + k * 4 + 1, none⟩) hb1).trans (hc1 1 _ rfl)
      have e2 := (Hbl.out.cell (p := ⟨b1, o1 + k * 4 + 2, none⟩) hb1).trans (hc1 2 _ rfl)
      have e3 := (Hbl.out.cell (p := ⟨b1, o1 + k * 4 + 3, none⟩) hb1).trans (hc1 3 _ rfl)
      have f0 := (Hbl.out.cell (p := ⟨b2, o2 + k * 4 + 0, none⟩) hb2).trans (hc2 0 _ rfl)
      have f1 := (Hbl.out.cell (p := ⟨b2, o2 + k * 4 + 1, none⟩) hb2).trans (hc2 1 _ rfl)
      have f2 := (Hbl.out.cell (p := ⟨b2, o2 + k * 4 + 2, none⟩) hb2).trans (hc2 2 _ rfl)
      have f3 := (Hbl.out.cell (p := ⟨b2, o2 + k * 4 + 3, none⟩) hb2).trans (hc2 3 _ rfl)
      simp only [Nat.add_zero] at e0 f0
      have HX := Lib.hid (fun W (h : Below w.heap.size w W) => ref15SameOne l[k] B' d' W hx.1 (hx.2.keep h) (hy.keep h))
      clear hc1 hc2 he hx hy
      go_wp2_with fail
      go_region_held3 (fun w' => (w'.cell? ⟨b1, o1 + k * 4, none⟩ = some (.int .i64 l[k].id) ∧ w'.cell? ⟨b1, o1 + k * 4 + 1, none⟩ = some (.int .i64 l[k].member) ∧ w'.cell? ⟨b1, o1 + k * 4 + 2, none⟩ = some (.int .i64 l[k].kind) ∧ w'.cell? ⟨b1, o1 + k * 4 + 3, none⟩ = some (.slice l[k].clients.A l[k].clients.val.length l[k].clients.c)) ∧ w'.cell? ⟨b2, o2 + k * 4, none⟩ = some (.int .i64 l[k].id) ∧ w'.cell? ⟨b2, o2 + k * 4 + 1, none⟩ = some (.int .i64 l[k].member) ∧ w'.cell? ⟨b2, o2 + k * 4 + 2, none⟩ = some (.int .i64 l[k].kind) ∧ w'.cell? ⟨b2, o2 + k * 4 + 3, none⟩ = some (.slice B' l[k].clients.val.length d')) (first | (simp [go_sem]; done) | (repeat' (first | (with_reducible assumption) | (with_reducible refine And.intro ?_ ?_) | (with_reducible refine cell_drew ?_) | (with_reducible refine cell_via (by with_reducible assumption) ?_ ?_) | (simp [*]; done) | (simp [go_sem]; done) | (with_reducible refine cell_alloc ?_ ?_) | (with_reducible refine cell_set_far ?_ ?_) | omega | (simp; omega)))) (first | (go_at_call 20; (with_reducible refine (HX.out _ (by have hbl := Hbl.out; (repeat' (first | (with_reducible exact Below.refl _ _) | (with_reducible assumption) | (with_reducible refine Below.alloc ?_ ?_ _) | (with_reducible refine Below.setCell ?_ ?_ _) | (with_reducible refine Below.drew ?_) | (with_reducible refine below_drewN ?_ _) | (with_reducible refine below_via ?_ (by with_reducible assumption) ?_) | omega | (simp; done) | (simp; omega))))).mono ?_); rintro e w1 ⟨rfl, hb1⟩; obtain ⟨fc1, fg1, hc1, hf1, hz1⟩ := bget hb1; (try simp at hz1)) | fail)
      all_goals
        go_wp2_with fail
        go_roundw
        case rel => exact ⟨k + 1, by omega, by go_num, by have hbl := Hbl.out; (repeat' (first | (with_reducible exact Below.refl _ _) | (with_reducible assumption) | (with_reducible refine Below.alloc ?_ ?_ _) | (with_reducible refine Below.setCell ?_ ?_ _) | (with_reducible refine Below.drew ?_) | (with_reducible refine below_drewN ?_ _) | (with_reducible refine below_via ?_ (by with_reducible assumption) ?_) | omega | (simp; done) | (simp; omega)))⟩
        case measure => simp [intOf]; omega
    · have dl : decide ((k : Int) < (l.length : Int)) = false := by simpa using hlt
      go_wp2_with fail
      go_ret
      exact ⟨rfl, by have hbl := Hbl.out; (repeat' (first | (with_reducible exact Below.refl _ _) | (with_reducible assumption) | (with_reducible refine Below.alloc ?_ ?_ _) | (with_reducible refine Below.setCell ?_ ?_ _) | (with_reducible refine Below.drew ?_) | (with_reducible refine below_drewN ?_ _) | (with_reducible refine below_via ?_ (by with_reducible assumption) ?_) | omega | (simp; done) | (simp; omega)))⟩
end Go.Proofs.Ytemhhojenocddaa
