/- Fills: contracts of block.Average, Rest. -/
import Derived.Test.YtenehpcliajdnaaBlk1
import Derived.Test.YtenehpcliajdnaaWide7
namespace Go.Proofs.Ytenehpcliajdnaa
open Go.RowKit
theorem av_zero {l : List Fill} (h : avC l = 0) : 0 < l.length ∧ l.length ≤ 16 ∧ (∀ f ∈ l, FOk f) ∧ mixed l = false ∧ 0 < aQ l ∧ aQ l ≤ 1099511627776 := by
  unfold avC at h
  by_cases h1 : l.length < 1
  · rw [if_pos h1] at h; omega
  rw [if_neg h1] at h
  by_cases h2 : 16 < l.length
  · rw [if_pos h2] at h; omega
  rw [if_neg h2] at h
  cases h3 : l.any fbad
  rotate_left
  · rw [h3, if_pos rfl] at h; omega
  rw [h3, if_neg (by simp)] at h
  cases h4 : mixed l
  rotate_left
  · rw [h4, if_pos rfl] at h; omega
  rw [h4, if_neg (by simp)] at h
  by_cases h5 : 1099511627776 < aQ l
  · rw [if_pos h5] at h; omega
  have h6 := aQ_bound (any_fbad h3)
  exact ⟨by omega, by omega, any_fbad h3, rfl, by omega, by omega⟩
theorem av_div {l : List Fill} (h : avC l = 0) : In128 (aC l) ∧ 0 ≤ aC l / aQ l ∧ aC l / aQ l ≤ 2147483647 ∧ 0 ≤ aC l % aQ l ∧ aC l % aQ l < aQ l ∧ aC l = aQ l * (aC l / aQ l) + aC l % aQ l := by
  obtain ⟨_, _, hok, _, h0, h1⟩ := av_zero h
  have hb := aC_bound hok
  refine ⟨by unfold In128; omega, Int.ediv_nonneg hb.1 (by omega), ?_, Int.emod_nonneg _ (by omega), Int.emod_lt_of_pos _ h0, (Int.mul_ediv_add_emod _ _).symm⟩
  exact Int.ediv_le_of_le_mul h0 (by rw [Int.mul_comm]; exact hb.2)
theorem av_not {l : List Fill} (h : avC l ≠ 0) : avQ l = 0 ∧ avA l = 0 ∧ avR l = 0 ∧ szQ l = 0 ∧ szC l = 0 := by
  unfold avQ avA avR szQ szC; simp only [if_neg h]; exact ⟨trivial, trivial, trivial, trivial, trivial⟩
theorem av_yes {l : List Fill} (h : avC l = 0) : avQ l = qS l ∧ avA l = aC l / aQ l ∧ avR l = aC l % aQ l ∧ szQ l = aQ l ∧ szC l = aC l := by
  unfold avQ avA avR szQ szC; simp only [if_pos h]; exact ⟨trivial, trivial, trivial, trivial, trivial⟩
set_option maxRecDepth 100000 in
set_option maxHeartbeats 8000000 in
theorem blkAverage (l : List Fill) (A : Option Addr) (c : Nat) (w : World) (hl : l.length ≤ 1000000) (hr : Rd w A 2 (l.map encFill)) :
    Calls Try.prog 12 #[.slice A l.length c] w fun e w' => e = .returned (.tuple #[.int .i64 (avQ l), .int .i64 (avA l), .int .i64 (avR l), .int .i64 (avC l)]) ∧ Below w.heap.size w w' := by
  have HR := Lib.hid hr
  have c1 := fun W h => blkSize l A c W hl h
  clear hr
  by_cases h0 : avC l = 0
  · obtain ⟨hl1, hl16, hok, hm, q0, q1⟩ := av_zero h0
    obtain ⟨d1, d2, d3, d4, d5, -⟩ := av_div h0
    obtain ⟨y1, y2, y3, y4, y5⟩ := av_yes h0
    rw [y4, y5, h0] at c1
    rw [y1, y2, y3, h0]
    have hsg := signs hl1 hm
    have C1 := Lib.hid c1
    have C2 := Lib.hid (fun W => wideDiv (aC l) (aQ l) W d1 q0 (by omega))
    have C3 := Lib.hid (fun W => wideIntYes (aC l / aQ l) W (by unfold In64; omega))
    obtain ⟨b, o, rfl, hb, hc⟩ := HR.out 0 (encFill l[0]) (by simp [hl1])
    have z0 := hc 0 _ rfl
    simp only [Nat.add_zero, Nat.zero_mul] at z0
    clear c1 hc h0 y1 y2 y3 y4 y5 hok hm d1
    generalize aC l / aQ l = pr at *
    generalize aC l % aQ l = rs at *
    generalize hq : aQ l = m at *
    generalize hqs : qS l = sq at *
    rcases hsg with ⟨hn, hsq, -⟩ | ⟨hn, hsq, -⟩
    · have dn : decide (l[0].qty < 0) = true := by simpa using hn
      have HSQ := Lib.hid hsq
      clear hsq
      go_enter Try.func12, Try.ntmps12
      go_wp2_with (first | (go_at_call 43; (with_reducible refine (C1.out _ (HR.out.keep (by (repeat' (first | (with_reducible exact Below.refl _ _) | (with_reducible assumption) | (with_reducible refine Below.alloc ?_ ?_ _) | (with_reducible refine Below.setCell ?_ ?_ _) | (with_reducible refine Below.drew ?_) | (with_reducible refine below_drewN ?_ _) | (with_reducible refine below_via ?_ (by with_reducible assumption) ?_) | omega | (simp; done) | (simp; omega)))))).mono ?_); rintro e w1 ⟨rfl, hb1⟩; obtain ⟨fc1, fg1, hc1, hf1, hz1⟩ := bget hb1; (try simp at hz1)) | (go_at_call 44; (with_reducible refine (C2.out _).mono ?_); rintro e w2 ⟨rfl, hb2⟩; obtain ⟨fc2, fg2, hc2, hf2, hz2⟩ := bget hb2; (try simp at hz2)) | (go_at_call 45; (with_reducible refine (C3.out _).mono ?_); rintro e w3 ⟨rfl, hb3⟩; obtain ⟨fc3, fg3, hc3, hf3, hz3⟩ := bget hb3; (try simp at hz3)) | fail)
      refine bodyPost_ret (by simp [results, Try.results12, go_sem, go_sem]; try rfl) rfl ⟨by rw [HSQ.out], ?_⟩
      (repeat' (first | (with_reducible exact Below.refl _ _) | (with_reducible assumption) | (with_reducible refine Below.alloc ?_ ?_ _) | (with_reducible refine Below.setCell ?_ ?_ _) | (with_reducible refine Below.drew ?_) | (with_reducible refine below_drewN ?_ _) | (with_reducible refine below_via ?_ (by with_reducible assumption) ?_) | omega | (simp; done) | (simp; omega)))
    · have dn : decide (l[0].qty < 0) = false := by simp; omega
      subst hsq
      go_enter Try.func12, Try.ntmps12
      go_wp2_with (first | (go_at_call 43; (with_reducible refine (C1.out _ (HR.out.keep (by (repeat' (first | (with_reducible exact Below.refl _ _) | (with_reducible assumption) | (with_reducible refine Below.alloc ?_ ?_ _) | (with_reducible refine Below.setCell ?_ ?_ _) | (with_reducible refine Below.drew ?_) | (with_reducible refine below_drewN ?_ _) | (with_reducible refine below_via ?_ (by with_reducible assumption) ?_) | omega | (simp; done) | (simp; omega)))))).mono ?_); rintro e w1 ⟨rfl, hb1⟩; obtain ⟨fc1, fg1, hc1, hf1, hz1⟩ := bget hb1; (try simp at hz1)) | (go_at_call 44; (with_reducible refine (C2.out _).mono ?_); rintro e w2 ⟨rfl, hb2⟩; obtain ⟨fc2, fg2, hc2, hf2, hz2⟩ := bget hb2; (try simp at hz2)) | (go_at_call 45; (with_reducible refine (C3.out _).mono ?_); rintro e w3 ⟨rfl, hb3⟩; obtain ⟨fc3, fg3, hc3, hf3, hz3⟩ := bget hb3; (try simp at hz3)) | fail)
      refine bodyPost_ret (by simp [results, Try.results12, go_sem, go_sem]; try rfl) rfl ⟨rfl, ?_⟩
      (repeat' (first | (with_reducible exact Below.refl _ _) | (with_reducible assumption) | (with_reducible refine Below.alloc ?_ ?_ _) | (with_reducible refine Below.setCell ?_ ?_ _) | (with_reducible refine Below.drew ?_) | (with_reducible refine below_drewN ?_ _) | (with_reducible refine below_via ?_ (by with_reducible assumption) ?_) | omega | (simp; done) | (simp; omega)))
  · obtain ⟨y1, y2, y3, y4, y5⟩ := av_not h0
    rw [y4, y5] at c1
    rw [y1, y2, y3]
    have dc : (avC l == 0) = false := by simpa using h0
    have C1 := Lib.hid c1
    clear c1 h0 y1 y2 y3 y4 y5
    generalize avC l = code at *
    go_enter Try.func12, Try.ntmps12
    go_wp2_with (first | (go_at_call 43; (with_reducible refine (C1.out _ (HR.out.keep (by (repeat' (first | (with_reducible exact Below.refl _ _) | (with_reducible assumption) | (with_reducible refine Below.alloc ?_ ?_ _) | (with_reducible refine Below.setCell ?_ ?_ _) | (with_reducible refine Below.drew ?_) | (with_reducible refine below_drewN ?_ _) | (with_reducible refine below_via ?_ (by with_reducible assumption) ?_) | omega | (simp; done) | (simp; omega)))))).mono ?_); rintro e w1 ⟨rfl, hb1⟩; obtain ⟨fc1, fg1, hc1, hf1, hz1⟩ := bget hb1; (try simp at hz1)) | (go_at_call 44; (with_reducible refine (C2.out _).mono ?_); rintro e w2 ⟨rfl, hb2⟩; obtain ⟨fc2, fg2, hc2, hf2, hz2⟩ := bget hb2; (try simp at hz2)) | (go_at_call 45; (with_reducible refine (C3.out _).mono ?_); rintro e w3 ⟨rfl, hb3⟩; obtain ⟨fc3, fg3, hc3, hf3, hz3⟩ := bget hb3; (try simp at hz3)) | fail)
    refine bodyPost_ret (by simp [results, Try.results12, go_sem, go_sem]; try rfl) rfl ⟨rfl, ?_⟩
    (repeat' (first | (with_reducible exact Below.refl _ _) | (with_reducible assumption) | (with_reducible refine Below.alloc ?_ ?_ _) | (with_reducible refine Below.setCell ?_ ?_ _) | (with_reducible refine Below.drew ?_) | (with_reducible refine below_drewN ?_ _) | (with_reducible refine below_via ?_ (by with_reducible assumption) ?_) | omega | (simp; done) | (simp; omega)))
end Go.Proofs.Ytenehpcliajdnaa
