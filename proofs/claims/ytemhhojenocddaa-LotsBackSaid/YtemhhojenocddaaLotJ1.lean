/- Lots: contracts of slices.Grow, slices.Concat of lots. -/
import Derived.Test.YtemhhojenocddaaLot8
import Derived.Test.YtemhhojenocddaaApp0
namespace Go.Proofs.Ytemhhojenocddaa
open Go.RowKit
/-- append(nil, make(S, m)...). -/
theorem wpList_appNZ {P : Program} {ops : Array Oper} {rest : List Oper} {o : Oper} {a : Act} {Q : Exit → Act → World → Prop} {w : World} (hgd : o.guard = none) (x y : Operand) (T T' : TypeId) {kn : IntKind} (hT' : P.underlying T' = some (.int kn))
    (ho : o.op = .call { callee := .builtin .append, args := #[x, y], argTypes := #[T, T'] }) {E k bytes : Nat} (el : Elem P T E k bytes)
    {m : Nat} {kk : IntKind} {M : Int} (hx : a.eval x = .slice none 0 0) (hy : a.eval y = .int kk M) (hM : M = (m : Int)) (h0 : 0 < m) (h63 : m ≤ maxLen) (hbytes : m * bytes ≤ 281474976710656)
    (h : ∀ w' c, m ≤ c → Own w' w.heap.size E k (.slice (some ⟨w.heap.size, 0, none⟩) 0 c) [] → Below w.heap.size w w' → wpList P ops Q rest (a.put o.dst (.slice (some ⟨w.heap.size, 0, none⟩) m c)) w') : wpList P ops Q (o :: rest) a w := by
  subst hM
  obtain ⟨i, z, hi, hz, hsize, hby, hzs⟩ := el.info
  have hpos := el.pos
  have hm63 : (m : Int) ≤ 9223372036854775807 := by unfold maxLen at h63; omega
  have hrun := Lib.run_append_nil_zeros (P := P) w T T' o.type E i z kk kn el.ty hT' hi hz m h0 (by rw [hsize]; exact hpos) hm63 (by rw [hby]; exact hbytes)
  refine Lib.wpList_append_run w hgd x y T T' ho _ _ hx hy _ _ hrun (h _ _ (grownCap_ge w m 0 E) (own_of (by simp) (heap_alloc_new w.drew _) (Nat.le_refl _) rfl (Nat.zero_le _) (grownCap_le_maxLen w m 0 E h63) ?_ (by simp)) ((Below.refl _ _).drew.alloc (Nat.le_refl _) _))
  have hcg := grownCap_ge w m 0 E
  simp only [Array.size_append, size_zeroCells, hzs, ← Nat.add_mul]
  congr 1
  omega
set_option maxRecDepth 100000 in
set_option maxHeartbeats 4000000 in
theorem lotGrow (n : Nat) (w : World) (hn : n ≤ 1048576) :
    Calls Try.prog 112 #[.slice none 0 0, .int .i64 n] w fun e w' => ∃ v, e = .returned v ∧ Own w' w.heap.size 58 3 v [] ∧ Below w.heap.size w w' := by
  rcases Nat.eq_zero_or_pos n with h0 | h0
  · subst h0
    go_enter Try.func112, Try.ntmps112
    go_wp2_with fail
    go_ret
    exact ⟨_, rfl, Own.nil _ _ _ _, by (repeat' (first | (with_reducible exact Below.refl _ _) | (with_reducible assumption) | (with_reducible refine Below.alloc ?_ ?_ _) | (with_reducible refine Below.setCell ?_ ?_ _) | (with_reducible refine Below.drew ?_) | (with_reducible refine below_drewN ?_ _) | (with_reducible refine below_via ?_ (by with_reducible assumption) ?_) | omega | (simp; done) | (simp; omega)))⟩
  · have n0 : (0 : Int) < (n : Int) := by omega
    have wn : IntKind.i64.wrap (n : Int) = n := IntWalk.i64_in _ (by omega)
    have hn1 := Lib.hid hn
    have hn2 := Lib.hid h0
    clear hn h0
    go_enter Try.func112, Try.ntmps112
    go_wp2_with (first | (at_builtin; refine wpList_appNZ rfl _ _ _ _ (kn := .i64) (by kernel_rfl) rfl elLot (m := n) rfl rfl rfl hn2.out (by have := hn1.out; unfold maxLen; omega) (by have := hn1.out; omega) ?_; intro w1 c1 hc1 hown1 hb1; have HO1 := Lib.hid hown1; clear hown1) | fail)
    go_ret
    exact ⟨_, rfl, HO1.out, hb1⟩
theorem flatten_snoc {α : Type} {ls : List (List α)} {k : Nat} (h : k < ls.length) : (ls.take (k + 1)).flatten = (ls.take k).flatten ++ ls[k] := by
  rw [List.take_succ_eq_append_getElem h, List.flatten_append]; simp
theorem flatten_le {α : Type} (ls : List (List α)) (k : Nat) : (ls.take k).flatten.length ≤ ls.flatten.length := by
  conv => rhs; rw [← List.take_append_drop k ls, List.flatten_append, List.length_append]
  omega
set_option maxRecDepth 100000 in
set_option maxHeartbeats 8000000 in
theorem lotConcat (ls : List (List Lot)) (A : Option Addr) (c : Nat) (w : World) (hl : ls.length ≤ 1048576) (hn : ls.flatten.length ≤ 1000000) (hr : RsS 3 encLot w ls A c) :
    Calls Try.prog 88 #[.slice A ls.length c] w fun e w' => ∃ v, e = .returned v ∧ Own w' w.heap.size 58 3 v (ls.flatten.map encLot) ∧ Below w.heap.size w w' := by
  have HR := Lib.hid hr
  have HL := Lib.hid hl
  have HN := Lib.hid hn
  clear hr hl hn
  go_enter Try.func88, Try.ntmps88
  go_wp2_with fail
  go_loopw [3, 11] (fun s i wr => ∃ k : Nat, k ≤ ls.length ∧ i = .int .i64 k ∧ s = .int .i64 ((ls.take k).flatten.length : Int) ∧ Below w.heap.size w wr) (fun _ i _ => ls.length - (intOf i).toNat)
  case atStart => exact ⟨0, Nat.zero_le _, rfl, rfl, by (repeat' (first | (with_reducible exact Below.refl _ _) | (with_reducible assumption) | (with_reducible refine Below.alloc ?_ ?_ _) | (with_reducible refine Below.setCell ?_ ?_ _) | (with_reducible refine Below.drew ?_) | (with_reducible refine below_drewN ?_ _) | (with_reducible refine below_via ?_ (by with_reducible assumption) ?_) | omega | (simp; done) | (simp; omega)))⟩
  case round =>
    obtain ⟨k, hk, rfl, rfl, hbl⟩ := hrel
    have Hbl := Lib.hid hbl
    have hz := hbl.size
    have hl := HL.out
    clear hbl
    have hfk := flatten_le ls k
    have hfn := HN.out
    by_cases hlt : k < ls.length
    · have kl : (k : Int) < (ls.length : Int) := by omega
      have dl : decide ((k : Int) < (ls.length : Int)) = true := by simpa using hlt
      obtain ⟨b, o, B, d, rfl, hb, hq, hrk⟩ := HR.out.row hlt
      have q0 := (Hbl.out.cell (p := ⟨b, o + k, none⟩) hb).trans hq
      have hbw : b < wr.heap.size := by omega
      have hs := flatten_snoc hlt
      have hfk1 := flatten_le ls (k + 1)
      have hs1 : (ls.take (k + 1)).flatten.length = (ls.take k).flatten.length + ls[k].length := by rw [hs, List.length_append]
      have HS1 := Lib.hid hs1
      have w1 : IntKind.i64.wrap (((ls.take k).flatten.length : Int) + (ls[k].length : Int)) = ((ls.take k).flatten.length : Int) + (ls[k].length : Int) := IntWalk.i64_in _ (by omega)
      have w2 : ¬ ((ls.take k).flatten.length : Int) + (ls[k].length : Int) < 0 := by omega
      clear hq hrk hs hs1
      generalize (ls.take k).flatten.length = z at *
      generalize ls[k].length = y at *
      go_wp2_with fail
      go_roundw
      case rel => exact ⟨k + 1, by omega, by go_num, by rw [HS1.out]; go_num, by have hbl := Hbl.out; (repeat' (first | (with_reducible exact Below.refl _ _) | (with_reducible assumption) | (with_reducible refine Below.alloc ?_ ?_ _) | (with_reducible refine Below.setCell ?_ ?_ _) | (with_reducible refine Below.drew ?_) | (with_reducible refine below_drewN ?_ _) | (with_reducible refine below_via ?_ (by with_reducible assumption) ?_) | omega | (simp; done) | (simp; omega)))⟩
      case measure => simp [intOf]; omega
    · have dl : decide ((k : Int) < (ls.length : Int)) = false := by simpa using hlt
      have HT := Lib.hid (show ls.take k = ls from List.take_of_length_le (by omega))
      have hw0 := Hbl.out.size
      rw [HT.out]
      clear hfk
      have CG := Lib.hid (fun W => lotGrow ls.flatten.length W (by omega))
      generalize hzz : ls.flatten.length = z at *
      have HZZ := Lib.hid hzz
      clear hzz
      go_wp2_with (first | (go_at_call 112; (with_reducible refine (CG.out _).mono ?_); rintro e w1 ⟨v1, rfl, hown1, hb1⟩; have HO1 := Lib.hid hown1; clear hown1; obtain ⟨fc1, fg1, hc1, hf1, hz1⟩ := bget hb1; (try simp at hz1)) | fail)
      have Hb1 := Lib.hid (show Below w.heap.size w w1 from by have hbl := Hbl.out; (repeat' (first | (with_reducible exact Below.refl _ _) | (with_reducible assumption) | (with_reducible refine Below.alloc ?_ ?_ _) | (with_reducible refine Below.setCell ?_ ?_ _) | (with_reducible refine Below.drew ?_) | (with_reducible refine below_drewN ?_ _) | (with_reducible refine below_via ?_ (by with_reducible assumption) ?_) | omega | (simp; done) | (simp; omega))))
      go_loopw [6, 27] (fun s i wr => ∃ k : Nat, k ≤ ls.length ∧ i = .int .i64 k ∧ Own wr w.heap.size 58 3 s ((ls.take k).flatten.map encLot) ∧ Below w.heap.size w wr) (fun _ i _ => ls.length - (intOf i).toNat)
      case atStart => exact ⟨0, Nat.zero_le _, rfl, HO1.out.mono (by omega), Hb1.out⟩
      case round =>
        obtain ⟨k, hk, rfl, hown, hbl2⟩ := hrel
        have Hbl2 := Lib.hid hbl2
        have HOW := Lib.hid hown
        have hz2 := hbl2.size
        clear hbl2 hown
        by_cases hlt : k < ls.length
        · have kl : (k : Int) < (ls.length : Int) := by omega
          have dl : decide ((k : Int) < (ls.length : Int)) = true := by simpa using hlt
          obtain ⟨b, o, B, d, rfl, hb, hq, hrk⟩ := HR.out.row hlt
          have q0 := (Hbl2.out.cell (p := ⟨b, o + k, none⟩) hb).trans hq
          have hbw : b < wr.heap.size := by omega
          have HRK := Lib.hid (hrk.keep Hbl2.out)
          have HS := Lib.hid (flatten_snoc hlt)
          have HFL := Lib.hid (show ((ls.take k).flatten.map encLot).length + ls[k].length ≤ 1000000 from by
            have h1 := flatten_le ls (k + 1)
            have h2 := HN.out
            have h3 := HZZ.out
            rw [flatten_snoc hlt, List.length_append] at h1
            rw [List.length_map]; omega)
          clear hq hrk
          go_wp2_with (first | (at_builtin; refine wpList_any rfl _ _ _ rfl elLot w.heap.size _ _ rfl HOW.out B _ d rfl (ls[k].map encLot) (by simp) HRK.out.rd (rowsLot _) (by have := HFL.out; unfold maxLen; omega) (by have := HFL.out; omega) hz2 ?_; intro v3 w3 hown3 hb3; have HO3 := Lib.hid hown3; clear hown3; obtain ⟨fc3, fg3, hc3, hf3, hz3⟩ := bget hb3; (try simp at hz3)) | fail)
          go_roundw
          case rel => exact ⟨k + 1, by omega, by go_num, by rw [HS.out, List.map_append]; exact HO3.out, by have hbl := Hbl2.out; (repeat' (first | (with_reducible exact Below.refl _ _) | (with_reducible assumption) | (with_reducible refine Below.alloc ?_ ?_ _) | (with_reducible refine Below.setCell ?_ ?_ _) | (with_reducible refine Below.drew ?_) | (with_reducible refine below_drewN ?_ _) | (with_reducible refine below_via ?_ (by with_reducible assumption) ?_) | omega | (simp; done) | (simp; omega)))⟩
          case measure => simp [intOf]; omega
        · have dl : decide ((k : Int) < (ls.length : Int)) = false := by simpa using hlt
          have HT2 := Lib.hid (show ls.take k = ls from List.take_of_length_le (by omega))
          go_wp2_with fail
          go_ret
          exact ⟨_, rfl, by have := HOW.out; rw [HT2.out] at this; exact this, by have hbl := Hbl2.out; (repeat' (first | (with_reducible exact Below.refl _ _) | (with_reducible assumption) | (with_reducible refine Below.alloc ?_ ?_ _) | (with_reducible refine Below.setCell ?_ ?_ _) | (with_reducible refine Below.drew ?_) | (with_reducible refine below_drewN ?_ _) | (with_reducible refine below_via ?_ (by with_reducible assumption) ?_) | omega | (simp; done) | (simp; omega)))⟩
end Go.Proofs.Ytemhhojenocddaa
