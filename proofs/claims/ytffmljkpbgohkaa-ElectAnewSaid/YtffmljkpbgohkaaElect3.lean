/- Choices: Insert. -/
import Derived.Test.YtffmljkpbgohkaaElect2
import Derived.Deep.RegionLaw
import Derived.Outline
namespace Go.Proofs.Ytffmljkpbgohkaa
open Go.RowKit
theorem insChoice_over (w : World) (gv g o lb cb m vc : Nat) (x : Choice) (cur : Array Value) (hv : Blk w gv 76 #[.int .i64 x.frm.acc, .int .i64 x.frm.cli, .int .i64 x.too.acc, .int .i64 x.too.cli, .bool x.con]) (hg : Blk w g 76 cur) (hne : gv ≠ g) (hc : cur.size ≠ 0) :
    (callFunc 98 #[.slice (some ⟨gv, 0, none⟩) m vc, .slice (some ⟨g, o, none⟩) lb cb]).run Try.prog w = .ok (.value (.bool false)) w := by
  rw [run_callFunc_extern Try.func98 (by kernel_rfl) (by kernel_rfl) (by kernel_rfl) (e := Extern.SlicesOverlaps.overlaps #[64, 64] #[4]) (by kernel_rfl),
    Lib.run_overlaps_apart w 64 4 76 Try.underlying64 5 (fun _ => by kernel_rfl) ⟨gv, 0, none⟩ ⟨g, o, none⟩ m vc lb cb hne _ _ _ _ hv.shape hg.shape hc (hv.frozen 0) (hv.frozen _)]
  rfl
set_option maxRecDepth 100000 in
set_option maxHeartbeats 4000000 in
theorem insChoice (l : List Choice) (x : Choice) (i : Nat) (v : Value) (base gv : Nat) (w : World) (hi : i ≤ l.length) (hl : l.length ≤ 1048576) (hbs : base ≤ w.heap.size) (hown : Own w base 76 5 v (l.map encChoice)) (hv : Blk w gv 76 #[.int .i64 x.frm.acc, .int .i64 x.frm.cli, .int .i64 x.too.acc, .int .i64 x.too.cli, .bool x.con]) (hne : v.ownBlock ≠ some gv) :
    Calls Try.prog 81 #[v, .int .i64 i, .slice (some ⟨gv, 0, none⟩) 1 1] w fun e w' => ∃ v', e = .returned v' ∧ Own w' base 76 5 v' ((l.take i ++ x :: l.drop i).map encChoice) ∧ Below base w w' := by
  have HOWN := Lib.hid hown
  have HV := Lib.hid hv
  have hil : (i : Int) ≤ (l.length : Int) := by omega
  obtain ⟨A, c, hv0, hrs, hform⟩ := hown.rs
  have hcap := hrs.cap
  have hroom := hrs.room
  rw [List.length_map] at hv0 hcap
  unfold maxLen at hroom
  subst hv0
  have HRD := Lib.hid hrs.rd
  clear hown hrs hv
  cases he : ((i : Int) == (l.length : Int))
  rotate_left
  · have hie : i = l.length := by have := eq_of_beq he; omega
    have HE := Lib.hid (show (l.take i ++ x :: l.drop i).map encChoice = l.map encChoice ++ [encChoice x] from by rw [hie, List.take_length, List.drop_length]; simp)
    have hie1 : i ≤ l.length ∧ l.length ≤ i := by omega
    clear hie
    have tailc : (A = none ∧ l.length = 0 ∧ c = 0 ∧ i = 0) ∨ (∃ g, A = some ⟨g, 0, none⟩ ∧ c = i) ∨ (∃ g, A = some ⟨g, 0, none⟩ ∧ ¬ c = i) := by
      rcases hform with ⟨h1, h2, h3⟩ | ⟨g, h1, _⟩
      · left; exact ⟨h1, by simpa using congrArg List.length h2, h3, by have := congrArg List.length h2; simp at this; rw [this] at hie1; simpa using hie1.1⟩
      · right
        by_cases h : c = i
        · left; exact ⟨g, h1, h⟩
        · right; exact ⟨g, h1, h⟩
    rcases tailc with ⟨rfl, hl0, rfl, rfl⟩ | ⟨g, rfl, hc⟩ | ⟨g, rfl, hc⟩
    · have hl1 : l = [] := List.eq_nil_of_length_eq_zero hl0
      subst hl1
      simp only [List.length_nil]
      go_enter Try.func81, Try.ntmps81
      go_wp2_with (at_builtin; refine wpList_app rfl _ _ _ rfl elChoice base _ [] rfl (Own.nil _ _ _ _) (some ⟨gv, 0, none⟩) 1 1 rfl [encChoice x] rfl (fun h => by cases h) HV.out.rd (rowsChoice [x]) (by unfold maxLen; first | (simp; done) | omega | (simp; omega)) (by first | (simp; done) | omega | (simp; omega)) hbs ?_; intro v' w3 hown3 hb3)
      go_ret
      exact ⟨v', rfl, by simpa using hown3, hb3⟩
    · have hc' : ¬ c < i := by omega
      have hc2 : c ≤ i ∧ i ≤ c := by omega
      subst hc
      go_enter Try.func81, Try.ntmps81
      go_wp2_with (at_builtin; refine wpList_app rfl _ _ _ rfl elChoice base _ (l.map encChoice) rfl HOWN.out (some ⟨gv, 0, none⟩) 1 1 rfl [encChoice x] rfl (fun h => by cases h) HV.out.rd (rowsChoice [x]) (by unfold maxLen; first | (simp; done) | omega | (simp; omega)) (by first | (simp; done) | omega | (simp; omega)) hbs ?_; intro v' w3 hown3 hb3)
      go_ret
      exact ⟨v', rfl, by rw [HE.out]; exact hown3, hb3⟩
    · have hc' : ¬ i = c := by omega
      go_enter Try.func81, Try.ntmps81
      go_wp2_with (at_builtin; refine wpList_app rfl _ _ _ rfl elChoice base _ (l.map encChoice) rfl HOWN.out (some ⟨gv, 0, none⟩) 1 1 rfl [encChoice x] rfl (fun h => by cases h) HV.out.rd (rowsChoice [x]) (by unfold maxLen; first | (simp; done) | omega | (simp; omega)) (by first | (simp; done) | omega | (simp; omega)) hbs ?_; intro v' w3 hown3 hb3)
      go_ret
      exact ⟨v', rfl, by rw [HE.out]; exact hown3, hb3⟩
  have hlt : i < l.length := by
    rcases Nat.lt_or_ge i l.length with h | h
    · exact h
    · exfalso
      have e : (i : Int) = (l.length : Int) := by omega
      rw [e] at he
      simp at he
  obtain ⟨g, rfl, hgb, hgl⟩ : ∃ g, A = some ⟨g, 0, none⟩ ∧ base ≤ g ∧ g < w.heap.size := by
    rcases hform with ⟨_, h2, _⟩ | h
    · exfalso; have := congrArg List.length h2; simp at this; rw [this] at hlt; simp at hlt
    · exact h
  have hgne : g ≠ gv := by simpa [Value.ownBlock] using hne
  have hci : ¬ c = i := by omega
  have hci' : ¬ i = c := by omega
  have HX : Hid ((l.take i ++ x :: l.drop i).map encChoice = (l.map encChoice).take i ++ encChoice x :: (l.map encChoice).drop i) := by unfold Hid; simp [List.map_take, List.map_drop]
  have hrl : i < (l.map encChoice).length := by rw [List.length_map]; exact hlt
  have il : (i : Int) < (l.length : Int) := by omega
  by_cases hgrow : c < l.length + 1
  · have hg1 : decide ((c : Int) < (l.length : Int) + 1) = true := by simp; omega
    have RT := Lib.hid (rd_take' HRD.out i)
    have rdr := rd_dropR HRD.out i
    rw [Nat.zero_add] at rdr
    have RDR := Lib.hid rdr
    clear rdr
    have lt1 : ((l.map encChoice).take i).length = i := by rw [List.length_take]; omega
    have LT1 := Lib.hid lt1
    have LD1 := Lib.hid (show ((l.map encChoice).drop i).length = l.length - i from by simp)
    have HRW := Lib.hid (rowsChoice l)
    clear hform lt1
    go_enter Try.func81, Try.ntmps81
    go_wp2_with (first | (at_builtin; refine wpList_appZ rfl _ _ _ _ (kn := .i64) (by kernel_rfl) rfl elChoice (sLen := i) (sCap := c) (m := l.length + 1 - i) (N := l.length + 1) rfl rfl (by omega) LT1.out RT.out (fun r hr => (HRW.out r (List.mem_of_mem_take hr)).1) (by omega) (by omega) (by omega) (by unfold maxLen; omega) (by omega) ?_; intro w3 c3 junk hj hown3 hb3; have HJ := Lib.hid hj; have hc3 := hown3.rd.2.2; have hjl : l.length + 1 ≤ c3 := (by have := hown3.rd.2.1; omega); have hm3 : c3 ≤ 9223372036854775807 := (by have := hc3.2; unfold maxLen at this; omega); have HO3 := Lib.hid hown3; have Hb3 := Lib.hid hb3; have hz3 := hb3.size; have hi3 : ¬ c3 = i := (by omega); have hi3' : ¬ i = c3 := (by omega); clear hj hown3 hc3 hb3) | (refine wpList_copyR rfl _ _ _ _ rfl elChoice (base := w.heap.size) (g := w.heap.size) (n := l.length + 1) (d := i) (sLen := 1) (src := [encChoice x]) rfl rfl HO3.out (by change 1 = min _ _; omega) (by change i + 1 ≤ _; omega) (HV.out.below Hb3.out HV.out.lt).rd (rowsChoice [x]) ?_; intro w4 hown4 ho4; have HO4 := Lib.hid hown4; have Ho4 := Lib.hid ho4; have hz4 := ho4.size; clear hown4 ho4))
    have S1 := Lib.hid (show ((l.map encChoice).drop i).length = Nat.min (l.length - i) (l.length - i) from by rw [LD1.out]; change _ = min _ _; omega)
    have S2 := Lib.hid (show i + 1 + ((l.map encChoice).drop i).length ≤ l.length + 1 from by rw [LD1.out]; omega)
    have S3 := Lib.hid (show g ≠ w.heap.size from by omega)
    have wk : IntKind.i64.wrap ((i : Int) + 1) = (i : Int) + 1 := IntWalk.i64_in _ (by omega)
    have tk : ((i : Int) + 1).toNat = i + 1 := by omega
    have nk : (0 : Int) ≤ (i : Int) + 1 := by omega
    have ck : ¬ c3 = i + 1 := by omega
    have il1 : (i : Int) ≤ (l.length : Int) + 1 := by omega
    go_region_law (refine step_copyR rfl (.tmp 50) (.tmp 53) 64 64 rfl elChoice (base := w.heap.size) (g := w.heap.size) (n := l.length + 1) (c := c3) (d := i + 1) (dLen := l.length - i) (dCap := c3 - (i + 1)) (sLen := l.length - i) (sCap := c - i) (ad := ⟨g, i * 5, none⟩) (rows := lay ((l.map encChoice).take i ++ junk) [encChoice x] i) (src := (l.map encChoice).drop i) ?_ ?_ HO4.out.drew S1.out S2.out ((RDR.out.keep Hb3.out).only rfl Ho4.out S3.out).drew (fun r hr => HRW.out r (List.mem_of_mem_drop hr)) ?_; go_simp; go_simp; intro w5 hown5 ho5; have HO5 := Lib.hid hown5; have Ho5 := Lib.hid ho5.undrew; clear hown5 ho5)
    clear wk tk nk
    go_wp2_with fail
    go_ret
    refine ⟨_, rfl, ?_, ?_⟩
    · rw [HX.out, ← ins_grow hrl (by rw [HJ.out, List.length_map])]
      exact HO5.out.mono hbs
    · exact below_only (below_only (Hb3.out.mono hbs) Ho4.out (by omega) hbs) Ho5.out (by omega) hbs
  · have hg1 : decide ((c : Int) < (l.length : Int) + 1) = false := by simp; omega
    obtain ⟨junk, hj, hfull⟩ := HOWN.out.full
    have hhead := hfull.head (m := l.length + 1) (by omega)
    obtain ⟨cur, hcur⟩ := HOWN.out.blk rfl
    have hcs : cur.size ≠ 0 := by
      obtain ⟨cur', h1, _, _, _, _, h2, _⟩ := HOWN.out.raw
      unfold Blk at hcur
      rw [hcur] at h1
      injection h1 with h1
      injection h1 with h1 _ _
      subst h1
      omega
    have HJ := Lib.hid (show 0 < junk.length from by omega)
    have HH := Lib.hid hhead
    have hov := fun lb cb => insChoice_over w gv g ((i + 1) * 5) lb cb 1 1 x cur HV.out hcur (fun e => hgne e.symm) hcs
    have LD1 := Lib.hid (show ((l.map encChoice).drop i).length = l.length - i from by simp)
    have HRW := Lib.hid (rowsChoice l)
    have rdr := rd_dropR HRD.out i
    rw [Nat.zero_add] at rdr
    have RDR := Lib.hid rdr
    clear rdr
    clear hform hfull hhead hcur hcs hj
    go_enter Try.func81, Try.ntmps81
    go_wp2_with fail
    clear hov
    have S1 := Lib.hid (show ((l.map encChoice).drop i).length = Nat.min (l.length + 1 - i) (l.length - i) from by rw [LD1.out]; change _ = min _ _; omega)
    have S2 := Lib.hid (show i + 1 + ((l.map encChoice).drop i).length ≤ l.length + 1 from by rw [LD1.out]; omega)
    have wk : IntKind.i64.wrap ((i : Int) + 1) = (i : Int) + 1 := IntWalk.i64_in _ (by omega)
    have tk : ((i : Int) + 1).toNat = i + 1 := by omega
    have nk : (0 : Int) ≤ (i : Int) + 1 := by omega
    have ck : ¬ c = i + 1 := by omega
    have il1 : (i : Int) ≤ (l.length : Int) + 1 := by omega
    go_region_law (refine step_copyR rfl (.tmp 73) (.tmp 76) 64 64 rfl elChoice (base := base) (g := g) (n := l.length + 1) (c := c) (d := i + 1) (dLen := l.length - i) (dCap := c - (i + 1)) (sLen := l.length + 1 - i) (sCap := c - i) (ad := ⟨g, i * 5, none⟩) (rows := (l.map encChoice ++ junk).take (l.length + 1)) (src := (l.map encChoice).drop i) ?_ ?_ HH.out.drew S1.out S2.out RDR.out.drew (fun r hr => HRW.out r (List.mem_of_mem_drop hr)) ?_; go_simp; go_simp; intro w5 hown5 ho5; have HO5 := Lib.hid hown5; have Ho5 := Lib.hid ho5.undrew; clear hown5 ho5)
    clear wk tk nk
    go_wp2_with (refine wpList_copyR rfl _ _ _ _ rfl elChoice (base := base) (g := g) (n := l.length + 1) (c := c) (d := i) (sLen := 1) (src := [encChoice x]) rfl rfl HO5.out (by change 1 = min _ _; omega) (by change i + 1 ≤ _; omega) (HV.out.only Ho5.out (fun e => hgne e.symm)).rd (rowsChoice [x]) ?_; intro w6 hown6 ho6; have HO6 := Lib.hid hown6; have Ho6 := Lib.hid ho6; clear hown6 ho6)
    go_ret
    refine ⟨_, rfl, ?_, ?_⟩
    · rw [HX.out, ← ins_room hrl HJ.out, List.length_map]
      exact HO6.out
    · exact below_only (below_only (Below.refl _ _) Ho5.out hbs hgb) Ho6.out (by have := Ho5.out.size; omega) hgb
end Go.Proofs.Ytffmljkpbgohkaa
