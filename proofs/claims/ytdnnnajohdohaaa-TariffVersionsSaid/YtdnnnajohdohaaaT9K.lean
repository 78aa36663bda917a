/-
  Tariffs: law Versions. No condition.
-/
import Derived.Test.YtdnnnajohdohaaaT9J
import Derived.BigQuiet
import Derived.StillTailTactics
import Derived.Lib.Overlaps
import Derived.Deep.DeepCutAuto
import Derived.Deep.RegionWith
import Derived.Laws.RangeAny
set_option maxRecDepth 100000
set_option linter.unusedVariables false
set_option linter.unusedSimpArgs false
namespace Go.Proofs.Ytdnnnajohdohaaa
open Go.RowKit

namespace Cv
open Xp Ck
theorem repD_bad {l : List Td} {T : Td} (h : (repD l T).2 ≠ 0) : (repD l T).1 = [] := by
  unfold repD at h ⊢
  split
  · rfl
  · rename_i h1
    rw [if_neg h1] at h
    split
    · rfl
    · rename_i h2
      rw [if_neg h2] at h
      exact absurd rfl h
theorem repD_good {l : List Td} {T : Td} (h : (repD l T).2 = 0) : chkE l = 0 ∧ tarD T = 0 ∧ (repD l T).1 = repL l T := by
  unfold repD at h ⊢
  by_cases h1 : chkE l = 0
  · by_cases h2 : tarD T = 0
    · rw [if_neg (by simpa using h1), if_neg (by simpa using h2)]; exact ⟨h1, h2, rfl⟩
    · rw [if_neg (by simpa using h1), if_pos h2] at h; exact absurd h h2
  · rw [if_pos h1] at h; exact absurd h h1
theorem rep_wide {l : List Td} {T : Td} (h : ∀ X ∈ l, Wide X) (hT : Wide T) : ∀ X ∈ repL l T, Wide X := by
  intro X hX
  unfold repL at hX
  simp only [List.mem_append, List.mem_singleton] at hX
  rcases hX with (hX | rfl) | hX
  · exact h X (List.mem_of_mem_take hX)
  · exact hT
  · exact h X (List.mem_of_mem_drop hX)
set_option maxHeartbeats 16000000 in
theorem law_versions (A : Option Addr) (n c : Nat) (Ts : List Td) (t : Tv) (T : Td) (nm : ByteArray) (at_ : Int) (w : World) (h : LT w A n c Ts) (hf : ∀ T ∈ Ts, Fits T) (ht : TD w t T) (htf : Fits T) :
    Calls Try.prog 7 #[.slice A n c, t.val, .agg #[.string nm, .int .i64 at_]] w fun e w' => e = .returned (.bool true) ∧ Below w.heap.size w w' := by
  have HLT := Lib.hid h
  have HFT := Lib.hid hf
  have HTD := Lib.hid ht
  have HTF := Lib.hid htf
  clear h hf ht htf
  unfold Tv.val
  go_enter Try.func7, Try.ntmps7
  go_upto_region 1 with (fail)
  (obtain ⟨W, hWW, hbW, hzW, f1W, f2W, qfa, qfb⟩ := box2 w #[.string t.name, .int .i64 t.from_, .bool t.split, .slice t.Az t.nz t.cz, .slice t.Ab t.nb t.cb, .slice t.Ar t.nr t.cr, .slice t.Ad t.nd t.cd] 32 #[.string nm, .int .i64 at_] 47; rw [← hWW]; have qa0 : W.cell? ⟨w.heap.size, 0, none⟩ = some (.string t.name) := f1W 0 _ rfl; have qa1 : W.cell? ⟨w.heap.size, 1, none⟩ = some (.int .i64 t.from_) := f1W 1 _ rfl; have qa2 : W.cell? ⟨w.heap.size, 2, none⟩ = some (.bool t.split) := f1W 2 _ rfl; have qa3 : W.cell? ⟨w.heap.size, 3, none⟩ = some (.slice t.Az t.nz t.cz) := f1W 3 _ rfl; have qa4 : W.cell? ⟨w.heap.size, 4, none⟩ = some (.slice t.Ab t.nb t.cb) := f1W 4 _ rfl; have qa5 : W.cell? ⟨w.heap.size, 5, none⟩ = some (.slice t.Ar t.nr t.cr) := f1W 5 _ rfl; have qa6 : W.cell? ⟨w.heap.size, 6, none⟩ = some (.slice t.Ad t.nd t.cd) := f1W 6 _ rfl; have qb0 : W.cell? ⟨w.heap.size + 1, 0, none⟩ = some (.string nm) := f2W 0 _ rfl; have qb1 : W.cell? ⟨w.heap.size + 1, 1, none⟩ = some (.int .i64 at_) := f2W 1 _ rfl; clear hWW f1W f2W)
  have hT := hbW
  have hg : w.heap.size + 1 < W.heap.size := hzW
  clear hbW qfa qfb hzW
  ((with_reducible refine wp_region_quiet_lit ?_ ?_ ?_); kernel_rfl; kernel_rfl; (repeat (any_goals (first | go_big_quiet_step (fail) | (refine wpQuiet_step (fun K hK => ?_); go_simp; (first | (refine hK _ ?_; clear hK K) | (split <;> rename_i hg <;> (refine hK _ ?_; clear hK K) <;> (try simp only [Bool.not_eq_true] at hg) <;> (first | simp only [Int.not_lt.2 hg, decide_false] | simp only [Int.not_le.1 hg, decide_true] | simp only [hg, decide_true, decide_false] | skip))))))); all_goals (refine wpQuiet_nil ?_; intro _ hw'; obtain ⟨nq, hw''⟩ := hw'; subst hw''))
  have hT2 : Below w.heap.size w (W.drewN nq) := below_drewN hT _
  obtain ⟨W1, hW1⟩ : ∃ V, V = W.drewN nq := ⟨_, rfl⟩
  replace qa0 := (show (W.drewN nq).cell? ⟨w.heap.size, 0, none⟩ = _ from qa0)
  replace qa1 := (show (W.drewN nq).cell? ⟨w.heap.size, 1, none⟩ = _ from qa1)
  replace qa2 := (show (W.drewN nq).cell? ⟨w.heap.size, 2, none⟩ = _ from qa2)
  replace qa3 := (show (W.drewN nq).cell? ⟨w.heap.size, 3, none⟩ = _ from qa3)
  replace qa4 := (show (W.drewN nq).cell? ⟨w.heap.size, 4, none⟩ = _ from qa4)
  replace qa5 := (show (W.drewN nq).cell? ⟨w.heap.size, 5, none⟩ = _ from qa5)
  replace qa6 := (show (W.drewN nq).cell? ⟨w.heap.size, 6, none⟩ = _ from qa6)
  rw [← hW1] at hT2 qa0 qa1 qa2 qa3 qa4 qa5 qa6 ⊢
  have hg1 : w.heap.size < W1.heap.size := by rw [hW1]; exact Nat.lt_of_succ_lt hg
  clear hT hW1 qb0 qb1 hg
  have hT := hT2
  clear hT2
  go_wp2_with fail
  refine (smallL_any A n c Ts W1 (HLT.out.on_ hT)).mono ?_
  rintro r w1 ⟨⟨m, rfl, hm⟩, hb1⟩
  (have hzhb1 := hb1.size; replace qa0 := (hb1.cell (p := ⟨_, _, none⟩) (by (try dsimp only) <;> omega)).trans qa0; replace qa1 := (hb1.cell (p := ⟨_, _, none⟩) (by (try dsimp only) <;> omega)).trans qa1; replace qa2 := (hb1.cell (p := ⟨_, _, none⟩) (by (try dsimp only) <;> omega)).trans qa2; replace qa3 := (hb1.cell (p := ⟨_, _, none⟩) (by (try dsimp only) <;> omega)).trans qa3; replace qa4 := (hb1.cell (p := ⟨_, _, none⟩) (by (try dsimp only) <;> omega)).trans qa4; replace qa5 := (hb1.cell (p := ⟨_, _, none⟩) (by (try dsimp only) <;> omega)).trans qa5; replace qa6 := (hb1.cell (p := ⟨_, _, none⟩) (by (try dsimp only) <;> omega)).trans qa6)
  replace hT := hT.trans (hb1.mono hT.size)
  have hgw1 : w.heap.size < w1.heap.size := by omega
  have HM := Lib.hid hm
  clear hm hb1
  cases m
  · go_wp2_with fail
    refine (awake_any _).mono ?_
    rintro r w9 ⟨rfl, hb9⟩
    replace hT := hT.trans (hb9.mono hT.size)
    clear hb9
    go_wp2_with fail
    go_ret
    exact ⟨rfl, hT⟩
  · have HW := Lib.hid (wide_all (HM.out rfl) HFT.out)
    have hn8 := (HM.out rfl).n8
    clear HM
    go_wp2_with fail
    obtain ⟨U, hU, hbU⟩ : ∃ U, U = w1.alloc (.cells #[.string t.name, .int .i64 t.from_, .bool t.split, .slice t.Az t.nz t.cz, .slice t.Ab t.nb t.cb, .slice t.Ar t.nr t.cr, .slice t.Ad t.nd t.cd] 32) ∧ Below w1.heap.size w1 U := ⟨_, rfl, (Below.refl _ _).alloc (Nat.le_refl _) _⟩
    have hO : LT U (some ⟨w1.heap.size, 0, none⟩) 1 1 [T] := by rw [hU]; exact one_lt (HTD.out.on hT) _
    rw [← hU]
    clear hU
    (have hzhbU := hbU.size; replace qa0 := (hbU.cell (p := ⟨_, _, none⟩) (by (try dsimp only) <;> omega)).trans qa0; replace qa1 := (hbU.cell (p := ⟨_, _, none⟩) (by (try dsimp only) <;> omega)).trans qa1; replace qa2 := (hbU.cell (p := ⟨_, _, none⟩) (by (try dsimp only) <;> omega)).trans qa2; replace qa3 := (hbU.cell (p := ⟨_, _, none⟩) (by (try dsimp only) <;> omega)).trans qa3; replace qa4 := (hbU.cell (p := ⟨_, _, none⟩) (by (try dsimp only) <;> omega)).trans qa4; replace qa5 := (hbU.cell (p := ⟨_, _, none⟩) (by (try dsimp only) <;> omega)).trans qa5; replace qa6 := (hbU.cell (p := ⟨_, _, none⟩) (by (try dsimp only) <;> omega)).trans qa6)
    replace hT := hT.trans (hbU.mono hT.size)
    have hgU : w.heap.size < U.heap.size := by omega
    clear hbU
    refine (smallL_any _ 1 1 [T] U hO).mono ?_
    clear hO
    rintro r w2 ⟨⟨m, rfl, hm⟩, hb2⟩
    (have hzhb2 := hb2.size; replace qa0 := (hb2.cell (p := ⟨_, _, none⟩) (by (try dsimp only) <;> omega)).trans qa0; replace qa1 := (hb2.cell (p := ⟨_, _, none⟩) (by (try dsimp only) <;> omega)).trans qa1; replace qa2 := (hb2.cell (p := ⟨_, _, none⟩) (by (try dsimp only) <;> omega)).trans qa2; replace qa3 := (hb2.cell (p := ⟨_, _, none⟩) (by (try dsimp only) <;> omega)).trans qa3; replace qa4 := (hb2.cell (p := ⟨_, _, none⟩) (by (try dsimp only) <;> omega)).trans qa4; replace qa5 := (hb2.cell (p := ⟨_, _, none⟩) (by (try dsimp only) <;> omega)).trans qa5; replace qa6 := (hb2.cell (p := ⟨_, _, none⟩) (by (try dsimp only) <;> omega)).trans qa6)
    replace hT := hT.trans (hb2.mono hT.size)
    have hg2 : w.heap.size < w2.heap.size := by omega
    have HM := Lib.hid hm
    clear hm hb2
    cases m
    · go_wp2_with fail
      refine (awake_any _).mono ?_
      rintro r w9 ⟨rfl, hb9⟩
      replace hT := hT.trans (hb9.mono hT.size)
      clear hb9
      go_wp2_with fail
      go_ret
      exact ⟨rfl, hT⟩
    · have HWT := Lib.hid (wide_all (Ts := [T]) (HM.out rfl) (fun X hX => by rw [List.mem_singleton] at hX; subst hX; exact HTF.out) T (List.mem_singleton.2 rfl))
      clear HM
      by_cases h3 : (300 : Int) < (nm.size : Int)
      · go_wp2_with fail
        refine (awake_any _).mono ?_
        rintro r w9 ⟨rfl, hb9⟩
        replace hT := hT.trans (hb9.mono hT.size)
        clear hb9
        go_wp2_with fail
        go_ret
        exact ⟨rfl, hT⟩
      · obtain ⟨l, hl⟩ : ∃ l, (repD Ts T).1 = l := ⟨_, rfl⟩
        obtain ⟨v, hv⟩ : ∃ v, (repD Ts T).2 = v := ⟨_, rfl⟩
        have c3 := fun W' (hb : Below w.heap.size w W') => replace_any A n c Ts t T W' (HLT.out.on_ hb) (HTD.out.on hb) HW.out HWT.out (by omega)
        rw [hl, hv] at c3
        unfold Tv.val at c3
        have HC3 := Lib.hid c3
        clear c3
        go_wp2_with fail
        refine (HC3.out _ hT).mono ?_
        rintro r w3 ⟨⟨A1, n1, c1, rfl, hl1⟩, hb3⟩
        (have hzhb3 := hb3.size; replace qa0 := (hb3.cell (p := ⟨_, _, none⟩) (by (try dsimp only) <;> omega)).trans qa0; replace qa1 := (hb3.cell (p := ⟨_, _, none⟩) (by (try dsimp only) <;> omega)).trans qa1; replace qa2 := (hb3.cell (p := ⟨_, _, none⟩) (by (try dsimp only) <;> omega)).trans qa2; replace qa3 := (hb3.cell (p := ⟨_, _, none⟩) (by (try dsimp only) <;> omega)).trans qa3; replace qa4 := (hb3.cell (p := ⟨_, _, none⟩) (by (try dsimp only) <;> omega)).trans qa4; replace qa5 := (hb3.cell (p := ⟨_, _, none⟩) (by (try dsimp only) <;> omega)).trans qa5; replace qa6 := (hb3.cell (p := ⟨_, _, none⟩) (by (try dsimp only) <;> omega)).trans qa6)
        replace hT := hT.trans (hb3.mono hT.size)
        have hg3 : w.heap.size < w3.heap.size := by omega
        have HL1 := Lib.hid hl1
        clear hl1 hb3 HC3
        by_cases hv0 : v = 0
        · subst hv0
          obtain ⟨g1, g2, g3⟩ := repD_good hv
          rw [hl] at g3
          subst g3
          have HG := Lib.hid ((chk_iff Ts).1 g1).2.2
          have hck := rep_chk g1 g2 (by have := HLT.out.len; omega)
          have HCK := Lib.hid hck
          clear hl hv g1 g2 hck
          go_wp2_with fail
          refine (check_any A1 n1 c1 (repL Ts T) _ HL1.out).mono ?_
          rw [HCK.out]
          rintro r w4 ⟨rfl, hb4⟩
          (have hzhb4 := hb4.size; replace qa0 := (hb4.cell (p := ⟨_, _, none⟩) (by (try dsimp only) <;> omega)).trans qa0; replace qa1 := (hb4.cell (p := ⟨_, _, none⟩) (by (try dsimp only) <;> omega)).trans qa1; replace qa2 := (hb4.cell (p := ⟨_, _, none⟩) (by (try dsimp only) <;> omega)).trans qa2; replace qa3 := (hb4.cell (p := ⟨_, _, none⟩) (by (try dsimp only) <;> omega)).trans qa3; replace qa4 := (hb4.cell (p := ⟨_, _, none⟩) (by (try dsimp only) <;> omega)).trans qa4; replace qa5 := (hb4.cell (p := ⟨_, _, none⟩) (by (try dsimp only) <;> omega)).trans qa5; replace qa6 := (hb4.cell (p := ⟨_, _, none⟩) (by (try dsimp only) <;> omega)).trans qa6)
          replace HL1 := Lib.hid (HL1.out.on_ hb4)
          replace hT := hT.trans (hb4.mono hT.size)
          have hg4 : w.heap.size < w4.heap.size := by omega
          clear hb4 HCK
          obtain ⟨X, hX⟩ : ∃ X, (atD Ts nm at_).1 = X := ⟨_, rfl⟩
          obtain ⟨bx, hbx⟩ : ∃ b, (atD Ts nm at_).2 = b := ⟨_, rfl⟩
          obtain ⟨Y, hY⟩ : ∃ Y, (atD (repL Ts T) nm at_).1 = Y := ⟨_, rfl⟩
          obtain ⟨by_, hby⟩ : ∃ b, (atD (repL Ts T) nm at_).2 = b := ⟨_, rfl⟩
          have HHIT := Lib.hid (fun (h1 : (nm.toList == t.name.toList) = true) (h2 : t.from_ ≤ at_) (h3 : bx = false ∨ X.from_ ≤ t.from_) => show Y = T ∧ by_ = true from by
            have := rep_hit HG.out (nm := nm) (t := at_) (T := T) (by rw [← HTD.out.name]; simpa using h1) (by rw [← HTD.out.from_]; exact h2) (by rw [hbx, hX, ← HTD.out.from_]; exact h3)
            rw [← hY, ← hby, this]; exact ⟨rfl, rfl⟩)
          have HNO := Lib.hid (fun (h : ¬ ((nm.toList == t.name.toList) = true ∧ t.from_ ≤ at_ ∧ (bx = false ∨ X.from_ ≤ t.from_))) => show Y = X ∧ by_ = bx from by
            have := rep_no HG.out (nm := nm) (t := at_) (T := T) (fun ⟨h1, h2, h3⟩ => h ⟨by rw [HTD.out.name]; simpa using h1, by rw [HTD.out.from_]; exact h2, by rw [hbx, hX, ← HTD.out.from_] at h3; exact h3⟩)
            rw [← hY, ← hby, this, hX, hbx]; exact ⟨rfl, rfl⟩)
          have c5 := fun W' hb => at_any A n c Ts nm at_ W' (HLT.out.on_ hb) HW.out
          rw [hX, hbx] at c5
          unfold Tv.val at c5
          have HC5 := Lib.hid c5
          have c6 := fun W' h => at_any A1 n1 c1 (repL Ts T) nm at_ W' h (rep_wide HW.out HWT.out)
          rw [hY, hby] at c6
          unfold Tv.val at c6
          have HC6 := Lib.hid c6
          clear c5 c6 hX hbx hY hby HG
          go_wp2_with fail
          refine (HC5.out _ hT).mono ?_
          rintro r w5 ⟨⟨a, rfl, ha⟩, hb5⟩
          (have hzhb5 := hb5.size; replace qa0 := (hb5.cell (p := ⟨_, _, none⟩) (by (try dsimp only) <;> omega)).trans qa0; replace qa1 := (hb5.cell (p := ⟨_, _, none⟩) (by (try dsimp only) <;> omega)).trans qa1; replace qa2 := (hb5.cell (p := ⟨_, _, none⟩) (by (try dsimp only) <;> omega)).trans qa2; replace qa3 := (hb5.cell (p := ⟨_, _, none⟩) (by (try dsimp only) <;> omega)).trans qa3; replace qa4 := (hb5.cell (p := ⟨_, _, none⟩) (by (try dsimp only) <;> omega)).trans qa4; replace qa5 := (hb5.cell (p := ⟨_, _, none⟩) (by (try dsimp only) <;> omega)).trans qa5; replace qa6 := (hb5.cell (p := ⟨_, _, none⟩) (by (try dsimp only) <;> omega)).trans qa6)
          replace HL1 := Lib.hid (HL1.out.on_ hb5)
          replace hT := hT.trans (hb5.mono hT.size)
          have hg5 : w.heap.size < w5.heap.size := by omega
          clear hb5
          have HTA := Lib.hid ha
          clear ha
          go_wp2_with fail
          (obtain ⟨V, hWV, hbV, hzV, f1V, pfa⟩ := box1 w5 #[.string a.name, .int .i64 a.from_, .bool a.split, .slice a.Az a.nz a.cz, .slice a.Ab a.nb a.cb, .slice a.Ar a.nr a.cr, .slice a.Ad a.nd a.cd] 32; rw [← hWV]; have pa0 : V.cell? ⟨w5.heap.size, 0, none⟩ = some (.string a.name) := f1V 0 _ rfl; have pa1 : V.cell? ⟨w5.heap.size, 1, none⟩ = some (.int .i64 a.from_) := f1V 1 _ rfl; have pa2 : V.cell? ⟨w5.heap.size, 2, none⟩ = some (.bool a.split) := f1V 2 _ rfl; have pa3 : V.cell? ⟨w5.heap.size, 3, none⟩ = some (.slice a.Az a.nz a.cz) := f1V 3 _ rfl; have pa4 : V.cell? ⟨w5.heap.size, 4, none⟩ = some (.slice a.Ab a.nb a.cb) := f1V 4 _ rfl; have pa5 : V.cell? ⟨w5.heap.size, 5, none⟩ = some (.slice a.Ar a.nr a.cr) := f1V 5 _ rfl; have pa6 : V.cell? ⟨w5.heap.size, 6, none⟩ = some (.slice a.Ad a.nd a.cd) := f1V 6 _ rfl; clear hWV f1V)
          (have hzhbV := hbV.size; replace qa0 := (hbV.cell (p := ⟨_, _, none⟩) (by (try dsimp only) <;> omega)).trans qa0; replace qa1 := (hbV.cell (p := ⟨_, _, none⟩) (by (try dsimp only) <;> omega)).trans qa1; replace qa2 := (hbV.cell (p := ⟨_, _, none⟩) (by (try dsimp only) <;> omega)).trans qa2; replace qa3 := (hbV.cell (p := ⟨_, _, none⟩) (by (try dsimp only) <;> omega)).trans qa3; replace qa4 := (hbV.cell (p := ⟨_, _, none⟩) (by (try dsimp only) <;> omega)).trans qa4; replace qa5 := (hbV.cell (p := ⟨_, _, none⟩) (by (try dsimp only) <;> omega)).trans qa5; replace qa6 := (hbV.cell (p := ⟨_, _, none⟩) (by (try dsimp only) <;> omega)).trans qa6)
          replace HL1 := Lib.hid (HL1.out.on_ hbV)
          replace HTA := Lib.hid (HTA.out.on hbV)
          replace hT := hT.trans (hbV.mono hT.size)
          have hgV : w.heap.size < V.heap.size := by omega
          clear hbV pfa
          refine (HC6.out _ HL1.out).mono ?_
          rintro r w6 ⟨⟨b, rfl, hb⟩, hb6⟩
          (have hzhb6 := hb6.size; replace qa0 := (hb6.cell (p := ⟨_, _, none⟩) (by (try dsimp only) <;> omega)).trans qa0; replace qa1 := (hb6.cell (p := ⟨_, _, none⟩) (by (try dsimp only) <;> omega)).trans qa1; replace qa2 := (hb6.cell (p := ⟨_, _, none⟩) (by (try dsimp only) <;> omega)).trans qa2; replace qa3 := (hb6.cell (p := ⟨_, _, none⟩) (by (try dsimp only) <;> omega)).trans qa3; replace qa4 := (hb6.cell (p := ⟨_, _, none⟩) (by (try dsimp only) <;> omega)).trans qa4; replace qa5 := (hb6.cell (p := ⟨_, _, none⟩) (by (try dsimp only) <;> omega)).trans qa5; replace qa6 := (hb6.cell (p := ⟨_, _, none⟩) (by (try dsimp only) <;> omega)).trans qa6; replace pa0 := (hb6.cell (p := ⟨_, _, none⟩) (by (try dsimp only) <;> omega)).trans pa0; replace pa1 := (hb6.cell (p := ⟨_, _, none⟩) (by (try dsimp only) <;> omega)).trans pa1; replace pa2 := (hb6.cell (p := ⟨_, _, none⟩) (by (try dsimp only) <;> omega)).trans pa2; replace pa3 := (hb6.cell (p := ⟨_, _, none⟩) (by (try dsimp only) <;> omega)).trans pa3; replace pa4 := (hb6.cell (p := ⟨_, _, none⟩) (by (try dsimp only) <;> omega)).trans pa4; replace pa5 := (hb6.cell (p := ⟨_, _, none⟩) (by (try dsimp only) <;> omega)).trans pa5; replace pa6 := (hb6.cell (p := ⟨_, _, none⟩) (by (try dsimp only) <;> omega)).trans pa6)
          replace HTA := Lib.hid (HTA.out.on hb6)
          replace hT := hT.trans (hb6.mono hT.size)
          have hg6 : w.heap.size < w6.heap.size := by omega
          have hg6b : w5.heap.size < w6.heap.size := by omega
          clear hb6
          have HTB := Lib.hid hb
          clear hb HL1 HC5 HC6
          go_upto_region 11 with (fail)
          (obtain ⟨U2, hWU2, hbU2, hzU2, f1U2, ofa⟩ := box1 w6 #[.string b.name, .int .i64 b.from_, .bool b.split, .slice b.Az b.nz b.cz, .slice b.Ab b.nb b.cb, .slice b.Ar b.nr b.cr, .slice b.Ad b.nd b.cd] 32; rw [← hWU2]; have oa0 : U2.cell? ⟨w6.heap.size, 0, none⟩ = some (.string b.name) := f1U2 0 _ rfl; have oa1 : U2.cell? ⟨w6.heap.size, 1, none⟩ = some (.int .i64 b.from_) := f1U2 1 _ rfl; have oa2 : U2.cell? ⟨w6.heap.size, 2, none⟩ = some (.bool b.split) := f1U2 2 _ rfl; have oa3 : U2.cell? ⟨w6.heap.size, 3, none⟩ = some (.slice b.Az b.nz b.cz) := f1U2 3 _ rfl; have oa4 : U2.cell? ⟨w6.heap.size, 4, none⟩ = some (.slice b.Ab b.nb b.cb) := f1U2 4 _ rfl; have oa5 : U2.cell? ⟨w6.heap.size, 5, none⟩ = some (.slice b.Ar b.nr b.cr) := f1U2 5 _ rfl; have oa6 : U2.cell? ⟨w6.heap.size, 6, none⟩ = some (.slice b.Ad b.nd b.cd) := f1U2 6 _ rfl; clear hWU2 f1U2)
          (have hzhbU2 := hbU2.size; replace qa0 := (hbU2.cell (p := ⟨_, _, none⟩) (by (try dsimp only) <;> omega)).trans qa0; replace qa1 := (hbU2.cell (p := ⟨_, _, none⟩) (by (try dsimp only) <;> omega)).trans qa1; replace qa2 := (hbU2.cell (p := ⟨_, _, none⟩) (by (try dsimp only) <;> omega)).trans qa2; replace qa3 := (hbU2.cell (p := ⟨_, _, none⟩) (by (try dsimp only) <;> omega)).trans qa3; replace qa4 := (hbU2.cell (p := ⟨_, _, none⟩) (by (try dsimp only) <;> omega)).trans qa4; replace qa5 := (hbU2.cell (p := ⟨_, _, none⟩) (by (try dsimp only) <;> omega)).trans qa5; replace qa6 := (hbU2.cell (p := ⟨_, _, none⟩) (by (try dsimp only) <;> omega)).trans qa6; replace pa0 := (hbU2.cell (p := ⟨_, _, none⟩) (by (try dsimp only) <;> omega)).trans pa0; replace pa1 := (hbU2.cell (p := ⟨_, _, none⟩) (by (try dsimp only) <;> omega)).trans pa1; replace pa2 := (hbU2.cell (p := ⟨_, _, none⟩) (by (try dsimp only) <;> omega)).trans pa2; replace pa3 := (hbU2.cell (p := ⟨_, _, none⟩) (by (try dsimp only) <;> omega)).trans pa3; replace pa4 := (hbU2.cell (p := ⟨_, _, none⟩) (by (try dsimp only) <;> omega)).trans pa4; replace pa5 := (hbU2.cell (p := ⟨_, _, none⟩) (by (try dsimp only) <;> omega)).trans pa5; replace pa6 := (hbU2.cell (p := ⟨_, _, none⟩) (by (try dsimp only) <;> omega)).trans pa6)
          replace HTA := Lib.hid (HTA.out.on hbU2)
          replace HTB := Lib.hid (HTB.out.on hbU2)
          replace hT := hT.trans (hbU2.mono hT.size)
          clear hbU2 ofa
          have HTT := Lib.hid (HTD.out.on hT)
          have HFA := Lib.hid HTA.out.from_
          cases hb1 : (nm.toList == t.name.toList)
          · obtain ⟨e1, e2⟩ := HNO.out (fun h => by rw [hb1] at h; exact absurd h.1 (by decide))
            subst e1 e2
            have cs := sametariff_any a b _ U2 HTA.out HTB.out
            unfold Tv.val at cs
            have HCS := Lib.hid cs
            clear cs HTA HTB HTT HNO HHIT HTD HFA
            go_wp2_with fail
            refine HCS.out.mono ?_
            rintro r w7 ⟨rfl, hb7⟩
            replace hT := hT.trans (hb7.mono hT.size)
            clear hb7 HCS
            go_wp2_with fail
            refine (awake_any _).mono ?_
            rintro r w9 ⟨rfl, hb9⟩
            replace hT := hT.trans (hb9.mono hT.size)
            clear hb9
            go_wp2_with fail
            go_ret
            exact ⟨rfl, hT⟩
          · by_cases h2 : t.from_ ≤ at_
            · cases bx
              · obtain ⟨e1, e2⟩ := HHIT.out hb1 h2 (.inl rfl)
                subst e1 e2
                have cs := sametariff_any b t _ U2 HTB.out HTT.out
                unfold Tv.val at cs
                have HCS := Lib.hid cs
                clear cs HTA HTB HTT HNO HHIT HTD HFA
                go_wp2_with fail
                refine HCS.out.mono ?_
                rintro r w7 ⟨rfl, hb7⟩
                replace hT := hT.trans (hb7.mono hT.size)
                clear hb7 HCS
                go_wp2_with fail
                refine (awake_any _).mono ?_
                rintro r w9 ⟨rfl, hb9⟩
                replace hT := hT.trans (hb9.mono hT.size)
                clear hb9
                go_wp2_with fail
                go_ret
                exact ⟨rfl, hT⟩
              · by_cases h4 : a.from_ ≤ t.from_
                · obtain ⟨e1, e2⟩ := HHIT.out hb1 h2 (.inr (by rw [← HFA.out]; exact h4))
                  subst e1 e2
                  have cs := sametariff_any b t _ U2 HTB.out HTT.out
                  unfold Tv.val at cs
                  have HCS := Lib.hid cs
                  clear cs HTA HTB HTT HNO HHIT HTD HFA
                  go_wp2_with fail
                  refine HCS.out.mono ?_
                  rintro r w7 ⟨rfl, hb7⟩
                  replace hT := hT.trans (hb7.mono hT.size)
                  clear hb7 HCS
                  go_wp2_with fail
                  refine (awake_any _).mono ?_
                  rintro r w9 ⟨rfl, hb9⟩
                  replace hT := hT.trans (hb9.mono hT.size)
                  clear hb9
                  go_wp2_with fail
                  go_ret
                  exact ⟨rfl, hT⟩
                · obtain ⟨e1, e2⟩ := HNO.out (fun h => by rcases h.2.2 with h5 | h5; cases h5; rw [← HFA.out] at h5; exact h4 h5)
                  subst e1 e2
                  have cs := sametariff_any a b _ U2 HTA.out HTB.out
                  unfold Tv.val at cs
                  have HCS := Lib.hid cs
                  clear cs HTA HTB HTT HNO HHIT HTD HFA
                  go_wp2_with fail
                  refine HCS.out.mono ?_
                  rintro r w7 ⟨rfl, hb7⟩
                  replace hT := hT.trans (hb7.mono hT.size)
                  clear hb7 HCS
                  go_wp2_with fail
                  refine (awake_any _).mono ?_
                  rintro r w9 ⟨rfl, hb9⟩
                  replace hT := hT.trans (hb9.mono hT.size)
                  clear hb9
                  go_wp2_with fail
                  go_ret
                  exact ⟨rfl, hT⟩
            · obtain ⟨e1, e2⟩ := HNO.out (fun h => h2 h.2.1)
              subst e1 e2
              have cs := sametariff_any a b _ U2 HTA.out HTB.out
              unfold Tv.val at cs
              have HCS := Lib.hid cs
              clear cs HTA HTB HTT HNO HHIT HTD HFA
              go_wp2_with fail
              refine HCS.out.mono ?_
              rintro r w7 ⟨rfl, hb7⟩
              replace hT := hT.trans (hb7.mono hT.size)
              clear hb7 HCS
              go_wp2_with fail
              refine (awake_any _).mono ?_
              rintro r w9 ⟨rfl, hb9⟩
              replace hT := hT.trans (hb9.mono hT.size)
              clear hb9
              go_wp2_with fail
              go_ret
              exact ⟨rfl, hT⟩
        · have hl0 := repD_bad (l := Ts) (T := T) (by rw [hv]; exact hv0)
          rw [hl] at hl0
          subst hl0
          have hn1 : n1 = 0 := HL1.out.len.symm
          subst hn1
          have hvb : (v != 0) = true := by simpa using hv0
          clear hl hv hv0 HL1
          go_wp2_with fail
          refine (awake_any _).mono ?_
          rintro r w9 ⟨rfl, hb9⟩
          replace hT := hT.trans (hb9.mono hT.size)
          clear hb9
          go_wp2_with fail
          go_ret
          exact ⟨rfl, hT⟩
end Cv
end Go.Proofs.Ytdnnnajohdohaaa
