/-
  Expressions: the reference's comparison. No condition.
-/
import Derived.Test.YtdjlfdbdhacmjaaExJ
import Derived.BigQuiet
import Derived.StillTailTactics
import Derived.Lib.Overlaps
import Derived.Deep.DeepCutAuto
import Derived.Deep.RegionWith
set_option maxRecDepth 100000
set_option linter.unusedVariables false
set_option linter.unusedSimpArgs false
namespace Go.Proofs.Ytdjlfdbdhacmjaa
open Go.RowKit

namespace Xp


set_option maxHeartbeats 8000000 in
theorem comparison_any (v : Env) (d : Nat) (hd : d ≤ 16) (op num : Int) (text : ByteArray) (a b : Ex) (x : It) (w : World) (h : Rp w (.mk op num text [a, b]) x) (hc : CmpOk d op a b) :
    Calls Try.prog 38 #[x.val, v.val] w fun r w' => r = .returned (.bool (cmpE v d op a b)) ∧ Below w.heap.size w w' := by
  obtain ⟨op', num', text', args', A, n, c, items, he, rfl, hsl, hil, hnil, hch⟩ := h.inv
  cases he
  have HR := Lib.hid h
  clear h hsl hil hch hnil
  unfold It.val Env.val
  have hov : optV none = .tuple #[.int .i64 0, .bool false] := rfl
  have hov2 : ∀ x : Int, optV (some x) = .tuple #[.int .i64 x, .bool true] := fun _ => rfl
  rcases hc with ⟨hsa, hsb, hop⟩ | ⟨hsa, hsb, hop1, hop2⟩
  · have HO := Lib.hid (ordE_text (v := v) (b := b) hd hsa)
    have HS := Lib.hid (show srt 16 a = (2, 0) by rw [srt_mono a (by rw [hsa]) hd, hsa])
    clear hsa hsb
    obtain ⟨ta, hta⟩ : ∃ t, txtE v a = t := ⟨_, rfl⟩
    obtain ⟨tb, htb⟩ : ∃ t, txtE v b = t := ⟨_, rfl⟩
    have HTA := Lib.hid hta
    have HTB := Lib.hid htb
    have HOO : Hid (ordE v d a b = some (if Go.Op.bytesLess ta.toList tb.toList = true then -1 else if Go.Op.bytesLess tb.toList ta.toList = true then 1 else 0)) := by rw [HO.out, hta, htb, ordT, ← Lib.toList_data, ← Lib.toList_data]; exact Lib.hid rfl
    clear hta htb HO
    have HF1 : Hid ((ta.toList == tb.toList) = true → cmpE v d op a b = test op 0) := Lib.hid (by
      intro h
      have h6 : ta.toList = tb.toList := by simpa using h
      unfold cmpE
      rw [HOO.out, h6, less_irrefl]
      rfl)
    have HF2 : Hid ((ta.toList == tb.toList) = false → cmpE v d op a b = test op 1) := Lib.hid (by
      intro h
      unfold cmpE
      rw [HOO.out]
      have h7 : ∀ z : Int, z ≠ 0 → test op z = test op 1 := by
        intro z hz
        unfold test
        rcases hop with rfl | rfl <;> simp [hz]
      by_cases h1 : Go.Op.bytesLess ta.toList tb.toList = true
      · rw [if_pos h1]
        exact h7 _ (by decide)
      · rw [if_neg h1]
        by_cases h3 : Go.Op.bytesLess tb.toList ta.toList = true
        · rw [if_pos h3]
        · exact absurd (less_total _ _ (by simpa using h1) (by simpa using h3)) (by simpa using h))
    clear hop
    have key : ∀ (e1 : Bool), (ta.toList == tb.toList) = e1 →
        Calls Try.prog 38 #[.agg #[.int .i64 op, .int .i64 num, .string text, .slice A n c], .agg #[.int .i64 v.kind, .int .i64 v.units, .int .i64 v.weekday, .int .i64 v.minute, .int .i64 v.total, .int .i64 v.spent, .string v.zone, .string v.band, .bool v.family]] w fun r w' => r = .returned (.bool (cmpE v d op a b)) ∧ Below w.heap.size w w' := by
      intro e1 h2
      obtain ⟨b0, off, ya, hA0, hb0, hn0, hRa, -⟩ := HR.out.arg0
      dsimp only at hA0 hn0
      subst hA0
      have hn2 : n = 2 := hn0
      subst hn2
      clear hn0 hRa
      go_enter Try.func38, Try.ntmps38
      go_upto_region 1 with (fail)
      (obtain ⟨W, hWW, hbW, hzW, f1W, f2W, qfa, qfb⟩ := box2 w #[.int .i64 op, .int .i64 num, .string text, .slice (some ⟨b0, off, none⟩) 2 c] 45 #[.int .i64 v.kind, .int .i64 v.units, .int .i64 v.weekday, .int .i64 v.minute, .int .i64 v.total, .int .i64 v.spent, .string v.zone, .string v.band, .bool v.family] 29; rw [← hWW]; have qa0 : W.cell? ⟨w.heap.size, 0, none⟩ = some (.int .i64 op) := f1W 0 _ rfl; have qa1 : W.cell? ⟨w.heap.size, 1, none⟩ = some (.int .i64 num) := f1W 1 _ rfl; have qa2 : W.cell? ⟨w.heap.size, 2, none⟩ = some (.string text) := f1W 2 _ rfl; have qa3 : W.cell? ⟨w.heap.size, 3, none⟩ = some (.slice (some ⟨b0, off, none⟩) 2 c) := f1W 3 _ rfl; have qb0 : W.cell? ⟨w.heap.size + 1, 0, none⟩ = some (.int .i64 v.kind) := f2W 0 _ rfl; have qb1 : W.cell? ⟨w.heap.size + 1, 1, none⟩ = some (.int .i64 v.units) := f2W 1 _ rfl; have qb2 : W.cell? ⟨w.heap.size + 1, 2, none⟩ = some (.int .i64 v.weekday) := f2W 2 _ rfl; have qb3 : W.cell? ⟨w.heap.size + 1, 3, none⟩ = some (.int .i64 v.minute) := f2W 3 _ rfl; have qb4 : W.cell? ⟨w.heap.size + 1, 4, none⟩ = some (.int .i64 v.total) := f2W 4 _ rfl; have qb5 : W.cell? ⟨w.heap.size + 1, 5, none⟩ = some (.int .i64 v.spent) := f2W 5 _ rfl; have qb6 : W.cell? ⟨w.heap.size + 1, 6, none⟩ = some (.string v.zone) := f2W 6 _ rfl; have qb7 : W.cell? ⟨w.heap.size + 1, 7, none⟩ = some (.string v.band) := f2W 7 _ rfl; have qb8 : W.cell? ⟨w.heap.size + 1, 8, none⟩ = some (.bool v.family) := f2W 8 _ rfl; clear hWW f1W f2W)
      have HRW := Lib.hid (HR.out.on hbW)
      have hbW0 : b0 < W.heap.size := by omega
      have hgW : w.heap.size + 1 < W.heap.size := hzW
      have hgW0 : w.heap.size < W.heap.size := by omega
      obtain ⟨_, _, xa, hAa, -, -, hRa, ka0, ka1, ka2, ka3⟩ := HRW.out.arg0
      dsimp only at hAa
      injection hAa with hAa
      injection hAa with hAa1 hAa2
      subst hAa1 hAa2
      obtain ⟨xb, hRb, kb0, kb1, kb2, kb3⟩ := HRW.out.arg1 rfl
      have HRB := Lib.hid hRb
      clear hRb
      have HRA := Lib.hid hRa
      clear hRa
      go_wp2_with fail
      refine (refexpr_s a xa _ 2 0 HS.out HRA.out).mono ?_
      rintro r w1 ⟨rfl, hb1⟩
      (have hzhb1 := hb1.size; replace qa0 := (hb1.cell (p := ⟨_, _, none⟩) (by (try dsimp only) <;> omega)).trans qa0; replace qa1 := (hb1.cell (p := ⟨_, _, none⟩) (by (try dsimp only) <;> omega)).trans qa1; replace qa2 := (hb1.cell (p := ⟨_, _, none⟩) (by (try dsimp only) <;> omega)).trans qa2; replace qa3 := (hb1.cell (p := ⟨_, _, none⟩) (by (try dsimp only) <;> omega)).trans qa3; replace qb0 := (hb1.cell (p := ⟨_, _, none⟩) (by (try dsimp only) <;> omega)).trans qb0; replace qb1 := (hb1.cell (p := ⟨_, _, none⟩) (by (try dsimp only) <;> omega)).trans qb1; replace qb2 := (hb1.cell (p := ⟨_, _, none⟩) (by (try dsimp only) <;> omega)).trans qb2; replace qb3 := (hb1.cell (p := ⟨_, _, none⟩) (by (try dsimp only) <;> omega)).trans qb3; replace qb4 := (hb1.cell (p := ⟨_, _, none⟩) (by (try dsimp only) <;> omega)).trans qb4; replace qb5 := (hb1.cell (p := ⟨_, _, none⟩) (by (try dsimp only) <;> omega)).trans qb5; replace qb6 := (hb1.cell (p := ⟨_, _, none⟩) (by (try dsimp only) <;> omega)).trans qb6; replace qb7 := (hb1.cell (p := ⟨_, _, none⟩) (by (try dsimp only) <;> omega)).trans qb7; replace qb8 := (hb1.cell (p := ⟨_, _, none⟩) (by (try dsimp only) <;> omega)).trans qb8; replace ka0 := (hb1.cell (p := ⟨_, _, none⟩) (by (try dsimp only) <;> omega)).trans ka0; replace ka1 := (hb1.cell (p := ⟨_, _, none⟩) (by (try dsimp only) <;> omega)).trans ka1; replace ka2 := (hb1.cell (p := ⟨_, _, none⟩) (by (try dsimp only) <;> omega)).trans ka2; replace ka3 := (hb1.cell (p := ⟨_, _, none⟩) (by (try dsimp only) <;> omega)).trans ka3; replace kb0 := (hb1.cell (p := ⟨_, _, none⟩) (by (try dsimp only) <;> omega)).trans kb0; replace kb1 := (hb1.cell (p := ⟨_, _, none⟩) (by (try dsimp only) <;> omega)).trans kb1; replace kb2 := (hb1.cell (p := ⟨_, _, none⟩) (by (try dsimp only) <;> omega)).trans kb2; replace kb3 := (hb1.cell (p := ⟨_, _, none⟩) (by (try dsimp only) <;> omega)).trans kb3; replace HRA := Lib.hid (HRA.out.on hb1); replace HRB := Lib.hid (HRB.out.on hb1); replace hbW := Below.trans hbW (Below.mono hb1 (by omega)))
      have hgW1 : w.heap.size + 1 < w1.heap.size := by omega
      have hgX1 : w.heap.size < w1.heap.size := by omega
      have hbX1 : b0 < w1.heap.size := by omega
      go_wp2_with fail
      have hcr : ∀ z : Wd (Below w1.heap.size w1), ∀ b o, b < w1.heap.size → z.w.cell? ⟨b, o, none⟩ = w1.cell? ⟨b, o, none⟩ := fun z => z.cells
      ((with_reducible refine wp_region_class (Below w1.heap.size w1) ?_ ?_ ?_ ?_); kernel_rfl; kernel_rfl; (exact (Below.refl _ _).drew); (intro hnonemp); skip; (repeat (any_goals (first | go_big_quiet_step (((first | (go_at_call_of 49 (Value.int .i64 xa.op); (refine (reftext_any v a xa _ (HRA.out.on (Wd.h _))).mono ?_); rw [HTA.out]; rintro e w' ⟨rfl, hb⟩; exact ⟨rfl, ⟨w', below_wd _ hb⟩, rfl⟩) | (go_at_call_of 49 (Value.int .i64 xb.op); (refine (reftext_any v b xb _ (HRB.out.on (Wd.h _))).mono ?_); rw [HTB.out]; rintro e w' ⟨rfl, hb⟩; exact ⟨rfl, ⟨w', below_wd _ hb⟩, rfl⟩)))) | (refine wpQuiet_step (fun K hK => ?_); go_simp; (first | (refine hK _ ?_; clear hK K) | (split <;> rename_i hg <;> (refine hK _ ?_; clear hK K) <;> (try simp only [Bool.not_eq_true] at hg) <;> (first | simp only [Int.not_lt.2 hg, decide_false] | simp only [Int.not_le.1 hg, decide_true] | simp only [hg, decide_true, decide_false] | skip)))))));  all_goals (refine wpQuiet_nil ?_; intro wq hgq))
      clear hcr
      have hgq1 := hgq
      (have hzhgq1 := hgq1.size; replace qa0 := (hgq1.cell (p := ⟨_, _, none⟩) (by (try dsimp only) <;> omega)).trans qa0; replace qa1 := (hgq1.cell (p := ⟨_, _, none⟩) (by (try dsimp only) <;> omega)).trans qa1; replace qa2 := (hgq1.cell (p := ⟨_, _, none⟩) (by (try dsimp only) <;> omega)).trans qa2; replace qa3 := (hgq1.cell (p := ⟨_, _, none⟩) (by (try dsimp only) <;> omega)).trans qa3; replace qb0 := (hgq1.cell (p := ⟨_, _, none⟩) (by (try dsimp only) <;> omega)).trans qb0; replace qb1 := (hgq1.cell (p := ⟨_, _, none⟩) (by (try dsimp only) <;> omega)).trans qb1; replace qb2 := (hgq1.cell (p := ⟨_, _, none⟩) (by (try dsimp only) <;> omega)).trans qb2; replace qb3 := (hgq1.cell (p := ⟨_, _, none⟩) (by (try dsimp only) <;> omega)).trans qb3; replace qb4 := (hgq1.cell (p := ⟨_, _, none⟩) (by (try dsimp only) <;> omega)).trans qb4; replace qb5 := (hgq1.cell (p := ⟨_, _, none⟩) (by (try dsimp only) <;> omega)).trans qb5; replace qb6 := (hgq1.cell (p := ⟨_, _, none⟩) (by (try dsimp only) <;> omega)).trans qb6; replace qb7 := (hgq1.cell (p := ⟨_, _, none⟩) (by (try dsimp only) <;> omega)).trans qb7; replace qb8 := (hgq1.cell (p := ⟨_, _, none⟩) (by (try dsimp only) <;> omega)).trans qb8; replace hbW := Below.trans hbW (Below.mono hgq1 (by omega)))
      clear hgq
      have hgWw2 : w.heap.size + 1 < wq.heap.size := by omega
      have hgXw2 : w.heap.size < wq.heap.size := by omega
      have hbXw2 : b0 < wq.heap.size := by omega
      obtain ⟨w2, rfl⟩ : ∃ w2, w2 = wq := ⟨_, rfl⟩
      have hbE := hbW
      cases e1
      · have HF := Lib.hid (HF2.out h2)
        go_wp2_with fail
        refine (compared_any op (1) _).mono ?_
        rintro r w' ⟨rfl, rfl⟩
        go_wp2_with fail
        go_ret
        exact ⟨ret_bool HF.out.symm, hbE⟩
      · have HF := Lib.hid (HF1.out h2)
        go_wp2_with fail
        refine (compared_any op (0) _).mono ?_
        rintro r w' ⟨rfl, rfl⟩
        go_wp2_with fail
        go_ret
        exact ⟨ret_bool HF.out.symm, hbE⟩
    exact key _ rfl
  · have HO := Lib.hid (ordE_num (v := v) (b := b) hd hsa)
    have HS := Lib.hid (show srt 16 a = (1, 0) by rw [srt_mono a (by rw [hsa]) hd, hsa])
    have HSA := Lib.hid hsa
    have HSB := Lib.hid hsb
    clear hsa hsb
    obtain ⟨ra, hra⟩ : ∃ ra, numE v d a = ra := ⟨_, rfl⟩
    obtain ⟨rb, hrb⟩ : ∃ rb, numE v d b = rb := ⟨_, rfl⟩
    have HNA := Lib.hid hra
    have HNB := Lib.hid hrb
    have HOO := Lib.hid (HO.out.trans (by rw [hra, hrb]))
    clear hra hrb HO
    rcases ra with _ | xv
    · rcases rb with _ | yv
      · obtain ⟨b0, off, ya, hA0, hb0, hn0, hRa, -⟩ := HR.out.arg0
        dsimp only at hA0 hn0
        subst hA0
        have hn2 : n = 2 := hn0
        subst hn2
        clear hn0 hRa
        go_enter Try.func38, Try.ntmps38
        go_upto_region 1 with (fail)
        (obtain ⟨W, hWW, hbW, hzW, f1W, f2W, qfa, qfb⟩ := box2 w #[.int .i64 op, .int .i64 num, .string text, .slice (some ⟨b0, off, none⟩) 2 c] 45 #[.int .i64 v.kind, .int .i64 v.units, .int .i64 v.weekday, .int .i64 v.minute, .int .i64 v.total, .int .i64 v.spent, .string v.zone, .string v.band, .bool v.family] 29; rw [← hWW]; have qa0 : W.cell? ⟨w.heap.size, 0, none⟩ = some (.int .i64 op) := f1W 0 _ rfl; have qa1 : W.cell? ⟨w.heap.size, 1, none⟩ = some (.int .i64 num) := f1W 1 _ rfl; have qa2 : W.cell? ⟨w.heap.size, 2, none⟩ = some (.string text) := f1W 2 _ rfl; have qa3 : W.cell? ⟨w.heap.size, 3, none⟩ = some (.slice (some ⟨b0, off, none⟩) 2 c) := f1W 3 _ rfl; have qb0 : W.cell? ⟨w.heap.size + 1, 0, none⟩ = some (.int .i64 v.kind) := f2W 0 _ rfl; have qb1 : W.cell? ⟨w.heap.size + 1, 1, none⟩ = some (.int .i64 v.units) := f2W 1 _ rfl; have qb2 : W.cell? ⟨w.heap.size + 1, 2, none⟩ = some (.int .i64 v.weekday) := f2W 2 _ rfl; have qb3 : W.cell? ⟨w.heap.size + 1, 3, none⟩ = some (.int .i64 v.minute) := f2W 3 _ rfl; have qb4 : W.cell? ⟨w.heap.size + 1, 4, none⟩ = some (.int .i64 v.total) := f2W 4 _ rfl; have qb5 : W.cell? ⟨w.heap.size + 1, 5, none⟩ = some (.int .i64 v.spent) := f2W 5 _ rfl; have qb6 : W.cell? ⟨w.heap.size + 1, 6, none⟩ = some (.string v.zone) := f2W 6 _ rfl; have qb7 : W.cell? ⟨w.heap.size + 1, 7, none⟩ = some (.string v.band) := f2W 7 _ rfl; have qb8 : W.cell? ⟨w.heap.size + 1, 8, none⟩ = some (.bool v.family) := f2W 8 _ rfl; clear hWW f1W f2W)
        have HRW := Lib.hid (HR.out.on hbW)
        have hbW0 : b0 < W.heap.size := by omega
        have hgW : w.heap.size + 1 < W.heap.size := hzW
        have hgW0 : w.heap.size < W.heap.size := by omega
        obtain ⟨_, _, xa, hAa, -, -, hRa, ka0, ka1, ka2, ka3⟩ := HRW.out.arg0
        dsimp only at hAa
        injection hAa with hAa
        injection hAa with hAa1 hAa2
        subst hAa1 hAa2
        obtain ⟨xb, hRb, kb0, kb1, kb2, kb3⟩ := HRW.out.arg1 rfl
        have HRB := Lib.hid hRb
        clear hRb
        have HRA := Lib.hid hRa
        clear hRa
        go_wp2_with fail
        refine (refexpr_s a xa _ 1 0 HS.out HRA.out).mono ?_
        rintro r w1 ⟨rfl, hb1⟩
        (have hzhb1 := hb1.size; replace qa0 := (hb1.cell (p := ⟨_, _, none⟩) (by (try dsimp only) <;> omega)).trans qa0; replace qa1 := (hb1.cell (p := ⟨_, _, none⟩) (by (try dsimp only) <;> omega)).trans qa1; replace qa2 := (hb1.cell (p := ⟨_, _, none⟩) (by (try dsimp only) <;> omega)).trans qa2; replace qa3 := (hb1.cell (p := ⟨_, _, none⟩) (by (try dsimp only) <;> omega)).trans qa3; replace qb0 := (hb1.cell (p := ⟨_, _, none⟩) (by (try dsimp only) <;> omega)).trans qb0; replace qb1 := (hb1.cell (p := ⟨_, _, none⟩) (by (try dsimp only) <;> omega)).trans qb1; replace qb2 := (hb1.cell (p := ⟨_, _, none⟩) (by (try dsimp only) <;> omega)).trans qb2; replace qb3 := (hb1.cell (p := ⟨_, _, none⟩) (by (try dsimp only) <;> omega)).trans qb3; replace qb4 := (hb1.cell (p := ⟨_, _, none⟩) (by (try dsimp only) <;> omega)).trans qb4; replace qb5 := (hb1.cell (p := ⟨_, _, none⟩) (by (try dsimp only) <;> omega)).trans qb5; replace qb6 := (hb1.cell (p := ⟨_, _, none⟩) (by (try dsimp only) <;> omega)).trans qb6; replace qb7 := (hb1.cell (p := ⟨_, _, none⟩) (by (try dsimp only) <;> omega)).trans qb7; replace qb8 := (hb1.cell (p := ⟨_, _, none⟩) (by (try dsimp only) <;> omega)).trans qb8; replace ka0 := (hb1.cell (p := ⟨_, _, none⟩) (by (try dsimp only) <;> omega)).trans ka0; replace ka1 := (hb1.cell (p := ⟨_, _, none⟩) (by (try dsimp only) <;> omega)).trans ka1; replace ka2 := (hb1.cell (p := ⟨_, _, none⟩) (by (try dsimp only) <;> omega)).trans ka2; replace ka3 := (hb1.cell (p := ⟨_, _, none⟩) (by (try dsimp only) <;> omega)).trans ka3; replace kb0 := (hb1.cell (p := ⟨_, _, none⟩) (by (try dsimp only) <;> omega)).trans kb0; replace kb1 := (hb1.cell (p := ⟨_, _, none⟩) (by (try dsimp only) <;> omega)).trans kb1; replace kb2 := (hb1.cell (p := ⟨_, _, none⟩) (by (try dsimp only) <;> omega)).trans kb2; replace kb3 := (hb1.cell (p := ⟨_, _, none⟩) (by (try dsimp only) <;> omega)).trans kb3; replace HRA := Lib.hid (HRA.out.on hb1); replace HRB := Lib.hid (HRB.out.on hb1); replace hbW := Below.trans hbW (Below.mono hb1 (by omega)))
        have hgW1 : w.heap.size + 1 < w1.heap.size := by omega
        have hgX1 : w.heap.size < w1.heap.size := by omega
        have hbX1 : b0 < w1.heap.size := by omega
        go_wp2_with fail
        have hcr : ∀ z : Wd (Below w1.heap.size w1), ∀ b o, b < w1.heap.size → z.w.cell? ⟨b, o, none⟩ = w1.cell? ⟨b, o, none⟩ := fun z => z.cells
        ((with_reducible refine wp_region_class (Below w1.heap.size w1) ?_ ?_ ?_ ?_); kernel_rfl; kernel_rfl; (exact (Below.refl _ _).drew); (intro hnonemp); skip; (repeat (any_goals (first | go_big_quiet_step (((first | (go_at_call_of 51 (Value.int .i64 xa.op); (refine (refnumber_any v d a xa _ (HRA.out.on (Wd.h _)) HSA.out).mono ?_); rw [HNA.out]; rintro e w' ⟨rfl, hb⟩; exact ⟨rfl, ⟨w', below_wd _ hb⟩, rfl⟩)))) | (refine wpQuiet_step (fun K hK => ?_); go_simp; (first | (refine hK _ ?_; clear hK K) | (split <;> rename_i hg <;> (refine hK _ ?_; clear hK K) <;> (try simp only [Bool.not_eq_true] at hg) <;> (first | simp only [Int.not_lt.2 hg, decide_false] | simp only [Int.not_le.1 hg, decide_true] | simp only [hg, decide_true, decide_false] | skip)))))));  all_goals (refine wpQuiet_nil ?_; intro wq hgq))
        clear hcr
        have hgq1 := hgq
        (have hzhgq1 := hgq1.size; replace qa0 := (hgq1.cell (p := ⟨_, _, none⟩) (by (try dsimp only) <;> omega)).trans qa0; replace qa1 := (hgq1.cell (p := ⟨_, _, none⟩) (by (try dsimp only) <;> omega)).trans qa1; replace qa2 := (hgq1.cell (p := ⟨_, _, none⟩) (by (try dsimp only) <;> omega)).trans qa2; replace qa3 := (hgq1.cell (p := ⟨_, _, none⟩) (by (try dsimp only) <;> omega)).trans qa3; replace qb0 := (hgq1.cell (p := ⟨_, _, none⟩) (by (try dsimp only) <;> omega)).trans qb0; replace qb1 := (hgq1.cell (p := ⟨_, _, none⟩) (by (try dsimp only) <;> omega)).trans qb1; replace qb2 := (hgq1.cell (p := ⟨_, _, none⟩) (by (try dsimp only) <;> omega)).trans qb2; replace qb3 := (hgq1.cell (p := ⟨_, _, none⟩) (by (try dsimp only) <;> omega)).trans qb3; replace qb4 := (hgq1.cell (p := ⟨_, _, none⟩) (by (try dsimp only) <;> omega)).trans qb4; replace qb5 := (hgq1.cell (p := ⟨_, _, none⟩) (by (try dsimp only) <;> omega)).trans qb5; replace qb6 := (hgq1.cell (p := ⟨_, _, none⟩) (by (try dsimp only) <;> omega)).trans qb6; replace qb7 := (hgq1.cell (p := ⟨_, _, none⟩) (by (try dsimp only) <;> omega)).trans qb7; replace qb8 := (hgq1.cell (p := ⟨_, _, none⟩) (by (try dsimp only) <;> omega)).trans qb8; replace kb0 := (hgq1.cell (p := ⟨_, _, none⟩) (by (try dsimp only) <;> omega)).trans kb0; replace kb1 := (hgq1.cell (p := ⟨_, _, none⟩) (by (try dsimp only) <;> omega)).trans kb1; replace kb2 := (hgq1.cell (p := ⟨_, _, none⟩) (by (try dsimp only) <;> omega)).trans kb2; replace kb3 := (hgq1.cell (p := ⟨_, _, none⟩) (by (try dsimp only) <;> omega)).trans kb3; replace HRB := Lib.hid (HRB.out.on hgq1); replace hbW := Below.trans hbW (Below.mono hgq1 (by omega)))
        clear hgq
        have hgWw2 : w.heap.size + 1 < wq.heap.size := by omega
        have hgXw2 : w.heap.size < wq.heap.size := by omega
        have hbXw2 : b0 < wq.heap.size := by omega
        obtain ⟨w2, rfl⟩ : ∃ w2, w2 = wq := ⟨_, rfl⟩
        go_wp2_with fail
        have hcr : ∀ z : Wd (Below w2.heap.size w2), ∀ b o, b < w2.heap.size → z.w.cell? ⟨b, o, none⟩ = w2.cell? ⟨b, o, none⟩ := fun z => z.cells
        ((with_reducible refine wp_region_class (Below w2.heap.size w2) ?_ ?_ ?_ ?_); kernel_rfl; kernel_rfl; (exact (Below.refl _ _).drew); (intro hnonemp); skip; (repeat (any_goals (first | go_big_quiet_step (((first | (go_at_call_of 51 (Value.int .i64 xb.op); (refine (refnumber_any v d b xb _ (HRB.out.on (Wd.h _)) HSB.out).mono ?_); rw [HNB.out]; rintro e w' ⟨rfl, hb⟩; exact ⟨rfl, ⟨w', below_wd _ hb⟩, rfl⟩)))) | (refine wpQuiet_step (fun K hK => ?_); go_simp; (first | (refine hK _ ?_; clear hK K) | (split <;> rename_i hg <;> (refine hK _ ?_; clear hK K) <;> (try simp only [Bool.not_eq_true] at hg) <;> (first | simp only [Int.not_lt.2 hg, decide_false] | simp only [Int.not_le.1 hg, decide_true] | simp only [hg, decide_true, decide_false] | skip)))))));  all_goals (refine wpQuiet_nil ?_; intro wq hgq))
        clear hcr
        have hgq1 := hgq
        (have hzhgq1 := hgq1.size; replace qa0 := (hgq1.cell (p := ⟨_, _, none⟩) (by (try dsimp only) <;> omega)).trans qa0; replace qa1 := (hgq1.cell (p := ⟨_, _, none⟩) (by (try dsimp only) <;> omega)).trans qa1; replace qa2 := (hgq1.cell (p := ⟨_, _, none⟩) (by (try dsimp only) <;> omega)).trans qa2; replace qa3 := (hgq1.cell (p := ⟨_, _, none⟩) (by (try dsimp only) <;> omega)).trans qa3; replace qb0 := (hgq1.cell (p := ⟨_, _, none⟩) (by (try dsimp only) <;> omega)).trans qb0; replace qb1 := (hgq1.cell (p := ⟨_, _, none⟩) (by (try dsimp only) <;> omega)).trans qb1; replace qb2 := (hgq1.cell (p := ⟨_, _, none⟩) (by (try dsimp only) <;> omega)).trans qb2; replace qb3 := (hgq1.cell (p := ⟨_, _, none⟩) (by (try dsimp only) <;> omega)).trans qb3; replace qb4 := (hgq1.cell (p := ⟨_, _, none⟩) (by (try dsimp only) <;> omega)).trans qb4; replace qb5 := (hgq1.cell (p := ⟨_, _, none⟩) (by (try dsimp only) <;> omega)).trans qb5; replace qb6 := (hgq1.cell (p := ⟨_, _, none⟩) (by (try dsimp only) <;> omega)).trans qb6; replace qb7 := (hgq1.cell (p := ⟨_, _, none⟩) (by (try dsimp only) <;> omega)).trans qb7; replace qb8 := (hgq1.cell (p := ⟨_, _, none⟩) (by (try dsimp only) <;> omega)).trans qb8; replace hbW := Below.trans hbW (Below.mono hgq1 (by omega)))
        clear hgq
        have hgWw3 : w.heap.size + 1 < wq.heap.size := by omega
        have hgXw3 : w.heap.size < wq.heap.size := by omega
        have hbXw3 : b0 < wq.heap.size := by omega
        obtain ⟨w3, rfl⟩ : ∃ w3, w3 = wq := ⟨_, rfl⟩
        have hbE := hbW
        have HF := Lib.hid (show cmpE v d op a b = false by unfold cmpE; rw [HOO.out])
        go_wp2_with fail
        go_ret
        exact ⟨ret_bool HF.out.symm, hbE⟩
      · obtain ⟨b0, off, ya, hA0, hb0, hn0, hRa, -⟩ := HR.out.arg0
        dsimp only at hA0 hn0
        subst hA0
        have hn2 : n = 2 := hn0
        subst hn2
        clear hn0 hRa
        go_enter Try.func38, Try.ntmps38
        go_upto_region 1 with (fail)
        (obtain ⟨W, hWW, hbW, hzW, f1W, f2W, qfa, qfb⟩ := box2 w #[.int .i64 op, .int .i64 num, .string text, .slice (some ⟨b0, off, none⟩) 2 c] 45 #[.int .i64 v.kind, .int .i64 v.units, .int .i64 v.weekday, .int .i64 v.minute, .int .i64 v.total, .int .i64 v.spent, .string v.zone, .string v.band, .bool v.family] 29; rw [← hWW]; have qa0 : W.cell? ⟨w.heap.size, 0, none⟩ = some (.int .i64 op) := f1W 0 _ rfl; have qa1 : W.cell? ⟨w.heap.size, 1, none⟩ = some (.int .i64 num) := f1W 1 _ rfl; have qa2 : W.cell? ⟨w.heap.size, 2, none⟩ = some (.string text) := f1W 2 _ rfl; have qa3 : W.cell? ⟨w.heap.size, 3, none⟩ = some (.slice (some ⟨b0, off, none⟩) 2 c) := f1W 3 _ rfl; have qb0 : W.cell? ⟨w.heap.size + 1, 0, none⟩ = some (.int .i64 v.kind) := f2W 0 _ rfl; have qb1 : W.cell? ⟨w.heap.size + 1, 1, none⟩ = some (.int .i64 v.units) := f2W 1 _ rfl; have qb2 : W.cell? ⟨w.heap.size + 1, 2, none⟩ = some (.int .i64 v.weekday) := f2W 2 _ rfl; have qb3 : W.cell? ⟨w.heap.size + 1, 3, none⟩ = some (.int .i64 v.minute) := f2W 3 _ rfl; have qb4 : W.cell? ⟨w.heap.size + 1, 4, none⟩ = some (.int .i64 v.total) := f2W 4 _ rfl; have qb5 : W.cell? ⟨w.heap.size + 1, 5, none⟩ = some (.int .i64 v.spent) := f2W 5 _ rfl; have qb6 : W.cell? ⟨w.heap.size + 1, 6, none⟩ = some (.string v.zone) := f2W 6 _ rfl; have qb7 : W.cell? ⟨w.heap.size + 1, 7, none⟩ = some (.string v.band) := f2W 7 _ rfl; have qb8 : W.cell? ⟨w.heap.size + 1, 8, none⟩ = some (.bool v.family) := f2W 8 _ rfl; clear hWW f1W f2W)
        have HRW := Lib.hid (HR.out.on hbW)
        have hbW0 : b0 < W.heap.size := by omega
        have hgW : w.heap.size + 1 < W.heap.size := hzW
        have hgW0 : w.heap.size < W.heap.size := by omega
        obtain ⟨_, _, xa, hAa, -, -, hRa, ka0, ka1, ka2, ka3⟩ := HRW.out.arg0
        dsimp only at hAa
        injection hAa with hAa
        injection hAa with hAa1 hAa2
        subst hAa1 hAa2
        obtain ⟨xb, hRb, kb0, kb1, kb2, kb3⟩ := HRW.out.arg1 rfl
        have HRB := Lib.hid hRb
        clear hRb
        have HRA := Lib.hid hRa
        clear hRa
        go_wp2_with fail
        refine (refexpr_s a xa _ 1 0 HS.out HRA.out).mono ?_
        rintro r w1 ⟨rfl, hb1⟩
        (have hzhb1 := hb1.size; replace qa0 := (hb1.cell (p := ⟨_, _, none⟩) (by (try dsimp only) <;> omega)).trans qa0; replace qa1 := (hb1.cell (p := ⟨_, _, none⟩) (by (try dsimp only) <;> omega)).trans qa1; replace qa2 := (hb1.cell (p := ⟨_, _, none⟩) (by (try dsimp only) <;> omega)).trans qa2; replace qa3 := (hb1.cell (p := ⟨_, _, none⟩) (by (try dsimp only) <;> omega)).trans qa3; replace qb0 := (hb1.cell (p := ⟨_, _, none⟩) (by (try dsimp only) <;> omega)).trans qb0; replace qb1 := (hb1.cell (p := ⟨_, _, none⟩) (by (try dsimp only) <;> omega)).trans qb1; replace qb2 := (hb1.cell (p := ⟨_, _, none⟩) (by (try dsimp only) <;> omega)).trans qb2; replace qb3 := (hb1.cell (p := ⟨_, _, none⟩) (by (try dsimp only) <;> omega)).trans qb3; replace qb4 := (hb1.cell (p := ⟨_, _, none⟩) (by (try dsimp only) <;> omega)).trans qb4; replace qb5 := (hb1.cell (p := ⟨_, _, none⟩) (by (try dsimp only) <;> omega)).trans qb5; replace qb6 := (hb1.cell (p := ⟨_, _, none⟩) (by (try dsimp only) <;> omega)).trans qb6; replace qb7 := (hb1.cell (p := ⟨_, _, none⟩) (by (try dsimp only) <;> omega)).trans qb7; replace qb8 := (hb1.cell (p := ⟨_, _, none⟩) (by (try dsimp only) <;> omega)).trans qb8; replace ka0 := (hb1.cell (p := ⟨_, _, none⟩) (by (try dsimp only) <;> omega)).trans ka0; replace ka1 := (hb1.cell (p := ⟨_, _, none⟩) (by (try dsimp only) <;> omega)).trans ka1; replace ka2 := (hb1.cell (p := ⟨_, _, none⟩) (by (try dsimp only) <;> omega)).trans ka2; replace ka3 := (hb1.cell (p := ⟨_, _, none⟩) (by (try dsimp only) <;> omega)).trans ka3; replace kb0 := (hb1.cell (p := ⟨_, _, none⟩) (by (try dsimp only) <;> omega)).trans kb0; replace kb1 := (hb1.cell (p := ⟨_, _, none⟩) (by (try dsimp only) <;> omega)).trans kb1; replace kb2 := (hb1.cell (p := ⟨_, _, none⟩) (by (try dsimp only) <;> omega)).trans kb2; replace kb3 := (hb1.cell (p := ⟨_, _, none⟩) (by (try dsimp only) <;> omega)).trans kb3; replace HRA := Lib.hid (HRA.out.on hb1); replace HRB := Lib.hid (HRB.out.on hb1); replace hbW := Below.trans hbW (Below.mono hb1 (by omega)))
        have hgW1 : w.heap.size + 1 < w1.heap.size := by omega
        have hgX1 : w.heap.size < w1.heap.size := by omega
        have hbX1 : b0 < w1.heap.size := by omega
        go_wp2_with fail
        have hcr : ∀ z : Wd (Below w1.heap.size w1), ∀ b o, b < w1.heap.size → z.w.cell? ⟨b, o, none⟩ = w1.cell? ⟨b, o, none⟩ := fun z => z.cells
        ((with_reducible refine wp_region_class (Below w1.heap.size w1) ?_ ?_ ?_ ?_); kernel_rfl; kernel_rfl; (exact (Below.refl _ _).drew); (intro hnonemp); skip; (repeat (any_goals (first | go_big_quiet_step (((first | (go_at_call_of 51 (Value.int .i64 xa.op); (refine (refnumber_any v d a xa _ (HRA.out.on (Wd.h _)) HSA.out).mono ?_); rw [HNA.out]; rintro e w' ⟨rfl, hb⟩; exact ⟨rfl, ⟨w', below_wd _ hb⟩, rfl⟩)))) | (refine wpQuiet_step (fun K hK => ?_); go_simp; (first | (refine hK _ ?_; clear hK K) | (split <;> rename_i hg <;> (refine hK _ ?_; clear hK K) <;> (try simp only [Bool.not_eq_true] at hg) <;> (first | simp only [Int.not_lt.2 hg, decide_false] | simp only [Int.not_le.1 hg, decide_true] | simp only [hg, decide_true, decide_false] | skip)))))));  all_goals (refine wpQuiet_nil ?_; intro wq hgq))
        clear hcr
        have hgq1 := hgq
        (have hzhgq1 := hgq1.size; replace qa0 := (hgq1.cell (p := ⟨_, _, none⟩) (by (try dsimp only) <;> omega)).trans qa0; replace qa1 := (hgq1.cell (p := ⟨_, _, none⟩) (by (try dsimp only) <;> omega)).trans qa1; replace qa2 := (hgq1.cell (p := ⟨_, _, none⟩) (by (try dsimp only) <;> omega)).trans qa2; replace qa3 := (hgq1.cell (p := ⟨_, _, none⟩) (by (try dsimp only) <;> omega)).trans qa3; replace qb0 := (hgq1.cell (p := ⟨_, _, none⟩) (by (try dsimp only) <;> omega)).trans qb0; replace qb1 := (hgq1.cell (p := ⟨_, _, none⟩) (by (try dsimp only) <;> omega)).trans qb1; replace qb2 := (hgq1.cell (p := ⟨_, _, none⟩) (by (try dsimp only) <;> omega)).trans qb2; replace qb3 := (hgq1.cell (p := ⟨_, _, none⟩) (by (try dsimp only) <;> omega)).trans qb3; replace qb4 := (hgq1.cell (p := ⟨_, _, none⟩) (by (try dsimp only) <;> omega)).trans qb4; replace qb5 := (hgq1.cell (p := ⟨_, _, none⟩) (by (try dsimp only) <;> omega)).trans qb5; replace qb6 := (hgq1.cell (p := ⟨_, _, none⟩) (by (try dsimp only) <;> omega)).trans qb6; replace qb7 := (hgq1.cell (p := ⟨_, _, none⟩) (by (try dsimp only) <;> omega)).trans qb7; replace qb8 := (hgq1.cell (p := ⟨_, _, none⟩) (by (try dsimp only) <;> omega)).trans qb8; replace kb0 := (hgq1.cell (p := ⟨_, _, none⟩) (by (try dsimp only) <;> omega)).trans kb0; replace kb1 := (hgq1.cell (p := ⟨_, _, none⟩) (by (try dsimp only) <;> omega)).trans kb1; replace kb2 := (hgq1.cell (p := ⟨_, _, none⟩) (by (try dsimp only) <;> omega)).trans kb2; replace kb3 := (hgq1.cell (p := ⟨_, _, none⟩) (by (try dsimp only) <;> omega)).trans kb3; replace HRB := Lib.hid (HRB.out.on hgq1); replace hbW := Below.trans hbW (Below.mono hgq1 (by omega)))
        clear hgq
        have hgWw2 : w.heap.size + 1 < wq.heap.size := by omega
        have hgXw2 : w.heap.size < wq.heap.size := by omega
        have hbXw2 : b0 < wq.heap.size := by omega
        obtain ⟨w2, rfl⟩ : ∃ w2, w2 = wq := ⟨_, rfl⟩
        go_wp2_with fail
        have hcr : ∀ z : Wd (Below w2.heap.size w2), ∀ b o, b < w2.heap.size → z.w.cell? ⟨b, o, none⟩ = w2.cell? ⟨b, o, none⟩ := fun z => z.cells
        ((with_reducible refine wp_region_class (Below w2.heap.size w2) ?_ ?_ ?_ ?_); kernel_rfl; kernel_rfl; (exact (Below.refl _ _).drew); (intro hnonemp); skip; (repeat (any_goals (first | go_big_quiet_step (((first | (go_at_call_of 51 (Value.int .i64 xb.op); (refine (refnumber_any v d b xb _ (HRB.out.on (Wd.h _)) HSB.out).mono ?_); rw [HNB.out]; rintro e w' ⟨rfl, hb⟩; exact ⟨rfl, ⟨w', below_wd _ hb⟩, rfl⟩)))) | (refine wpQuiet_step (fun K hK => ?_); go_simp; (first | (refine hK _ ?_; clear hK K) | (split <;> rename_i hg <;> (refine hK _ ?_; clear hK K) <;> (try simp only [Bool.not_eq_true] at hg) <;> (first | simp only [Int.not_lt.2 hg, decide_false] | simp only [Int.not_le.1 hg, decide_true] | simp only [hg, decide_true, decide_false] | skip)))))));  all_goals (refine wpQuiet_nil ?_; intro wq hgq))
        clear hcr
        have hgq1 := hgq
        (have hzhgq1 := hgq1.size; replace qa0 := (hgq1.cell (p := ⟨_, _, none⟩) (by (try dsimp only) <;> omega)).trans qa0; replace qa1 := (hgq1.cell (p := ⟨_, _, none⟩) (by (try dsimp only) <;> omega)).trans qa1; replace qa2 := (hgq1.cell (p := ⟨_, _, none⟩) (by (try dsimp only) <;> omega)).trans qa2; replace qa3 := (hgq1.cell (p := ⟨_, _, none⟩) (by (try dsimp only) <;> omega)).trans qa3; replace qb0 := (hgq1.cell (p := ⟨_, _, none⟩) (by (try dsimp only) <;> omega)).trans qb0; replace qb1 := (hgq1.cell (p := ⟨_, _, none⟩) (by (try dsimp only) <;> omega)).trans qb1; replace qb2 := (hgq1.cell (p := ⟨_, _, none⟩) (by (try dsimp only) <;> omega)).trans qb2; replace qb3 := (hgq1.cell (p := ⟨_, _, none⟩) (by (try dsimp only) <;> omega)).trans qb3; replace qb4 := (hgq1.cell (p := ⟨_, _, none⟩) (by (try dsimp only) <;> omega)).trans qb4; replace qb5 := (hgq1.cell (p := ⟨_, _, none⟩) (by (try dsimp only) <;> omega)).trans qb5; replace qb6 := (hgq1.cell (p := ⟨_, _, none⟩) (by (try dsimp only) <;> omega)).trans qb6; replace qb7 := (hgq1.cell (p := ⟨_, _, none⟩) (by (try dsimp only) <;> omega)).trans qb7; replace qb8 := (hgq1.cell (p := ⟨_, _, none⟩) (by (try dsimp only) <;> omega)).trans qb8; replace hbW := Below.trans hbW (Below.mono hgq1 (by omega)))
        clear hgq
        have hgWw3 : w.heap.size + 1 < wq.heap.size := by omega
        have hgXw3 : w.heap.size < wq.heap.size := by omega
        have hbXw3 : b0 < wq.heap.size := by omega
        obtain ⟨w3, rfl⟩ : ∃ w3, w3 = wq := ⟨_, rfl⟩
        have hbE := hbW
        have HF := Lib.hid (show cmpE v d op a b = false by unfold cmpE; rw [HOO.out])
        go_wp2_with fail
        go_ret
        exact ⟨ret_bool HF.out.symm, hbE⟩
    rcases rb with _ | yv
    · obtain ⟨b0, off, ya, hA0, hb0, hn0, hRa, -⟩ := HR.out.arg0
      dsimp only at hA0 hn0
      subst hA0
      have hn2 : n = 2 := hn0
      subst hn2
      clear hn0 hRa
      go_enter Try.func38, Try.ntmps38
      go_upto_region 1 with (fail)
      (obtain ⟨W, hWW, hbW, hzW, f1W, f2W, qfa, qfb⟩ := box2 w #[.int .i64 op, .int .i64 num, .string text, .slice (some ⟨b0, off, none⟩) 2 c] 45 #[.int .i64 v.kind, .int .i64 v.units, .int .i64 v.weekday, .int .i64 v.minute, .int .i64 v.total, .int .i64 v.spent, .string v.zone, .string v.band, .bool v.family] 29; rw [← hWW]; have qa0 : W.cell? ⟨w.heap.size, 0, none⟩ = some (.int .i64 op) := f1W 0 _ rfl; have qa1 : W.cell? ⟨w.heap.size, 1, none⟩ = some (.int .i64 num) := f1W 1 _ rfl; have qa2 : W.cell? ⟨w.heap.size, 2, none⟩ = some (.string text) := f1W 2 _ rfl; have qa3 : W.cell? ⟨w.heap.size, 3, none⟩ = some (.slice (some ⟨b0, off, none⟩) 2 c) := f1W 3 _ rfl; have qb0 : W.cell? ⟨w.heap.size + 1, 0, none⟩ = some (.int .i64 v.kind) := f2W 0 _ rfl; have qb1 : W.cell? ⟨w.heap.size + 1, 1, none⟩ = some (.int .i64 v.units) := f2W 1 _ rfl; have qb2 : W.cell? ⟨w.heap.size + 1, 2, none⟩ = some (.int .i64 v.weekday) := f2W 2 _ rfl; have qb3 : W.cell? ⟨w.heap.size + 1, 3, none⟩ = some (.int .i64 v.minute) := f2W 3 _ rfl; have qb4 : W.cell? ⟨w.heap.size + 1, 4, none⟩ = some (.int .i64 v.total) := f2W 4 _ rfl; have qb5 : W.cell? ⟨w.heap.size + 1, 5, none⟩ = some (.int .i64 v.spent) := f2W 5 _ rfl; have qb6 : W.cell? ⟨w.heap.size + 1, 6, none⟩ = some (.string v.zone) := f2W 6 _ rfl; have qb7 : W.cell? ⟨w.heap.size + 1, 7, none⟩ = some (.string v.band) := f2W 7 _ rfl; have qb8 : W.cell? ⟨w.heap.size + 1, 8, none⟩ = some (.bool v.family) := f2W 8 _ rfl; clear hWW f1W f2W)
      have HRW := Lib.hid (HR.out.on hbW)
      have hbW0 : b0 < W.heap.size := by omega
      have hgW : w.heap.size + 1 < W.heap.size := hzW
      have hgW0 : w.heap.size < W.heap.size := by omega
      obtain ⟨_, _, xa, hAa, -, -, hRa, ka0, ka1, ka2, ka3⟩ := HRW.out.arg0
      dsimp only at hAa
      injection hAa with hAa
      injection hAa with hAa1 hAa2
      subst hAa1 hAa2
      obtain ⟨xb, hRb, kb0, kb1, kb2, kb3⟩ := HRW.out.arg1 rfl
      have HRB := Lib.hid hRb
      clear hRb
      have HRA := Lib.hid hRa
      clear hRa
      go_wp2_with fail
      refine (refexpr_s a xa _ 1 0 HS.out HRA.out).mono ?_
      rintro r w1 ⟨rfl, hb1⟩
      (have hzhb1 := hb1.size; replace qa0 := (hb1.cell (p := ⟨_, _, none⟩) (by (try dsimp only) <;> omega)).trans qa0; replace qa1 := (hb1.cell (p := ⟨_, _, none⟩) (by (try dsimp only) <;> omega)).trans qa1; replace qa2 := (hb1.cell (p := ⟨_, _, none⟩) (by (try dsimp only) <;> omega)).trans qa2; replace qa3 := (hb1.cell (p := ⟨_, _, none⟩) (by (try dsimp only) <;> omega)).trans qa3; replace qb0 := (hb1.cell (p := ⟨_, _, none⟩) (by (try dsimp only) <;> omega)).trans qb0; replace qb1 := (hb1.cell (p := ⟨_, _, none⟩) (by (try dsimp only) <;> omega)).trans qb1; replace qb2 := (hb1.cell (p := ⟨_, _, none⟩) (by (try dsimp only) <;> omega)).trans qb2; replace qb3 := (hb1.cell (p := ⟨_, _, none⟩) (by (try dsimp only) <;> omega)).trans qb3; replace qb4 := (hb1.cell (p := ⟨_, _, none⟩) (by (try dsimp only) <;> omega)).trans qb4; replace qb5 := (hb1.cell (p := ⟨_, _, none⟩) (by (try dsimp only) <;> omega)).trans qb5; replace qb6 := (hb1.cell (p := ⟨_, _, none⟩) (by (try dsimp only) <;> omega)).trans qb6; replace qb7 := (hb1.cell (p := ⟨_, _, none⟩) (by (try dsimp only) <;> omega)).trans qb7; replace qb8 := (hb1.cell (p := ⟨_, _, none⟩) (by (try dsimp only) <;> omega)).trans qb8; replace ka0 := (hb1.cell (p := ⟨_, _, none⟩) (by (try dsimp only) <;> omega)).trans ka0; replace ka1 := (hb1.cell (p := ⟨_, _, none⟩) (by (try dsimp only) <;> omega)).trans ka1; replace ka2 := (hb1.cell (p := ⟨_, _, none⟩) (by (try dsimp only) <;> omega)).trans ka2; replace ka3 := (hb1.cell (p := ⟨_, _, none⟩) (by (try dsimp only) <;> omega)).trans ka3; replace kb0 := (hb1.cell (p := ⟨_, _, none⟩) (by (try dsimp only) <;> omega)).trans kb0; replace kb1 := (hb1.cell (p := ⟨_, _, none⟩) (by (try dsimp only) <;> omega)).trans kb1; replace kb2 := (hb1.cell (p := ⟨_, _, none⟩) (by (try dsimp only) <;> omega)).trans kb2; replace kb3 := (hb1.cell (p := ⟨_, _, none⟩) (by (try dsimp only) <;> omega)).trans kb3; replace HRA := Lib.hid (HRA.out.on hb1); replace HRB := Lib.hid (HRB.out.on hb1); replace hbW := Below.trans hbW (Below.mono hb1 (by omega)))
      have hgW1 : w.heap.size + 1 < w1.heap.size := by omega
      have hgX1 : w.heap.size < w1.heap.size := by omega
      have hbX1 : b0 < w1.heap.size := by omega
      go_wp2_with fail
      have hcr : ∀ z : Wd (Below w1.heap.size w1), ∀ b o, b < w1.heap.size → z.w.cell? ⟨b, o, none⟩ = w1.cell? ⟨b, o, none⟩ := fun z => z.cells
      ((with_reducible refine wp_region_class (Below w1.heap.size w1) ?_ ?_ ?_ ?_); kernel_rfl; kernel_rfl; (exact (Below.refl _ _).drew); (intro hnonemp); skip; (repeat (any_goals (first | go_big_quiet_step (((first | (go_at_call_of 51 (Value.int .i64 xa.op); (refine (refnumber_any v d a xa _ (HRA.out.on (Wd.h _)) HSA.out).mono ?_); rw [HNA.out]; rintro e w' ⟨rfl, hb⟩; exact ⟨rfl, ⟨w', below_wd _ hb⟩, rfl⟩)))) | (refine wpQuiet_step (fun K hK => ?_); go_simp; (first | (refine hK _ ?_; clear hK K) | (split <;> rename_i hg <;> (refine hK _ ?_; clear hK K) <;> (try simp only [Bool.not_eq_true] at hg) <;> (first | simp only [Int.not_lt.2 hg, decide_false] | simp only [Int.not_le.1 hg, decide_true] | simp only [hg, decide_true, decide_false] | skip)))))));  all_goals (refine wpQuiet_nil ?_; intro wq hgq))
      clear hcr
      have hgq1 := hgq
      (have hzhgq1 := hgq1.size; replace qa0 := (hgq1.cell (p := ⟨_, _, none⟩) (by (try dsimp only) <;> omega)).trans qa0; replace qa1 := (hgq1.cell (p := ⟨_, _, none⟩) (by (try dsimp only) <;> omega)).trans qa1; replace qa2 := (hgq1.cell (p := ⟨_, _, none⟩) (by (try dsimp only) <;> omega)).trans qa2; replace qa3 := (hgq1.cell (p := ⟨_, _, none⟩) (by (try dsimp only) <;> omega)).trans qa3; replace qb0 := (hgq1.cell (p := ⟨_, _, none⟩) (by (try dsimp only) <;> omega)).trans qb0; replace qb1 := (hgq1.cell (p := ⟨_, _, none⟩) (by (try dsimp only) <;> omega)).trans qb1; replace qb2 := (hgq1.cell (p := ⟨_, _, none⟩) (by (try dsimp only) <;> omega)).trans qb2; replace qb3 := (hgq1.cell (p := ⟨_, _, none⟩) (by (try dsimp only) <;> omega)).trans qb3; replace qb4 := (hgq1.cell (p := ⟨_, _, none⟩) (by (try dsimp only) <;> omega)).trans qb4; replace qb5 := (hgq1.cell (p := ⟨_, _, none⟩) (by (try dsimp only) <;> omega)).trans qb5; replace qb6 := (hgq1.cell (p := ⟨_, _, none⟩) (by (try dsimp only) <;> omega)).trans qb6; replace qb7 := (hgq1.cell (p := ⟨_, _, none⟩) (by (try dsimp only) <;> omega)).trans qb7; replace qb8 := (hgq1.cell (p := ⟨_, _, none⟩) (by (try dsimp only) <;> omega)).trans qb8; replace kb0 := (hgq1.cell (p := ⟨_, _, none⟩) (by (try dsimp only) <;> omega)).trans kb0; replace kb1 := (hgq1.cell (p := ⟨_, _, none⟩) (by (try dsimp only) <;> omega)).trans kb1; replace kb2 := (hgq1.cell (p := ⟨_, _, none⟩) (by (try dsimp only) <;> omega)).trans kb2; replace kb3 := (hgq1.cell (p := ⟨_, _, none⟩) (by (try dsimp only) <;> omega)).trans kb3; replace HRB := Lib.hid (HRB.out.on hgq1); replace hbW := Below.trans hbW (Below.mono hgq1 (by omega)))
      clear hgq
      have hgWw2 : w.heap.size + 1 < wq.heap.size := by omega
      have hgXw2 : w.heap.size < wq.heap.size := by omega
      have hbXw2 : b0 < wq.heap.size := by omega
      obtain ⟨w2, rfl⟩ : ∃ w2, w2 = wq := ⟨_, rfl⟩
      go_wp2_with fail
      have hcr : ∀ z : Wd (Below w2.heap.size w2), ∀ b o, b < w2.heap.size → z.w.cell? ⟨b, o, none⟩ = w2.cell? ⟨b, o, none⟩ := fun z => z.cells
      ((with_reducible refine wp_region_class (Below w2.heap.size w2) ?_ ?_ ?_ ?_); kernel_rfl; kernel_rfl; (exact (Below.refl _ _).drew); (intro hnonemp); skip; (repeat (any_goals (first | go_big_quiet_step (((first | (go_at_call_of 51 (Value.int .i64 xb.op); (refine (refnumber_any v d b xb _ (HRB.out.on (Wd.h _)) HSB.out).mono ?_); rw [HNB.out]; rintro e w' ⟨rfl, hb⟩; exact ⟨rfl, ⟨w', below_wd _ hb⟩, rfl⟩)))) | (refine wpQuiet_step (fun K hK => ?_); go_simp; (first | (refine hK _ ?_; clear hK K) | (split <;> rename_i hg <;> (refine hK _ ?_; clear hK K) <;> (try simp only [Bool.not_eq_true] at hg) <;> (first | simp only [Int.not_lt.2 hg, decide_false] | simp only [Int.not_le.1 hg, decide_true] | simp only [hg, decide_true, decide_false] | skip)))))));  all_goals (refine wpQuiet_nil ?_; intro wq hgq))
      clear hcr
      have hgq1 := hgq
      (have hzhgq1 := hgq1.size; replace qa0 := (hgq1.cell (p := ⟨_, _, none⟩) (by (try dsimp only) <;> omega)).trans qa0; replace qa1 := (hgq1.cell (p := ⟨_, _, none⟩) (by (try dsimp only) <;> omega)).trans qa1; replace qa2 := (hgq1.cell (p := ⟨_, _, none⟩) (by (try dsimp only) <;> omega)).trans qa2; replace qa3 := (hgq1.cell (p := ⟨_, _, none⟩) (by (try dsimp only) <;> omega)).trans qa3; replace qb0 := (hgq1.cell (p := ⟨_, _, none⟩) (by (try dsimp only) <;> omega)).trans qb0; replace qb1 := (hgq1.cell (p := ⟨_, _, none⟩) (by (try dsimp only) <;> omega)).trans qb1; replace qb2 := (hgq1.cell (p := ⟨_, _, none⟩) (by (try dsimp only) <;> omega)).trans qb2; replace qb3 := (hgq1.cell (p := ⟨_, _, none⟩) (by (try dsimp only) <;> omega)).trans qb3; replace qb4 := (hgq1.cell (p := ⟨_, _, none⟩) (by (try dsimp only) <;> omega)).trans qb4; replace qb5 := (hgq1.cell (p := ⟨_, _, none⟩) (by (try dsimp only) <;> omega)).trans qb5; replace qb6 := (hgq1.cell (p := ⟨_, _, none⟩) (by (try dsimp only) <;> omega)).trans qb6; replace qb7 := (hgq1.cell (p := ⟨_, _, none⟩) (by (try dsimp only) <;> omega)).trans qb7; replace qb8 := (hgq1.cell (p := ⟨_, _, none⟩) (by (try dsimp only) <;> omega)).trans qb8; replace hbW := Below.trans hbW (Below.mono hgq1 (by omega)))
      clear hgq
      have hgWw3 : w.heap.size + 1 < wq.heap.size := by omega
      have hgXw3 : w.heap.size < wq.heap.size := by omega
      have hbXw3 : b0 < wq.heap.size := by omega
      obtain ⟨w3, rfl⟩ : ∃ w3, w3 = wq := ⟨_, rfl⟩
      have hbE := hbW
      have HF := Lib.hid (show cmpE v d op a b = false by unfold cmpE; rw [HOO.out])
      go_wp2_with fail
      go_ret
      exact ⟨ret_bool HF.out.symm, hbE⟩
    have HF1 := Lib.hid (show cmpE v d op a b = test op (ordI xv yv) by unfold cmpE; rw [HOO.out])
    rcases (show xv < yv ∨ yv < xv ∨ xv = yv by omega) with hlt | hlt | hlt
    · have HF := Lib.hid (show cmpE v d op a b = test op (-1) by rw [HF1.out]; unfold ordI; rw [if_pos hlt])
      obtain ⟨b0, off, ya, hA0, hb0, hn0, hRa, -⟩ := HR.out.arg0
      dsimp only at hA0 hn0
      subst hA0
      have hn2 : n = 2 := hn0
      subst hn2
      clear hn0 hRa
      go_enter Try.func38, Try.ntmps38
      go_upto_region 1 with (fail)
      (obtain ⟨W, hWW, hbW, hzW, f1W, f2W, qfa, qfb⟩ := box2 w #[.int .i64 op, .int .i64 num, .string text, .slice (some ⟨b0, off, none⟩) 2 c] 45 #[.int .i64 v.kind, .int .i64 v.units, .int .i64 v.weekday, .int .i64 v.minute, .int .i64 v.total, .int .i64 v.spent, .string v.zone, .string v.band, .bool v.family] 29; rw [← hWW]; have qa0 : W.cell? ⟨w.heap.size, 0, none⟩ = some (.int .i64 op) := f1W 0 _ rfl; have qa1 : W.cell? ⟨w.heap.size, 1, none⟩ = some (.int .i64 num) := f1W 1 _ rfl; have qa2 : W.cell? ⟨w.heap.size, 2, none⟩ = some (.string text) := f1W 2 _ rfl; have qa3 : W.cell? ⟨w.heap.size, 3, none⟩ = some (.slice (some ⟨b0, off, none⟩) 2 c) := f1W 3 _ rfl; have qb0 : W.cell? ⟨w.heap.size + 1, 0, none⟩ = some (.int .i64 v.kind) := f2W 0 _ rfl; have qb1 : W.cell? ⟨w.heap.size + 1, 1, none⟩ = some (.int .i64 v.units) := f2W 1 _ rfl; have qb2 : W.cell? ⟨w.heap.size + 1, 2, none⟩ = some (.int .i64 v.weekday) := f2W 2 _ rfl; have qb3 : W.cell? ⟨w.heap.size + 1, 3, none⟩ = some (.int .i64 v.minute) := f2W 3 _ rfl; have qb4 : W.cell? ⟨w.heap.size + 1, 4, none⟩ = some (.int .i64 v.total) := f2W 4 _ rfl; have qb5 : W.cell? ⟨w.heap.size + 1, 5, none⟩ = some (.int .i64 v.spent) := f2W 5 _ rfl; have qb6 : W.cell? ⟨w.heap.size + 1, 6, none⟩ = some (.string v.zone) := f2W 6 _ rfl; have qb7 : W.cell? ⟨w.heap.size + 1, 7, none⟩ = some (.string v.band) := f2W 7 _ rfl; have qb8 : W.cell? ⟨w.heap.size + 1, 8, none⟩ = some (.bool v.family) := f2W 8 _ rfl; clear hWW f1W f2W)
      have HRW := Lib.hid (HR.out.on hbW)
      have hbW0 : b0 < W.heap.size := by omega
      have hgW : w.heap.size + 1 < W.heap.size := hzW
      have hgW0 : w.heap.size < W.heap.size := by omega
      obtain ⟨_, _, xa, hAa, -, -, hRa, ka0, ka1, ka2, ka3⟩ := HRW.out.arg0
      dsimp only at hAa
      injection hAa with hAa
      injection hAa with hAa1 hAa2
      subst hAa1 hAa2
      obtain ⟨xb, hRb, kb0, kb1, kb2, kb3⟩ := HRW.out.arg1 rfl
      have HRB := Lib.hid hRb
      clear hRb
      have HRA := Lib.hid hRa
      clear hRa
      go_wp2_with fail
      refine (refexpr_s a xa _ 1 0 HS.out HRA.out).mono ?_
      rintro r w1 ⟨rfl, hb1⟩
      (have hzhb1 := hb1.size; replace qa0 := (hb1.cell (p := ⟨_, _, none⟩) (by (try dsimp only) <;> omega)).trans qa0; replace qa1 := (hb1.cell (p := ⟨_, _, none⟩) (by (try dsimp only) <;> omega)).trans qa1; replace qa2 := (hb1.cell (p := ⟨_, _, none⟩) (by (try dsimp only) <;> omega)).trans qa2; replace qa3 := (hb1.cell (p := ⟨_, _, none⟩) (by (try dsimp only) <;> omega)).trans qa3; replace qb0 := (hb1.cell (p := ⟨_, _, none⟩) (by (try dsimp only) <;> omega)).trans qb0; replace qb1 := (hb1.cell (p := ⟨_, _, none⟩) (by (try dsimp only) <;> omega)).trans qb1; replace qb2 := (hb1.cell (p := ⟨_, _, none⟩) (by (try dsimp only) <;> omega)).trans qb2; replace qb3 := (hb1.cell (p := ⟨_, _, none⟩) (by (try dsimp only) <;> omega)).trans qb3; replace qb4 := (hb1.cell (p := ⟨_, _, none⟩) (by (try dsimp only) <;> omega)).trans qb4; replace qb5 := (hb1.cell (p := ⟨_, _, none⟩) (by (try dsimp only) <;> omega)).trans qb5; replace qb6 := (hb1.cell (p := ⟨_, _, none⟩) (by (try dsimp only) <;> omega)).trans qb6; replace qb7 := (hb1.cell (p := ⟨_, _, none⟩) (by (try dsimp only) <;> omega)).trans qb7; replace qb8 := (hb1.cell (p := ⟨_, _, none⟩) (by (try dsimp only) <;> omega)).trans qb8; replace ka0 := (hb1.cell (p := ⟨_, _, none⟩) (by (try dsimp only) <;> omega)).trans ka0; replace ka1 := (hb1.cell (p := ⟨_, _, none⟩) (by (try dsimp only) <;> omega)).trans ka1; replace ka2 := (hb1.cell (p := ⟨_, _, none⟩) (by (try dsimp only) <;> omega)).trans ka2; replace ka3 := (hb1.cell (p := ⟨_, _, none⟩) (by (try dsimp only) <;> omega)).trans ka3; replace kb0 := (hb1.cell (p := ⟨_, _, none⟩) (by (try dsimp only) <;> omega)).trans kb0; replace kb1 := (hb1.cell (p := ⟨_, _, none⟩) (by (try dsimp only) <;> omega)).trans kb1; replace kb2 := (hb1.cell (p := ⟨_, _, none⟩) (by (try dsimp only) <;> omega)).trans kb2; replace kb3 := (hb1.cell (p := ⟨_, _, none⟩) (by (try dsimp only) <;> omega)).trans kb3; replace HRA := Lib.hid (HRA.out.on hb1); replace HRB := Lib.hid (HRB.out.on hb1); replace hbW := Below.trans hbW (Below.mono hb1 (by omega)))
      have hgW1 : w.heap.size + 1 < w1.heap.size := by omega
      have hgX1 : w.heap.size < w1.heap.size := by omega
      have hbX1 : b0 < w1.heap.size := by omega
      go_wp2_with fail
      have hcr : ∀ z : Wd (Below w1.heap.size w1), ∀ b o, b < w1.heap.size → z.w.cell? ⟨b, o, none⟩ = w1.cell? ⟨b, o, none⟩ := fun z => z.cells
      ((with_reducible refine wp_region_class (Below w1.heap.size w1) ?_ ?_ ?_ ?_); kernel_rfl; kernel_rfl; (exact (Below.refl _ _).drew); (intro hnonemp); skip; (repeat (any_goals (first | go_big_quiet_step (((first | (go_at_call_of 51 (Value.int .i64 xa.op); (refine (refnumber_any v d a xa _ (HRA.out.on (Wd.h _)) HSA.out).mono ?_); rw [HNA.out]; rintro e w' ⟨rfl, hb⟩; exact ⟨rfl, ⟨w', below_wd _ hb⟩, rfl⟩)))) | (refine wpQuiet_step (fun K hK => ?_); go_simp; (first | (refine hK _ ?_; clear hK K) | (split <;> rename_i hg <;> (refine hK _ ?_; clear hK K) <;> (try simp only [Bool.not_eq_true] at hg) <;> (first | simp only [Int.not_lt.2 hg, decide_false] | simp only [Int.not_le.1 hg, decide_true] | simp only [hg, decide_true, decide_false] | skip)))))));  all_goals (refine wpQuiet_nil ?_; intro wq hgq))
      clear hcr
      have hgq1 := hgq
      (have hzhgq1 := hgq1.size; replace qa0 := (hgq1.cell (p := ⟨_, _, none⟩) (by (try dsimp only) <;> omega)).trans qa0; replace qa1 := (hgq1.cell (p := ⟨_, _, none⟩) (by (try dsimp only) <;> omega)).trans qa1; replace qa2 := (hgq1.cell (p := ⟨_, _, none⟩) (by (try dsimp only) <;> omega)).trans qa2; replace qa3 := (hgq1.cell (p := ⟨_, _, none⟩) (by (try dsimp only) <;> omega)).trans qa3; replace qb0 := (hgq1.cell (p := ⟨_, _, none⟩) (by (try dsimp only) <;> omega)).trans qb0; replace qb1 := (hgq1.cell (p := ⟨_, _, none⟩) (by (try dsimp only) <;> omega)).trans qb1; replace qb2 := (hgq1.cell (p := ⟨_, _, none⟩) (by (try dsimp only) <;> omega)).trans qb2; replace qb3 := (hgq1.cell (p := ⟨_, _, none⟩) (by (try dsimp only) <;> omega)).trans qb3; replace qb4 := (hgq1.cell (p := ⟨_, _, none⟩) (by (try dsimp only) <;> omega)).trans qb4; replace qb5 := (hgq1.cell (p := ⟨_, _, none⟩) (by (try dsimp only) <;> omega)).trans qb5; replace qb6 := (hgq1.cell (p := ⟨_, _, none⟩) (by (try dsimp only) <;> omega)).trans qb6; replace qb7 := (hgq1.cell (p := ⟨_, _, none⟩) (by (try dsimp only) <;> omega)).trans qb7; replace qb8 := (hgq1.cell (p := ⟨_, _, none⟩) (by (try dsimp only) <;> omega)).trans qb8; replace kb0 := (hgq1.cell (p := ⟨_, _, none⟩) (by (try dsimp only) <;> omega)).trans kb0; replace kb1 := (hgq1.cell (p := ⟨_, _, none⟩) (by (try dsimp only) <;> omega)).trans kb1; replace kb2 := (hgq1.cell (p := ⟨_, _, none⟩) (by (try dsimp only) <;> omega)).trans kb2; replace kb3 := (hgq1.cell (p := ⟨_, _, none⟩) (by (try dsimp only) <;> omega)).trans kb3; replace HRB := Lib.hid (HRB.out.on hgq1); replace hbW := Below.trans hbW (Below.mono hgq1 (by omega)))
      clear hgq
      have hgWw2 : w.heap.size + 1 < wq.heap.size := by omega
      have hgXw2 : w.heap.size < wq.heap.size := by omega
      have hbXw2 : b0 < wq.heap.size := by omega
      obtain ⟨w2, rfl⟩ : ∃ w2, w2 = wq := ⟨_, rfl⟩
      go_wp2_with fail
      have hcr : ∀ z : Wd (Below w2.heap.size w2), ∀ b o, b < w2.heap.size → z.w.cell? ⟨b, o, none⟩ = w2.cell? ⟨b, o, none⟩ := fun z => z.cells
      ((with_reducible refine wp_region_class (Below w2.heap.size w2) ?_ ?_ ?_ ?_); kernel_rfl; kernel_rfl; (exact (Below.refl _ _).drew); (intro hnonemp); skip; (repeat (any_goals (first | go_big_quiet_step (((first | (go_at_call_of 51 (Value.int .i64 xb.op); (refine (refnumber_any v d b xb _ (HRB.out.on (Wd.h _)) HSB.out).mono ?_); rw [HNB.out]; rintro e w' ⟨rfl, hb⟩; exact ⟨rfl, ⟨w', below_wd _ hb⟩, rfl⟩)))) | (refine wpQuiet_step (fun K hK => ?_); go_simp; (first | (refine hK _ ?_; clear hK K) | (split <;> rename_i hg <;> (refine hK _ ?_; clear hK K) <;> (try simp only [Bool.not_eq_true] at hg) <;> (first | simp only [Int.not_lt.2 hg, decide_false] | simp only [Int.not_le.1 hg, decide_true] | simp only [hg, decide_true, decide_false] | skip)))))));  all_goals (refine wpQuiet_nil ?_; intro wq hgq))
      clear hcr
      have hgq1 := hgq
      (have hzhgq1 := hgq1.size; replace qa0 := (hgq1.cell (p := ⟨_, _, none⟩) (by (try dsimp only) <;> omega)).trans qa0; replace qa1 := (hgq1.cell (p := ⟨_, _, none⟩) (by (try dsimp only) <;> omega)).trans qa1; replace qa2 := (hgq1.cell (p := ⟨_, _, none⟩) (by (try dsimp only) <;> omega)).trans qa2; replace qa3 := (hgq1.cell (p := ⟨_, _, none⟩) (by (try dsimp only) <;> omega)).trans qa3; replace qb0 := (hgq1.cell (p := ⟨_, _, none⟩) (by (try dsimp only) <;> omega)).trans qb0; replace qb1 := (hgq1.cell (p := ⟨_, _, none⟩) (by (try dsimp only) <;> omega)).trans qb1; replace qb2 := (hgq1.cell (p := ⟨_, _, none⟩) (by (try dsimp only) <;> omega)).trans qb2; replace qb3 := (hgq1.cell (p := ⟨_, _, none⟩) (by (try dsimp only) <;> omega)).trans qb3; replace qb4 := (hgq1.cell (p := ⟨_, _, none⟩) (by (try dsimp only) <;> omega)).trans qb4; replace qb5 := (hgq1.cell (p := ⟨_, _, none⟩) (by (try dsimp only) <;> omega)).trans qb5; replace qb6 := (hgq1.cell (p := ⟨_, _, none⟩) (by (try dsimp only) <;> omega)).trans qb6; replace qb7 := (hgq1.cell (p := ⟨_, _, none⟩) (by (try dsimp only) <;> omega)).trans qb7; replace qb8 := (hgq1.cell (p := ⟨_, _, none⟩) (by (try dsimp only) <;> omega)).trans qb8; replace hbW := Below.trans hbW (Below.mono hgq1 (by omega)))
      clear hgq
      have hgWw3 : w.heap.size + 1 < wq.heap.size := by omega
      have hgXw3 : w.heap.size < wq.heap.size := by omega
      have hbXw3 : b0 < wq.heap.size := by omega
      obtain ⟨w3, rfl⟩ : ∃ w3, w3 = wq := ⟨_, rfl⟩
      have hbE := hbW
      go_wp2_with fail
      refine (compared_any op (-1) _).mono ?_
      rintro r w' ⟨rfl, rfl⟩
      go_wp2_with fail
      go_ret
      exact ⟨ret_bool HF.out.symm, hbE⟩
    · have HF := Lib.hid (show cmpE v d op a b = test op 1 by rw [HF1.out]; unfold ordI; rw [if_neg (by omega), if_pos hlt])
      obtain ⟨b0, off, ya, hA0, hb0, hn0, hRa, -⟩ := HR.out.arg0
      dsimp only at hA0 hn0
      subst hA0
      have hn2 : n = 2 := hn0
      subst hn2
      clear hn0 hRa
      go_enter Try.func38, Try.ntmps38
      go_upto_region 1 with (fail)
      (obtain ⟨W, hWW, hbW, hzW, f1W, f2W, qfa, qfb⟩ := box2 w #[.int .i64 op, .int .i64 num, .string text, .slice (some ⟨b0, off, none⟩) 2 c] 45 #[.int .i64 v.kind, .int .i64 v.units, .int .i64 v.weekday, .int .i64 v.minute, .int .i64 v.total, .int .i64 v.spent, .string v.zone, .string v.band, .bool v.family] 29; rw [← hWW]; have qa0 : W.cell? ⟨w.heap.size, 0, none⟩ = some (.int .i64 op) := f1W 0 _ rfl; have qa1 : W.cell? ⟨w.heap.size, 1, none⟩ = some (.int .i64 num) := f1W 1 _ rfl; have qa2 : W.cell? ⟨w.heap.size, 2, none⟩ = some (.string text) := f1W 2 _ rfl; have qa3 : W.cell? ⟨w.heap.size, 3, none⟩ = some (.slice (some ⟨b0, off, none⟩) 2 c) := f1W 3 _ rfl; have qb0 : W.cell? ⟨w.heap.size + 1, 0, none⟩ = some (.int .i64 v.kind) := f2W 0 _ rfl; have qb1 : W.cell? ⟨w.heap.size + 1, 1, none⟩ = some (.int .i64 v.units) := f2W 1 _ rfl; have qb2 : W.cell? ⟨w.heap.size + 1, 2, none⟩ = some (.int .i64 v.weekday) := f2W 2 _ rfl; have qb3 : W.cell? ⟨w.heap.size + 1, 3, none⟩ = some (.int .i64 v.minute) := f2W 3 _ rfl; have qb4 : W.cell? ⟨w.heap.size + 1, 4, none⟩ = some (.int .i64 v.total) := f2W 4 _ rfl; have qb5 : W.cell? ⟨w.heap.size + 1, 5, none⟩ = some (.int .i64 v.spent) := f2W 5 _ rfl; have qb6 : W.cell? ⟨w.heap.size + 1, 6, none⟩ = some (.string v.zone) := f2W 6 _ rfl; have qb7 : W.cell? ⟨w.heap.size + 1, 7, none⟩ = some (.string v.band) := f2W 7 _ rfl; have qb8 : W.cell? ⟨w.heap.size + 1, 8, none⟩ = some (.bool v.family) := f2W 8 _ rfl; clear hWW f1W f2W)
      have HRW := Lib.hid (HR.out.on hbW)
      have hbW0 : b0 < W.heap.size := by omega
      have hgW : w.heap.size + 1 < W.heap.size := hzW
      have hgW0 : w.heap.size < W.heap.size := by omega
      obtain ⟨_, _, xa, hAa, -, -, hRa, ka0, ka1, ka2, ka3⟩ := HRW.out.arg0
      dsimp only at hAa
      injection hAa with hAa
      injection hAa with hAa1 hAa2
      subst hAa1 hAa2
      obtain ⟨xb, hRb, kb0, kb1, kb2, kb3⟩ := HRW.out.arg1 rfl
      have HRB := Lib.hid hRb
      clear hRb
      have HRA := Lib.hid hRa
      clear hRa
      go_wp2_with fail
      refine (refexpr_s a xa _ 1 0 HS.out HRA.out).mono ?_
      rintro r w1 ⟨rfl, hb1⟩
      (have hzhb1 := hb1.size; replace qa0 := (hb1.cell (p := ⟨_, _, none⟩) (by (try dsimp only) <;> omega)).trans qa0; replace qa1 := (hb1.cell (p := ⟨_, _, none⟩) (by (try dsimp only) <;> omega)).trans qa1; replace qa2 := (hb1.cell (p := ⟨_, _, none⟩) (by (try dsimp only) <;> omega)).trans qa2; replace qa3 := (hb1.cell (p := ⟨_, _, none⟩) (by (try dsimp only) <;> omega)).trans qa3; replace qb0 := (hb1.cell (p := ⟨_, _, none⟩) (by (try dsimp only) <;> omega)).trans qb0; replace qb1 := (hb1.cell (p := ⟨_, _, none⟩) (by (try dsimp only) <;> omega)).trans qb1; replace qb2 := (hb1.cell (p := ⟨_, _, none⟩) (by (try dsimp only) <;> omega)).trans qb2; replace qb3 := (hb1.cell (p := ⟨_, _, none⟩) (by (try dsimp only) <;> omega)).trans qb3; replace qb4 := (hb1.cell (p := ⟨_, _, none⟩) (by (try dsimp only) <;> omega)).trans qb4; replace qb5 := (hb1.cell (p := ⟨_, _, none⟩) (by (try dsimp only) <;> omega)).trans qb5; replace qb6 := (hb1.cell (p := ⟨_, _, none⟩) (by (try dsimp only) <;> omega)).trans qb6; replace qb7 := (hb1.cell (p := ⟨_, _, none⟩) (by (try dsimp only) <;> omega)).trans qb7; replace qb8 := (hb1.cell (p := ⟨_, _, none⟩) (by (try dsimp only) <;> omega)).trans qb8; replace ka0 := (hb1.cell (p := ⟨_, _, none⟩) (by (try dsimp only) <;> omega)).trans ka0; replace ka1 := (hb1.cell (p := ⟨_, _, none⟩) (by (try dsimp only) <;> omega)).trans ka1; replace ka2 := (hb1.cell (p := ⟨_, _, none⟩) (by (try dsimp only) <;> omega)).trans ka2; replace ka3 := (hb1.cell (p := ⟨_, _, none⟩) (by (try dsimp only) <;> omega)).trans ka3; replace kb0 := (hb1.cell (p := ⟨_, _, none⟩) (by (try dsimp only) <;> omega)).trans kb0; replace kb1 := (hb1.cell (p := ⟨_, _, none⟩) (by (try dsimp only) <;> omega)).trans kb1; replace kb2 := (hb1.cell (p := ⟨_, _, none⟩) (by (try dsimp only) <;> omega)).trans kb2; replace kb3 := (hb1.cell (p := ⟨_, _, none⟩) (by (try dsimp only) <;> omega)).trans kb3; replace HRA := Lib.hid (HRA.out.on hb1); replace HRB := Lib.hid (HRB.out.on hb1); replace hbW := Below.trans hbW (Below.mono hb1 (by omega)))
      have hgW1 : w.heap.size + 1 < w1.heap.size := by omega
      have hgX1 : w.heap.size < w1.heap.size := by omega
      have hbX1 : b0 < w1.heap.size := by omega
      go_wp2_with fail
      have hcr : ∀ z : Wd (Below w1.heap.size w1), ∀ b o, b < w1.heap.size → z.w.cell? ⟨b, o, none⟩ = w1.cell? ⟨b, o, none⟩ := fun z => z.cells
      ((with_reducible refine wp_region_class (Below w1.heap.size w1) ?_ ?_ ?_ ?_); kernel_rfl; kernel_rfl; (exact (Below.refl _ _).drew); (intro hnonemp); skip; (repeat (any_goals (first | go_big_quiet_step (((first | (go_at_call_of 51 (Value.int .i64 xa.op); (refine (refnumber_any v d a xa _ (HRA.out.on (Wd.h _)) HSA.out).mono ?_); rw [HNA.out]; rintro e w' ⟨rfl, hb⟩; exact ⟨rfl, ⟨w', below_wd _ hb⟩, rfl⟩)))) | (refine wpQuiet_step (fun K hK => ?_); go_simp; (first | (refine hK _ ?_; clear hK K) | (split <;> rename_i hg <;> (refine hK _ ?_; clear hK K) <;> (try simp only [Bool.not_eq_true] at hg) <;> (first | simp only [Int.not_lt.2 hg, decide_false] | simp only [Int.not_le.1 hg, decide_true] | simp only [hg, decide_true, decide_false] | skip)))))));  all_goals (refine wpQuiet_nil ?_; intro wq hgq))
      clear hcr
      have hgq1 := hgq
      (have hzhgq1 := hgq1.size; replace qa0 := (hgq1.cell (p := ⟨_, _, none⟩) (by (try dsimp only) <;> omega)).trans qa0; replace qa1 := (hgq1.cell (p := ⟨_, _, none⟩) (by (try dsimp only) <;> omega)).trans qa1; replace qa2 := (hgq1.cell (p := ⟨_, _, none⟩) (by (try dsimp only) <;> omega)).trans qa2; replace qa3 := (hgq1.cell (p := ⟨_, _, none⟩) (by (try dsimp only) <;> omega)).trans qa3; replace qb0 := (hgq1.cell (p := ⟨_, _, none⟩) (by (try dsimp only) <;> omega)).trans qb0; replace qb1 := (hgq1.cell (p := ⟨_, _, none⟩) (by (try dsimp only) <;> omega)).trans qb1; replace qb2 := (hgq1.cell (p := ⟨_, _, none⟩) (by (try dsimp only) <;> omega)).trans qb2; replace qb3 := (hgq1.cell (p := ⟨_, _, none⟩) (by (try dsimp only) <;> omega)).trans qb3; replace qb4 := (hgq1.cell (p := ⟨_, _, none⟩) (by (try dsimp only) <;> omega)).trans qb4; replace qb5 := (hgq1.cell (p := ⟨_, _, none⟩) (by (try dsimp only) <;> omega)).trans qb5; replace qb6 := (hgq1.cell (p := ⟨_, _, none⟩) (by (try dsimp only) <;> omega)).trans qb6; replace qb7 := (hgq1.cell (p := ⟨_, _, none⟩) (by (try dsimp only) <;> omega)).trans qb7; replace qb8 := (hgq1.cell (p := ⟨_, _, none⟩) (by (try dsimp only) <;> omega)).trans qb8; replace kb0 := (hgq1.cell (p := ⟨_, _, none⟩) (by (try dsimp only) <;> omega)).trans kb0; replace kb1 := (hgq1.cell (p := ⟨_, _, none⟩) (by (try dsimp only) <;> omega)).trans kb1; replace kb2 := (hgq1.cell (p := ⟨_, _, none⟩) (by (try dsimp only) <;> omega)).trans kb2; replace kb3 := (hgq1.cell (p := ⟨_, _, none⟩) (by (try dsimp only) <;> omega)).trans kb3; replace HRB := Lib.hid (HRB.out.on hgq1); replace hbW := Below.trans hbW (Below.mono hgq1 (by omega)))
      clear hgq
      have hgWw2 : w.heap.size + 1 < wq.heap.size := by omega
      have hgXw2 : w.heap.size < wq.heap.size := by omega
      have hbXw2 : b0 < wq.heap.size := by omega
      obtain ⟨w2, rfl⟩ : ∃ w2, w2 = wq := ⟨_, rfl⟩
      go_wp2_with fail
      have hcr : ∀ z : Wd (Below w2.heap.size w2), ∀ b o, b < w2.heap.size → z.w.cell? ⟨b, o, none⟩ = w2.cell? ⟨b, o, none⟩ := fun z => z.cells
      ((with_reducible refine wp_region_class (Below w2.heap.size w2) ?_ ?_ ?_ ?_); kernel_rfl; kernel_rfl; (exact (Below.refl _ _).drew); (intro hnonemp); skip; (repeat (any_goals (first | go_big_quiet_step (((first | (go_at_call_of 51 (Value.int .i64 xb.op); (refine (refnumber_any v d b xb _ (HRB.out.on (Wd.h _)) HSB.out).mono ?_); rw [HNB.out]; rintro e w' ⟨rfl, hb⟩; exact ⟨rfl, ⟨w', below_wd _ hb⟩, rfl⟩)))) | (refine wpQuiet_step (fun K hK => ?_); go_simp; (first | (refine hK _ ?_; clear hK K) | (split <;> rename_i hg <;> (refine hK _ ?_; clear hK K) <;> (try simp only [Bool.not_eq_true] at hg) <;> (first | simp only [Int.not_lt.2 hg, decide_false] | simp only [Int.not_le.1 hg, decide_true] | simp only [hg, decide_true, decide_false] | skip)))))));  all_goals (refine wpQuiet_nil ?_; intro wq hgq))
      clear hcr
      have hgq1 := hgq
      (have hzhgq1 := hgq1.size; replace qa0 := (hgq1.cell (p := ⟨_, _, none⟩) (by (try dsimp only) <;> omega)).trans qa0; replace qa1 := (hgq1.cell (p := ⟨_, _, none⟩) (by (try dsimp only) <;> omega)).trans qa1; replace qa2 := (hgq1.cell (p := ⟨_, _, none⟩) (by (try dsimp only) <;> omega)).trans qa2; replace qa3 := (hgq1.cell (p := ⟨_, _, none⟩) (by (try dsimp only) <;> omega)).trans qa3; replace qb0 := (hgq1.cell (p := ⟨_, _, none⟩) (by (try dsimp only) <;> omega)).trans qb0; replace qb1 := (hgq1.cell (p := ⟨_, _, none⟩) (by (try dsimp only) <;> omega)).trans qb1; replace qb2 := (hgq1.cell (p := ⟨_, _, none⟩) (by (try dsimp only) <;> omega)).trans qb2; replace qb3 := (hgq1.cell (p := ⟨_, _, none⟩) (by (try dsimp only) <;> omega)).trans qb3; replace qb4 := (hgq1.cell (p := ⟨_, _, none⟩) (by (try dsimp only) <;> omega)).trans qb4; replace qb5 := (hgq1.cell (p := ⟨_, _, none⟩) (by (try dsimp only) <;> omega)).trans qb5; replace qb6 := (hgq1.cell (p := ⟨_, _, none⟩) (by (try dsimp only) <;> omega)).trans qb6; replace qb7 := (hgq1.cell (p := ⟨_, _, none⟩) (by (try dsimp only) <;> omega)).trans qb7; replace qb8 := (hgq1.cell (p := ⟨_, _, none⟩) (by (try dsimp only) <;> omega)).trans qb8; replace hbW := Below.trans hbW (Below.mono hgq1 (by omega)))
      clear hgq
      have hgWw3 : w.heap.size + 1 < wq.heap.size := by omega
      have hgXw3 : w.heap.size < wq.heap.size := by omega
      have hbXw3 : b0 < wq.heap.size := by omega
      obtain ⟨w3, rfl⟩ : ∃ w3, w3 = wq := ⟨_, rfl⟩
      have hbE := hbW
      go_wp2_with fail
      refine (compared_any op (1) _).mono ?_
      rintro r w' ⟨rfl, rfl⟩
      go_wp2_with fail
      go_ret
      exact ⟨ret_bool HF.out.symm, hbE⟩
    · have HF := Lib.hid (show cmpE v d op a b = test op 0 by rw [HF1.out]; unfold ordI; rw [if_neg (by omega), if_neg (by omega)])
      subst hlt
      obtain ⟨b0, off, ya, hA0, hb0, hn0, hRa, -⟩ := HR.out.arg0
      dsimp only at hA0 hn0
      subst hA0
      have hn2 : n = 2 := hn0
      subst hn2
      clear hn0 hRa
      go_enter Try.func38, Try.ntmps38
      go_upto_region 1 with (fail)
      (obtain ⟨W, hWW, hbW, hzW, f1W, f2W, qfa, qfb⟩ := box2 w #[.int .i64 op, .int .i64 num, .string text, .slice (some ⟨b0, off, none⟩) 2 c] 45 #[.int .i64 v.kind, .int .i64 v.units, .int .i64 v.weekday, .int .i64 v.minute, .int .i64 v.total, .int .i64 v.spent, .string v.zone, .string v.band, .bool v.family] 29; rw [← hWW]; have qa0 : W.cell? ⟨w.heap.size, 0, none⟩ = some (.int .i64 op) := f1W 0 _ rfl; have qa1 : W.cell? ⟨w.heap.size, 1, none⟩ = some (.int .i64 num) := f1W 1 _ rfl; have qa2 : W.cell? ⟨w.heap.size, 2, none⟩ = some (.string text) := f1W 2 _ rfl; have qa3 : W.cell? ⟨w.heap.size, 3, none⟩ = some (.slice (some ⟨b0, off, none⟩) 2 c) := f1W 3 _ rfl; have qb0 : W.cell? ⟨w.heap.size + 1, 0, none⟩ = some (.int .i64 v.kind) := f2W 0 _ rfl; have qb1 : W.cell? ⟨w.heap.size + 1, 1, none⟩ = some (.int .i64 v.units) := f2W 1 _ rfl; have qb2 : W.cell? ⟨w.heap.size + 1, 2, none⟩ = some (.int .i64 v.weekday) := f2W 2 _ rfl; have qb3 : W.cell? ⟨w.heap.size + 1, 3, none⟩ = some (.int .i64 v.minute) := f2W 3 _ rfl; have qb4 : W.cell? ⟨w.heap.size + 1, 4, none⟩ = some (.int .i64 v.total) := f2W 4 _ rfl; have qb5 : W.cell? ⟨w.heap.size + 1, 5, none⟩ = some (.int .i64 v.spent) := f2W 5 _ rfl; have qb6 : W.cell? ⟨w.heap.size + 1, 6, none⟩ = some (.string v.zone) := f2W 6 _ rfl; have qb7 : W.cell? ⟨w.heap.size + 1, 7, none⟩ = some (.string v.band) := f2W 7 _ rfl; have qb8 : W.cell? ⟨w.heap.size + 1, 8, none⟩ = some (.bool v.family) := f2W 8 _ rfl; clear hWW f1W f2W)
      have HRW := Lib.hid (HR.out.on hbW)
      have hbW0 : b0 < W.heap.size := by omega
      have hgW : w.heap.size + 1 < W.heap.size := hzW
      have hgW0 : w.heap.size < W.heap.size := by omega
      obtain ⟨_, _, xa, hAa, -, -, hRa, ka0, ka1, ka2, ka3⟩ := HRW.out.arg0
      dsimp only at hAa
      injection hAa with hAa
      injection hAa with hAa1 hAa2
      subst hAa1 hAa2
      obtain ⟨xb, hRb, kb0, kb1, kb2, kb3⟩ := HRW.out.arg1 rfl
      have HRB := Lib.hid hRb
      clear hRb
      have HRA := Lib.hid hRa
      clear hRa
      go_wp2_with fail
      refine (refexpr_s a xa _ 1 0 HS.out HRA.out).mono ?_
      rintro r w1 ⟨rfl, hb1⟩
      (have hzhb1 := hb1.size; replace qa0 := (hb1.cell (p := ⟨_, _, none⟩) (by (try dsimp only) <;> omega)).trans qa0; replace qa1 := (hb1.cell (p := ⟨_, _, none⟩) (by (try dsimp only) <;> omega)).trans qa1; replace qa2 := (hb1.cell (p := ⟨_, _, none⟩) (by (try dsimp only) <;> omega)).trans qa2; replace qa3 := (hb1.cell (p := ⟨_, _, none⟩) (by (try dsimp only) <;> omega)).trans qa3; replace qb0 := (hb1.cell (p := ⟨_, _, none⟩) (by (try dsimp only) <;> omega)).trans qb0; replace qb1 := (hb1.cell (p := ⟨_, _, none⟩) (by (try dsimp only) <;> omega)).trans qb1; replace qb2 := (hb1.cell (p := ⟨_, _, none⟩) (by (try dsimp only) <;> omega)).trans qb2; replace qb3 := (hb1.cell (p := ⟨_, _, none⟩) (by (try dsimp only) <;> omega)).trans qb3; replace qb4 := (hb1.cell (p := ⟨_, _, none⟩) (by (try dsimp only) <;> omega)).trans qb4; replace qb5 := (hb1.cell (p := ⟨_, _, none⟩) (by (try dsimp only) <;> omega)).trans qb5; replace qb6 := (hb1.cell (p := ⟨_, _, none⟩) (by (try dsimp only) <;> omega)).trans qb6; replace qb7 := (hb1.cell (p := ⟨_, _, none⟩) (by (try dsimp only) <;> omega)).trans qb7; replace qb8 := (hb1.cell (p := ⟨_, _, none⟩) (by (try dsimp only) <;> omega)).trans qb8; replace ka0 := (hb1.cell (p := ⟨_, _, none⟩) (by (try dsimp only) <;> omega)).trans ka0; replace ka1 := (hb1.cell (p := ⟨_, _, none⟩) (by (try dsimp only) <;> omega)).trans ka1; replace ka2 := (hb1.cell (p := ⟨_, _, none⟩) (by (try dsimp only) <;> omega)).trans ka2; replace ka3 := (hb1.cell (p := ⟨_, _, none⟩) (by (try dsimp only) <;> omega)).trans ka3; replace kb0 := (hb1.cell (p := ⟨_, _, none⟩) (by (try dsimp only) <;> omega)).trans kb0; replace kb1 := (hb1.cell (p := ⟨_, _, none⟩) (by (try dsimp only) <;> omega)).trans kb1; replace kb2 := (hb1.cell (p := ⟨_, _, none⟩) (by (try dsimp only) <;> omega)).trans kb2; replace kb3 := (hb1.cell (p := ⟨_, _, none⟩) (by (try dsimp only) <;> omega)).trans kb3; replace HRA := Lib.hid (HRA.out.on hb1); replace HRB := Lib.hid (HRB.out.on hb1); replace hbW := Below.trans hbW (Below.mono hb1 (by omega)))
      have hgW1 : w.heap.size + 1 < w1.heap.size := by omega
      have hgX1 : w.heap.size < w1.heap.size := by omega
      have hbX1 : b0 < w1.heap.size := by omega
      go_wp2_with fail
      have hcr : ∀ z : Wd (Below w1.heap.size w1), ∀ b o, b < w1.heap.size → z.w.cell? ⟨b, o, none⟩ = w1.cell? ⟨b, o, none⟩ := fun z => z.cells
      ((with_reducible refine wp_region_class (Below w1.heap.size w1) ?_ ?_ ?_ ?_); kernel_rfl; kernel_rfl; (exact (Below.refl _ _).drew); (intro hnonemp); skip; (repeat (any_goals (first | go_big_quiet_step (((first | (go_at_call_of 51 (Value.int .i64 xa.op); (refine (refnumber_any v d a xa _ (HRA.out.on (Wd.h _)) HSA.out).mono ?_); rw [HNA.out]; rintro e w' ⟨rfl, hb⟩; exact ⟨rfl, ⟨w', below_wd _ hb⟩, rfl⟩)))) | (refine wpQuiet_step (fun K hK => ?_); go_simp; (first | (refine hK _ ?_; clear hK K) | (split <;> rename_i hg <;> (refine hK _ ?_; clear hK K) <;> (try simp only [Bool.not_eq_true] at hg) <;> (first | simp only [Int.not_lt.2 hg, decide_false] | simp only [Int.not_le.1 hg, decide_true] | simp only [hg, decide_true, decide_false] | skip)))))));  all_goals (refine wpQuiet_nil ?_; intro wq hgq))
      clear hcr
      have hgq1 := hgq
      (have hzhgq1 := hgq1.size; replace qa0 := (hgq1.cell (p := ⟨_, _, none⟩) (by (try dsimp only) <;> omega)).trans qa0; replace qa1 := (hgq1.cell (p := ⟨_, _, none⟩) (by (try dsimp only) <;> omega)).trans qa1; replace qa2 := (hgq1.cell (p := ⟨_, _, none⟩) (by (try dsimp only) <;> omega)).trans qa2; replace qa3 := (hgq1.cell (p := ⟨_, _, none⟩) (by (try dsimp only) <;> omega)).trans qa3; replace qb0 := (hgq1.cell (p := ⟨_, _, none⟩) (by (try dsimp only) <;> omega)).trans qb0; replace qb1 := (hgq1.cell (p := ⟨_, _, none⟩) (by (try dsimp only) <;> omega)).trans qb1; replace qb2 := (hgq1.cell (p := ⟨_, _, none⟩) (by (try dsimp only) <;> omega)).trans qb2; replace qb3 := (hgq1.cell (p := ⟨_, _, none⟩) (by (try dsimp only) <;> omega)).trans qb3; replace qb4 := (hgq1.cell (p := ⟨_, _, none⟩) (by (try dsimp only) <;> omega)).trans qb4; replace qb5 := (hgq1.cell (p := ⟨_, _, none⟩) (by (try dsimp only) <;> omega)).trans qb5; replace qb6 := (hgq1.cell (p := ⟨_, _, none⟩) (by (try dsimp only) <;> omega)).trans qb6; replace qb7 := (hgq1.cell (p := ⟨_, _, none⟩) (by (try dsimp only) <;> omega)).trans qb7; replace qb8 := (hgq1.cell (p := ⟨_, _, none⟩) (by (try dsimp only) <;> omega)).trans qb8; replace kb0 := (hgq1.cell (p := ⟨_, _, none⟩) (by (try dsimp only) <;> omega)).trans kb0; replace kb1 := (hgq1.cell (p := ⟨_, _, none⟩) (by (try dsimp only) <;> omega)).trans kb1; replace kb2 := (hgq1.cell (p := ⟨_, _, none⟩) (by (try dsimp only) <;> omega)).trans kb2; replace kb3 := (hgq1.cell (p := ⟨_, _, none⟩) (by (try dsimp only) <;> omega)).trans kb3; replace HRB := Lib.hid (HRB.out.on hgq1); replace hbW := Below.trans hbW (Below.mono hgq1 (by omega)))
      clear hgq
      have hgWw2 : w.heap.size + 1 < wq.heap.size := by omega
      have hgXw2 : w.heap.size < wq.heap.size := by omega
      have hbXw2 : b0 < wq.heap.size := by omega
      obtain ⟨w2, rfl⟩ : ∃ w2, w2 = wq := ⟨_, rfl⟩
      go_wp2_with fail
      have hcr : ∀ z : Wd (Below w2.heap.size w2), ∀ b o, b < w2.heap.size → z.w.cell? ⟨b, o, none⟩ = w2.cell? ⟨b, o, none⟩ := fun z => z.cells
      ((with_reducible refine wp_region_class (Below w2.heap.size w2) ?_ ?_ ?_ ?_); kernel_rfl; kernel_rfl; (exact (Below.refl _ _).drew); (intro hnonemp); skip; (repeat (any_goals (first | go_big_quiet_step (((first | (go_at_call_of 51 (Value.int .i64 xb.op); (refine (refnumber_any v d b xb _ (HRB.out.on (Wd.h _)) HSB.out).mono ?_); rw [HNB.out]; rintro e w' ⟨rfl, hb⟩; exact ⟨rfl, ⟨w', below_wd _ hb⟩, rfl⟩)))) | (refine wpQuiet_step (fun K hK => ?_); go_simp; (first | (refine hK _ ?_; clear hK K) | (split <;> rename_i hg <;> (refine hK _ ?_; clear hK K) <;> (try simp only [Bool.not_eq_true] at hg) <;> (first | simp only [Int.not_lt.2 hg, decide_false] | simp only [Int.not_le.1 hg, decide_true] | simp only [hg, decide_true, decide_false] | skip)))))));  all_goals (refine wpQuiet_nil ?_; intro wq hgq))
      clear hcr
      have hgq1 := hgq
      (have hzhgq1 := hgq1.size; replace qa0 := (hgq1.cell (p := ⟨_, _, none⟩) (by (try dsimp only) <;> omega)).trans qa0; replace qa1 := (hgq1.cell (p := ⟨_, _, none⟩) (by (try dsimp only) <;> omega)).trans qa1; replace qa2 := (hgq1.cell (p := ⟨_, _, none⟩) (by (try dsimp only) <;> omega)).trans qa2; replace qa3 := (hgq1.cell (p := ⟨_, _, none⟩) (by (try dsimp only) <;> omega)).trans qa3; replace qb0 := (hgq1.cell (p := ⟨_, _, none⟩) (by (try dsimp only) <;> omega)).trans qb0; replace qb1 := (hgq1.cell (p := ⟨_, _, none⟩) (by (try dsimp only) <;> omega)).trans qb1; replace qb2 := (hgq1.cell (p := ⟨_, _, none⟩) (by (try dsimp only) <;> omega)).trans qb2; replace qb3 := (hgq1.cell (p := ⟨_, _, none⟩) (by (try dsimp only) <;> omega)).trans qb3; replace qb4 := (hgq1.cell (p := ⟨_, _, none⟩) (by (try dsimp only) <;> omega)).trans qb4; replace qb5 := (hgq1.cell (p := ⟨_, _, none⟩) (by (try dsimp only) <;> omega)).trans qb5; replace qb6 := (hgq1.cell (p := ⟨_, _, none⟩) (by (try dsimp only) <;> omega)).trans qb6; replace qb7 := (hgq1.cell (p := ⟨_, _, none⟩) (by (try dsimp only) <;> omega)).trans qb7; replace qb8 := (hgq1.cell (p := ⟨_, _, none⟩) (by (try dsimp only) <;> omega)).trans qb8; replace hbW := Below.trans hbW (Below.mono hgq1 (by omega)))
      clear hgq
      have hgWw3 : w.heap.size + 1 < wq.heap.size := by omega
      have hgXw3 : w.heap.size < wq.heap.size := by omega
      have hbXw3 : b0 < wq.heap.size := by omega
      obtain ⟨w3, rfl⟩ : ∃ w3, w3 = wq := ⟨_, rfl⟩
      have hbE := hbW
      go_wp2_with fail
      refine (compared_any op (0) _).mono ?_
      rintro r w' ⟨rfl, rfl⟩
      go_wp2_with fail
      go_ret
      exact ⟨ret_bool HF.out.symm, hbE⟩

end Xp
end Go.Proofs.Ytdjlfdbdhacmjaa
