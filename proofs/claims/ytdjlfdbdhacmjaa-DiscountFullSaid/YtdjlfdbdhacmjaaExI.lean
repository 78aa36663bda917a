/-
  Expressions: the reference's number. No condition.
-/
import Derived.Test.YtdjlfdbdhacmjaaExN
import Derived.BigQuiet
import Derived.StillTailTactics
import Derived.Lib.Overlaps
import Derived.Deep.DeepCutAuto
set_option maxRecDepth 100000
set_option linter.unusedVariables false
set_option linter.unusedSimpArgs false
namespace Go.Proofs.Ytdjlfdbdhacmjaa
open Go.RowKit

namespace Xp
set_option maxHeartbeats 8000000 in
theorem refnumber_any (v : Env) : ∀ (d : Nat) (e : Ex) (x : It) (w : World), Rp w e x → srt d e = (1, 0) →
    Calls Try.prog 51 #[x.val, v.val] w fun r w' => r = .returned (optV (numE v d e)) ∧ Below w.heap.size w w' := by
  intro d
  induction d with
  | zero => intro e x w h hs; simp [srt] at hs
  | succ d ih =>
    intro e x w h hs
    obtain ⟨op, num, text, args, A, n, c, items, rfl, rfl, hsl, hil, hnil, hch⟩ := h.inv
    have IH := Lib.hid ih
    have HR := Lib.hid h
    clear ih h hsl hil hch hnil
    unfold It.val Env.val
    rcases num_leaf (v := v) hs with ⟨rfl, rfl, hn1, hn2⟩ | ⟨rfl, rfl⟩ | ⟨a, b, rfl, h11, h15, hsa, hsb⟩
    · have HE := Lib.hid (show numE v (d + 1) (.mk 1 num text []) = rng num by rw [numE.eq_2, if_pos rfl])
      clear hs
      go_enter Try.func51, Try.ntmps51
      go_upto_region 1 with (fail)
      (obtain ⟨W, hWW, hbW, hzW, f1W, f2W, qfa, qfb⟩ := box2 w #[.int .i64 1, .int .i64 num, .string text, .slice A n c] 45 #[.int .i64 v.kind, .int .i64 v.units, .int .i64 v.weekday, .int .i64 v.minute, .int .i64 v.total, .int .i64 v.spent, .string v.zone, .string v.band, .bool v.family] 29; rw [← hWW]; have qa0 : W.cell? ⟨w.heap.size, 0, none⟩ = some (.int .i64 1) := f1W 0 _ rfl; have qa1 : W.cell? ⟨w.heap.size, 1, none⟩ = some (.int .i64 num) := f1W 1 _ rfl; have qa2 : W.cell? ⟨w.heap.size, 2, none⟩ = some (.string text) := f1W 2 _ rfl; have qa3 : W.cell? ⟨w.heap.size, 3, none⟩ = some (.slice A n c) := f1W 3 _ rfl; have qb0 : W.cell? ⟨w.heap.size + 1, 0, none⟩ = some (.int .i64 v.kind) := f2W 0 _ rfl; have qb1 : W.cell? ⟨w.heap.size + 1, 1, none⟩ = some (.int .i64 v.units) := f2W 1 _ rfl; have qb2 : W.cell? ⟨w.heap.size + 1, 2, none⟩ = some (.int .i64 v.weekday) := f2W 2 _ rfl; have qb3 : W.cell? ⟨w.heap.size + 1, 3, none⟩ = some (.int .i64 v.minute) := f2W 3 _ rfl; have qb4 : W.cell? ⟨w.heap.size + 1, 4, none⟩ = some (.int .i64 v.total) := f2W 4 _ rfl; have qb5 : W.cell? ⟨w.heap.size + 1, 5, none⟩ = some (.int .i64 v.spent) := f2W 5 _ rfl; have qb6 : W.cell? ⟨w.heap.size + 1, 6, none⟩ = some (.string v.zone) := f2W 6 _ rfl; have qb7 : W.cell? ⟨w.heap.size + 1, 7, none⟩ = some (.string v.band) := f2W 7 _ rfl; have qb8 : W.cell? ⟨w.heap.size + 1, 8, none⟩ = some (.bool v.family) := f2W 8 _ rfl; clear hWW f1W f2W)
      go_wp2_with fail
      go_ret2
      have HF : numE v (d + 1) (.mk 1 num text []) = some num := by rw [HE.out]; exact rng_in ⟨by omega, by omega⟩
      exact ⟨congrArg Ending.returned (by rw [HF]; rfl), hbW⟩
    · have HE := Lib.hid (show numE v (d + 1) (.mk 3 num text []) = rng (attrV v text) by rw [numE.eq_2, if_neg (by decide), if_pos rfl])
      clear hs
      go_enter Try.func51, Try.ntmps51
      go_upto_region 1 with (fail)
      (obtain ⟨W, hWW, hbW, hzW, f1W, f2W, qfa, qfb⟩ := box2 w #[.int .i64 3, .int .i64 num, .string text, .slice A n c] 45 #[.int .i64 v.kind, .int .i64 v.units, .int .i64 v.weekday, .int .i64 v.minute, .int .i64 v.total, .int .i64 v.spent, .string v.zone, .string v.band, .bool v.family] 29; rw [← hWW]; have qa0 : W.cell? ⟨w.heap.size, 0, none⟩ = some (.int .i64 3) := f1W 0 _ rfl; have qa1 : W.cell? ⟨w.heap.size, 1, none⟩ = some (.int .i64 num) := f1W 1 _ rfl; have qa2 : W.cell? ⟨w.heap.size, 2, none⟩ = some (.string text) := f1W 2 _ rfl; have qa3 : W.cell? ⟨w.heap.size, 3, none⟩ = some (.slice A n c) := f1W 3 _ rfl; have qb0 : W.cell? ⟨w.heap.size + 1, 0, none⟩ = some (.int .i64 v.kind) := f2W 0 _ rfl; have qb1 : W.cell? ⟨w.heap.size + 1, 1, none⟩ = some (.int .i64 v.units) := f2W 1 _ rfl; have qb2 : W.cell? ⟨w.heap.size + 1, 2, none⟩ = some (.int .i64 v.weekday) := f2W 2 _ rfl; have qb3 : W.cell? ⟨w.heap.size + 1, 3, none⟩ = some (.int .i64 v.minute) := f2W 3 _ rfl; have qb4 : W.cell? ⟨w.heap.size + 1, 4, none⟩ = some (.int .i64 v.total) := f2W 4 _ rfl; have qb5 : W.cell? ⟨w.heap.size + 1, 5, none⟩ = some (.int .i64 v.spent) := f2W 5 _ rfl; have qb6 : W.cell? ⟨w.heap.size + 1, 6, none⟩ = some (.string v.zone) := f2W 6 _ rfl; have qb7 : W.cell? ⟨w.heap.size + 1, 7, none⟩ = some (.string v.band) := f2W 7 _ rfl; have qb8 : W.cell? ⟨w.heap.size + 1, 8, none⟩ = some (.bool v.family) := f2W 8 _ rfl; clear hWW f1W f2W)
      go_wp2_with fail
      refine (refattrV_any text v _).mono ?_
      rintro r w1 ⟨rfl, hb1⟩
      have hbe := hbW.trans (hb1.mono hbW.size)
      go_wp2_with fail
      refine (refwithin_any _ _).mono ?_
      rw [← HE.out]
      cases hR : numE v (d + 1) (.mk 3 num text [])
      all_goals
        unfold optV
        rintro r w' ⟨rfl, rfl⟩
        go_wp2_with fail
        go_ret2
        exact ⟨congrArg Ending.returned (by rw [hR]; rfl), hbe⟩
    · have HE := Lib.hid (numE_bin (v := v) (d := d) (num := num) (text := text) (a := a) (b := b) h11)
      have HSA := Lib.hid hsa
      have HSB := Lib.hid hsb
      clear hs hsa hsb
      obtain ⟨b0, off, ya, hA0, hb0, hn0, hRa, -⟩ := HR.out.arg0
      dsimp only at hA0 hn0
      subst hA0
      have hn2 : n = 2 := hn0
      subst hn2
      clear hn0 hRa
      go_enter Try.func51, Try.ntmps51
      go_upto_region 1 with (fail)
      (obtain ⟨W, hWW, hbW, hzW, f1W, f2W, qfa, qfb⟩ := box2 w #[.int .i64 op, .int .i64 num, .string text, .slice (some ⟨b0, off, none⟩) 2 c] 45 #[.int .i64 v.kind, .int .i64 v.units, .int .i64 v.weekday, .int .i64 v.minute, .int .i64 v.total, .int .i64 v.spent, .string v.zone, .string v.band, .bool v.family] 29; rw [← hWW]; have qa0 : W.cell? ⟨w.heap.size, 0, none⟩ = some (.int .i64 op) := f1W 0 _ rfl; have qa1 : W.cell? ⟨w.heap.size, 1, none⟩ = some (.int .i64 num) := f1W 1 _ rfl; have qa2 : W.cell? ⟨w.heap.size, 2, none⟩ = some (.string text) := f1W 2 _ rfl; have qa3 : W.cell? ⟨w.heap.size, 3, none⟩ = some (.slice (some ⟨b0, off, none⟩) 2 c) := f1W 3 _ rfl; have qb0 : W.cell? ⟨w.heap.size + 1, 0, none⟩ = some (.int .i64 v.kind) := f2W 0 _ rfl; have qb1 : W.cell? ⟨w.heap.size + 1, 1, none⟩ = some (.int .i64 v.units) := f2W 1 _ rfl; have qb2 : W.cell? ⟨w.heap.size + 1, 2, none⟩ = some (.int .i64 v.weekday) := f2W 2 _ rfl; have qb3 : W.cell? ⟨w.heap.size + 1, 3, none⟩ = some (.int .i64 v.minute) := f2W 3 _ rfl; have qb4 : W.cell? ⟨w.heap.size + 1, 4, none⟩ = some (.int .i64 v.total) := f2W 4 _ rfl; have qb5 : W.cell? ⟨w.heap.size + 1, 5, none⟩ = some (.int .i64 v.spent) := f2W 5 _ rfl; have qb6 : W.cell? ⟨w.heap.size + 1, 6, none⟩ = some (.string v.zone) := f2W 6 _ rfl; have qb7 : W.cell? ⟨w.heap.size + 1, 7, none⟩ = some (.string v.band) := f2W 7 _ rfl; have qb8 : W.cell? ⟨w.heap.size + 1, 8, none⟩ = some (.bool v.family) := f2W 8 _ rfl; clear hWW f1W f2W)
      have HRW := Lib.hid (HR.out.on hbW)
      have hbW0 : b0 < W.heap.size := by omega
      obtain ⟨_, _, xa, hAa, -, -, hRa, ka0, ka1, ka2, ka3⟩ := HRW.out.arg0
      dsimp only at hAa
      injection hAa with hAa
      injection hAa with hAa1 hAa2
      subst hAa1 hAa2
      obtain ⟨xb, hRb, kb0, kb1, kb2, kb3⟩ := HRW.out.arg1 rfl
      have HRA := Lib.hid hRa
      have HRB := Lib.hid hRb
      clear hRa hRb
      have hgW : w.heap.size + 1 < W.heap.size := hzW
      obtain ⟨ra, hra⟩ : ∃ ra, numE v d a = ra := ⟨_, rfl⟩
      obtain ⟨rb, hrb⟩ : ∃ rb, numE v d b = rb := ⟨_, rfl⟩
      have HNA := Lib.hid hra
      have HNB := Lib.hid hrb
      clear hra hrb
      have hov : optV none = .tuple #[.int .i64 0, .bool false] := rfl
      have hov2 : ∀ x : Int, optV (some x) = .tuple #[.int .i64 x, .bool true] := fun _ => rfl
      have hgW0 : w.heap.size < W.heap.size := by omega
      rcases ra with _ | xv
      · rcases rb with _ | yv
        · go_wp2_with fail
          have hcr : ∀ z : Wd (Below W.heap.size W), ∀ b o, b < W.heap.size → z.w.cell? ⟨b, o, none⟩ = W.cell? ⟨b, o, none⟩ := fun z => z.cells
          ((with_reducible refine wp_region_class (Below W.heap.size W) ?_ ?_ ?_ ?_); kernel_rfl; kernel_rfl; (exact (Below.refl _ _).drew); (intro hnonemp); skip; (repeat (any_goals (first | go_big_quiet_step (((go_at_call 51; (refine (IH.out a xa _ (HRA.out.on (Wd.h _)) HSA.out).mono ?_); rw [HNA.out]; rintro e w' ⟨rfl, hb⟩; exact ⟨rfl, ⟨w', below_wd _ hb⟩, rfl⟩))) | (refine wpQuiet_step (fun K hK => ?_); go_simp; (first | (refine hK _ ?_; clear hK K) | (split <;> rename_i hg <;> (refine hK _ ?_; clear hK K) <;> (try simp only [Bool.not_eq_true] at hg) <;> (first | simp only [Int.not_lt.2 hg, decide_false] | simp only [Int.not_le.1 hg, decide_true] | simp only [hg, decide_true, decide_false] | skip)))))));  all_goals (refine wpQuiet_nil ?_; intro wq hgq))
          clear hcr
          have hgq1 := hgq
          (have hzhgq1 := hgq1.size; replace qa0 := (hgq1.cell (p := ⟨_, _, none⟩) (by (try dsimp only) <;> omega)).trans qa0; replace qa1 := (hgq1.cell (p := ⟨_, _, none⟩) (by (try dsimp only) <;> omega)).trans qa1; replace qa2 := (hgq1.cell (p := ⟨_, _, none⟩) (by (try dsimp only) <;> omega)).trans qa2; replace qa3 := (hgq1.cell (p := ⟨_, _, none⟩) (by (try dsimp only) <;> omega)).trans qa3; replace qb0 := (hgq1.cell (p := ⟨_, _, none⟩) (by (try dsimp only) <;> omega)).trans qb0; replace qb1 := (hgq1.cell (p := ⟨_, _, none⟩) (by (try dsimp only) <;> omega)).trans qb1; replace qb2 := (hgq1.cell (p := ⟨_, _, none⟩) (by (try dsimp only) <;> omega)).trans qb2; replace qb3 := (hgq1.cell (p := ⟨_, _, none⟩) (by (try dsimp only) <;> omega)).trans qb3; replace qb4 := (hgq1.cell (p := ⟨_, _, none⟩) (by (try dsimp only) <;> omega)).trans qb4; replace qb5 := (hgq1.cell (p := ⟨_, _, none⟩) (by (try dsimp only) <;> omega)).trans qb5; replace qb6 := (hgq1.cell (p := ⟨_, _, none⟩) (by (try dsimp only) <;> omega)).trans qb6; replace qb7 := (hgq1.cell (p := ⟨_, _, none⟩) (by (try dsimp only) <;> omega)).trans qb7; replace qb8 := (hgq1.cell (p := ⟨_, _, none⟩) (by (try dsimp only) <;> omega)).trans qb8; replace kb0 := (hgq1.cell (p := ⟨_, _, none⟩) (by (try dsimp only) <;> omega)).trans kb0; replace kb1 := (hgq1.cell (p := ⟨_, _, none⟩) (by (try dsimp only) <;> omega)).trans kb1; replace kb2 := (hgq1.cell (p := ⟨_, _, none⟩) (by (try dsimp only) <;> omega)).trans kb2; replace kb3 := (hgq1.cell (p := ⟨_, _, none⟩) (by (try dsimp only) <;> omega)).trans kb3; replace HRB := Lib.hid (HRB.out.on hgq1); replace hbW := Below.trans hbW (Below.mono hgq1 (by omega)))
          clear hgq
          have hgW2 : w.heap.size + 1 < wq.heap.size := by omega
          have hgW1 : w.heap.size < wq.heap.size := by omega
          have hbW1 : b0 < wq.heap.size := by omega
          obtain ⟨w1, rfl⟩ : ∃ w1, w1 = wq := ⟨_, rfl⟩
          go_wp2_with fail
          have hcr : ∀ z : Wd (Below w1.heap.size w1), ∀ b o, b < w1.heap.size → z.w.cell? ⟨b, o, none⟩ = w1.cell? ⟨b, o, none⟩ := fun z => z.cells
          ((with_reducible refine wp_region_class (Below w1.heap.size w1) ?_ ?_ ?_ ?_); kernel_rfl; kernel_rfl; (exact (Below.refl _ _).drew); (intro hnonemp); skip; (repeat (any_goals (first | go_big_quiet_step (((go_at_call 51; (refine (IH.out b xb _ (HRB.out.on (Wd.h _)) HSB.out).mono ?_); rw [HNB.out]; rintro e w' ⟨rfl, hb⟩; exact ⟨rfl, ⟨w', below_wd _ hb⟩, rfl⟩))) | (refine wpQuiet_step (fun K hK => ?_); go_simp; (first | (refine hK _ ?_; clear hK K) | (split <;> rename_i hg <;> (refine hK _ ?_; clear hK K) <;> (try simp only [Bool.not_eq_true] at hg) <;> (first | simp only [Int.not_lt.2 hg, decide_false] | simp only [Int.not_le.1 hg, decide_true] | simp only [hg, decide_true, decide_false] | skip)))))));  all_goals (refine wpQuiet_nil ?_; intro wq hgq))
          clear hcr
          (have hzhgq := hgq.size; replace qa0 := (hgq.cell (p := ⟨_, _, none⟩) (by (try dsimp only) <;> omega)).trans qa0; replace qa1 := (hgq.cell (p := ⟨_, _, none⟩) (by (try dsimp only) <;> omega)).trans qa1; replace qa2 := (hgq.cell (p := ⟨_, _, none⟩) (by (try dsimp only) <;> omega)).trans qa2; replace qa3 := (hgq.cell (p := ⟨_, _, none⟩) (by (try dsimp only) <;> omega)).trans qa3; replace qb0 := (hgq.cell (p := ⟨_, _, none⟩) (by (try dsimp only) <;> omega)).trans qb0; replace qb1 := (hgq.cell (p := ⟨_, _, none⟩) (by (try dsimp only) <;> omega)).trans qb1; replace qb2 := (hgq.cell (p := ⟨_, _, none⟩) (by (try dsimp only) <;> omega)).trans qb2; replace qb3 := (hgq.cell (p := ⟨_, _, none⟩) (by (try dsimp only) <;> omega)).trans qb3; replace qb4 := (hgq.cell (p := ⟨_, _, none⟩) (by (try dsimp only) <;> omega)).trans qb4; replace qb5 := (hgq.cell (p := ⟨_, _, none⟩) (by (try dsimp only) <;> omega)).trans qb5; replace qb6 := (hgq.cell (p := ⟨_, _, none⟩) (by (try dsimp only) <;> omega)).trans qb6; replace qb7 := (hgq.cell (p := ⟨_, _, none⟩) (by (try dsimp only) <;> omega)).trans qb7; replace qb8 := (hgq.cell (p := ⟨_, _, none⟩) (by (try dsimp only) <;> omega)).trans qb8; replace hbW := Below.trans hbW (Below.mono hgq (by omega)))
          have HF := Lib.hid (show numE v (d + 1) (.mk op num text [a, b]) = none by rw [HE.out, HNA.out, HNB.out]; rfl)
          go_wp2_with fail
          go_ret2
          exact ⟨congrArg Ending.returned (by rw [HF.out]; rfl), hbW⟩
        · go_wp2_with fail
          have hcr : ∀ z : Wd (Below W.heap.size W), ∀ b o, b < W.heap.size → z.w.cell? ⟨b, o, none⟩ = W.cell? ⟨b, o, none⟩ := fun z => z.cells
          ((with_reducible refine wp_region_class (Below W.heap.size W) ?_ ?_ ?_ ?_); kernel_rfl; kernel_rfl; (exact (Below.refl _ _).drew); (intro hnonemp); skip; (repeat (any_goals (first | go_big_quiet_step (((go_at_call 51; (refine (IH.out a xa _ (HRA.out.on (Wd.h _)) HSA.out).mono ?_); rw [HNA.out]; rintro e w' ⟨rfl, hb⟩; exact ⟨rfl, ⟨w', below_wd _ hb⟩, rfl⟩))) | (refine wpQuiet_step (fun K hK => ?_); go_simp; (first | (refine hK _ ?_; clear hK K) | (split <;> rename_i hg <;> (refine hK _ ?_; clear hK K) <;> (try simp only [Bool.not_eq_true] at hg) <;> (first | simp only [Int.not_lt.2 hg, decide_false] | simp only [Int.not_le.1 hg, decide_true] | simp only [hg, decide_true, decide_false] | skip)))))));  all_goals (refine wpQuiet_nil ?_; intro wq hgq))
          clear hcr
          have hgq1 := hgq
          (have hzhgq1 := hgq1.size; replace qa0 := (hgq1.cell (p := ⟨_, _, none⟩) (by (try dsimp only) <;> omega)).trans qa0; replace qa1 := (hgq1.cell (p := ⟨_, _, none⟩) (by (try dsimp only) <;> omega)).trans qa1; replace qa2 := (hgq1.cell (p := ⟨_, _, none⟩) (by (try dsimp only) <;> omega)).trans qa2; replace qa3 := (hgq1.cell (p := ⟨_, _, none⟩) (by (try dsimp only) <;> omega)).trans qa3; replace qb0 := (hgq1.cell (p := ⟨_, _, none⟩) (by (try dsimp only) <;> omega)).trans qb0; replace qb1 := (hgq1.cell (p := ⟨_, _, none⟩) (by (try dsimp only) <;> omega)).trans qb1; replace qb2 := (hgq1.cell (p := ⟨_, _, none⟩) (by (try dsimp only) <;> omega)).trans qb2; replace qb3 := (hgq1.cell (p := ⟨_, _, none⟩) (by (try dsimp only) <;> omega)).trans qb3; replace qb4 := (hgq1.cell (p := ⟨_, _, none⟩) (by (try dsimp only) <;> omega)).trans qb4; replace qb5 := (hgq1.cell (p := ⟨_, _, none⟩) (by (try dsimp only) <;> omega)).trans qb5; replace qb6 := (hgq1.cell (p := ⟨_, _, none⟩) (by (try dsimp only) <;> omega)).trans qb6; replace qb7 := (hgq1.cell (p := ⟨_, _, none⟩) (by (try dsimp only) <;> omega)).trans qb7; replace qb8 := (hgq1.cell (p := ⟨_, _, none⟩) (by (try dsimp only) <;> omega)).trans qb8; replace kb0 := (hgq1.cell (p := ⟨_, _, none⟩) (by (try dsimp only) <;> omega)).trans kb0; replace kb1 := (hgq1.cell (p := ⟨_, _, none⟩) (by (try dsimp only) <;> omega)).trans kb1; replace kb2 := (hgq1.cell (p := ⟨_, _, none⟩) (by (try dsimp only) <;> omega)).trans kb2; replace kb3 := (hgq1.cell (p := ⟨_, _, none⟩) (by (try dsimp only) <;> omega)).trans kb3; replace HRB := Lib.hid (HRB.out.on hgq1); replace hbW := Below.trans hbW (Below.mono hgq1 (by omega)))
          clear hgq
          have hgW2 : w.heap.size + 1 < wq.heap.size := by omega
          have hgW1 : w.heap.size < wq.heap.size := by omega
          have hbW1 : b0 < wq.heap.size := by omega
          obtain ⟨w1, rfl⟩ : ∃ w1, w1 = wq := ⟨_, rfl⟩
          go_wp2_with fail
          have hcr : ∀ z : Wd (Below w1.heap.size w1), ∀ b o, b < w1.heap.size → z.w.cell? ⟨b, o, none⟩ = w1.cell? ⟨b, o, none⟩ := fun z => z.cells
          ((with_reducible refine wp_region_class (Below w1.heap.size w1) ?_ ?_ ?_ ?_); kernel_rfl; kernel_rfl; (exact (Below.refl _ _).drew); (intro hnonemp); skip; (repeat (any_goals (first | go_big_quiet_step (((go_at_call 51; (refine (IH.out b xb _ (HRB.out.on (Wd.h _)) HSB.out).mono ?_); rw [HNB.out]; rintro e w' ⟨rfl, hb⟩; exact ⟨rfl, ⟨w', below_wd _ hb⟩, rfl⟩))) | (refine wpQuiet_step (fun K hK => ?_); go_simp; (first | (refine hK _ ?_; clear hK K) | (split <;> rename_i hg <;> (refine hK _ ?_; clear hK K) <;> (try simp only [Bool.not_eq_true] at hg) <;> (first | simp only [Int.not_lt.2 hg, decide_false] | simp only [Int.not_le.1 hg, decide_true] | simp only [hg, decide_true, decide_false] | skip)))))));  all_goals (refine wpQuiet_nil ?_; intro wq hgq))
          clear hcr
          (have hzhgq := hgq.size; replace qa0 := (hgq.cell (p := ⟨_, _, none⟩) (by (try dsimp only) <;> omega)).trans qa0; replace qa1 := (hgq.cell (p := ⟨_, _, none⟩) (by (try dsimp only) <;> omega)).trans qa1; replace qa2 := (hgq.cell (p := ⟨_, _, none⟩) (by (try dsimp only) <;> omega)).trans qa2; replace qa3 := (hgq.cell (p := ⟨_, _, none⟩) (by (try dsimp only) <;> omega)).trans qa3; replace qb0 := (hgq.cell (p := ⟨_, _, none⟩) (by (try dsimp only) <;> omega)).trans qb0; replace qb1 := (hgq.cell (p := ⟨_, _, none⟩) (by (try dsimp only) <;> omega)).trans qb1; replace qb2 := (hgq.cell (p := ⟨_, _, none⟩) (by (try dsimp only) <;> omega)).trans qb2; replace qb3 := (hgq.cell (p := ⟨_, _, none⟩) (by (try dsimp only) <;> omega)).trans qb3; replace qb4 := (hgq.cell (p := ⟨_, _, none⟩) (by (try dsimp only) <;> omega)).trans qb4; replace qb5 := (hgq.cell (p := ⟨_, _, none⟩) (by (try dsimp only) <;> omega)).trans qb5; replace qb6 := (hgq.cell (p := ⟨_, _, none⟩) (by (try dsimp only) <;> omega)).trans qb6; replace qb7 := (hgq.cell (p := ⟨_, _, none⟩) (by (try dsimp only) <;> omega)).trans qb7; replace qb8 := (hgq.cell (p := ⟨_, _, none⟩) (by (try dsimp only) <;> omega)).trans qb8; replace hbW := Below.trans hbW (Below.mono hgq (by omega)))
          have HF := Lib.hid (show numE v (d + 1) (.mk op num text [a, b]) = none by rw [HE.out, HNA.out, HNB.out]; rfl)
          go_wp2_with fail
          go_ret2
          exact ⟨congrArg Ending.returned (by rw [HF.out]; rfl), hbW⟩
      rcases rb with _ | yv
      · go_wp2_with fail
        have hcr : ∀ z : Wd (Below W.heap.size W), ∀ b o, b < W.heap.size → z.w.cell? ⟨b, o, none⟩ = W.cell? ⟨b, o, none⟩ := fun z => z.cells
        ((with_reducible refine wp_region_class (Below W.heap.size W) ?_ ?_ ?_ ?_); kernel_rfl; kernel_rfl; (exact (Below.refl _ _).drew); (intro hnonemp); skip; (repeat (any_goals (first | go_big_quiet_step (((go_at_call 51; (refine (IH.out a xa _ (HRA.out.on (Wd.h _)) HSA.out).mono ?_); rw [HNA.out]; rintro e w' ⟨rfl, hb⟩; exact ⟨rfl, ⟨w', below_wd _ hb⟩, rfl⟩))) | (refine wpQuiet_step (fun K hK => ?_); go_simp; (first | (refine hK _ ?_; clear hK K) | (split <;> rename_i hg <;> (refine hK _ ?_; clear hK K) <;> (try simp only [Bool.not_eq_true] at hg) <;> (first | simp only [Int.not_lt.2 hg, decide_false] | simp only [Int.not_le.1 hg, decide_true] | simp only [hg, decide_true, decide_false] | skip)))))));  all_goals (refine wpQuiet_nil ?_; intro wq hgq))
        clear hcr
        have hgq1 := hgq
        (have hzhgq1 := hgq1.size; replace qa0 := (hgq1.cell (p := ⟨_, _, none⟩) (by (try dsimp only) <;> omega)).trans qa0; replace qa1 := (hgq1.cell (p := ⟨_, _, none⟩) (by (try dsimp only) <;> omega)).trans qa1; replace qa2 := (hgq1.cell (p := ⟨_, _, none⟩) (by (try dsimp only) <;> omega)).trans qa2; replace qa3 := (hgq1.cell (p := ⟨_, _, none⟩) (by (try dsimp only) <;> omega)).trans qa3; replace qb0 := (hgq1.cell (p := ⟨_, _, none⟩) (by (try dsimp only) <;> omega)).trans qb0; replace qb1 := (hgq1.cell (p := ⟨_, _, none⟩) (by (try dsimp only) <;> omega)).trans qb1; replace qb2 := (hgq1.cell (p := ⟨_, _, none⟩) (by (try dsimp only) <;> omega)).trans qb2; replace qb3 := (hgq1.cell (p := ⟨_, _, none⟩) (by (try dsimp only) <;> omega)).trans qb3; replace qb4 := (hgq1.cell (p := ⟨_, _, none⟩) (by (try dsimp only) <;> omega)).trans qb4; replace qb5 := (hgq1.cell (p := ⟨_, _, none⟩) (by (try dsimp only) <;> omega)).trans qb5; replace qb6 := (hgq1.cell (p := ⟨_, _, none⟩) (by (try dsimp only) <;> omega)).trans qb6; replace qb7 := (hgq1.cell (p := ⟨_, _, none⟩) (by (try dsimp only) <;> omega)).trans qb7; replace qb8 := (hgq1.cell (p := ⟨_, _, none⟩) (by (try dsimp only) <;> omega)).trans qb8; replace kb0 := (hgq1.cell (p := ⟨_, _, none⟩) (by (try dsimp only) <;> omega)).trans kb0; replace kb1 := (hgq1.cell (p := ⟨_, _, none⟩) (by (try dsimp only) <;> omega)).trans kb1; replace kb2 := (hgq1.cell (p := ⟨_, _, none⟩) (by (try dsimp only) <;> omega)).trans kb2; replace kb3 := (hgq1.cell (p := ⟨_, _, none⟩) (by (try dsimp only) <;> omega)).trans kb3; replace HRB := Lib.hid (HRB.out.on hgq1); replace hbW := Below.trans hbW (Below.mono hgq1 (by omega)))
        clear hgq
        have hgW2 : w.heap.size + 1 < wq.heap.size := by omega
        have hgW1 : w.heap.size < wq.heap.size := by omega
        have hbW1 : b0 < wq.heap.size := by omega
        obtain ⟨w1, rfl⟩ : ∃ w1, w1 = wq := ⟨_, rfl⟩
        go_wp2_with fail
        have hcr : ∀ z : Wd (Below w1.heap.size w1), ∀ b o, b < w1.heap.size → z.w.cell? ⟨b, o, none⟩ = w1.cell? ⟨b, o, none⟩ := fun z => z.cells
        ((with_reducible refine wp_region_class (Below w1.heap.size w1) ?_ ?_ ?_ ?_); kernel_rfl; kernel_rfl; (exact (Below.refl _ _).drew); (intro hnonemp); skip; (repeat (any_goals (first | go_big_quiet_step (((go_at_call 51; (refine (IH.out b xb _ (HRB.out.on (Wd.h _)) HSB.out).mono ?_); rw [HNB.out]; rintro e w' ⟨rfl, hb⟩; exact ⟨rfl, ⟨w', below_wd _ hb⟩, rfl⟩))) | (refine wpQuiet_step (fun K hK => ?_); go_simp; (first | (refine hK _ ?_; clear hK K) | (split <;> rename_i hg <;> (refine hK _ ?_; clear hK K) <;> (try simp only [Bool.not_eq_true] at hg) <;> (first | simp only [Int.not_lt.2 hg, decide_false] | simp only [Int.not_le.1 hg, decide_true] | simp only [hg, decide_true, decide_false] | skip)))))));  all_goals (refine wpQuiet_nil ?_; intro wq hgq))
        clear hcr
        (have hzhgq := hgq.size; replace qa0 := (hgq.cell (p := ⟨_, _, none⟩) (by (try dsimp only) <;> omega)).trans qa0; replace qa1 := (hgq.cell (p := ⟨_, _, none⟩) (by (try dsimp only) <;> omega)).trans qa1; replace qa2 := (hgq.cell (p := ⟨_, _, none⟩) (by (try dsimp only) <;> omega)).trans qa2; replace qa3 := (hgq.cell (p := ⟨_, _, none⟩) (by (try dsimp only) <;> omega)).trans qa3; replace qb0 := (hgq.cell (p := ⟨_, _, none⟩) (by (try dsimp only) <;> omega)).trans qb0; replace qb1 := (hgq.cell (p := ⟨_, _, none⟩) (by (try dsimp only) <;> omega)).trans qb1; replace qb2 := (hgq.cell (p := ⟨_, _, none⟩) (by (try dsimp only) <;> omega)).trans qb2; replace qb3 := (hgq.cell (p := ⟨_, _, none⟩) (by (try dsimp only) <;> omega)).trans qb3; replace qb4 := (hgq.cell (p := ⟨_, _, none⟩) (by (try dsimp only) <;> omega)).trans qb4; replace qb5 := (hgq.cell (p := ⟨_, _, none⟩) (by (try dsimp only) <;> omega)).trans qb5; replace qb6 := (hgq.cell (p := ⟨_, _, none⟩) (by (try dsimp only) <;> omega)).trans qb6; replace qb7 := (hgq.cell (p := ⟨_, _, none⟩) (by (try dsimp only) <;> omega)).trans qb7; replace qb8 := (hgq.cell (p := ⟨_, _, none⟩) (by (try dsimp only) <;> omega)).trans qb8; replace hbW := Below.trans hbW (Below.mono hgq (by omega)))
        have HF := Lib.hid (show numE v (d + 1) (.mk op num text [a, b]) = none by rw [HE.out, HNA.out, HNB.out]; rfl)
        go_wp2_with fail
        go_ret2
        exact ⟨congrArg Ending.returned (by rw [HF.out]; rfl), hbW⟩
      go_wp2_with fail
      have hcr : ∀ z : Wd (Below W.heap.size W), ∀ b o, b < W.heap.size → z.w.cell? ⟨b, o, none⟩ = W.cell? ⟨b, o, none⟩ := fun z => z.cells
      ((with_reducible refine wp_region_class (Below W.heap.size W) ?_ ?_ ?_ ?_); kernel_rfl; kernel_rfl; (exact (Below.refl _ _).drew); (intro hnonemp); skip; (repeat (any_goals (first | go_big_quiet_step (((go_at_call 51; (refine (IH.out a xa _ (HRA.out.on (Wd.h _)) HSA.out).mono ?_); rw [HNA.out]; rintro e w' ⟨rfl, hb⟩; exact ⟨rfl, ⟨w', below_wd _ hb⟩, rfl⟩))) | (refine wpQuiet_step (fun K hK => ?_); go_simp; (first | (refine hK _ ?_; clear hK K) | (split <;> rename_i hg <;> (refine hK _ ?_; clear hK K) <;> (try simp only [Bool.not_eq_true] at hg) <;> (first | simp only [Int.not_lt.2 hg, decide_false] | simp only [Int.not_le.1 hg, decide_true] | simp only [hg, decide_true, decide_false] | skip)))))));  all_goals (refine wpQuiet_nil ?_; intro wq hgq))
      clear hcr
      have hgq1 := hgq
      (have hzhgq1 := hgq1.size; replace qa0 := (hgq1.cell (p := ⟨_, _, none⟩) (by (try dsimp only) <;> omega)).trans qa0; replace qa1 := (hgq1.cell (p := ⟨_, _, none⟩) (by (try dsimp only) <;> omega)).trans qa1; replace qa2 := (hgq1.cell (p := ⟨_, _, none⟩) (by (try dsimp only) <;> omega)).trans qa2; replace qa3 := (hgq1.cell (p := ⟨_, _, none⟩) (by (try dsimp only) <;> omega)).trans qa3; replace qb0 := (hgq1.cell (p := ⟨_, _, none⟩) (by (try dsimp only) <;> omega)).trans qb0; replace qb1 := (hgq1.cell (p := ⟨_, _, none⟩) (by (try dsimp only) <;> omega)).trans qb1; replace qb2 := (hgq1.cell (p := ⟨_, _, none⟩) (by (try dsimp only) <;> omega)).trans qb2; replace qb3 := (hgq1.cell (p := ⟨_, _, none⟩) (by (try dsimp only) <;> omega)).trans qb3; replace qb4 := (hgq1.cell (p := ⟨_, _, none⟩) (by (try dsimp only) <;> omega)).trans qb4; replace qb5 := (hgq1.cell (p := ⟨_, _, none⟩) (by (try dsimp only) <;> omega)).trans qb5; replace qb6 := (hgq1.cell (p := ⟨_, _, none⟩) (by (try dsimp only) <;> omega)).trans qb6; replace qb7 := (hgq1.cell (p := ⟨_, _, none⟩) (by (try dsimp only) <;> omega)).trans qb7; replace qb8 := (hgq1.cell (p := ⟨_, _, none⟩) (by (try dsimp only) <;> omega)).trans qb8; replace kb0 := (hgq1.cell (p := ⟨_, _, none⟩) (by (try dsimp only) <;> omega)).trans kb0; replace kb1 := (hgq1.cell (p := ⟨_, _, none⟩) (by (try dsimp only) <;> omega)).trans kb1; replace kb2 := (hgq1.cell (p := ⟨_, _, none⟩) (by (try dsimp only) <;> omega)).trans kb2; replace kb3 := (hgq1.cell (p := ⟨_, _, none⟩) (by (try dsimp only) <;> omega)).trans kb3; replace HRB := Lib.hid (HRB.out.on hgq1); replace hbW := Below.trans hbW (Below.mono hgq1 (by omega)))
      clear hgq
      have hgW2 : w.heap.size + 1 < wq.heap.size := by omega
      have hgW1 : w.heap.size < wq.heap.size := by omega
      have hbW1 : b0 < wq.heap.size := by omega
      obtain ⟨w1, rfl⟩ : ∃ w1, w1 = wq := ⟨_, rfl⟩
      go_wp2_with fail
      have hcr : ∀ z : Wd (Below w1.heap.size w1), ∀ b o, b < w1.heap.size → z.w.cell? ⟨b, o, none⟩ = w1.cell? ⟨b, o, none⟩ := fun z => z.cells
      ((with_reducible refine wp_region_class (Below w1.heap.size w1) ?_ ?_ ?_ ?_); kernel_rfl; kernel_rfl; (exact (Below.refl _ _).drew); (intro hnonemp); skip; (repeat (any_goals (first | go_big_quiet_step (((go_at_call 51; (refine (IH.out b xb _ (HRB.out.on (Wd.h _)) HSB.out).mono ?_); rw [HNB.out]; rintro e w' ⟨rfl, hb⟩; exact ⟨rfl, ⟨w', below_wd _ hb⟩, rfl⟩))) | (refine wpQuiet_step (fun K hK => ?_); go_simp; (first | (refine hK _ ?_; clear hK K) | (split <;> rename_i hg <;> (refine hK _ ?_; clear hK K) <;> (try simp only [Bool.not_eq_true] at hg) <;> (first | simp only [Int.not_lt.2 hg, decide_false] | simp only [Int.not_le.1 hg, decide_true] | simp only [hg, decide_true, decide_false] | skip)))))));  all_goals (refine wpQuiet_nil ?_; intro wq hgq))
      clear hcr
      (have hzhgq := hgq.size; replace qa0 := (hgq.cell (p := ⟨_, _, none⟩) (by (try dsimp only) <;> omega)).trans qa0; replace qa1 := (hgq.cell (p := ⟨_, _, none⟩) (by (try dsimp only) <;> omega)).trans qa1; replace qa2 := (hgq.cell (p := ⟨_, _, none⟩) (by (try dsimp only) <;> omega)).trans qa2; replace qa3 := (hgq.cell (p := ⟨_, _, none⟩) (by (try dsimp only) <;> omega)).trans qa3; replace qb0 := (hgq.cell (p := ⟨_, _, none⟩) (by (try dsimp only) <;> omega)).trans qb0; replace qb1 := (hgq.cell (p := ⟨_, _, none⟩) (by (try dsimp only) <;> omega)).trans qb1; replace qb2 := (hgq.cell (p := ⟨_, _, none⟩) (by (try dsimp only) <;> omega)).trans qb2; replace qb3 := (hgq.cell (p := ⟨_, _, none⟩) (by (try dsimp only) <;> omega)).trans qb3; replace qb4 := (hgq.cell (p := ⟨_, _, none⟩) (by (try dsimp only) <;> omega)).trans qb4; replace qb5 := (hgq.cell (p := ⟨_, _, none⟩) (by (try dsimp only) <;> omega)).trans qb5; replace qb6 := (hgq.cell (p := ⟨_, _, none⟩) (by (try dsimp only) <;> omega)).trans qb6; replace qb7 := (hgq.cell (p := ⟨_, _, none⟩) (by (try dsimp only) <;> omega)).trans qb7; replace qb8 := (hgq.cell (p := ⟨_, _, none⟩) (by (try dsimp only) <;> omega)).trans qb8; replace hbW := Below.trans hbW (Below.mono hgq (by omega)))
      obtain ⟨bx1, bx2⟩ := numE_bd HNA.out
      obtain ⟨by1, by2⟩ := numE_bd HNB.out
      unfold lim at bx1 bx2 by1 by2
      have HF := Lib.hid (show numE v (d + 1) (.mk op num text [a, b]) = arith op xv yv by rw [HE.out, HNA.out, HNB.out]; rfl)
      have hop : op = 11 ∨ op = 12 ∨ op = 13 ∨ op = 14 ∨ op = 15 := by omega
      rcases hop with rfl | rfl | rfl | rfl | rfl
      · have HG := Lib.hid (HF.out.trans (show arith 11 xv yv = addE xv yv from rfl))
        go_wp2_with fail
        refine (refadd_any xv yv _ bx1 bx2 by1 by2).mono ?_
        rw [← HG.out]
        cases hR : numE v (d + 1) (.mk 11 num text [a, b])
        all_goals
          unfold optV
          rintro r w' ⟨rfl, rfl⟩
          go_wp2_with fail
          go_ret2
          exact ⟨congrArg Ending.returned (by rw [hR]; rfl), hbW⟩
      · have HG := Lib.hid (HF.out.trans (show arith 12 xv yv = addE xv (-yv) from rfl))
        go_wp2_with fail
        refine (refadd_any xv (-yv) _ bx1 bx2 (by omega) (by omega)).mono ?_
        rw [← HG.out]
        cases hR : numE v (d + 1) (.mk 12 num text [a, b])
        all_goals
          unfold optV
          rintro r w' ⟨rfl, rfl⟩
          go_wp2_with fail
          go_ret2
          exact ⟨congrArg Ending.returned (by rw [hR]; rfl), hbW⟩
      · have HG := Lib.hid (HF.out.trans (show arith 13 xv yv = mulE xv yv from rfl))
        go_wp2_with fail
        refine (refmul_any xv yv _ bx1 bx2 by1 by2).mono ?_
        rw [← HG.out]
        cases hR : numE v (d + 1) (.mk 13 num text [a, b])
        all_goals
          unfold optV
          rintro r w' ⟨rfl, rfl⟩
          go_wp2_with fail
          go_ret2
          exact ⟨congrArg Ending.returned (by rw [hR]; rfl), hbW⟩
      · by_cases hy0 : yv = 0
        · subst hy0
          have HG := Lib.hid (HF.out.trans (show arith 14 xv 0 = none from rfl))
          go_wp2_with fail
          go_ret2
          exact ⟨congrArg Ending.returned (by rw [HG.out]; rfl), hbW⟩
        · have HG := Lib.hid (HF.out.trans (show arith 14 xv yv = rng (xv.tdiv yv) by simp [arith, hy0]))
          have hy1 : (yv == 0) = false := by simpa using hy0
          have hdb := tdiv_bd (y := yv) bx1 bx2
          have hwd : wrap64 (xv.tdiv yv) = xv.tdiv yv := IntWalk.wrap64_in _ ⟨by omega, by omega⟩
          have hne := hy0
          clear hy0 hdb
          go_wp2_with fail
          go_ret2
          have HQ : numE v (d + 1) (.mk 14 num text [a, b]) = some (xv.tdiv yv) := by rw [HG.out]; exact rng_in (tdiv_bd bx1 bx2)
          exact ⟨congrArg Ending.returned (by rw [HQ]; first | rfl | (show Value.tuple #[.int .i64 (wrap64 (xv.tdiv yv)), .bool true] = _; rw [hwd]; rfl)), hbW⟩
      · by_cases hy0 : yv = 0
        · subst hy0
          have HG := Lib.hid (HF.out.trans (show arith 15 xv 0 = none from rfl))
          go_wp2_with fail
          go_ret2
          exact ⟨congrArg Ending.returned (by rw [HG.out]; rfl), hbW⟩
        · have HG := Lib.hid (HF.out.trans (show arith 15 xv yv = rng (xv.tmod yv) by simp [arith, hy0]))
          have hy1 : (yv == 0) = false := by simpa using hy0
          have hdb := tmod_bd (y := yv) bx1 bx2
          have hwd : wrap64 (xv.tmod yv) = xv.tmod yv := IntWalk.wrap64_in _ ⟨by omega, by omega⟩
          have hne := hy0
          clear hy0 hdb
          go_wp2_with fail
          go_ret2
          have HQ : numE v (d + 1) (.mk 15 num text [a, b]) = some (xv.tmod yv) := by rw [HG.out]; exact rng_in (tmod_bd bx1 bx2)
          exact ⟨congrArg Ending.returned (by rw [HQ]; first | rfl | (show Value.tuple #[.int .i64 (wrap64 (xv.tmod yv)), .bool true] = _; rw [hwd]; rfl)), hbW⟩

end Xp
end Go.Proofs.Ytdjlfdbdhacmjaa
