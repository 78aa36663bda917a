/-
  Expressions: the reference's holds. No condition.
-/
import Derived.Test.YtdjlfdbdhacmjaaExK
import Derived.Test.YtdjlfdbdhacmjaaExL
import Derived.BigQuiet
import Derived.StillTailTactics
import Derived.Lib.Overlaps
import Derived.Deep.DeepCutAuto
import Derived.Deep.RegionWith
set_option maxRecDepth 100000
set_option linter.unusedVariables false
set_option linter.unusedSimpArgs false
namespace Go.Proofs.Ytdjlfdbdhacmjaa
open Go.RowKit

namespace Xp
set_option maxHeartbeats 8000000 in
theorem refholds_any (v : Env) : ∀ (d : Nat), d ≤ 16 → ∀ (e : Ex) (x : It) (w : World), Rp w e x → srt d e = (3, 0) →
    Calls Try.prog 29 #[x.val, v.val] w fun r w' => r = .returned (.bool (holE v d e)) ∧ Below w.heap.size w w' := by
  intro d
  induction d with
  | zero => intro _ e x w h hs; simp [srt] at hs
  | succ d ih =>
    intro hd e x w h hs
    obtain ⟨op, num, text, args, A, n, c, items, rfl, rfl, hsl, hil, hnil, hch⟩ := h.inv
    have IH := Lib.hid (ih (by omega))
    have HR := Lib.hid h
    clear ih h hsl hil hch hnil
    unfold It.val Env.val
    rcases hol_leaf (v := v) hs with ⟨rfl, rfl⟩ | ⟨a, rfl, rfl, hsa⟩ | ⟨a, b, rfl, h56, hsa, hsb⟩ | ⟨a, b, rfl, ⟨h7, h10⟩, hc⟩
    · have HF := Lib.hid (holE_leaf (v := v) (d := d) (num := num) (text := text))
      clear hs
      go_enter Try.func29, Try.ntmps29
      go_upto_region 1 with (fail)
      (obtain ⟨W, hWW, hbW, hzW, f1W, f2W, qfa, qfb⟩ := box2 w #[.int .i64 3, .int .i64 num, .string text, .slice A n c] 45 #[.int .i64 v.kind, .int .i64 v.units, .int .i64 v.weekday, .int .i64 v.minute, .int .i64 v.total, .int .i64 v.spent, .string v.zone, .string v.band, .bool v.family] 29; rw [← hWW]; have qa0 : W.cell? ⟨w.heap.size, 0, none⟩ = some (.int .i64 3) := f1W 0 _ rfl; have qa1 : W.cell? ⟨w.heap.size, 1, none⟩ = some (.int .i64 num) := f1W 1 _ rfl; have qa2 : W.cell? ⟨w.heap.size, 2, none⟩ = some (.string text) := f1W 2 _ rfl; have qa3 : W.cell? ⟨w.heap.size, 3, none⟩ = some (.slice A n c) := f1W 3 _ rfl; have qb0 : W.cell? ⟨w.heap.size + 1, 0, none⟩ = some (.int .i64 v.kind) := f2W 0 _ rfl; have qb1 : W.cell? ⟨w.heap.size + 1, 1, none⟩ = some (.int .i64 v.units) := f2W 1 _ rfl; have qb2 : W.cell? ⟨w.heap.size + 1, 2, none⟩ = some (.int .i64 v.weekday) := f2W 2 _ rfl; have qb3 : W.cell? ⟨w.heap.size + 1, 3, none⟩ = some (.int .i64 v.minute) := f2W 3 _ rfl; have qb4 : W.cell? ⟨w.heap.size + 1, 4, none⟩ = some (.int .i64 v.total) := f2W 4 _ rfl; have qb5 : W.cell? ⟨w.heap.size + 1, 5, none⟩ = some (.int .i64 v.spent) := f2W 5 _ rfl; have qb6 : W.cell? ⟨w.heap.size + 1, 6, none⟩ = some (.string v.zone) := f2W 6 _ rfl; have qb7 : W.cell? ⟨w.heap.size + 1, 7, none⟩ = some (.string v.band) := f2W 7 _ rfl; have qb8 : W.cell? ⟨w.heap.size + 1, 8, none⟩ = some (.bool v.family) := f2W 8 _ rfl; clear hWW f1W f2W)
      go_wp2_with fail
      go_ret
      exact ⟨ret_bool HF.out.symm, hbW⟩
    · have HE := Lib.hid (holE_not (v := v) (d := d) (num := num) (text := text) (a := a))
      have HSA := Lib.hid hsa
      clear hs hsa
      obtain ⟨ra, hra⟩ : ∃ ra, holE v d a = ra := ⟨_, rfl⟩
      have HNA := Lib.hid hra
      clear hra
      have HF := Lib.hid (show holE v (d + 1) (.mk 4 num text [a]) = !ra by rw [HE.out, HNA.out])
      obtain ⟨b0, off, ya, hA0, hb0, hn0, hRa, -⟩ := HR.out.arg0
      dsimp only at hA0 hn0
      subst hA0
      have hn2 : n = 1 := hn0
      subst hn2
      clear hn0 hRa
      go_enter Try.func29, Try.ntmps29
      go_upto_region 1 with (fail)
      (obtain ⟨W, hWW, hbW, hzW, f1W, f2W, qfa, qfb⟩ := box2 w #[.int .i64 4, .int .i64 num, .string text, .slice (some ⟨b0, off, none⟩) 1 c] 45 #[.int .i64 v.kind, .int .i64 v.units, .int .i64 v.weekday, .int .i64 v.minute, .int .i64 v.total, .int .i64 v.spent, .string v.zone, .string v.band, .bool v.family] 29; rw [← hWW]; have qa0 : W.cell? ⟨w.heap.size, 0, none⟩ = some (.int .i64 4) := f1W 0 _ rfl; have qa1 : W.cell? ⟨w.heap.size, 1, none⟩ = some (.int .i64 num) := f1W 1 _ rfl; have qa2 : W.cell? ⟨w.heap.size, 2, none⟩ = some (.string text) := f1W 2 _ rfl; have qa3 : W.cell? ⟨w.heap.size, 3, none⟩ = some (.slice (some ⟨b0, off, none⟩) 1 c) := f1W 3 _ rfl; have qb0 : W.cell? ⟨w.heap.size + 1, 0, none⟩ = some (.int .i64 v.kind) := f2W 0 _ rfl; have qb1 : W.cell? ⟨w.heap.size + 1, 1, none⟩ = some (.int .i64 v.units) := f2W 1 _ rfl; have qb2 : W.cell? ⟨w.heap.size + 1, 2, none⟩ = some (.int .i64 v.weekday) := f2W 2 _ rfl; have qb3 : W.cell? ⟨w.heap.size + 1, 3, none⟩ = some (.int .i64 v.minute) := f2W 3 _ rfl; have qb4 : W.cell? ⟨w.heap.size + 1, 4, none⟩ = some (.int .i64 v.total) := f2W 4 _ rfl; have qb5 : W.cell? ⟨w.heap.size + 1, 5, none⟩ = some (.int .i64 v.spent) := f2W 5 _ rfl; have qb6 : W.cell? ⟨w.heap.size + 1, 6, none⟩ = some (.string v.zone) := f2W 6 _ rfl; have qb7 : W.cell? ⟨w.heap.size + 1, 7, none⟩ = some (.string v.band) := f2W 7 _ rfl; have qb8 : W.cell? ⟨w.heap.size + 1, 8, none⟩ = some (.bool v.family) := f2W 8 _ rfl; clear hWW f1W f2W)
      have HRW := Lib.hid (HR.out.on hbW)
      have hbW0 : b0 < W.heap.size := by omega
      have hgW : w.heap.size + 1 < W.heap.size := hzW
      have hgW0 : w.heap.size < W.heap.size := by omega
      obtain ⟨_, _, xa, hAa, -, -, hRa, ka0, ka1, ka2, ka3⟩ := HRW.out.arg0
      dsimp only at hAa
      injection hAa with hAa
      injection hAa with hAa1 hAa2
      subst hAa1 hAa2
      have HRA := Lib.hid hRa
      clear hRa
      go_wp2_with fail
      have hcr : ∀ z : Wd (Below W.heap.size W), ∀ b o, b < W.heap.size → z.w.cell? ⟨b, o, none⟩ = W.cell? ⟨b, o, none⟩ := fun z => z.cells
      ((with_reducible refine wp_region_class (Below W.heap.size W) ?_ ?_ ?_ ?_); kernel_rfl; kernel_rfl; (exact (Below.refl _ _).drew); (intro hnonemp); skip; (repeat (any_goals (first | go_big_quiet_step (((first | (go_at_call_of 29 (Value.int .i64 xa.op); (refine (IH.out a xa _ (HRA.out.on (Wd.h _)) HSA.out).mono ?_); rw [HNA.out]; rintro e w' ⟨rfl, hb⟩; exact ⟨rfl, ⟨w', below_wd _ hb⟩, rfl⟩)))) | (refine wpQuiet_step (fun K hK => ?_); go_simp; (first | (refine hK _ ?_; clear hK K) | (split <;> rename_i hg <;> (refine hK _ ?_; clear hK K) <;> (try simp only [Bool.not_eq_true] at hg) <;> (first | simp only [Int.not_lt.2 hg, decide_false] | simp only [Int.not_le.1 hg, decide_true] | simp only [hg, decide_true, decide_false] | skip)))))));  all_goals (refine wpQuiet_nil ?_; intro wq hgq))
      clear hcr
      go_wp2_with fail
      go_ret
      exact ⟨ret_bool HF.out.symm, hbW.trans (hgq.mono (by omega))⟩
    · rcases h56 with rfl | rfl
      · have HE := Lib.hid (holE_and (v := v) (d := d) (num := num) (text := text) (a := a) (b := b))
        have HSA := Lib.hid hsa
        have HSB := Lib.hid hsb
        clear hs hsa hsb
        obtain ⟨ra, hra⟩ : ∃ ra, holE v d a = ra := ⟨_, rfl⟩
        have HNA := Lib.hid hra
        clear hra
        obtain ⟨rb, hrb⟩ : ∃ rb, holE v d b = rb := ⟨_, rfl⟩
        have HNB := Lib.hid hrb
        clear hrb
        cases ra
        · have HF := Lib.hid (show holE v (d + 1) (.mk 5 num text [a, b]) = false by rw [HE.out, HNA.out, HNB.out]; rfl)
          obtain ⟨b0, off, ya, hA0, hb0, hn0, hRa, -⟩ := HR.out.arg0
          dsimp only at hA0 hn0
          subst hA0
          have hn2 : n = 2 := hn0
          subst hn2
          clear hn0 hRa
          go_enter Try.func29, Try.ntmps29
          go_upto_region 1 with (fail)
          (obtain ⟨W, hWW, hbW, hzW, f1W, f2W, qfa, qfb⟩ := box2 w #[.int .i64 5, .int .i64 num, .string text, .slice (some ⟨b0, off, none⟩) 2 c] 45 #[.int .i64 v.kind, .int .i64 v.units, .int .i64 v.weekday, .int .i64 v.minute, .int .i64 v.total, .int .i64 v.spent, .string v.zone, .string v.band, .bool v.family] 29; rw [← hWW]; have qa0 : W.cell? ⟨w.heap.size, 0, none⟩ = some (.int .i64 5) := f1W 0 _ rfl; have qa1 : W.cell? ⟨w.heap.size, 1, none⟩ = some (.int .i64 num) := f1W 1 _ rfl; have qa2 : W.cell? ⟨w.heap.size, 2, none⟩ = some (.string text) := f1W 2 _ rfl; have qa3 : W.cell? ⟨w.heap.size, 3, none⟩ = some (.slice (some ⟨b0, off, none⟩) 2 c) := f1W 3 _ rfl; have qb0 : W.cell? ⟨w.heap.size + 1, 0, none⟩ = some (.int .i64 v.kind) := f2W 0 _ rfl; have qb1 : W.cell? ⟨w.heap.size + 1, 1, none⟩ = some (.int .i64 v.units) := f2W 1 _ rfl; have qb2 : W.cell? ⟨w.heap.size + 1, 2, none⟩ = some (.int .i64 v.weekday) := f2W 2 _ rfl; have qb3 : W.cell? ⟨w.heap.size + 1, 3, none⟩ = some (.int .i64 v.minute) := f2W 3 _ rfl; have qb4 : W.cell? ⟨w.heap.size + 1, 4, none⟩ = some (.int .i64 v.total) := f2W 4 _ rfl; have qb5 : W.cell? ⟨w.heap.size + 1, 5, none⟩ = some (.int .i64 v.spent) := f2W 5 _ rfl; have qb6 : W.cell? ⟨w.heap.size + 1, 6, none⟩ = some (.string v.zone) := f2W 6 _ rfl; have qb7 : W.cell? ⟨w.heap.size + 1, 7, none⟩ = some (.string v.band) := f2W 7 _ rfl; have qb8 : W.cell? ⟨w.heap.size + 1, 8, none⟩ = some (.bool v.family) := f2W 8 _ rfl; clear hWW f1W f2W)
          have HRW := Lib.hid (HR.out.on hbW)
          have hbW0 : b0 < W.heap.size := by omega
          have hgW : w.heap.size + 1 < W.heap.size := hzW
          have hgW0 : w.heap.size < W.heap.size := by omega
          obtain ⟨_, _, xa, hAa, -, -, hRa, ka0, ka1, ka2, ka3⟩ := HRW.out.arg0
          dsimp only at hAa
          injection hAa with hAa
          injection hAa with hAa1 hAa2
          subst hAa1 hAa2
          obtain ⟨xb, hRb, kb0, kb1, kb2, kb3⟩ := HRW.out.arg1 rfl
          have HRB := Lib.hid hRb
          clear hRb
          have HRA := Lib.hid hRa
          clear hRa
          go_wp2_with fail
          have hcr : ∀ z : Wd (Below W.heap.size W), ∀ b o, b < W.heap.size → z.w.cell? ⟨b, o, none⟩ = W.cell? ⟨b, o, none⟩ := fun z => z.cells
          ((with_reducible refine wp_region_class (Below W.heap.size W) ?_ ?_ ?_ ?_); kernel_rfl; kernel_rfl; (exact (Below.refl _ _).drew); (intro hnonemp); skip; (repeat (any_goals (first | go_big_quiet_step (((first | (go_at_call_of 29 (Value.int .i64 xa.op); (refine (IH.out a xa _ (HRA.out.on (Wd.h _)) HSA.out).mono ?_); rw [HNA.out]; rintro e w' ⟨rfl, hb⟩; exact ⟨rfl, ⟨w', below_wd _ hb⟩, rfl⟩)))) | (refine wpQuiet_step (fun K hK => ?_); go_simp; (first | (refine hK _ ?_; clear hK K) | (split <;> rename_i hg <;> (refine hK _ ?_; clear hK K) <;> (try simp only [Bool.not_eq_true] at hg) <;> (first | simp only [Int.not_lt.2 hg, decide_false] | simp only [Int.not_le.1 hg, decide_true] | simp only [hg, decide_true, decide_false] | skip)))))));  all_goals (refine wpQuiet_nil ?_; intro wq hgq))
          clear hcr
          go_wp2_with fail
          go_ret
          exact ⟨ret_bool HF.out.symm, hbW.trans (hgq.mono (by omega))⟩
        · have HF := Lib.hid (show holE v (d + 1) (.mk 5 num text [a, b]) = rb by rw [HE.out, HNA.out, HNB.out]; rfl)
          obtain ⟨b0, off, ya, hA0, hb0, hn0, hRa, -⟩ := HR.out.arg0
          dsimp only at hA0 hn0
          subst hA0
          have hn2 : n = 2 := hn0
          subst hn2
          clear hn0 hRa
          go_enter Try.func29, Try.ntmps29
          go_upto_region 1 with (fail)
          (obtain ⟨W, hWW, hbW, hzW, f1W, f2W, qfa, qfb⟩ := box2 w #[.int .i64 5, .int .i64 num, .string text, .slice (some ⟨b0, off, none⟩) 2 c] 45 #[.int .i64 v.kind, .int .i64 v.units, .int .i64 v.weekday, .int .i64 v.minute, .int .i64 v.total, .int .i64 v.spent, .string v.zone, .string v.band, .bool v.family] 29; rw [← hWW]; have qa0 : W.cell? ⟨w.heap.size, 0, none⟩ = some (.int .i64 5) := f1W 0 _ rfl; have qa1 : W.cell? ⟨w.heap.size, 1, none⟩ = some (.int .i64 num) := f1W 1 _ rfl; have qa2 : W.cell? ⟨w.heap.size, 2, none⟩ = some (.string text) := f1W 2 _ rfl; have qa3 : W.cell? ⟨w.heap.size, 3, none⟩ = some (.slice (some ⟨b0, off, none⟩) 2 c) := f1W 3 _ rfl; have qb0 : W.cell? ⟨w.heap.size + 1, 0, none⟩ = some (.int .i64 v.kind) := f2W 0 _ rfl; have qb1 : W.cell? ⟨w.heap.size + 1, 1, none⟩ = some (.int .i64 v.units) := f2W 1 _ rfl; have qb2 : W.cell? ⟨w.heap.size + 1, 2, none⟩ = some (.int .i64 v.weekday) := f2W 2 _ rfl; have qb3 : W.cell? ⟨w.heap.size + 1, 3, none⟩ = some (.int .i64 v.minute) := f2W 3 _ rfl; have qb4 : W.cell? ⟨w.heap.size + 1, 4, none⟩ = some (.int .i64 v.total) := f2W 4 _ rfl; have qb5 : W.cell? ⟨w.heap.size + 1, 5, none⟩ = some (.int .i64 v.spent) := f2W 5 _ rfl; have qb6 : W.cell? ⟨w.heap.size + 1, 6, none⟩ = some (.string v.zone) := f2W 6 _ rfl; have qb7 : W.cell? ⟨w.heap.size + 1, 7, none⟩ = some (.string v.band) := f2W 7 _ rfl; have qb8 : W.cell? ⟨w.heap.size + 1, 8, none⟩ = some (.bool v.family) := f2W 8 _ rfl; clear hWW f1W f2W)
          have HRW := Lib.hid (HR.out.on hbW)
          have hbW0 : b0 < W.heap.size := by omega
          have hgW : w.heap.size + 1 < W.heap.size := hzW
          have hgW0 : w.heap.size < W.heap.size := by omega
          obtain ⟨_, _, xa, hAa, -, -, hRa, ka0, ka1, ka2, ka3⟩ := HRW.out.arg0
          dsimp only at hAa
          injection hAa with hAa
          injection hAa with hAa1 hAa2
          subst hAa1 hAa2
          obtain ⟨xb, hRb, kb0, kb1, kb2, kb3⟩ := HRW.out.arg1 rfl
          have HRB := Lib.hid hRb
          clear hRb
          have HRA := Lib.hid hRa
          clear hRa
          go_wp2_with fail
          have hcr : ∀ z : Wd (Below W.heap.size W), ∀ b o, b < W.heap.size → z.w.cell? ⟨b, o, none⟩ = W.cell? ⟨b, o, none⟩ := fun z => z.cells
          ((with_reducible refine wp_region_class (Below W.heap.size W) ?_ ?_ ?_ ?_); kernel_rfl; kernel_rfl; (exact (Below.refl _ _).drew); (intro hnonemp); skip; (repeat (any_goals (first | go_big_quiet_step (((first | (go_at_call_of 29 (Value.int .i64 xa.op); (refine (IH.out a xa _ (HRA.out.on (Wd.h _)) HSA.out).mono ?_); rw [HNA.out]; rintro e w' ⟨rfl, hb⟩; exact ⟨rfl, ⟨w', below_wd _ hb⟩, rfl⟩) | (go_at_call_of 29 (Value.int .i64 xb.op); (refine (IH.out b xb _ (HRB.out.on (Wd.h _)) HSB.out).mono ?_); rw [HNB.out]; rintro e w' ⟨rfl, hb⟩; exact ⟨rfl, ⟨w', below_wd _ hb⟩, rfl⟩)))) | (refine wpQuiet_step (fun K hK => ?_); go_simp; (first | (refine hK _ ?_; clear hK K) | (split <;> rename_i hg <;> (refine hK _ ?_; clear hK K) <;> (try simp only [Bool.not_eq_true] at hg) <;> (first | simp only [Int.not_lt.2 hg, decide_false] | simp only [Int.not_le.1 hg, decide_true] | simp only [hg, decide_true, decide_false] | skip)))))));  all_goals (refine wpQuiet_nil ?_; intro wq hgq))
          clear hcr
          go_wp2_with fail
          go_ret
          exact ⟨ret_bool HF.out.symm, hbW.trans (hgq.mono (by omega))⟩
      · have HE := Lib.hid (holE_or (v := v) (d := d) (num := num) (text := text) (a := a) (b := b))
        have HSA := Lib.hid hsa
        have HSB := Lib.hid hsb
        clear hs hsa hsb
        obtain ⟨ra, hra⟩ : ∃ ra, holE v d a = ra := ⟨_, rfl⟩
        have HNA := Lib.hid hra
        clear hra
        obtain ⟨rb, hrb⟩ : ∃ rb, holE v d b = rb := ⟨_, rfl⟩
        have HNB := Lib.hid hrb
        clear hrb
        cases ra
        · have HF := Lib.hid (show holE v (d + 1) (.mk 6 num text [a, b]) = rb by rw [HE.out, HNA.out, HNB.out]; rfl)
          obtain ⟨b0, off, ya, hA0, hb0, hn0, hRa, -⟩ := HR.out.arg0
          dsimp only at hA0 hn0
          subst hA0
          have hn2 : n = 2 := hn0
          subst hn2
          clear hn0 hRa
          go_enter Try.func29, Try.ntmps29
          go_upto_region 1 with (fail)
          (obtain ⟨W, hWW, hbW, hzW, f1W, f2W, qfa, qfb⟩ := box2 w #[.int .i64 6, .int .i64 num, .string text, .slice (some ⟨b0, off, none⟩) 2 c] 45 #[.int .i64 v.kind, .int .i64 v.units, .int .i64 v.weekday, .int .i64 v.minute, .int .i64 v.total, .int .i64 v.spent, .string v.zone, .string v.band, .bool v.family] 29; rw [← hWW]; have qa0 : W.cell? ⟨w.heap.size, 0, none⟩ = some (.int .i64 6) := f1W 0 _ rfl; have qa1 : W.cell? ⟨w.heap.size, 1, none⟩ = some (.int .i64 num) := f1W 1 _ rfl; have qa2 : W.cell? ⟨w.heap.size, 2, none⟩ = some (.string text) := f1W 2 _ rfl; have qa3 : W.cell? ⟨w.heap.size, 3, none⟩ = some (.slice (some ⟨b0, off, none⟩) 2 c) := f1W 3 _ rfl; have qb0 : W.cell? ⟨w.heap.size + 1, 0, none⟩ = some (.int .i64 v.kind) := f2W 0 _ rfl; have qb1 : W.cell? ⟨w.heap.size + 1, 1, none⟩ = some (.int .i64 v.units) := f2W 1 _ rfl; have qb2 : W.cell? ⟨w.heap.size + 1, 2, none⟩ = some (.int .i64 v.weekday) := f2W 2 _ rfl; have qb3 : W.cell? ⟨w.heap.size + 1, 3, none⟩ = some (.int .i64 v.minute) := f2W 3 _ rfl; have qb4 : W.cell? ⟨w.heap.size + 1, 4, none⟩ = some (.int .i64 v.total) := f2W 4 _ rfl; have qb5 : W.cell? ⟨w.heap.size + 1, 5, none⟩ = some (.int .i64 v.spent) := f2W 5 _ rfl; have qb6 : W.cell? ⟨w.heap.size + 1, 6, none⟩ = some (.string v.zone) := f2W 6 _ rfl; have qb7 : W.cell? ⟨w.heap.size + 1, 7, none⟩ = some (.string v.band) := f2W 7 _ rfl; have qb8 : W.cell? ⟨w.heap.size + 1, 8, none⟩ = some (.bool v.family) := f2W 8 _ rfl; clear hWW f1W f2W)
          have HRW := Lib.hid (HR.out.on hbW)
          have hbW0 : b0 < W.heap.size := by omega
          have hgW : w.heap.size + 1 < W.heap.size := hzW
          have hgW0 : w.heap.size < W.heap.size := by omega
          obtain ⟨_, _, xa, hAa, -, -, hRa, ka0, ka1, ka2, ka3⟩ := HRW.out.arg0
          dsimp only at hAa
          injection hAa with hAa
          injection hAa with hAa1 hAa2
          subst hAa1 hAa2
          obtain ⟨xb, hRb, kb0, kb1, kb2, kb3⟩ := HRW.out.arg1 rfl
          have HRB := Lib.hid hRb
          clear hRb
          have HRA := Lib.hid hRa
          clear hRa
          go_wp2_with fail
          have hcr : ∀ z : Wd (Below W.heap.size W), ∀ b o, b < W.heap.size → z.w.cell? ⟨b, o, none⟩ = W.cell? ⟨b, o, none⟩ := fun z => z.cells
          ((with_reducible refine wp_region_class (Below W.heap.size W) ?_ ?_ ?_ ?_); kernel_rfl; kernel_rfl; (exact (Below.refl _ _).drew); (intro hnonemp); skip; (repeat (any_goals (first | go_big_quiet_step (((first | (go_at_call_of 29 (Value.int .i64 xa.op); (refine (IH.out a xa _ (HRA.out.on (Wd.h _)) HSA.out).mono ?_); rw [HNA.out]; rintro e w' ⟨rfl, hb⟩; exact ⟨rfl, ⟨w', below_wd _ hb⟩, rfl⟩) | (go_at_call_of 29 (Value.int .i64 xb.op); (refine (IH.out b xb _ (HRB.out.on (Wd.h _)) HSB.out).mono ?_); rw [HNB.out]; rintro e w' ⟨rfl, hb⟩; exact ⟨rfl, ⟨w', below_wd _ hb⟩, rfl⟩)))) | (refine wpQuiet_step (fun K hK => ?_); go_simp; (first | (refine hK _ ?_; clear hK K) | (split <;> rename_i hg <;> (refine hK _ ?_; clear hK K) <;> (try simp only [Bool.not_eq_true] at hg) <;> (first | simp only [Int.not_lt.2 hg, decide_false] | simp only [Int.not_le.1 hg, decide_true] | simp only [hg, decide_true, decide_false] | skip)))))));  all_goals (refine wpQuiet_nil ?_; intro wq hgq))
          clear hcr
          go_wp2_with fail
          go_ret
          exact ⟨ret_bool HF.out.symm, hbW.trans (hgq.mono (by omega))⟩
        · have HF := Lib.hid (show holE v (d + 1) (.mk 6 num text [a, b]) = true by rw [HE.out, HNA.out, HNB.out]; rfl)
          obtain ⟨b0, off, ya, hA0, hb0, hn0, hRa, -⟩ := HR.out.arg0
          dsimp only at hA0 hn0
          subst hA0
          have hn2 : n = 2 := hn0
          subst hn2
          clear hn0 hRa
          go_enter Try.func29, Try.ntmps29
          go_upto_region 1 with (fail)
          (obtain ⟨W, hWW, hbW, hzW, f1W, f2W, qfa, qfb⟩ := box2 w #[.int .i64 6, .int .i64 num, .string text, .slice (some ⟨b0, off, none⟩) 2 c] 45 #[.int .i64 v.kind, .int .i64 v.units, .int .i64 v.weekday, .int .i64 v.minute, .int .i64 v.total, .int .i64 v.spent, .string v.zone, .string v.band, .bool v.family] 29; rw [← hWW]; have qa0 : W.cell? ⟨w.heap.size, 0, none⟩ = some (.int .i64 6) := f1W 0 _ rfl; have qa1 : W.cell? ⟨w.heap.size, 1, none⟩ = some (.int .i64 num) := f1W 1 _ rfl; have qa2 : W.cell? ⟨w.heap.size, 2, none⟩ = some (.string text) := f1W 2 _ rfl; have qa3 : W.cell? ⟨w.heap.size, 3, none⟩ = some (.slice (some ⟨b0, off, none⟩) 2 c) := f1W 3 _ rfl; have qb0 : W.cell? ⟨w.heap.size + 1, 0, none⟩ = some (.int .i64 v.kind) := f2W 0 _ rfl; have qb1 : W.cell? ⟨w.heap.size + 1, 1, none⟩ = some (.int .i64 v.units) := f2W 1 _ rfl; have qb2 : W.cell? ⟨w.heap.size + 1, 2, none⟩ = some (.int .i64 v.weekday) := f2W 2 _ rfl; have qb3 : W.cell? ⟨w.heap.size + 1, 3, none⟩ = some (.int .i64 v.minute) := f2W 3 _ rfl; have qb4 : W.cell? ⟨w.heap.size + 1, 4, none⟩ = some (.int .i64 v.total) := f2W 4 _ rfl; have qb5 : W.cell? ⟨w.heap.size + 1, 5, none⟩ = some (.int .i64 v.spent) := f2W 5 _ rfl; have qb6 : W.cell? ⟨w.heap.size + 1, 6, none⟩ = some (.string v.zone) := f2W 6 _ rfl; have qb7 : W.cell? ⟨w.heap.size + 1, 7, none⟩ = some (.string v.band) := f2W 7 _ rfl; have qb8 : W.cell? ⟨w.heap.size + 1, 8, none⟩ = some (.bool v.family) := f2W 8 _ rfl; clear hWW f1W f2W)
          have HRW := Lib.hid (HR.out.on hbW)
          have hbW0 : b0 < W.heap.size := by omega
          have hgW : w.heap.size + 1 < W.heap.size := hzW
          have hgW0 : w.heap.size < W.heap.size := by omega
          obtain ⟨_, _, xa, hAa, -, -, hRa, ka0, ka1, ka2, ka3⟩ := HRW.out.arg0
          dsimp only at hAa
          injection hAa with hAa
          injection hAa with hAa1 hAa2
          subst hAa1 hAa2
          obtain ⟨xb, hRb, kb0, kb1, kb2, kb3⟩ := HRW.out.arg1 rfl
          have HRB := Lib.hid hRb
          clear hRb
          have HRA := Lib.hid hRa
          clear hRa
          go_wp2_with fail
          have hcr : ∀ z : Wd (Below W.heap.size W), ∀ b o, b < W.heap.size → z.w.cell? ⟨b, o, none⟩ = W.cell? ⟨b, o, none⟩ := fun z => z.cells
          ((with_reducible refine wp_region_class (Below W.heap.size W) ?_ ?_ ?_ ?_); kernel_rfl; kernel_rfl; (exact (Below.refl _ _).drew); (intro hnonemp); skip; (repeat (any_goals (first | go_big_quiet_step (((first | (go_at_call_of 29 (Value.int .i64 xa.op); (refine (IH.out a xa _ (HRA.out.on (Wd.h _)) HSA.out).mono ?_); rw [HNA.out]; rintro e w' ⟨rfl, hb⟩; exact ⟨rfl, ⟨w', below_wd _ hb⟩, rfl⟩)))) | (refine wpQuiet_step (fun K hK => ?_); go_simp; (first | (refine hK _ ?_; clear hK K) | (split <;> rename_i hg <;> (refine hK _ ?_; clear hK K) <;> (try simp only [Bool.not_eq_true] at hg) <;> (first | simp only [Int.not_lt.2 hg, decide_false] | simp only [Int.not_le.1 hg, decide_true] | simp only [hg, decide_true, decide_false] | skip)))))));  all_goals (refine wpQuiet_nil ?_; intro wq hgq))
          clear hcr
          go_wp2_with fail
          go_ret
          exact ⟨ret_bool HF.out.symm, hbW.trans (hgq.mono (by omega))⟩
    · have hop : op = 7 ∨ op = 8 ∨ op = 9 ∨ op = 10 := by omega
      rcases hop with rfl | rfl | rfl | rfl
      · have HF := Lib.hid (holE_cmp (v := v) (d := d) (num := num) (text := text) (a := a) (b := b) h7)
        have HC := Lib.hid hc
        clear hs hc h7 h10
        obtain ⟨b0, off, ya, hA0, hb0, hn0, hRa, -⟩ := HR.out.arg0
        dsimp only at hA0 hn0
        subst hA0
        have hn2 : n = 2 := hn0
        subst hn2
        clear hn0 hRa
        go_enter Try.func29, Try.ntmps29
        go_upto_region 1 with (fail)
        (obtain ⟨W, hWW, hbW, hzW, f1W, f2W, qfa, qfb⟩ := box2 w #[.int .i64 7, .int .i64 num, .string text, .slice (some ⟨b0, off, none⟩) 2 c] 45 #[.int .i64 v.kind, .int .i64 v.units, .int .i64 v.weekday, .int .i64 v.minute, .int .i64 v.total, .int .i64 v.spent, .string v.zone, .string v.band, .bool v.family] 29; rw [← hWW]; have qa0 : W.cell? ⟨w.heap.size, 0, none⟩ = some (.int .i64 7) := f1W 0 _ rfl; have qa1 : W.cell? ⟨w.heap.size, 1, none⟩ = some (.int .i64 num) := f1W 1 _ rfl; have qa2 : W.cell? ⟨w.heap.size, 2, none⟩ = some (.string text) := f1W 2 _ rfl; have qa3 : W.cell? ⟨w.heap.size, 3, none⟩ = some (.slice (some ⟨b0, off, none⟩) 2 c) := f1W 3 _ rfl; have qb0 : W.cell? ⟨w.heap.size + 1, 0, none⟩ = some (.int .i64 v.kind) := f2W 0 _ rfl; have qb1 : W.cell? ⟨w.heap.size + 1, 1, none⟩ = some (.int .i64 v.units) := f2W 1 _ rfl; have qb2 : W.cell? ⟨w.heap.size + 1, 2, none⟩ = some (.int .i64 v.weekday) := f2W 2 _ rfl; have qb3 : W.cell? ⟨w.heap.size + 1, 3, none⟩ = some (.int .i64 v.minute) := f2W 3 _ rfl; have qb4 : W.cell? ⟨w.heap.size + 1, 4, none⟩ = some (.int .i64 v.total) := f2W 4 _ rfl; have qb5 : W.cell? ⟨w.heap.size + 1, 5, none⟩ = some (.int .i64 v.spent) := f2W 5 _ rfl; have qb6 : W.cell? ⟨w.heap.size + 1, 6, none⟩ = some (.string v.zone) := f2W 6 _ rfl; have qb7 : W.cell? ⟨w.heap.size + 1, 7, none⟩ = some (.string v.band) := f2W 7 _ rfl; have qb8 : W.cell? ⟨w.heap.size + 1, 8, none⟩ = some (.bool v.family) := f2W 8 _ rfl; clear hWW f1W f2W)
        have HRW := Lib.hid (HR.out.on hbW)
        have hbW0 : b0 < W.heap.size := by omega
        have hgW : w.heap.size + 1 < W.heap.size := hzW
        have hgW0 : w.heap.size < W.heap.size := by omega
        obtain ⟨_, _, xa, hAa, -, -, hRa, ka0, ka1, ka2, ka3⟩ := HRW.out.arg0
        dsimp only at hAa
        injection hAa with hAa
        injection hAa with hAa1 hAa2
        subst hAa1 hAa2
        have HRA := Lib.hid hRa
        clear hRa
        go_wp2_with fail
        refine (comparison_any v d (by omega) 7 num text a b ⟨7, num, text, some ⟨b0, off, none⟩, 2, c⟩ _ HRW.out HC.out).mono ?_
        rw [← HF.out]
        rintro r w1 ⟨rfl, hb1⟩
        have hbE := hbW.trans (hb1.mono hbW.size)
        go_wp2_with fail
        go_ret
        exact ⟨rfl, hbE⟩
      · have HF := Lib.hid (holE_cmp (v := v) (d := d) (num := num) (text := text) (a := a) (b := b) h7)
        have HC := Lib.hid hc
        clear hs hc h7 h10
        obtain ⟨b0, off, ya, hA0, hb0, hn0, hRa, -⟩ := HR.out.arg0
        dsimp only at hA0 hn0
        subst hA0
        have hn2 : n = 2 := hn0
        subst hn2
        clear hn0 hRa
        go_enter Try.func29, Try.ntmps29
        go_upto_region 1 with (fail)
        (obtain ⟨W, hWW, hbW, hzW, f1W, f2W, qfa, qfb⟩ := box2 w #[.int .i64 8, .int .i64 num, .string text, .slice (some ⟨b0, off, none⟩) 2 c] 45 #[.int .i64 v.kind, .int .i64 v.units, .int .i64 v.weekday, .int .i64 v.minute, .int .i64 v.total, .int .i64 v.spent, .string v.zone, .string v.band, .bool v.family] 29; rw [← hWW]; have qa0 : W.cell? ⟨w.heap.size, 0, none⟩ = some (.int .i64 8) := f1W 0 _ rfl; have qa1 : W.cell? ⟨w.heap.size, 1, none⟩ = some (.int .i64 num) := f1W 1 _ rfl; have qa2 : W.cell? ⟨w.heap.size, 2, none⟩ = some (.string text) := f1W 2 _ rfl; have qa3 : W.cell? ⟨w.heap.size, 3, none⟩ = some (.slice (some ⟨b0, off, none⟩) 2 c) := f1W 3 _ rfl; have qb0 : W.cell? ⟨w.heap.size + 1, 0, none⟩ = some (.int .i64 v.kind) := f2W 0 _ rfl; have qb1 : W.cell? ⟨w.heap.size + 1, 1, none⟩ = some (.int .i64 v.units) := f2W 1 _ rfl; have qb2 : W.cell? ⟨w.heap.size + 1, 2, none⟩ = some (.int .i64 v.weekday) := f2W 2 _ rfl; have qb3 : W.cell? ⟨w.heap.size + 1, 3, none⟩ = some (.int .i64 v.minute) := f2W 3 _ rfl; have qb4 : W.cell? ⟨w.heap.size + 1, 4, none⟩ = some (.int .i64 v.total) := f2W 4 _ rfl; have qb5 : W.cell? ⟨w.heap.size + 1, 5, none⟩ = some (.int .i64 v.spent) := f2W 5 _ rfl; have qb6 : W.cell? ⟨w.heap.size + 1, 6, none⟩ = some (.string v.zone) := f2W 6 _ rfl; have qb7 : W.cell? ⟨w.heap.size + 1, 7, none⟩ = some (.string v.band) := f2W 7 _ rfl; have qb8 : W.cell? ⟨w.heap.size + 1, 8, none⟩ = some (.bool v.family) := f2W 8 _ rfl; clear hWW f1W f2W)
        have HRW := Lib.hid (HR.out.on hbW)
        have hbW0 : b0 < W.heap.size := by omega
        have hgW : w.heap.size + 1 < W.heap.size := hzW
        have hgW0 : w.heap.size < W.heap.size := by omega
        obtain ⟨_, _, xa, hAa, -, -, hRa, ka0, ka1, ka2, ka3⟩ := HRW.out.arg0
        dsimp only at hAa
        injection hAa with hAa
        injection hAa with hAa1 hAa2
        subst hAa1 hAa2
        have HRA := Lib.hid hRa
        clear hRa
        go_wp2_with fail
        refine (comparison_any v d (by omega) 8 num text a b ⟨8, num, text, some ⟨b0, off, none⟩, 2, c⟩ _ HRW.out HC.out).mono ?_
        rw [← HF.out]
        rintro r w1 ⟨rfl, hb1⟩
        have hbE := hbW.trans (hb1.mono hbW.size)
        go_wp2_with fail
        go_ret
        exact ⟨rfl, hbE⟩
      · have HF := Lib.hid (holE_cmp (v := v) (d := d) (num := num) (text := text) (a := a) (b := b) h7)
        have HC := Lib.hid hc
        clear hs hc h7 h10
        obtain ⟨b0, off, ya, hA0, hb0, hn0, hRa, -⟩ := HR.out.arg0
        dsimp only at hA0 hn0
        subst hA0
        have hn2 : n = 2 := hn0
        subst hn2
        clear hn0 hRa
        go_enter Try.func29, Try.ntmps29
        go_upto_region 1 with (fail)
        (obtain ⟨W, hWW, hbW, hzW, f1W, f2W, qfa, qfb⟩ := box2 w #[.int .i64 9, .int .i64 num, .string text, .slice (some ⟨b0, off, none⟩) 2 c] 45 #[.int .i64 v.kind, .int .i64 v.units, .int .i64 v.weekday, .int .i64 v.minute, .int .i64 v.total, .int .i64 v.spent, .string v.zone, .string v.band, .bool v.family] 29; rw [← hWW]; have qa0 : W.cell? ⟨w.heap.size, 0, none⟩ = some (.int .i64 9) := f1W 0 _ rfl; have qa1 : W.cell? ⟨w.heap.size, 1, none⟩ = some (.int .i64 num) := f1W 1 _ rfl; have qa2 : W.cell? ⟨w.heap.size, 2, none⟩ = some (.string text) := f1W 2 _ rfl; have qa3 : W.cell? ⟨w.heap.size, 3, none⟩ = some (.slice (some ⟨b0, off, none⟩) 2 c) := f1W 3 _ rfl; have qb0 : W.cell? ⟨w.heap.size + 1, 0, none⟩ = some (.int .i64 v.kind) := f2W 0 _ rfl; have qb1 : W.cell? ⟨w.heap.size + 1, 1, none⟩ = some (.int .i64 v.units) := f2W 1 _ rfl; have qb2 : W.cell? ⟨w.heap.size + 1, 2, none⟩ = some (.int .i64 v.weekday) := f2W 2 _ rfl; have qb3 : W.cell? ⟨w.heap.size + 1, 3, none⟩ = some (.int .i64 v.minute) := f2W 3 _ rfl; have qb4 : W.cell? ⟨w.heap.size + 1, 4, none⟩ = some (.int .i64 v.total) := f2W 4 _ rfl; have qb5 : W.cell? ⟨w.heap.size + 1, 5, none⟩ = some (.int .i64 v.spent) := f2W 5 _ rfl; have qb6 : W.cell? ⟨w.heap.size + 1, 6, none⟩ = some (.string v.zone) := f2W 6 _ rfl; have qb7 : W.cell? ⟨w.heap.size + 1, 7, none⟩ = some (.string v.band) := f2W 7 _ rfl; have qb8 : W.cell? ⟨w.heap.size + 1, 8, none⟩ = some (.bool v.family) := f2W 8 _ rfl; clear hWW f1W f2W)
        have HRW := Lib.hid (HR.out.on hbW)
        have hbW0 : b0 < W.heap.size := by omega
        have hgW : w.heap.size + 1 < W.heap.size := hzW
        have hgW0 : w.heap.size < W.heap.size := by omega
        obtain ⟨_, _, xa, hAa, -, -, hRa, ka0, ka1, ka2, ka3⟩ := HRW.out.arg0
        dsimp only at hAa
        injection hAa with hAa
        injection hAa with hAa1 hAa2
        subst hAa1 hAa2
        have HRA := Lib.hid hRa
        clear hRa
        go_wp2_with fail
        refine (comparison_any v d (by omega) 9 num text a b ⟨9, num, text, some ⟨b0, off, none⟩, 2, c⟩ _ HRW.out HC.out).mono ?_
        rw [← HF.out]
        rintro r w1 ⟨rfl, hb1⟩
        have hbE := hbW.trans (hb1.mono hbW.size)
        go_wp2_with fail
        go_ret
        exact ⟨rfl, hbE⟩
      · have HF := Lib.hid (holE_cmp (v := v) (d := d) (num := num) (text := text) (a := a) (b := b) h7)
        have HC := Lib.hid hc
        clear hs hc h7 h10
        obtain ⟨b0, off, ya, hA0, hb0, hn0, hRa, -⟩ := HR.out.arg0
        dsimp only at hA0 hn0
        subst hA0
        have hn2 : n = 2 := hn0
        subst hn2
        clear hn0 hRa
        go_enter Try.func29, Try.ntmps29
        go_upto_region 1 with (fail)
        (obtain ⟨W, hWW, hbW, hzW, f1W, f2W, qfa, qfb⟩ := box2 w #[.int .i64 10, .int .i64 num, .string text, .slice (some ⟨b0, off, none⟩) 2 c] 45 #[.int .i64 v.kind, .int .i64 v.units, .int .i64 v.weekday, .int .i64 v.minute, .int .i64 v.total, .int .i64 v.spent, .string v.zone, .string v.band, .bool v.family] 29; rw [← hWW]; have qa0 : W.cell? ⟨w.heap.size, 0, none⟩ = some (.int .i64 10) := f1W 0 _ rfl; have qa1 : W.cell? ⟨w.heap.size, 1, none⟩ = some (.int .i64 num) := f1W 1 _ rfl; have qa2 : W.cell? ⟨w.heap.size, 2, none⟩ = some (.string text) := f1W 2 _ rfl; have qa3 : W.cell? ⟨w.heap.size, 3, none⟩ = some (.slice (some ⟨b0, off, none⟩) 2 c) := f1W 3 _ rfl; have qb0 : W.cell? ⟨w.heap.size + 1, 0, none⟩ = some (.int .i64 v.kind) := f2W 0 _ rfl; have qb1 : W.cell? ⟨w.heap.size + 1, 1, none⟩ = some (.int .i64 v.units) := f2W 1 _ rfl; have qb2 : W.cell? ⟨w.heap.size + 1, 2, none⟩ = some (.int .i64 v.weekday) := f2W 2 _ rfl; have qb3 : W.cell? ⟨w.heap.size + 1, 3, none⟩ = some (.int .i64 v.minute) := f2W 3 _ rfl; have qb4 : W.cell? ⟨w.heap.size + 1, 4, none⟩ = some (.int .i64 v.total) := f2W 4 _ rfl; have qb5 : W.cell? ⟨w.heap.size + 1, 5, none⟩ = some (.int .i64 v.spent) := f2W 5 _ rfl; have qb6 : W.cell? ⟨w.heap.size + 1, 6, none⟩ = some (.string v.zone) := f2W 6 _ rfl; have qb7 : W.cell? ⟨w.heap.size + 1, 7, none⟩ = some (.string v.band) := f2W 7 _ rfl; have qb8 : W.cell? ⟨w.heap.size + 1, 8, none⟩ = some (.bool v.family) := f2W 8 _ rfl; clear hWW f1W f2W)
        have HRW := Lib.hid (HR.out.on hbW)
        have hbW0 : b0 < W.heap.size := by omega
        have hgW : w.heap.size + 1 < W.heap.size := hzW
        have hgW0 : w.heap.size < W.heap.size := by omega
        obtain ⟨_, _, xa, hAa, -, -, hRa, ka0, ka1, ka2, ka3⟩ := HRW.out.arg0
        dsimp only at hAa
        injection hAa with hAa
        injection hAa with hAa1 hAa2
        subst hAa1 hAa2
        have HRA := Lib.hid hRa
        clear hRa
        go_wp2_with fail
        refine (comparison_any v d (by omega) 10 num text a b ⟨10, num, text, some ⟨b0, off, none⟩, 2, c⟩ _ HRW.out HC.out).mono ?_
        rw [← HF.out]
        rintro r w1 ⟨rfl, hb1⟩
        have hbE := hbW.trans (hb1.mono hbW.size)
        go_wp2_with fail
        go_ret
        exact ⟨rfl, hbE⟩

end Xp
end Go.Proofs.Ytdjlfdbdhacmjaa
