/-
  Expressions: combined, sort, Expr. No condition.
-/
import Derived.Test.YtdnnnajohdohaaaExB
import Derived.Test.YtdnnnajohdohaaaRow
import Derived.BigQuiet
import Derived.StillTailTactics
import Derived.Lib.Overlaps
import Derived.Deep.DeepCutAuto
import Derived.LoopN
import Derived.Deep.CutRange
set_option maxRecDepth 100000
set_option linter.unusedVariables false
set_option linter.unusedSimpArgs false
namespace Go.Proofs.Ytdnnnajohdohaaa
open Go.RowKit

namespace Xp

def pairV (p : Int × Int) : Value := .tuple #[.int .i64 p.1, .int .i64 p.2]
set_option maxHeartbeats 2000000 in
theorem combined_any (op a b : Int) (w : World) (h : 4 ≤ op ∧ op ≤ 15) :
    Calls Try.prog 85 #[.int .i64 op, .agg #[.int .i64 a, .int .i64 b]] w fun e w' => e = .returned (pairV (comb op a b)) ∧ Below w.heap.size w w' := by
  have h12 : op = 4 ∨ op = 5 ∨ op = 6 ∨ op = 7 ∨ op = 8 ∨ op = 9 ∨ op = 10 ∨ op = 11 ∨ op = 12 ∨ op = 13 ∨ op = 14 ∨ op = 15 := by omega
  clear h
  rcases h12 with rfl | rfl | rfl | rfl | rfl | rfl | rfl | rfl | rfl | rfl | rfl | rfl
  all_goals
    go_enter Try.func85, Try.ntmps85
    go_wp2_with ((with_reducible refine wp_region_quiet_lit ?_ ?_ ?_); kernel_rfl; kernel_rfl; (repeat (any_goals (first | go_big_quiet_step (fail) | (refine wpQuiet_step (fun K hK => ?_); go_simp; (first | (refine hK _ ?_; clear hK K) | (split <;> rename_i hg <;> (refine hK _ ?_; clear hK K) <;> (try simp only [Bool.not_eq_true] at hg) <;> (first | simp only [Int.not_lt.2 hg, decide_false] | simp only [Int.not_le.1 hg, decide_true] | simp only [hg, decide_true, decide_false] | skip))))))); all_goals (refine wpQuiet_nil ?_; intro _ hw'; obtain ⟨nq, hw''⟩ := hw'; subst hw''))
    all_goals
      go_ret2
      refine ⟨?_, by (repeat (first | exact Below.refl _ _ | exact Below.refl _ _ | (refine Below.alloc ?_ (by (try simp) <;> omega) _) | (refine Below.setCell ?_ (by (try simp) <;> omega) _) | refine Below.drew ?_ | refine below_drewN ?_ _))⟩
      simp_all [pairV, comb, combOk]

/-- what the operands' sorts are, where there is no error -/
theorem srt_val {d : Nat} {e : Ex} (h : (srt d e).2 ≠ 0) : (srt d e).1 = 0 := by
  rcases srt_res d e with ⟨h1, _⟩ | ⟨_, h2⟩
  · exact absurd h1 h
  · exact h2

theorem sort_shape {op : Int} {args : List Ex} (h : arity op = (args.length : Int)) : (args = [] ∧ (op = 1 ∨ op = 2 ∨ op = 3)) ∨ (∃ a, args = [a] ∧ op = 4) ∨ (∃ a b, args = [a, b] ∧ 5 ≤ op ∧ op ≤ 15) := by
  unfold arity at h
  match args, h with
  | [], h =>
    refine .inl ⟨rfl, ?_⟩
    simp only [List.length_nil] at h
    (repeat' split at h) <;> omega
  | [a], h =>
    refine .inr (.inl ⟨a, rfl, ?_⟩)
    simp only [List.length_cons, List.length_nil] at h
    (repeat' split at h) <;> omega
  | [a, b], h =>
    refine .inr (.inr ⟨a, b, rfl, ?_⟩)
    simp only [List.length_cons, List.length_nil] at h
    (repeat' split at h) <;> omega
  | a :: b :: c :: l, h =>
    exfalso
    simp only [List.length_cons] at h
    (repeat' split at h) <;> omega

set_option maxHeartbeats 4000000 in
theorem sort_any : ∀ (d : Nat) (e : Ex) (x : It) (lv : Int) (w : World), Rp w e x → lv = 17 - (d : Int) → d ≤ 16 →
    Calls Try.prog 77 #[x.val, .int .i64 lv] w fun r w' => r = .returned (pairV (srt d e)) ∧ Below w.heap.size w w' := by
  intro d
  induction d with
  | zero =>
    intro e x lv w h hl hd
    obtain rfl : lv = 17 := by omega
    obtain ⟨op, num, text, A, n, c⟩ := x
    have HE := Lib.hid (show srt 0 e = (0, 24) by rfl)
    clear hl
    unfold It.val
    go_enter Try.func77, Try.ntmps77
    go_wp2_with fail
    go_ret2
    exact ⟨by rw [HE.out]; rfl, by (repeat (first | exact Below.refl _ _ | exact Below.refl _ _ | (refine Below.alloc ?_ (by (try simp) <;> omega) _) | (refine Below.setCell ?_ (by (try simp) <;> omega) _) | refine Below.drew ?_ | refine below_drewN ?_ _))⟩
  | succ d ih =>
    intro e x lv w h hl hd
    obtain ⟨op, num, text, args, A, n, c, items, rfl, rfl, hsl, hil, hnil, hch⟩ := h.inv
    have hn : n = args.length := by rw [← hsl.len, hil]
    have hlv1 : 1 ≤ lv := by omega
    have hlv2 : lv ≤ 16 := by omega
    have IH := Lib.hid ih
    have HL := Lib.hid hl
    have HR := Lib.hid h
    clear ih hl h hsl hil hch
    unfold It.val
    by_cases har : arity op = (args.length : Int)
    · have hq : ((arity op) != (n : Int)) = false := by rw [har, hn]; exact bne_self_eq_false _
      rcases sort_shape har with ⟨rfl, hop⟩ | ⟨a, rfl, rfl⟩ | ⟨a, b, rfl, h5, h15⟩
      · have HE := Lib.hid (srt_leaf (d := d) (num := num) (text := text) hop)
        clear har hn
        rcases hop with rfl | rfl | rfl
        · have HE1 := HE
          go_enter Try.func77, Try.ntmps77
          go_upto_region 1 with (fail)
          (obtain ⟨W, hWW, hbW, hzW, f1W, qfa⟩ := box1 w #[.int .i64 1, .int .i64 num, .string text, .slice A n c] 60; rw [← hWW]; have qa0 : W.cell? ⟨w.heap.size, 0, none⟩ = some (.int .i64 1) := f1W 0 _ rfl; have qa1 : W.cell? ⟨w.heap.size, 1, none⟩ = some (.int .i64 num) := f1W 1 _ rfl; have qa2 : W.cell? ⟨w.heap.size, 2, none⟩ = some (.string text) := f1W 2 _ rfl; have qa3 : W.cell? ⟨w.heap.size, 3, none⟩ = some (.slice A n c) := f1W 3 _ rfl; clear hWW f1W)
          have HRW := Lib.hid (HR.out.on hbW)
          go_wp2_with fail
          ((with_reducible refine wp_region_class (Below W.heap.size W) ?_ ?_ ?_ ?_); kernel_rfl; kernel_rfl; (exact (Below.refl _ _).drew); (intro hnonemp); (have rz := fun z : Wd (Below W.heap.size W) => z.cells); (repeat (any_goals (first | go_big_quiet_step (((go_at_call 83; (refine (operands_any _ _).mono ?_); rintro e w' ⟨rfl, rfl⟩; exact ⟨rfl, ⟨_, Wd.h _⟩, rfl⟩))) | (refine wpQuiet_step (fun K hK => ?_); go_simp; (first | (refine hK _ ?_; clear hK K) | (split <;> rename_i hg <;> (refine hK _ ?_; clear hK K) <;> (try simp only [Bool.not_eq_true] at hg) <;> (first | simp only [Int.not_lt.2 hg, decide_false] | simp only [Int.not_le.1 hg, decide_true] | simp only [hg, decide_true, decide_false] | skip)))))));  all_goals (refine wpQuiet_nil ?_; intro wq hgq))
          have hzq := hgq.size
          have hzw : w.heap.size < wq.heap.size := by omega
          have hbq := hbW.trans (hgq.mono (Nat.le_of_lt hzW))
          obtain ⟨hcq, hfq⟩ := bcell hgq
          go_wp2_with fail
          refine (within_any 1099511627776 _ 1 1 [num] _ (Sl.new wq #[.int .i64 num] 3 wq.heap.size rfl [num] 1 rfl (by unfold maxLen; decide) rfl)).mono ?_
          rintro e w' ⟨rfl, rfl⟩
          cases hin : inB 1099511627776 num
          · have hall : ([num].all (inB 1099511627776)) = false := by simp [hin]
            have HF := Lib.hid (show srt (d + 1) (.mk 1 num text []) = (0, 6) by rw [HE.out]; unfold leaf; rw [if_pos rfl, if_neg]; simpa [inB] using hin)
            rw [hall]
            go_wp2_with fail
            go_ret2
            exact ⟨congrArg Ending.returned (by rw [HF.out]; rfl), by (repeat (first | exact hbq | exact Below.refl _ _ | (refine Below.alloc ?_ (by (try simp) <;> omega) _) | (refine Below.setCell ?_ (by (try simp) <;> omega) _) | refine Below.drew ?_ | refine below_drewN ?_ _))⟩
          · have hall : ([num].all (inB 1099511627776)) = true := by simp [hin]
            have HF := Lib.hid (show srt (d + 1) (.mk 1 num text []) = (1, 0) by rw [HE.out]; unfold leaf; rw [if_pos rfl, if_pos]; simpa [inB] using hin)
            rw [hall]
            go_wp2_with fail
            go_ret2
            exact ⟨congrArg Ending.returned (by rw [HF.out]; rfl), by (repeat (first | exact hbq | exact Below.refl _ _ | (refine Below.alloc ?_ (by (try simp) <;> omega) _) | (refine Below.setCell ?_ (by (try simp) <;> omega) _) | refine Below.drew ?_ | refine below_drewN ?_ _))⟩
        · by_cases ht : 200 < text.size
          · have HF := Lib.hid (show srt (d + 1) (.mk 2 num text []) = (0, 5) by rw [HE.out]; unfold leaf; rw [if_neg (by decide), if_pos rfl, if_pos ht])
            have f1 : decide ((text.size : Int) > 200) = true := by simp; omega
            have f2 : decide (200 < (text.size : Int)) = true := by simp; omega
            go_enter Try.func77, Try.ntmps77
            go_upto_region 1 with (fail)
            (obtain ⟨W, hWW, hbW, hzW, f1W, qfa⟩ := box1 w #[.int .i64 2, .int .i64 num, .string text, .slice A n c] 60; rw [← hWW]; have qa0 : W.cell? ⟨w.heap.size, 0, none⟩ = some (.int .i64 2) := f1W 0 _ rfl; have qa1 : W.cell? ⟨w.heap.size, 1, none⟩ = some (.int .i64 num) := f1W 1 _ rfl; have qa2 : W.cell? ⟨w.heap.size, 2, none⟩ = some (.string text) := f1W 2 _ rfl; have qa3 : W.cell? ⟨w.heap.size, 3, none⟩ = some (.slice A n c) := f1W 3 _ rfl; clear hWW f1W)
            have HRW := Lib.hid (HR.out.on hbW)
            go_wp2_with fail
            ((with_reducible refine wp_region_class (Below W.heap.size W) ?_ ?_ ?_ ?_); kernel_rfl; kernel_rfl; (exact (Below.refl _ _).drew); (intro hnonemp); (have rz := fun z : Wd (Below W.heap.size W) => z.cells); (repeat (any_goals (first | go_big_quiet_step (((go_at_call 83; (refine (operands_any _ _).mono ?_); rintro e w' ⟨rfl, rfl⟩; exact ⟨rfl, ⟨_, Wd.h _⟩, rfl⟩))) | (refine wpQuiet_step (fun K hK => ?_); go_simp; (first | (refine hK _ ?_; clear hK K) | (split <;> rename_i hg <;> (refine hK _ ?_; clear hK K) <;> (try simp only [Bool.not_eq_true] at hg) <;> (first | simp only [Int.not_lt.2 hg, decide_false] | simp only [Int.not_le.1 hg, decide_true] | simp only [hg, decide_true, decide_false] | skip)))))));  all_goals (refine wpQuiet_nil ?_; intro wq hgq))
            have hzq := hgq.size
            have hzw : w.heap.size < wq.heap.size := by omega
            have hbq := hbW.trans (hgq.mono (Nat.le_of_lt hzW))
            obtain ⟨hcq, hfq⟩ := bcell hgq
            go_wp2_with fail
            go_ret2
            exact ⟨congrArg Ending.returned (by rw [HF.out]; rfl), by (repeat (first | exact hbq | exact Below.refl _ _ | (refine Below.alloc ?_ (by (try simp) <;> omega) _) | (refine Below.setCell ?_ (by (try simp) <;> omega) _) | refine Below.drew ?_ | refine below_drewN ?_ _))⟩
          · have HF := Lib.hid (show srt (d + 1) (.mk 2 num text []) = (2, 0) by rw [HE.out]; unfold leaf; rw [if_neg (by decide), if_pos rfl, if_neg ht])
            have f1 : decide ((text.size : Int) > 200) = false := by simp; omega
            have f2 : decide (200 < (text.size : Int)) = false := by simp; omega
            go_enter Try.func77, Try.ntmps77
            go_upto_region 1 with (fail)
            (obtain ⟨W, hWW, hbW, hzW, f1W, qfa⟩ := box1 w #[.int .i64 2, .int .i64 num, .string text, .slice A n c] 60; rw [← hWW]; have qa0 : W.cell? ⟨w.heap.size, 0, none⟩ = some (.int .i64 2) := f1W 0 _ rfl; have qa1 : W.cell? ⟨w.heap.size, 1, none⟩ = some (.int .i64 num) := f1W 1 _ rfl; have qa2 : W.cell? ⟨w.heap.size, 2, none⟩ = some (.string text) := f1W 2 _ rfl; have qa3 : W.cell? ⟨w.heap.size, 3, none⟩ = some (.slice A n c) := f1W 3 _ rfl; clear hWW f1W)
            have HRW := Lib.hid (HR.out.on hbW)
            go_wp2_with fail
            ((with_reducible refine wp_region_class (Below W.heap.size W) ?_ ?_ ?_ ?_); kernel_rfl; kernel_rfl; (exact (Below.refl _ _).drew); (intro hnonemp); (have rz := fun z : Wd (Below W.heap.size W) => z.cells); (repeat (any_goals (first | go_big_quiet_step (((go_at_call 83; (refine (operands_any _ _).mono ?_); rintro e w' ⟨rfl, rfl⟩; exact ⟨rfl, ⟨_, Wd.h _⟩, rfl⟩))) | (refine wpQuiet_step (fun K hK => ?_); go_simp; (first | (refine hK _ ?_; clear hK K) | (split <;> rename_i hg <;> (refine hK _ ?_; clear hK K) <;> (try simp only [Bool.not_eq_true] at hg) <;> (first | simp only [Int.not_lt.2 hg, decide_false] | simp only [Int.not_le.1 hg, decide_true] | simp only [hg, decide_true, decide_false] | skip)))))));  all_goals (refine wpQuiet_nil ?_; intro wq hgq))
            have hzq := hgq.size
            have hzw : w.heap.size < wq.heap.size := by omega
            have hbq := hbW.trans (hgq.mono (Nat.le_of_lt hzW))
            obtain ⟨hcq, hfq⟩ := bcell hgq
            go_wp2_with fail
            go_ret2
            exact ⟨congrArg Ending.returned (by rw [HF.out]; rfl), by (repeat (first | exact hbq | exact Below.refl _ _ | (refine Below.alloc ?_ (by (try simp) <;> omega) _) | (refine Below.setCell ?_ (by (try simp) <;> omega) _) | refine Below.drew ?_ | refine below_drewN ?_ _))⟩
        · by_cases ht : attrSort text = 0
          · have HF := Lib.hid (show srt (d + 1) (.mk 3 num text []) = (0, 11) by rw [HE.out]; unfold leaf; rw [if_neg (by decide), if_neg (by decide), if_neg (by simpa using ht)])
            have HT := Lib.hid ht
            clear ht
            go_enter Try.func77, Try.ntmps77
            go_upto_region 1 with (fail)
            (obtain ⟨W, hWW, hbW, hzW, f1W, qfa⟩ := box1 w #[.int .i64 3, .int .i64 num, .string text, .slice A n c] 60; rw [← hWW]; have qa0 : W.cell? ⟨w.heap.size, 0, none⟩ = some (.int .i64 3) := f1W 0 _ rfl; have qa1 : W.cell? ⟨w.heap.size, 1, none⟩ = some (.int .i64 num) := f1W 1 _ rfl; have qa2 : W.cell? ⟨w.heap.size, 2, none⟩ = some (.string text) := f1W 2 _ rfl; have qa3 : W.cell? ⟨w.heap.size, 3, none⟩ = some (.slice A n c) := f1W 3 _ rfl; clear hWW f1W)
            have HRW := Lib.hid (HR.out.on hbW)
            go_wp2_with fail
            ((with_reducible refine wp_region_class (Below W.heap.size W) ?_ ?_ ?_ ?_); kernel_rfl; kernel_rfl; (exact (Below.refl _ _).drew); (intro hnonemp); (have rz := fun z : Wd (Below W.heap.size W) => z.cells); (repeat (any_goals (first | go_big_quiet_step (((go_at_call 83; (refine (operands_any _ _).mono ?_); rintro e w' ⟨rfl, rfl⟩; exact ⟨rfl, ⟨_, Wd.h _⟩, rfl⟩))) | (refine wpQuiet_step (fun K hK => ?_); go_simp; (first | (refine hK _ ?_; clear hK K) | (split <;> rename_i hg <;> (refine hK _ ?_; clear hK K) <;> (try simp only [Bool.not_eq_true] at hg) <;> (first | simp only [Int.not_lt.2 hg, decide_false] | simp only [Int.not_le.1 hg, decide_true] | simp only [hg, decide_true, decide_false] | skip)))))));  all_goals (refine wpQuiet_nil ?_; intro wq hgq))
            have hzq := hgq.size
            have hzw : w.heap.size < wq.heap.size := by omega
            have hbq := hbW.trans (hgq.mono (Nat.le_of_lt hzW))
            obtain ⟨hcq, hfq⟩ := bcell hgq
            go_wp2_with (go_at_call 84; (refine (attribute_any _ _).mono ?_); rw [HT.out]; rintro e w' ⟨rfl, rfl⟩)
            go_ret2
            exact ⟨congrArg Ending.returned (by rw [HF.out]; rfl), by (repeat (first | exact hbq | exact Below.refl _ _ | (refine Below.alloc ?_ (by (try simp) <;> omega) _) | (refine Below.setCell ?_ (by (try simp) <;> omega) _) | refine Below.drew ?_ | refine below_drewN ?_ _))⟩
          · have HF := Lib.hid (show srt (d + 1) (.mk 3 num text []) = (attrSort text, 0) by rw [HE.out]; unfold leaf; rw [if_neg (by decide), if_neg (by decide), if_pos (by simpa using ht)])
            have ht2 : ((attrSort text) != 0) = true := by simpa using ht
            clear ht
            go_enter Try.func77, Try.ntmps77
            go_upto_region 1 with (fail)
            (obtain ⟨W, hWW, hbW, hzW, f1W, qfa⟩ := box1 w #[.int .i64 3, .int .i64 num, .string text, .slice A n c] 60; rw [← hWW]; have qa0 : W.cell? ⟨w.heap.size, 0, none⟩ = some (.int .i64 3) := f1W 0 _ rfl; have qa1 : W.cell? ⟨w.heap.size, 1, none⟩ = some (.int .i64 num) := f1W 1 _ rfl; have qa2 : W.cell? ⟨w.heap.size, 2, none⟩ = some (.string text) := f1W 2 _ rfl; have qa3 : W.cell? ⟨w.heap.size, 3, none⟩ = some (.slice A n c) := f1W 3 _ rfl; clear hWW f1W)
            have HRW := Lib.hid (HR.out.on hbW)
            go_wp2_with fail
            ((with_reducible refine wp_region_class (Below W.heap.size W) ?_ ?_ ?_ ?_); kernel_rfl; kernel_rfl; (exact (Below.refl _ _).drew); (intro hnonemp); (have rz := fun z : Wd (Below W.heap.size W) => z.cells); (repeat (any_goals (first | go_big_quiet_step (((go_at_call 83; (refine (operands_any _ _).mono ?_); rintro e w' ⟨rfl, rfl⟩; exact ⟨rfl, ⟨_, Wd.h _⟩, rfl⟩))) | (refine wpQuiet_step (fun K hK => ?_); go_simp; (first | (refine hK _ ?_; clear hK K) | (split <;> rename_i hg <;> (refine hK _ ?_; clear hK K) <;> (try simp only [Bool.not_eq_true] at hg) <;> (first | simp only [Int.not_lt.2 hg, decide_false] | simp only [Int.not_le.1 hg, decide_true] | simp only [hg, decide_true, decide_false] | skip)))))));  all_goals (refine wpQuiet_nil ?_; intro wq hgq))
            have hzq := hgq.size
            have hzw : w.heap.size < wq.heap.size := by omega
            have hbq := hbW.trans (hgq.mono (Nat.le_of_lt hzW))
            obtain ⟨hcq, hfq⟩ := bcell hgq
            go_wp2_with (go_at_call 84; (refine (attribute_any _ _).mono ?_); rintro e w' ⟨rfl, rfl⟩)
            go_ret2
            exact ⟨congrArg Ending.returned (by rw [HF.out]; rfl), by (repeat (first | exact hbq | exact Below.refl _ _ | (refine Below.alloc ?_ (by (try simp) <;> omega) _) | (refine Below.setCell ?_ (by (try simp) <;> omega) _) | refine Below.drew ?_ | refine below_drewN ?_ _))⟩
      · have HE := Lib.hid (srt_not (d := d) (num := num) (text := text) (a := a))
        obtain ⟨b0, off, ya, hA0, hb0, hn0, hRa, -⟩ := HR.out.arg0
        dsimp only at hA0 hn0
        subst hA0
        have hn2 : n = 1 := hn0
        subst hn2
        clear har hn hn0 hRa
        go_enter Try.func77, Try.ntmps77
        go_upto_region 1 with (fail)
        (obtain ⟨W, hWW, hbW, hzW, f1W, qfa⟩ := box1 w #[.int .i64 4, .int .i64 num, .string text, .slice (some ⟨b0, off, none⟩) 1 c] 60; rw [← hWW]; have qa0 : W.cell? ⟨w.heap.size, 0, none⟩ = some (.int .i64 4) := f1W 0 _ rfl; have qa1 : W.cell? ⟨w.heap.size, 1, none⟩ = some (.int .i64 num) := f1W 1 _ rfl; have qa2 : W.cell? ⟨w.heap.size, 2, none⟩ = some (.string text) := f1W 2 _ rfl; have qa3 : W.cell? ⟨w.heap.size, 3, none⟩ = some (.slice (some ⟨b0, off, none⟩) 1 c) := f1W 3 _ rfl; clear hWW f1W)
        have HRW := Lib.hid (HR.out.on hbW)
        have hbW0 : b0 < W.heap.size := by omega
        obtain ⟨_, _, xa, hAa, -, -, hRa, ka0, ka1, ka2, ka3⟩ := HRW.out.arg0
        dsimp only at hAa
        injection hAa with hAa
        injection hAa with hAa1 hAa2
        subst hAa1 hAa2
        have HRA := Lib.hid hRa
        clear hRa
        go_wp2_with fail
        ((with_reducible refine wp_region_class (Below W.heap.size W) ?_ ?_ ?_ ?_); kernel_rfl; kernel_rfl; (exact (Below.refl _ _).drew); (intro hnonemp); (have rz := fun z : Wd (Below W.heap.size W) => z.cells); (repeat (any_goals (first | go_big_quiet_step (((go_at_call 83; (refine (operands_any _ _).mono ?_); rintro e w' ⟨rfl, rfl⟩; exact ⟨rfl, ⟨_, Wd.h _⟩, rfl⟩))) | (refine wpQuiet_step (fun K hK => ?_); go_simp; (first | (refine hK _ ?_; clear hK K) | (split <;> rename_i hg <;> (refine hK _ ?_; clear hK K) <;> (try simp only [Bool.not_eq_true] at hg) <;> (first | simp only [Int.not_lt.2 hg, decide_false] | simp only [Int.not_le.1 hg, decide_true] | simp only [hg, decide_true, decide_false] | skip)))))));  all_goals (refine wpQuiet_nil ?_; intro wq hgq))
        (have hzhgq := hgq.size; replace qa0 := (hgq.cell (p := ⟨_, _, none⟩) (by (try dsimp only) <;> omega)).trans qa0; replace qa1 := (hgq.cell (p := ⟨_, _, none⟩) (by (try dsimp only) <;> omega)).trans qa1; replace qa2 := (hgq.cell (p := ⟨_, _, none⟩) (by (try dsimp only) <;> omega)).trans qa2; replace qa3 := (hgq.cell (p := ⟨_, _, none⟩) (by (try dsimp only) <;> omega)).trans qa3; replace ka0 := (hgq.cell (p := ⟨_, _, none⟩) (by (try dsimp only) <;> omega)).trans ka0; replace ka1 := (hgq.cell (p := ⟨_, _, none⟩) (by (try dsimp only) <;> omega)).trans ka1; replace ka2 := (hgq.cell (p := ⟨_, _, none⟩) (by (try dsimp only) <;> omega)).trans ka2; replace ka3 := (hgq.cell (p := ⟨_, _, none⟩) (by (try dsimp only) <;> omega)).trans ka3; replace HRA := Lib.hid (HRA.out.on hgq); replace hbW := Below.trans hbW (Below.mono hgq (by omega)))
        go_upto_region 20 with (fail)
        (obtain ⟨W2, hWW2, hbW2, hzW2, f1W2, pfa⟩ := box1 wq #[.int .i64 0, .int .i64 0] 115; rw [← hWW2]; have pa0 : W2.cell? ⟨wq.heap.size, 0, none⟩ = some (.int .i64 0) := f1W2 0 _ rfl; have pa1 : W2.cell? ⟨wq.heap.size, 1, none⟩ = some (.int .i64 0) := f1W2 1 _ rfl; clear hWW2 f1W2)
        (have hzhbW2 := hbW2.size; replace qa0 := (hbW2.cell (p := ⟨_, _, none⟩) (by (try dsimp only) <;> omega)).trans qa0; replace qa1 := (hbW2.cell (p := ⟨_, _, none⟩) (by (try dsimp only) <;> omega)).trans qa1; replace qa2 := (hbW2.cell (p := ⟨_, _, none⟩) (by (try dsimp only) <;> omega)).trans qa2; replace qa3 := (hbW2.cell (p := ⟨_, _, none⟩) (by (try dsimp only) <;> omega)).trans qa3; replace ka0 := (hbW2.cell (p := ⟨_, _, none⟩) (by (try dsimp only) <;> omega)).trans ka0; replace ka1 := (hbW2.cell (p := ⟨_, _, none⟩) (by (try dsimp only) <;> omega)).trans ka1; replace ka2 := (hbW2.cell (p := ⟨_, _, none⟩) (by (try dsimp only) <;> omega)).trans ka2; replace ka3 := (hbW2.cell (p := ⟨_, _, none⟩) (by (try dsimp only) <;> omega)).trans ka3)
        have T := hbW2
        go_wp2_with fail
        refine wp_loop_rounds 2 ?_
        rw [rounds_succ]
        go_wp2_with fail
        (obtain ⟨W3, hWW3, hbW3, hzW3, f1W3, rfa⟩ := box1 W2 #[.int .i64 xa.op, .int .i64 xa.num, .string xa.text, .slice xa.A xa.n xa.c] 60; rw [← hWW3]; have ra0 : W3.cell? ⟨W2.heap.size, 0, none⟩ = some (.int .i64 xa.op) := f1W3 0 _ rfl; have ra1 : W3.cell? ⟨W2.heap.size, 1, none⟩ = some (.int .i64 xa.num) := f1W3 1 _ rfl; have ra2 : W3.cell? ⟨W2.heap.size, 2, none⟩ = some (.string xa.text) := f1W3 2 _ rfl; have ra3 : W3.cell? ⟨W2.heap.size, 3, none⟩ = some (.slice xa.A xa.n xa.c) := f1W3 3 _ rfl; clear hWW3 f1W3)
        (have hzhbW3 := hbW3.size; replace qa0 := (hbW3.cell (p := ⟨_, _, none⟩) (by (try dsimp only) <;> omega)).trans qa0; replace qa1 := (hbW3.cell (p := ⟨_, _, none⟩) (by (try dsimp only) <;> omega)).trans qa1; replace qa2 := (hbW3.cell (p := ⟨_, _, none⟩) (by (try dsimp only) <;> omega)).trans qa2; replace qa3 := (hbW3.cell (p := ⟨_, _, none⟩) (by (try dsimp only) <;> omega)).trans qa3; replace ka0 := (hbW3.cell (p := ⟨_, _, none⟩) (by (try dsimp only) <;> omega)).trans ka0; replace ka1 := (hbW3.cell (p := ⟨_, _, none⟩) (by (try dsimp only) <;> omega)).trans ka1; replace ka2 := (hbW3.cell (p := ⟨_, _, none⟩) (by (try dsimp only) <;> omega)).trans ka2; replace ka3 := (hbW3.cell (p := ⟨_, _, none⟩) (by (try dsimp only) <;> omega)).trans ka3; replace pa0 := (hbW3.cell (p := ⟨_, _, none⟩) (by (try dsimp only) <;> omega)).trans pa0; replace pa1 := (hbW3.cell (p := ⟨_, _, none⟩) (by (try dsimp only) <;> omega)).trans pa1; replace pfa := fun j => (hbW3.frozen (p := ⟨_, j, none⟩) (by (try dsimp only) <;> omega)).trans (pfa j); replace T := Below.trans T (Below.mono hbW3 (by omega)))
        clear ra0 ra1 ra2 ra3 rfa
        refine (IH.out a xa (lv + 1) _ (HRA.out.on T) (by have := HL.out; omega) (by omega)).mono ?_
        obtain ⟨⟨s1, x1⟩, hhp1⟩ : ∃ p, srt d a = p := ⟨_, rfl⟩
        rw [hhp1]
        rintro e w3 ⟨rfl, hbw3⟩
        (have hzhbw3 := hbw3.size; replace qa0 := (hbw3.cell (p := ⟨_, _, none⟩) (by (try dsimp only) <;> omega)).trans qa0; replace qa1 := (hbw3.cell (p := ⟨_, _, none⟩) (by (try dsimp only) <;> omega)).trans qa1; replace qa2 := (hbw3.cell (p := ⟨_, _, none⟩) (by (try dsimp only) <;> omega)).trans qa2; replace qa3 := (hbw3.cell (p := ⟨_, _, none⟩) (by (try dsimp only) <;> omega)).trans qa3; replace ka0 := (hbw3.cell (p := ⟨_, _, none⟩) (by (try dsimp only) <;> omega)).trans ka0; replace ka1 := (hbw3.cell (p := ⟨_, _, none⟩) (by (try dsimp only) <;> omega)).trans ka1; replace ka2 := (hbw3.cell (p := ⟨_, _, none⟩) (by (try dsimp only) <;> omega)).trans ka2; replace ka3 := (hbw3.cell (p := ⟨_, _, none⟩) (by (try dsimp only) <;> omega)).trans ka3; replace pa0 := (hbw3.cell (p := ⟨_, _, none⟩) (by (try dsimp only) <;> omega)).trans pa0; replace pa1 := (hbw3.cell (p := ⟨_, _, none⟩) (by (try dsimp only) <;> omega)).trans pa1; replace pfa := fun j => (hbw3.frozen (p := ⟨_, j, none⟩) (by (try dsimp only) <;> omega)).trans (pfa j); replace T := Below.trans T (Below.mono hbw3 (by omega)))
        have HP1 := Lib.hid hhp1
        clear hhp1
        unfold pairV
        dsimp only
        rcases (Decidable.em (x1 = 0)).symm with hx1 | hx1
        · have hx1' : (x1 != 0) = true := by simpa using hx1
          have HF := Lib.hid (show srt (d + 1) (.mk 4 num text [a]) = (0, x1) by rw [HE.out]; rw [HP1.out]; unfold un; rw [if_pos hx1])
          clear hx1
          go_wp2_with fail
          go_ret2
          exact ⟨congrArg Ending.returned (by rw [HF.out]; rfl), hbW.trans (T.mono (by omega))⟩
        subst hx1
        go_wp2_with fail
        (obtain ⟨W4, hSW4, hnW4, hfarW4, hfrW4, hblW4, hszW4⟩ := set1 (wq.heap.size) 0 (u := .int .i64 s1) pa0; rw [← hSW4]; clear hSW4; replace pa0 := hnW4; clear hnW4; replace qa0 := (hfarW4 _ _ (by omega)).trans qa0; replace qa1 := (hfarW4 _ _ (by omega)).trans qa1; replace qa2 := (hfarW4 _ _ (by omega)).trans qa2; replace qa3 := (hfarW4 _ _ (by omega)).trans qa3; replace ka0 := (hfarW4 _ _ (by omega)).trans ka0; replace ka1 := (hfarW4 _ _ (by omega)).trans ka1; replace ka2 := (hfarW4 _ _ (by omega)).trans ka2; replace ka3 := (hfarW4 _ _ (by omega)).trans ka3; replace pa1 := (hfarW4 _ _ (by omega)).trans pa1; replace pfa := fun j => (hfrW4 _ j).trans (pfa j); replace T := Below.trans T (hblW4 _ (by omega)); clear hfarW4 hfrW4 hblW4)
        rw [rounds_succ]
        have HF := Lib.hid (show srt (d + 1) (.mk 4 num text [a]) = comb 4 s1 0 by rw [HE.out, HP1.out]; unfold un; rw [if_neg (by simp)])
        go_wp2_with fail
        refine (combined_any 4 s1 0 _ ⟨by omega, by omega⟩).mono ?_
        rw [← HF.out]
        rintro e w7 ⟨rfl, hb7⟩
        unfold pairV
        have hbT := hbW.trans (T.mono (by omega))
        have hzz := hbT.size
        go_wp2_with fail
        go_ret2
        exact ⟨rfl, hbT.trans (hb7.mono hzz)⟩
      · have HE := Lib.hid (srt_bin (d := d) (num := num) (text := text) (a := a) (b := b) ⟨h5, h15⟩)
        obtain ⟨b0, off, ya, hA0, hb0, hn0, hRa, -⟩ := HR.out.arg0
        dsimp only at hA0 hn0
        subst hA0
        have hn2 : n = 2 := hn0
        subst hn2
        clear har hn hn0 hRa
        go_enter Try.func77, Try.ntmps77
        go_upto_region 1 with (fail)
        (obtain ⟨W, hWW, hbW, hzW, f1W, qfa⟩ := box1 w #[.int .i64 op, .int .i64 num, .string text, .slice (some ⟨b0, off, none⟩) 2 c] 60; rw [← hWW]; have qa0 : W.cell? ⟨w.heap.size, 0, none⟩ = some (.int .i64 op) := f1W 0 _ rfl; have qa1 : W.cell? ⟨w.heap.size, 1, none⟩ = some (.int .i64 num) := f1W 1 _ rfl; have qa2 : W.cell? ⟨w.heap.size, 2, none⟩ = some (.string text) := f1W 2 _ rfl; have qa3 : W.cell? ⟨w.heap.size, 3, none⟩ = some (.slice (some ⟨b0, off, none⟩) 2 c) := f1W 3 _ rfl; clear hWW f1W)
        have HRW := Lib.hid (HR.out.on hbW)
        have hbW0 : b0 < W.heap.size := by omega
        obtain ⟨_, _, xa, hAa, -, -, hRa, ka0, ka1, ka2, ka3⟩ := HRW.out.arg0
        dsimp only at hAa
        injection hAa with hAa
        injection hAa with hAa1 hAa2
        subst hAa1 hAa2
        obtain ⟨xb, hRb, kb0, kb1, kb2, kb3⟩ := HRW.out.arg1 rfl
        have HRA := Lib.hid hRa
        have HRB := Lib.hid hRb
        clear hRa hRb
        go_wp2_with fail
        ((with_reducible refine wp_region_class (Below W.heap.size W) ?_ ?_ ?_ ?_); kernel_rfl; kernel_rfl; (exact (Below.refl _ _).drew); (intro hnonemp); (have rz := fun z : Wd (Below W.heap.size W) => z.cells); (repeat (any_goals (first | go_big_quiet_step (((go_at_call 83; (refine (operands_any _ _).mono ?_); rintro e w' ⟨rfl, rfl⟩; exact ⟨rfl, ⟨_, Wd.h _⟩, rfl⟩))) | (refine wpQuiet_step (fun K hK => ?_); go_simp; (first | (refine hK _ ?_; clear hK K) | (split <;> rename_i hg <;> (refine hK _ ?_; clear hK K) <;> (try simp only [Bool.not_eq_true] at hg) <;> (first | simp only [Int.not_lt.2 hg, decide_false] | simp only [Int.not_le.1 hg, decide_true] | simp only [hg, decide_true, decide_false] | skip)))))));  all_goals (refine wpQuiet_nil ?_; intro wq hgq))
        (have hzhgq := hgq.size; replace qa0 := (hgq.cell (p := ⟨_, _, none⟩) (by (try dsimp only) <;> omega)).trans qa0; replace qa1 := (hgq.cell (p := ⟨_, _, none⟩) (by (try dsimp only) <;> omega)).trans qa1; replace qa2 := (hgq.cell (p := ⟨_, _, none⟩) (by (try dsimp only) <;> omega)).trans qa2; replace qa3 := (hgq.cell (p := ⟨_, _, none⟩) (by (try dsimp only) <;> omega)).trans qa3; replace ka0 := (hgq.cell (p := ⟨_, _, none⟩) (by (try dsimp only) <;> omega)).trans ka0; replace ka1 := (hgq.cell (p := ⟨_, _, none⟩) (by (try dsimp only) <;> omega)).trans ka1; replace ka2 := (hgq.cell (p := ⟨_, _, none⟩) (by (try dsimp only) <;> omega)).trans ka2; replace ka3 := (hgq.cell (p := ⟨_, _, none⟩) (by (try dsimp only) <;> omega)).trans ka3; replace kb0 := (hgq.cell (p := ⟨_, _, none⟩) (by (try dsimp only) <;> omega)).trans kb0; replace kb1 := (hgq.cell (p := ⟨_, _, none⟩) (by (try dsimp only) <;> omega)).trans kb1; replace kb2 := (hgq.cell (p := ⟨_, _, none⟩) (by (try dsimp only) <;> omega)).trans kb2; replace kb3 := (hgq.cell (p := ⟨_, _, none⟩) (by (try dsimp only) <;> omega)).trans kb3; replace HRA := Lib.hid (HRA.out.on hgq); replace HRB := Lib.hid (HRB.out.on hgq); replace hbW := Below.trans hbW (Below.mono hgq (by omega)))
        go_upto_region 20 with (fail)
        (obtain ⟨W2, hWW2, hbW2, hzW2, f1W2, pfa⟩ := box1 wq #[.int .i64 0, .int .i64 0] 115; rw [← hWW2]; have pa0 : W2.cell? ⟨wq.heap.size, 0, none⟩ = some (.int .i64 0) := f1W2 0 _ rfl; have pa1 : W2.cell? ⟨wq.heap.size, 1, none⟩ = some (.int .i64 0) := f1W2 1 _ rfl; clear hWW2 f1W2)
        (have hzhbW2 := hbW2.size; replace qa0 := (hbW2.cell (p := ⟨_, _, none⟩) (by (try dsimp only) <;> omega)).trans qa0; replace qa1 := (hbW2.cell (p := ⟨_, _, none⟩) (by (try dsimp only) <;> omega)).trans qa1; replace qa2 := (hbW2.cell (p := ⟨_, _, none⟩) (by (try dsimp only) <;> omega)).trans qa2; replace qa3 := (hbW2.cell (p := ⟨_, _, none⟩) (by (try dsimp only) <;> omega)).trans qa3; replace ka0 := (hbW2.cell (p := ⟨_, _, none⟩) (by (try dsimp only) <;> omega)).trans ka0; replace ka1 := (hbW2.cell (p := ⟨_, _, none⟩) (by (try dsimp only) <;> omega)).trans ka1; replace ka2 := (hbW2.cell (p := ⟨_, _, none⟩) (by (try dsimp only) <;> omega)).trans ka2; replace ka3 := (hbW2.cell (p := ⟨_, _, none⟩) (by (try dsimp only) <;> omega)).trans ka3; replace kb0 := (hbW2.cell (p := ⟨_, _, none⟩) (by (try dsimp only) <;> omega)).trans kb0; replace kb1 := (hbW2.cell (p := ⟨_, _, none⟩) (by (try dsimp only) <;> omega)).trans kb1; replace kb2 := (hbW2.cell (p := ⟨_, _, none⟩) (by (try dsimp only) <;> omega)).trans kb2; replace kb3 := (hbW2.cell (p := ⟨_, _, none⟩) (by (try dsimp only) <;> omega)).trans kb3)
        have T := hbW2
        go_wp2_with fail
        refine wp_loop_rounds 3 ?_
        rw [rounds_succ]
        go_wp2_with fail
        (obtain ⟨W3, hWW3, hbW3, hzW3, f1W3, rfa⟩ := box1 W2 #[.int .i64 xa.op, .int .i64 xa.num, .string xa.text, .slice xa.A xa.n xa.c] 60; rw [← hWW3]; have ra0 : W3.cell? ⟨W2.heap.size, 0, none⟩ = some (.int .i64 xa.op) := f1W3 0 _ rfl; have ra1 : W3.cell? ⟨W2.heap.size, 1, none⟩ = some (.int .i64 xa.num) := f1W3 1 _ rfl; have ra2 : W3.cell? ⟨W2.heap.size, 2, none⟩ = some (.string xa.text) := f1W3 2 _ rfl; have ra3 : W3.cell? ⟨W2.heap.size, 3, none⟩ = some (.slice xa.A xa.n xa.c) := f1W3 3 _ rfl; clear hWW3 f1W3)
        (have hzhbW3 := hbW3.size; replace qa0 := (hbW3.cell (p := ⟨_, _, none⟩) (by (try dsimp only) <;> omega)).trans qa0; replace qa1 := (hbW3.cell (p := ⟨_, _, none⟩) (by (try dsimp only) <;> omega)).trans qa1; replace qa2 := (hbW3.cell (p := ⟨_, _, none⟩) (by (try dsimp only) <;> omega)).trans qa2; replace qa3 := (hbW3.cell (p := ⟨_, _, none⟩) (by (try dsimp only) <;> omega)).trans qa3; replace ka0 := (hbW3.cell (p := ⟨_, _, none⟩) (by (try dsimp only) <;> omega)).trans ka0; replace ka1 := (hbW3.cell (p := ⟨_, _, none⟩) (by (try dsimp only) <;> omega)).trans ka1; replace ka2 := (hbW3.cell (p := ⟨_, _, none⟩) (by (try dsimp only) <;> omega)).trans ka2; replace ka3 := (hbW3.cell (p := ⟨_, _, none⟩) (by (try dsimp only) <;> omega)).trans ka3; replace kb0 := (hbW3.cell (p := ⟨_, _, none⟩) (by (try dsimp only) <;> omega)).trans kb0; replace kb1 := (hbW3.cell (p := ⟨_, _, none⟩) (by (try dsimp only) <;> omega)).trans kb1; replace kb2 := (hbW3.cell (p := ⟨_, _, none⟩) (by (try dsimp only) <;> omega)).trans kb2; replace kb3 := (hbW3.cell (p := ⟨_, _, none⟩) (by (try dsimp only) <;> omega)).trans kb3; replace pa0 := (hbW3.cell (p := ⟨_, _, none⟩) (by (try dsimp only) <;> omega)).trans pa0; replace pa1 := (hbW3.cell (p := ⟨_, _, none⟩) (by (try dsimp only) <;> omega)).trans pa1; replace pfa := fun j => (hbW3.frozen (p := ⟨_, j, none⟩) (by (try dsimp only) <;> omega)).trans (pfa j); replace T := Below.trans T (Below.mono hbW3 (by omega)))
        clear ra0 ra1 ra2 ra3 rfa
        refine (IH.out a xa (lv + 1) _ (HRA.out.on T) (by have := HL.out; omega) (by omega)).mono ?_
        obtain ⟨⟨s1, x1⟩, hhp1⟩ : ∃ p, srt d a = p := ⟨_, rfl⟩
        rw [hhp1]
        rintro e w3 ⟨rfl, hbw3⟩
        (have hzhbw3 := hbw3.size; replace qa0 := (hbw3.cell (p := ⟨_, _, none⟩) (by (try dsimp only) <;> omega)).trans qa0; replace qa1 := (hbw3.cell (p := ⟨_, _, none⟩) (by (try dsimp only) <;> omega)).trans qa1; replace qa2 := (hbw3.cell (p := ⟨_, _, none⟩) (by (try dsimp only) <;> omega)).trans qa2; replace qa3 := (hbw3.cell (p := ⟨_, _, none⟩) (by (try dsimp only) <;> omega)).trans qa3; replace ka0 := (hbw3.cell (p := ⟨_, _, none⟩) (by (try dsimp only) <;> omega)).trans ka0; replace ka1 := (hbw3.cell (p := ⟨_, _, none⟩) (by (try dsimp only) <;> omega)).trans ka1; replace ka2 := (hbw3.cell (p := ⟨_, _, none⟩) (by (try dsimp only) <;> omega)).trans ka2; replace ka3 := (hbw3.cell (p := ⟨_, _, none⟩) (by (try dsimp only) <;> omega)).trans ka3; replace kb0 := (hbw3.cell (p := ⟨_, _, none⟩) (by (try dsimp only) <;> omega)).trans kb0; replace kb1 := (hbw3.cell (p := ⟨_, _, none⟩) (by (try dsimp only) <;> omega)).trans kb1; replace kb2 := (hbw3.cell (p := ⟨_, _, none⟩) (by (try dsimp only) <;> omega)).trans kb2; replace kb3 := (hbw3.cell (p := ⟨_, _, none⟩) (by (try dsimp only) <;> omega)).trans kb3; replace pa0 := (hbw3.cell (p := ⟨_, _, none⟩) (by (try dsimp only) <;> omega)).trans pa0; replace pa1 := (hbw3.cell (p := ⟨_, _, none⟩) (by (try dsimp only) <;> omega)).trans pa1; replace pfa := fun j => (hbw3.frozen (p := ⟨_, j, none⟩) (by (try dsimp only) <;> omega)).trans (pfa j); replace T := Below.trans T (Below.mono hbw3 (by omega)))
        have HP1 := Lib.hid hhp1
        clear hhp1
        unfold pairV
        dsimp only
        rcases (Decidable.em (x1 = 0)).symm with hx1 | hx1
        · have hx1' : (x1 != 0) = true := by simpa using hx1
          have HF := Lib.hid (show srt (d + 1) (.mk op num text [a, b]) = (0, x1) by rw [HE.out]; rw [HP1.out]; unfold bin; rw [if_pos hx1])
          clear hx1
          go_wp2_with fail
          go_ret2
          exact ⟨congrArg Ending.returned (by rw [HF.out]; rfl), hbW.trans (T.mono (by omega))⟩
        subst hx1
        go_wp2_with fail
        (obtain ⟨W4, hSW4, hnW4, hfarW4, hfrW4, hblW4, hszW4⟩ := set1 (wq.heap.size) 0 (u := .int .i64 s1) pa0; rw [← hSW4]; clear hSW4; replace pa0 := hnW4; clear hnW4; replace qa0 := (hfarW4 _ _ (by omega)).trans qa0; replace qa1 := (hfarW4 _ _ (by omega)).trans qa1; replace qa2 := (hfarW4 _ _ (by omega)).trans qa2; replace qa3 := (hfarW4 _ _ (by omega)).trans qa3; replace ka0 := (hfarW4 _ _ (by omega)).trans ka0; replace ka1 := (hfarW4 _ _ (by omega)).trans ka1; replace ka2 := (hfarW4 _ _ (by omega)).trans ka2; replace ka3 := (hfarW4 _ _ (by omega)).trans ka3; replace kb0 := (hfarW4 _ _ (by omega)).trans kb0; replace kb1 := (hfarW4 _ _ (by omega)).trans kb1; replace kb2 := (hfarW4 _ _ (by omega)).trans kb2; replace kb3 := (hfarW4 _ _ (by omega)).trans kb3; replace pa1 := (hfarW4 _ _ (by omega)).trans pa1; replace pfa := fun j => (hfrW4 _ j).trans (pfa j); replace T := Below.trans T (hblW4 _ (by omega)); clear hfarW4 hfrW4 hblW4)
        rw [rounds_succ]
        clear ka0 ka1 ka2 ka3
        go_wp2_with fail
        (obtain ⟨W5, hWW5, hbW5, hzW5, f1W5, rfa⟩ := box1 W4 #[.int .i64 xb.op, .int .i64 xb.num, .string xb.text, .slice xb.A xb.n xb.c] 60; rw [← hWW5]; have ra0 : W5.cell? ⟨W4.heap.size, 0, none⟩ = some (.int .i64 xb.op) := f1W5 0 _ rfl; have ra1 : W5.cell? ⟨W4.heap.size, 1, none⟩ = some (.int .i64 xb.num) := f1W5 1 _ rfl; have ra2 : W5.cell? ⟨W4.heap.size, 2, none⟩ = some (.string xb.text) := f1W5 2 _ rfl; have ra3 : W5.cell? ⟨W4.heap.size, 3, none⟩ = some (.slice xb.A xb.n xb.c) := f1W5 3 _ rfl; clear hWW5 f1W5)
        (have hzhbW5 := hbW5.size; replace qa0 := (hbW5.cell (p := ⟨_, _, none⟩) (by (try dsimp only) <;> omega)).trans qa0; replace qa1 := (hbW5.cell (p := ⟨_, _, none⟩) (by (try dsimp only) <;> omega)).trans qa1; replace qa2 := (hbW5.cell (p := ⟨_, _, none⟩) (by (try dsimp only) <;> omega)).trans qa2; replace qa3 := (hbW5.cell (p := ⟨_, _, none⟩) (by (try dsimp only) <;> omega)).trans qa3; replace kb0 := (hbW5.cell (p := ⟨_, _, none⟩) (by (try dsimp only) <;> omega)).trans kb0; replace kb1 := (hbW5.cell (p := ⟨_, _, none⟩) (by (try dsimp only) <;> omega)).trans kb1; replace kb2 := (hbW5.cell (p := ⟨_, _, none⟩) (by (try dsimp only) <;> omega)).trans kb2; replace kb3 := (hbW5.cell (p := ⟨_, _, none⟩) (by (try dsimp only) <;> omega)).trans kb3; replace pa0 := (hbW5.cell (p := ⟨_, _, none⟩) (by (try dsimp only) <;> omega)).trans pa0; replace pa1 := (hbW5.cell (p := ⟨_, _, none⟩) (by (try dsimp only) <;> omega)).trans pa1; replace pfa := fun j => (hbW5.frozen (p := ⟨_, j, none⟩) (by (try dsimp only) <;> omega)).trans (pfa j); replace T := Below.trans T (Below.mono hbW5 (by omega)))
        clear ra0 ra1 ra2 ra3 rfa
        refine (IH.out b xb (lv + 1) _ (HRB.out.on T) (by have := HL.out; omega) (by omega)).mono ?_
        obtain ⟨⟨s2, x2⟩, hhp2⟩ : ∃ p, srt d b = p := ⟨_, rfl⟩
        rw [hhp2]
        rintro e w5 ⟨rfl, hbw5⟩
        (have hzhbw5 := hbw5.size; replace qa0 := (hbw5.cell (p := ⟨_, _, none⟩) (by (try dsimp only) <;> omega)).trans qa0; replace qa1 := (hbw5.cell (p := ⟨_, _, none⟩) (by (try dsimp only) <;> omega)).trans qa1; replace qa2 := (hbw5.cell (p := ⟨_, _, none⟩) (by (try dsimp only) <;> omega)).trans qa2; replace qa3 := (hbw5.cell (p := ⟨_, _, none⟩) (by (try dsimp only) <;> omega)).trans qa3; replace kb0 := (hbw5.cell (p := ⟨_, _, none⟩) (by (try dsimp only) <;> omega)).trans kb0; replace kb1 := (hbw5.cell (p := ⟨_, _, none⟩) (by (try dsimp only) <;> omega)).trans kb1; replace kb2 := (hbw5.cell (p := ⟨_, _, none⟩) (by (try dsimp only) <;> omega)).trans kb2; replace kb3 := (hbw5.cell (p := ⟨_, _, none⟩) (by (try dsimp only) <;> omega)).trans kb3; replace pa0 := (hbw5.cell (p := ⟨_, _, none⟩) (by (try dsimp only) <;> omega)).trans pa0; replace pa1 := (hbw5.cell (p := ⟨_, _, none⟩) (by (try dsimp only) <;> omega)).trans pa1; replace pfa := fun j => (hbw5.frozen (p := ⟨_, j, none⟩) (by (try dsimp only) <;> omega)).trans (pfa j); replace T := Below.trans T (Below.mono hbw5 (by omega)))
        have HP2 := Lib.hid hhp2
        clear hhp2
        unfold pairV
        dsimp only
        rcases (Decidable.em (x2 = 0)).symm with hx2 | hx2
        · have hx2' : (x2 != 0) = true := by simpa using hx2
          have HF := Lib.hid (show srt (d + 1) (.mk op num text [a, b]) = (0, x2) by rw [HE.out]; rw [HP1.out, HP2.out]; unfold bin; rw [if_neg (by simp), if_pos hx2])
          clear hx2
          go_wp2_with fail
          go_ret2
          exact ⟨congrArg Ending.returned (by rw [HF.out]; rfl), hbW.trans (T.mono (by omega))⟩
        subst hx2
        go_wp2_with fail
        (obtain ⟨W6, hSW6, hnW6, hfarW6, hfrW6, hblW6, hszW6⟩ := set1 (wq.heap.size) 1 (u := .int .i64 s2) pa1; rw [← hSW6]; clear hSW6; replace pa1 := hnW6; clear hnW6; replace qa0 := (hfarW6 _ _ (by omega)).trans qa0; replace qa1 := (hfarW6 _ _ (by omega)).trans qa1; replace qa2 := (hfarW6 _ _ (by omega)).trans qa2; replace qa3 := (hfarW6 _ _ (by omega)).trans qa3; replace kb0 := (hfarW6 _ _ (by omega)).trans kb0; replace kb1 := (hfarW6 _ _ (by omega)).trans kb1; replace kb2 := (hfarW6 _ _ (by omega)).trans kb2; replace kb3 := (hfarW6 _ _ (by omega)).trans kb3; replace pa0 := (hfarW6 _ _ (by omega)).trans pa0; replace pfa := fun j => (hfrW6 _ j).trans (pfa j); replace T := Below.trans T (hblW6 _ (by omega)); clear hfarW6 hfrW6 hblW6)
        rw [rounds_succ]
        have HF := Lib.hid (show srt (d + 1) (.mk op num text [a, b]) = comb op s1 s2 by rw [HE.out, HP1.out, HP2.out]; unfold bin; rw [if_neg (by simp), if_neg (by simp)])
        go_wp2_with fail
        refine (combined_any op s1 s2 _ ⟨by omega, by omega⟩).mono ?_
        rw [← HF.out]
        rintro e w7 ⟨rfl, hb7⟩
        unfold pairV
        have hbT := hbW.trans (T.mono (by omega))
        have hzz := hbT.size
        go_wp2_with fail
        go_ret2
        exact ⟨rfl, hbT.trans (hb7.mono hzz)⟩
    · have HE := Lib.hid (show srt (d + 1) (.mk op num text args) = (0, 7) by rw [srt.eq_2, if_pos har])
      have hq : ((arity op) != (n : Int)) = true := by rw [bne_iff_ne, hn]; exact har
      have HN := Lib.hid hn
      clear hn har
      go_enter Try.func77, Try.ntmps77
      go_upto_region 1 with (fail)
      (obtain ⟨W, hWW, hbW, hzW, f1W, qfa⟩ := box1 w #[.int .i64 op, .int .i64 num, .string text, .slice A n c] 60; rw [← hWW]; have qa0 : W.cell? ⟨w.heap.size, 0, none⟩ = some (.int .i64 op) := f1W 0 _ rfl; have qa1 : W.cell? ⟨w.heap.size, 1, none⟩ = some (.int .i64 num) := f1W 1 _ rfl; have qa2 : W.cell? ⟨w.heap.size, 2, none⟩ = some (.string text) := f1W 2 _ rfl; have qa3 : W.cell? ⟨w.heap.size, 3, none⟩ = some (.slice A n c) := f1W 3 _ rfl; clear hWW f1W)
      go_wp2_with fail
      ((with_reducible refine wp_region_class (Below W.heap.size W) ?_ ?_ ?_ ?_); kernel_rfl; kernel_rfl; (exact (Below.refl _ _).drew); (intro hnonemp); (have rz := fun z : Wd (Below W.heap.size W) => z.cells); (repeat (any_goals (first | go_big_quiet_step (((go_at_call 83; (refine (operands_any _ _).mono ?_); rintro e w' ⟨rfl, rfl⟩; exact ⟨rfl, ⟨_, Wd.h _⟩, rfl⟩))) | (refine wpQuiet_step (fun K hK => ?_); go_simp; (first | (refine hK _ ?_; clear hK K) | (split <;> rename_i hg <;> (refine hK _ ?_; clear hK K) <;> (try simp only [Bool.not_eq_true] at hg) <;> (first | simp only [Int.not_lt.2 hg, decide_false] | simp only [Int.not_le.1 hg, decide_true] | simp only [hg, decide_true, decide_false] | skip)))))));  all_goals (refine wpQuiet_nil ?_; intro wq hgq))
      go_wp2_with fail
      go_ret2
      exact ⟨congrArg Ending.returned (by rw [HE.out]; rfl), hbW.trans (hgq.mono (Nat.le_of_lt hzW))⟩

theorem expr_any (e : Ex) (x : It) (w : World) (h : Rp w e x) :
    Calls Try.prog 61 #[x.val] w fun r w' => r = .returned (pairV (srt 16 e)) ∧ Below w.heap.size w w' := by
  obtain ⟨op, num, text, A, n, c⟩ := x
  have HR := Lib.hid h
  clear h
  unfold It.val
  go_enter Try.func61, Try.ntmps61
  go_upto_region 1 with (fail)
  (obtain ⟨W, hWW, hbW, hzW, f1W, qfa⟩ := box1 w #[.int .i64 op, .int .i64 num, .string text, .slice A n c] 60; rw [← hWW]; have qa0 : W.cell? ⟨w.heap.size, 0, none⟩ = some (.int .i64 op) := f1W 0 _ rfl; have qa1 : W.cell? ⟨w.heap.size, 1, none⟩ = some (.int .i64 num) := f1W 1 _ rfl; have qa2 : W.cell? ⟨w.heap.size, 2, none⟩ = some (.string text) := f1W 2 _ rfl; have qa3 : W.cell? ⟨w.heap.size, 3, none⟩ = some (.slice A n c) := f1W 3 _ rfl; clear hWW f1W)
  go_wp2_with fail
  refine (sort_any 16 e _ 1 _ (HR.out.on hbW) (by decide) (by decide)).mono ?_
  unfold pairV
  rintro r w1 ⟨rfl, hb1⟩
  have hbb := hbW.trans (hb1.mono (by omega))
  go_wp2_with fail
  go_ret2
  exact ⟨rfl, hbb⟩

end Xp
end Go.Proofs.Ytdnnnajohdohaaa
