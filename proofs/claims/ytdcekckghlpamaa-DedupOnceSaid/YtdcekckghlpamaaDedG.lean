/-
  Dedup: slices.Delete, insert, Add. No condition.
-/
import Derived.Test.YtdcekckghlpamaaDedF
import Derived.BigQuiet
import Derived.StillTailTactics
import Derived.Lib.Overlaps
import Derived.Deep.DeepCutAuto
set_option maxRecDepth 100000
set_option linter.unusedVariables false
set_option linter.unusedSimpArgs false
namespace Go.Proofs.Ytdcekckghlpamaa
open Go.RowKit

namespace Dd

set_option maxHeartbeats 400000 in
theorem delete_any (base : Nat) (v : Value) (xs : List Rng) (i : Nat) (w : World) (hown : Ow w base 30 v xs) (hi : i < xs.length) (hlen : xs.length ≤ 100000) :
    Calls Try.prog 39 #[v, .int .i64 i, .int .i64 ((i : Int) + 1)] w fun e w' => ∃ v', e = .returned v' ∧ Ow w' base 30 v' (xs.take i ++ xs.drop (i + 1)) ∧ Upd w w' v v' := by
  obtain ⟨g, cap, cur, rfl, hbg, hg, hnc, hcm, hcs, htk⟩ := hown.whole (by omega)
  generalize hn : xs.length = n at *
  have hFl : (xs.flatMap Flat.cells).length = n * 3 := by rw [flat_len, hn]; rfl
  have hcs : cur.size = cap * 3 := hcs
  have hcl : cur.toList.length = cap * 3 := by rw [Array.length_toList]; exact hcs
  have hdl : ((xs.flatMap Flat.cells).drop ((i + 1) * 3)).length = (n - (i + 1)) * 3 := by rw [List.length_drop, hFl, Nat.sub_mul]
  -- the append in place
  have hap : ∃ w1, (∀ ty, (Builtin.append_ #[22, 22] ty #[.slice (some ⟨g, 0, none⟩) i cap, .slice (if cap = i + 1 then some ⟨g, 0, none⟩ else some ⟨g, (i + 1) * 3, none⟩) (n - (i + 1)) (cap - (i + 1))]).run Try.prog w.drew = .ok (.slice (some ⟨g, 0, none⟩) (i + (n - (i + 1))) cap) w1) ∧
      w1.heap[g]? = some (.cells (splice cur.toList (i * 3) ((xs.flatMap Flat.cells).drop ((i + 1) * 3))).toArray 30 (0, 0)) ∧ w.grownBy w1 (some g) := by
    obtain ⟨i0, hi0, hz0, hz1, hz2⟩ := info_parts info_rng
    have hsrc : ∀ j u, ((xs.flatMap Flat.cells).drop ((i + 1) * 3))[j]? = some u → w.drew.cell? ((if cap = i + 1 then (⟨g, 0, none⟩ : Addr) else ⟨g, (i + 1) * 3, none⟩).add j) = some u := by
      intro j u hu
      have hj := (List.getElem?_eq_some_iff.1 hu).1
      rw [hdl] at hj
      rw [if_neg (by omega)]
      rw [← htk] at hu
      exact cells_piece (w := w.drew) hg (n * 3) ((i + 1) * 3) j u hu
    refine ⟨_, fun ty => ?_, setRow_heap w.drew g _ _ _ _ hg, grownBy_setRow (w0 := w) (w := w.drew) ⟨rfl, rfl, rfl, Nat.le_refl _, fun _ _ _ => rfl⟩ _⟩
    have h := run_append_room (P := Try.prog) w.drew 22 ty 30 i0 Try.underlying22 hi0 g i cap cur hg (if cap = i + 1 then (⟨g, 0, none⟩ : Addr) else ⟨g, (i + 1) * 3, none⟩) (n - (i + 1)) (cap - (i + 1)) ((xs.flatMap Flat.cells).drop ((i + 1) * 3))
      (by rw [hdl, hz1]) hsrc (fun v hv => flat_one xs v (List.mem_of_mem_drop hv)) (by omega) (by rw [hdl, hz1, hcs]; omega)
    rw [hz1] at h
    have he : (some (if cap = i + 1 then (⟨g, 0, none⟩ : Addr) else ⟨g, (i + 1) * 3, none⟩)) = (if cap = i + 1 then some ⟨g, 0, none⟩ else some ⟨g, (i + 1) * 3, none⟩) := by split <;> rfl
    rw [he] at h
    rw [h]
    simp [splice]
  obtain ⟨w1, ha, hg1, hgr1⟩ := hap
  have hl1 : (splice cur.toList (i * 3) ((xs.flatMap Flat.cells).drop ((i + 1) * 3))).length = cap * 3 := by rw [length_splice _ _ _ (by rw [hdl, hcl]; omega), hcl]
  have hcr : ∃ w2, (∀ ty dC, (Builtin.clear_ #[22] ty #[.slice (some ⟨g, (n - 1) * 3, none⟩) (n - (n - 1)) dC]).run Try.prog w1 = .ok (.tuple #[]) w2) ∧
      w2.heap[g]? = some (.cells (splice (splice cur.toList (i * 3) ((xs.flatMap Flat.cells).drop ((i + 1) * 3))) ((n - 1) * 3) (Builtin.zeroCells (#[.int .i64 0, .int .i64 0, .int .i64 0] : Array Value) 1).toList).toArray 30 (0, 0)) ∧ w.grownBy w2 (some g) := by
    obtain ⟨i0, hi0, hz0, hz1, hz2⟩ := info_parts info_rng
    have h1 : n - (n - 1) = 1 := by omega
    have hsz1 : (splice cur.toList (i * 3) ((xs.flatMap Flat.cells).drop ((i + 1) * 3))).toArray.size = cap * 3 := by rw [List.size_toArray]; exact hl1
    have hfit : (n - 1) * 3 + 1 * (Value.agg #[.int .i64 0, .int .i64 0, .int .i64 0]).cells.size ≤ (splice cur.toList (i * 3) ((xs.flatMap Flat.cells).drop ((i + 1) * 3))).toArray.size := by
      rw [hsz1]; show (n - 1) * 3 + 1 * 3 ≤ cap * 3; omega
    refine ⟨w1.setRow g (splice (splice cur.toList (i * 3) ((xs.flatMap Flat.cells).drop ((i + 1) * 3))) ((n - 1) * 3) (Builtin.zeroCells (#[.int .i64 0, .int .i64 0, .int .i64 0] : Array Value) 1).toList).toArray, fun ty dC => ?_, setRow_heap _ _ _ _ _ _ hg1, grownBy_setRow hgr1 _⟩
    rw [h1]
    exact run_clearK (P := Try.prog) w1 22 ty 30 i0 (.agg #[.int .i64 0, .int .i64 0, .int .i64 0]) g ((n - 1) * 3) 1 dC _ 30 Try.underlying22 hi0 hz0 hg1 (by omega) hfit (zero_cells_one 1)
  obtain ⟨w2, hc, hg2, hgr2⟩ := hcr
  have hzl : (Builtin.zeroCells (#[.int .i64 0, .int .i64 0, .int .i64 0] : Array Value) 1).toList.length = 3 := by simp [size_zeroCells]
  have HFIN : Hid (Ow w2 base 30 (.slice (some ⟨g, 0, none⟩) (n - 1) cap) (xs.take i ++ xs.drop (i + 1)) ∧ Upd w w2 (.slice (some ⟨g, 0, none⟩) n cap) (.slice (some ⟨g, 0, none⟩) (n - 1) cap)) := by
    have hlen' : (xs.take i ++ xs.drop (i + 1)).length = n - 1 := by simp; omega
    refine Lib.hid ⟨?_, ⟨hgr2, .inl rfl⟩⟩
    rw [← hlen']
    refine Ow.mk_ hbg hg2 (by rw [hlen']; omega) hcm ?_ ?_
    · rw [length_splice _ _ _ (by rw [hzl, hl1]; omega)]; exact hl1
    · rw [hlen', List.flatMap_append, flat_take, flat_drop]
      show List.take ((n - 1) * 3) _ = List.take (i * 3) _ ++ List.drop ((i + 1) * 3) _
      rw [splice, List.take_append_of_le_length (by rw [List.length_take, hl1]; omega), List.take_take, Nat.min_self]
      have ht : cur.toList.take (i * 3) = (xs.flatMap Flat.cells).take (i * 3) := by rw [← htk, List.take_take]; congr 1; show _ = min _ (n * 3); omega
      rw [splice, ht, ← List.append_assoc]
      have h3 : (List.take (i * 3) (xs.flatMap Flat.cells) ++ List.drop ((i + 1) * 3) (xs.flatMap Flat.cells)).length = (n - 1) * 3 := by rw [List.length_append, hdl, List.length_take, hFl]; omega
      rw [← h3, List.take_left']
      rfl
  unfold maxLen at hcm
  have HA := Lib.hid ha
  have HC := Lib.hid hc
  clear ha hc hg2 hgr2 hg1 hgr1 hl1 hdl hcl hFl hg htk hcs hn hzl hown
  have hw2 : 0 ≤ (i : Int) + 1 := by omega
  have hw3 : (i : Int) + 1 ≤ (n : Int) := by omega
  have hw4 : ((i : Int) + 1).toNat = i + 1 := by omega
  have hw5 : (i : Int) ≤ (cap : Int) := by omega
  have hw6 : ¬ cap = i := by omega
  have hw8 : i ≤ cap := by omega
  go_enter Try.func39, Try.ntmps39
  go_wp2_with fail
  go_still_tail 6, (by kernel_rfl)
  change wpList _ _ _ _ _ w.drew
  skip
  refine wpList_append_run _ rfl (.tmp 22) (.tmp 25) 22 22 rfl _ _ rfl rfl (HA.out _) ?_
  have hin : i + (n - (i + 1)) = n - 1 := by omega
  rw [hin]
  clear hin
  have hc := HC.out
  go_wp2_with fail
  all_goals
    go_ret
    first
      | exact ⟨_, rfl, HFIN.out⟩
      | (subst_vars; exact ⟨_, rfl, HFIN.out⟩)

end Dd
end Go.Proofs.Ytdcekckghlpamaa
