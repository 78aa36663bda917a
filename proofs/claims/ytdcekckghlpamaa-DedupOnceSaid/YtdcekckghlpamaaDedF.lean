/-
  Dedup: slices.Clone, slices.Insert. No condition.
-/
import Derived.Test.YtdcekckghlpamaaRow
import Derived.Test.YtdcekckghlpamaaDedE
import Derived.BigQuiet
import Derived.StillTailTactics
import Derived.Lib.Overlaps
import Derived.Deep.DeepCutAuto
set_option maxRecDepth 100000
set_option linter.unusedVariables false
set_option linter.unusedSimpArgs false
namespace Go.Proofs.Ytdcekckghlpamaa
open Go.RowKit


namespace Dd

/-- the underlying array of a slice that came in: nil has no capacity -/
def NilOk (A : Option Addr) (c : Nat) : Prop := A = none → c = 0

set_option maxHeartbeats 400000 in
theorem clone_any (A : Option Addr) (n c : Nat) (xs : List Rng) (w : World) (h : Sl w A n c xs) (hA : NilOk A c) (hn : n ≤ 1000000) :
    Calls Try.prog 31 #[.slice A n c] w fun e w' => ∃ v, e = .returned v ∧ Ow w' w.heap.size 30 v xs ∧ Below w.heap.size w w' := by
  have H := Lib.hid h
  have HA := Lib.hid hA
  clear h hA
  cases A with
  | none =>
    have q := fun (a : Option Addr) (n c : Nat) (w : World) => Lib.run_eql_slice_nil (P := Try.prog) w 22 30 a n c 0 0 Try.underlying22
    go_enter Try.func31, Try.ntmps31
    go_wp2_with fail
    go_ret
    obtain ⟨_, rfl⟩ := H.out.none_
    exact ⟨_, rfl, Ow.nil_ _ _ _, Below.refl _ _⟩
  | some a =>
    have q := fun (a : Option Addr) (n c : Nat) (w : World) => Lib.run_eql_slice_nil (P := Try.prog) w 22 30 a n c 0 0 Try.underlying22
    go_enter Try.func31, Try.ntmps31
    go_wp2_with (at_builtin; go_must (
      refine wpl_appendS _ rfl (.tmp 5) (.tmp 6) 22 rfl w.heap.size 30 _ 24 Try.underlying22 info_rng rfl (.slice (some ⟨w.heap.size, 0, none⟩) 0 0) [] rfl (World.ownsRow_lit w #[] 0 (Nat.le_refl _) (Nat.zero_le _) rfl) (some a) n c xs rfl (fun h => by cases h) (H.out.below ((Below.refl _ _).alloc (Nat.le_refl _) _)) (by simp; omega) (by omega) (by simp) ?_
      intro v1 w1 hown1 hu1
      have hg1 := hu1.grew
      clear hu1
      have hb1 : Below w.heap.size w w1 := ((Below.refl _ _).alloc (Nat.le_refl _) _).grown hg1 (by simp) (by simp [Value.ownBlock])
      clear hg1))
    go_ret
    exact ⟨_, rfl, by simpa using hown1, hb1⟩

set_option maxHeartbeats 400000 in
theorem insert_end (base : Nat) (v : Value) (xs : List Rng) (y : Rng) (gy : Nat) (w : World) (hown : Ow w base 30 v xs)
    (hy : w.heap[gy]? = some (.cells ⟨Flat.cells y⟩ 30 (0, 0))) (hlen : xs.length ≤ 100000) (hbase : base ≤ w.heap.size) :
    Calls Try.prog 37 #[v, .int .i64 xs.length, .slice (some ⟨gy, 0, none⟩) 1 1] w fun e w' => ∃ v', e = .returned v' ∧ Ow w' base 30 v' (xs ++ [y]) ∧ Upd w w' v v' := by
  obtain ⟨A, c, hv, hnc, hcm⟩ := hown.val
  subst hv
  generalize hn : xs.length = n at *
  have HN := Lib.hid hn
  have hnew : ∀ j u, (Flat.cells y)[j]? = some u → w.cell? ((⟨gy, 0, none⟩ : Addr).add j) = some u := fun j u hu => by
    rw [add_mk]; simp [World.cell?, hy]; exact hu
  have HNEW := Lib.hid hnew
  have hl : xs.length ≤ 1000000 := by omega
  clear hn hy hnew
  unfold maxLen at hcm
  go_enter Try.func37, Try.ntmps37
  go_wp2_with (at_builtin; go_must (
    refine wpl_append1 _ rfl (.tmp 23) (.tmp 24) 22 rfl base 30 _ 24 Try.underlying22 info_rng rfl (.slice A n c) xs rfl hown gy y rfl HNEW.out hl (by omega) hbase ?_
    intro v1 w1 hown1 hu1))
  all_goals
    go_ret
    refine ⟨_, rfl, hown1, ?_⟩
    first
      | exact hu1
      | (subst_vars; exact hu1)

theorem zero_cells_one (m : Nat) : ∀ v ∈ (Builtin.zeroCells (#[.int .i64 0, .int .i64 0, .int .i64 0] : Array Value) m).toList, v.oneCell' = true := by
  intro v hv
  simp only [Builtin.zeroCells, Array.toList_map, List.mem_map] at hv
  obtain ⟨i, _, rfl⟩ := hv
  have h3 : i % 3 = 0 ∨ i % 3 = 1 ∨ i % 3 = 2 := by omega
  rcases h3 with h | h | h <;> simp [h, Value.oneCell']

set_option maxHeartbeats 400000 in
theorem insert_room (base g cap : Nat) (cur : Array Value) (xs : List Rng) (y : Rng) (gy i : Nat) (w : World)
    (hbg : base ≤ g) (hg : w.heap[g]? = some (.cells cur 30 (0, 0))) (hroom : xs.length + 1 ≤ cap) (hcm : cap ≤ maxLen) (hcs : cur.size = cap * 3) (htk : cur.toList.take (xs.length * 3) = xs.flatMap Flat.cells)
    (hy : w.heap[gy]? = some (.cells ⟨Flat.cells y⟩ 30 (0, 0))) (hne : gy ≠ g) (hi : i < xs.length) (hlen : xs.length ≤ 100000) :
    Calls Try.prog 37 #[.slice (some ⟨g, 0, none⟩) xs.length cap, .int .i64 i, .slice (some ⟨gy, 0, none⟩) 1 1] w fun e w' => ∃ v', e = .returned v' ∧ Ow w' base 30 v' (xs.take i ++ y :: xs.drop i) ∧ Upd w w' (.slice (some ⟨g, 0, none⟩) xs.length cap) v' := by
  have hov : ∀ o lb cb, (callFunc 40 #[.slice (some ⟨gy, 0, none⟩) 1 1, .slice (some ⟨g, o, none⟩) lb cb]).run Try.prog w = .ok (.value (.bool false)) w := fun o lb cb => by
    rw [run_callFunc_extern (fn := Try.f40) Try.func40 (by kernel_rfl) (by kernel_rfl) (by kernel_rfl) (e := Extern.SlicesOverlaps.overlaps #[22, 22] #[4]) (by kernel_rfl),
      Lib.run_overlaps_apart w 22 4 30 Try.underlying22 3 Try.sizeOf30 ⟨gy, 0, none⟩ ⟨g, o, none⟩ 1 1 lb cb hne 30 30 3 cur.size (by simp [World.shape?, hy]; rfl) (by simp [World.shape?, hg]) (by omega) (by simp [World.frozen?, hy]) (by simp [World.frozen?, hy])]
    rfl
  generalize hn : xs.length = n at *
  have HN := Lib.hid hn
  have HG := Lib.hid hg
  have HY := Lib.hid hy
  have HCS := Lib.hid hcs
  have HTK := Lib.hid htk
  clear hn hg hy hcs htk
  unfold maxLen at hcm
  go_enter Try.func37, Try.ntmps37
  go_wp2_with fail
  have hw1 : IntKind.i64.wrap ((i : Int) + 1) = (i : Int) + 1 := IntWalk.i64_in _ (by omega)
  have hw2 : 0 ≤ (i : Int) + 1 := by omega
  have hw3 : (i : Int) + 1 ≤ (n : Int) + 1 := by omega
  have hw4 : ((i : Int) + 1).toNat = i + 1 := by omega
  have hw5 : (i : Int) ≤ (n : Int) + 1 := by omega
  have hw6 : ¬ cap = i := by omega
  have hw7 : ¬ cap = i + 1 := by omega
  have hw8 : i ≤ n + 1 := by omega
  have hw9 : i + 1 ≤ n + 1 := by omega
  go_still_tail 8, (by kernel_rfl)
  clear hw1 hw2 hw3 hw4 hw5 hw6 hw7 hw8 hw9 hov
  change wpList _ _ _ _ _ w.drew
  have hsz : (Try.prog.info? 30).map (·.size) = some 3 := by kernel_rfl
  have hFl : (xs.flatMap Flat.cells).length = n * 3 := by rw [flat_len, HN.out]; rfl
  have hcl : cur.toList.length = cap * 3 := by rw [Array.length_toList]; exact HCS.out
  have hmin : Nat.min (n + 1 - i) (n - i) = n - i := by show min _ _ = _; omega
  refine wpList_copy_run _ rfl (.tmp 73) (.tmp 76) 22 22 rfl _ _ rfl rfl
    (run_copyK w.drew 22 22 _ 30 3 g ((i + 1) * 3) (n - i) (cap - (i + 1)) ⟨g, i * 3, none⟩ (n + 1 - i) (cap - i) cur 30 ((xs.flatMap Flat.cells).drop (i * 3)) Try.underlying22 hsz HG.out
      (by rw [hmin, List.length_drop, hFl, Nat.sub_mul]) (by rw [← HTK.out]; exact cells_piece HG.out (n * 3) (i * 3)) (by rw [List.length_drop, hFl, HCS.out]; omega) (fun v hv => flat_one xs v (List.mem_of_mem_drop hv))) ?_
  have hg1 := setRow_heap w.drew g cur (splice cur.toList ((i + 1) * 3) ((xs.flatMap Flat.cells).drop (i * 3))).toArray _ _ HG.out
  have hy1 := (setRow_other w.drew g gy (splice cur.toList ((i + 1) * 3) ((xs.flatMap Flat.cells).drop (i * 3))).toArray hne).trans HY.out
  have hgr1 : w.grownBy (w.drew.setRow g (splice cur.toList ((i + 1) * 3) ((xs.flatMap Flat.cells).drop (i * 3))).toArray) (some g) := grownBy_setRow (w0 := w) (w := w.drew) ⟨rfl, rfl, rfl, Nat.le_refl _, fun _ _ _ => rfl⟩ _
  have hl1 : (splice cur.toList ((i + 1) * 3) ((xs.flatMap Flat.cells).drop (i * 3))).length = cap * 3 := by
    rw [length_splice _ _ _ (by rw [List.length_drop, hFl, hcl]; omega), hcl]
  generalize hW1 : w.drew.setRow g (splice cur.toList ((i + 1) * 3) ((xs.flatMap Flat.cells).drop (i * 3))).toArray = w1 at hg1 hy1 hgr1 ⊢
  have HG1 := Lib.hid hg1
  have HY1 := Lib.hid hy1
  have HL1 := Lib.hid hl1
  have HCL := Lib.hid hcl
  have HFL := Lib.hid hFl
  clear hW1 hg1 hy1 hmin hl1 hcl hFl
  have hr2 : (Builtin.copy_ #[22, 22] 3 #[.slice (some ⟨g, i * 3, none⟩) (n + 1 - i) (cap - i), .slice (some ⟨gy, 0, none⟩) 1 1]).run Try.prog w1 =
      .ok (goInt 1) (w1.setRow g (splice (splice cur.toList ((i + 1) * 3) ((xs.flatMap Flat.cells).drop (i * 3))) (i * 3) (Flat.cells y)).toArray) := by
    have hmin : Nat.min 1 (n + 1 - i) = 1 := by show min _ _ = _; omega
    have h := run_copyK (P := Try.prog) w1 22 22 3 30 3 g (i * 3) (n + 1 - i) (cap - i) ⟨gy, 0, none⟩ 1 1 _ 30 (Flat.cells y) Try.underlying22 hsz HG1.out
      (by rw [hmin, Flat.len]; rfl) (fun j v hv => by rw [add_mk, Nat.zero_add]; exact cell_blk HY1.out (by simpa using hv)) (by rw [Flat.len, List.size_toArray, HL1.out]; show i * 3 + 3 ≤ _; omega) (Flat.one y)
    rw [hmin] at h
    exact h
  go_wp2_with fail
  go_ret
  have hlen' : (xs.take i ++ y :: xs.drop i).length = n + 1 := by have := HN.out; simp; omega
  refine ⟨_, rfl, ?_, ⟨grownBy_setRow hgr1 _, .inl rfl⟩⟩
  rw [← hlen']
  refine Ow.mk_ hbg (setRow_heap _ _ _ _ _ _ HG1.out) (by rw [hlen']; exact hroom) (by unfold maxLen; exact hcm) (by rw [length_splice _ _ _ (by rw [Flat.len, HL1.out]; show i * 3 + 3 ≤ _; omega)]; exact HL1.out) ?_
  rw [hlen']
  exact ins_list cur.toList xs y i n cap HN.out HTK.out HCL.out hroom (by omega)

set_option maxHeartbeats 400000 in
theorem insert_grow (base g cap : Nat) (cur : Array Value) (xs : List Rng) (y : Rng) (gy i : Nat) (w : World)
    (hg : w.heap[g]? = some (.cells cur 30 (0, 0))) (hfull : cap < xs.length + 1) (hnc : xs.length ≤ cap) (hcs : cur.size = cap * 3) (htk : cur.toList.take (xs.length * 3) = xs.flatMap Flat.cells)
    (hy : w.heap[gy]? = some (.cells ⟨Flat.cells y⟩ 30 (0, 0))) (hi : i < xs.length) (hlen : xs.length ≤ 100000) (hbase : base ≤ w.heap.size) :
    Calls Try.prog 37 #[.slice (some ⟨g, 0, none⟩) xs.length cap, .int .i64 i, .slice (some ⟨gy, 0, none⟩) 1 1] w fun e w' => ∃ v', e = .returned v' ∧ Ow w' base 30 v' (xs.take i ++ y :: xs.drop i) ∧ Upd w w' (.slice (some ⟨g, 0, none⟩) xs.length cap) v' := by
  obtain ⟨row, hrow⟩ : ∃ row, row = some g := ⟨_, rfl⟩
  have hsz : (Try.prog.info? 30).map (·.size) = some 3 := by kernel_rfl
  have hgl : g < w.heap.size := (Array.getElem?_eq_some_iff.1 hg).1
  have hgyl : gy < w.heap.size := (Array.getElem?_eq_some_iff.1 hy).1
  generalize hn : xs.length = n at *
  have hFl : (xs.flatMap Flat.cells).length = n * 3 := by rw [flat_len, hn]; rfl
  -- what the append of made zeros gives
  have hap : ∃ w1 C cur1, (Builtin.append_ #[22, 3] 22 #[.slice (some ⟨g, 0, none⟩) i cap, .int .i64 ((n : Int) + 1 - (i : Int))]).run Try.prog w = .ok (.slice (some ⟨w.heap.size, 0, none⟩) (n + 1) C) w1 ∧
      n + 1 ≤ C ∧ C ≤ maxLen ∧ w1.heap[w.heap.size]? = some (.cells cur1 30 (0, 0)) ∧ cur1.size = C * 3 ∧ cur1.toList.take (i * 3) = (xs.flatMap Flat.cells).take (i * 3) ∧ w.grownBy w1 none ∧ w1.heap.size = w.heap.size + 1 := by
    obtain ⟨i0, hi0, hz0, hz1, hz2⟩ := info_parts info_rng
    have hm : ((n : Int) + 1 - (i : Int)) = ((n + 1 - i : Nat) : Int) := by omega
    have hol : ((xs.flatMap Flat.cells).take (i * 3)).length = i * i0.size := by rw [List.length_take, hFl, hz1]; omega
    have hold : ∀ j u, ((xs.flatMap Flat.cells).take (i * 3))[j]? = some u → w.cell? ((⟨g, 0, none⟩ : Addr).add j) = some u := by
      intro j u hu
      rw [List.getElem?_take] at hu
      split at hu
      · rw [← htk] at hu; exact cells_piece hg (n * 3) 0 j u (by rw [List.drop_zero]; exact hu)
      · cases hu
    have h := run_append_make (P := Try.prog) w 22 3 22 30 i0 _ Try.underlying22 Try.underlying3 hi0 hz0 (by rw [hz1]; rfl) ⟨g, 0, none⟩ i cap (n + 1 - i) _ hol hold (by omega) (by omega) (by omega) (by omega)
      (growslice_fits (by omega) (by rw [hz2]; omega)) (by rw [hz2]; omega)
    have hin : i + (n + 1 - i) = n + 1 := by omega
    rw [hin] at h
    have hge := grownCap_ge w (n + 1) cap 30
    have hle := grownCap_le_maxLen w (n + 1) cap 30 (by unfold maxLen; omega)
    refine ⟨_, _, _, by rw [hm]; exact h, hge, hle, heap_alloc_new w.drew _, ?_, ?_, ⟨rfl, rfl, rfl, by simp, fun k hk _ => Below.heap_alloc w.drew _ k hk⟩, by simp⟩
    · have hzc : (Value.agg #[Value.int .i64 0, .int .i64 0, .int .i64 0]).cells.size = 3 := rfl
      simp only [Array.size_append, List.size_toArray, size_zeroCells, hzc, List.length_take, hFl]
      omega
    · simp only [Array.toList_append, List.append_assoc]
      rw [List.take_append_of_le_length (by rw [List.length_take, hFl]; omega), List.take_take, Nat.min_self]
  obtain ⟨w1, C, cur1, ha, hC, hCm, hg1, hc1, ht1, hgr1, hz1⟩ := hap
  have hgr1' : w.grownBy w1 row := ⟨hgr1.os, hgr1.tape, hgr1.output, hgr1.size, fun k hk _ => hgr1.block k hk (by simp)⟩
  have hy1 := (hgr1.block gy hgyl (by simp)).trans hy
  have hg1' := (hgr1.block g hgl (by simp)).trans hg
  have hc1l : cur1.toList.length = C * 3 := by rw [Array.length_toList]; exact hc1
  unfold maxLen at hCm
  -- the first copy
  have hcp1 : ∃ w2, (Builtin.copy_ #[22, 22] 3 #[.slice (some ⟨w.heap.size, i * 3, none⟩) (n + 1 - i) (C - i), .slice (some ⟨gy, 0, none⟩) 1 1]).run Try.prog w1 = .ok (goInt 1) w2 ∧
      w2.heap[w.heap.size]? = some (.cells (splice cur1.toList (i * 3) (Flat.cells y)).toArray 30 (0, 0)) ∧ w2.heap[g]? = some (.cells cur 30 (0, 0)) ∧ w.grownBy w2 row := by
    have hmin : Nat.min 1 (n + 1 - i) = 1 := by show min _ _ = _; omega
    have h := run_copyK (P := Try.prog) w1 22 22 3 30 3 w.heap.size (i * 3) (n + 1 - i) (C - i) ⟨gy, 0, none⟩ 1 1 _ 30 (Flat.cells y) Try.underlying22 hsz hg1
      (by rw [hmin, Flat.len]; rfl) (fun j v hv => by rw [add_mk, Nat.zero_add]; exact cell_blk hy1 (by simpa using hv)) (by rw [Flat.len, hc1]; show i * 3 + 3 ≤ _; omega) (Flat.one y)
    rw [hmin] at h
    exact ⟨_, h, setRow_heap _ _ _ _ _ _ hg1, (setRow_other _ _ _ _ (by omega)).trans hg1', grownBy_setRow_new hgr1' (Nat.le_refl _) _⟩
  obtain ⟨w2, hr1, hg2, hg2', hgr2⟩ := hcp1
  have hl2 : (splice cur1.toList (i * 3) (Flat.cells y)).length = C * 3 := by rw [length_splice _ _ _ (by rw [Flat.len, hc1l]; show i * 3 + 3 ≤ _; omega), hc1l]
  -- the second one
  have hcp2 : ∃ w3, (∀ dT, (Builtin.copy_ #[22, 22] dT #[.slice (some ⟨w.heap.size, (i + 1) * 3, none⟩) (n - i) (C - (i + 1)), .slice (some ⟨g, i * 3, none⟩) (n - i) (cap - i)]).run Try.prog w2.drew = .ok (goInt ((n - i : Nat))) w3) ∧
      w3.heap[w.heap.size]? = some (.cells (splice (splice cur1.toList (i * 3) (Flat.cells y)) ((i + 1) * 3) ((xs.flatMap Flat.cells).drop (i * 3))).toArray 30 (0, 0)) ∧ w.grownBy w3 row := by
    have hmin : Nat.min (n - i) (n - i) = n - i := by show min _ _ = _; omega
    refine ⟨_, fun dT => ?_, setRow_heap w2.drew _ _ _ _ _ hg2, grownBy_setRow_new (w := w2.drew) ⟨hgr2.os, hgr2.tape, hgr2.output, hgr2.size, hgr2.block⟩ (Nat.le_refl _) _⟩
    have h := run_copyK (P := Try.prog) w2.drew 22 22 dT 30 3 w.heap.size ((i + 1) * 3) (n - i) (C - (i + 1)) ⟨g, i * 3, none⟩ (n - i) (cap - i) _ 30 ((xs.flatMap Flat.cells).drop (i * 3)) Try.underlying22 hsz hg2
      (by rw [hmin, List.length_drop, hFl, Nat.sub_mul]) (by rw [← htk]; exact cells_piece hg2' (n * 3) (i * 3)) (by rw [List.length_drop, hFl, List.size_toArray, hl2]; omega) (fun v hv => flat_one xs v (List.mem_of_mem_drop hv))
    rw [hmin] at h
    simpa using h
  obtain ⟨w3, hr2, hg3, hgr3⟩ := hcp2
  have hins := ins_list2 cur1.toList xs y i n hn ht1 (by rw [hc1l]; show (n + 1) * 3 ≤ _; omega) (by omega)
  have HFIN : Hid (Ow w3 base 30 (.slice (some ⟨w.heap.size, 0, none⟩) (n + 1) C) (xs.take i ++ y :: xs.drop i) ∧ Upd w w3 (.slice (some ⟨g, 0, none⟩) n cap) (.slice (some ⟨w.heap.size, 0, none⟩) (n + 1) C)) := by
    have hlen' : (xs.take i ++ y :: xs.drop i).length = n + 1 := by simp; omega
    refine Lib.hid ⟨?_, ⟨by rw [hrow] at hgr3; exact hgr3, .inr ⟨_, rfl, Nat.le_refl _⟩⟩⟩
    rw [← hlen']
    refine Ow.mk_ hbase hg3 (by rw [hlen']; exact hC) (by unfold maxLen; exact hCm) ?_ (by rw [hlen']; exact hins)
    rw [length_splice _ _ _ (by rw [List.length_drop, hFl, hl2]; omega)]; exact hl2
  clear hins hl2 hc1l hg1' hy1 hgr1' hgr1 ht1 hc1 hg1 hg2 hg2' hgr2 hg3 hgr3 hFl hg htk hcs hy hn hz1 hrow
  go_enter Try.func37, Try.ntmps37
  have HA := Lib.hid ha
  clear ha
  have hw1 : IntKind.i64.wrap ((i : Int) + 1) = (i : Int) + 1 := IntWalk.i64_in _ (by omega)
  have hw2 : 0 ≤ (i : Int) + 1 := by omega
  have hw3 : (i : Int) + 1 ≤ (n : Int) + 1 := by omega
  have hw4 : ((i : Int) + 1).toNat = i + 1 := by omega
  have hw5 : (i : Int) ≤ (n : Int) := by omega
  have hw6 : ¬ cap = i := by omega
  have hw7 : ¬ C = i + 1 := by omega
  have hw8 : i ≤ n := by omega
  have hw9 : i + 1 ≤ n + 1 := by omega
  go_wp2_with (at_builtin; go_must (refine wpList_append_run _ rfl (.tmp 34) (.tmp 39) 22 3 rfl _ _ rfl rfl HA.out ?_))
  go_still_tail 8, (by kernel_rfl)
  change wpList _ _ _ _ _ w2.drew
  go_wp2_with fail

  go_ret
  exact ⟨_, rfl, HFIN.out⟩

theorem insert_any (base : Nat) (v : Value) (xs : List Rng) (y : Rng) (gy i : Nat) (w : World) (hown : Ow w base 30 v xs)
    (hy : w.heap[gy]? = some (.cells ⟨Flat.cells y⟩ 30 (0, 0))) (hne : v.ownBlock ≠ some gy) (hi : i ≤ xs.length) (hlen : xs.length ≤ 100000) (hbase : base ≤ w.heap.size) :
    Calls Try.prog 37 #[v, .int .i64 i, .slice (some ⟨gy, 0, none⟩) 1 1] w fun e w' => ∃ v', e = .returned v' ∧ Ow w' base 30 v' (xs.take i ++ y :: xs.drop i) ∧ Upd w w' v v' := by
  by_cases hl : i < xs.length
  · obtain ⟨g, cap, cur, rfl, hbg, hg, hnc, hcm, hcs, htk⟩ := hown.whole (by omega)
    by_cases hroom : xs.length + 1 ≤ cap
    · exact insert_room base g cap cur xs y gy i w hbg hg hroom hcm hcs htk hy (fun e => hne (by rw [e]; rfl)) hl hlen
    · exact insert_grow base g cap cur xs y gy i w hg (by omega) hnc hcs htk hy hl hlen hbase
  · obtain rfl : i = xs.length := by omega
    have h := insert_end base v xs y gy w hown hy hlen hbase
    rw [List.take_length, List.drop_length]
    exact h

end Dd
end Go.Proofs.Ytdcekckghlpamaa
