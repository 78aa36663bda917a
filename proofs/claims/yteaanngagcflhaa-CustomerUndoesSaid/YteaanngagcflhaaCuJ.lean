/-
  Customers: world.account. No condition.
-/
import Derived.Test.YteaanngagcflhaaCuI
import Derived.BigQuiet
import Derived.StillTailTactics
import Derived.Lib.Overlaps
import Derived.Deep.DeepCutAuto
import Derived.Deep.RegionWith
import Derived.Laws.RangeAny
import Derived.Deep.RegionHeld
import Derived.Deep.RegionHeldLaw
set_option maxRecDepth 100000
set_option linter.unusedVariables false
set_option linter.unusedSimpArgs false
namespace Go.Proofs.Yteaanngagcflhaa
open Go.RowKit

namespace Cu
open Go.Maps
theorem box1d (w : World) (cs : Array Value) (t : TypeId) : ∃ W, W = (w.alloc (.cells cs t)).drew ∧ Below w.heap.size w W ∧ w.heap.size < W.heap.size ∧ (∀ j u, cs.toList[j]? = some u → W.cell? ⟨w.heap.size, j, none⟩ = some u) ∧ (∀ j, W.frozen? ⟨w.heap.size, j, none⟩ = false) := by
  obtain ⟨V, hV, h1, h2, h3, h4⟩ := box1 w cs t
  exact ⟨V.drew, by rw [hV], h1.drew, h2, h3, h4⟩

set_option maxHeartbeats 8000000 in
theorem account_2 (at_ acc sub val : Int) (num name : ByteArray) (B M NN : Nat) (k : Bl) (s : St) (w : World) (h : Rep w B M NN k s) (wa : (Lit.int .i64 acc).wf = true) (ws : (Lit.int .i64 sub).wf = true) :
    Calls Try.prog 97 #[.pointer (some ⟨k.p, 0, none⟩), .agg #[.int .i64 at_, .int .i64 2, .int .i64 acc, .int .i64 sub, .string num, .string name, .int .i64 val]] w fun r w' => r = .returned (.int .i64 (accP s ⟨at_, 2, acc, sub, num, name, val⟩)) ∧ Below w.heap.size w w' := by
  have HR := Lib.hid h
  clear h
  go_enter Try.func97, Try.ntmps97
  go_upto_region 1 with (fail)
  (obtain ⟨W, hWW, hbW, hzW, f1W, qfa⟩ := box1 w #[.int .i64 at_, .int .i64 2, .int .i64 acc, .int .i64 sub, .string num, .string name, .int .i64 val] 36; rw [← hWW]; have qa0 : W.cell? ⟨w.heap.size, 0, none⟩ = some (.int .i64 at_) := f1W 0 _ rfl; have qa1 : W.cell? ⟨w.heap.size, 1, none⟩ = some (.int .i64 2) := f1W 1 _ rfl; have qa2 : W.cell? ⟨w.heap.size, 2, none⟩ = some (.int .i64 acc) := f1W 2 _ rfl; have qa3 : W.cell? ⟨w.heap.size, 3, none⟩ = some (.int .i64 sub) := f1W 3 _ rfl; have qa4 : W.cell? ⟨w.heap.size, 4, none⟩ = some (.string num) := f1W 4 _ rfl; have qa5 : W.cell? ⟨w.heap.size, 5, none⟩ = some (.string name) := f1W 5 _ rfl; have qa6 : W.cell? ⟨w.heap.size, 6, none⟩ = some (.int .i64 val) := f1W 6 _ rfl; clear hWW f1W)
  have hT := hbW
  have hpw : k.p < w.heap.size := Nat.lt_of_lt_of_le HR.out.hi.1 HR.out.m
  have hpW : k.p < W.heap.size := Nat.lt_trans hpw hzW
  have hgW : w.heap.size < W.heap.size := hzW
  replace HR := Lib.hid (HR.out.below hbW)
  have c0 := HR.out.c0
  obtain ⟨fa, hMA, hFA⟩ := HR.out.acc
  have HMA := Lib.hid hMA
  have hfx := hFA acc
  clear hMA hFA qfa hbW hzW
  cases hacc : s.acc acc
  case none =>
    rw [hacc] at hfx
    refine wp_region_held_drew (S := fun w' => Below W.heap.size W w') (by kernel_rfl) ((Below.refl _ _).drew) (fun hHeld => ?_)
    refine tk 0 (v := ?_) ?_ ?_
    rotate_left
    · intro w' hSw; go_simp; (try with_reducible rfl)
    refine tk 1 (v := ?_) ?_ ?_
    rotate_left
    · intro w' hSw; go_simp; (try with_reducible rfl)
    refine tk 2 (v := ?_) ?_ ?_
    rotate_left
    · intro w' hSw; go_simp; (try with_reducible rfl)
    refine tk 3 (v := ?_) ?_ ?_
    rotate_left
    · intro w' hSw; have z0 := (hSw.cell (p := ⟨k.p, 0, none⟩) hpW).trans c0; have z2 := (hSw.cell (p := ⟨w.heap.size, 2, none⟩) hgW).trans qa2; go_simp; (try with_reducible rfl)
    refine tk 4 (v := ?_) ?_ ?_
    rotate_left
    · intro w' hSw; go_simp; (try with_reducible rfl)
    refine tk 5 (v := ?_) ?_ ?_
    rotate_left
    · intro w' hSw; have z0 := (hSw.cell (p := ⟨k.p, 0, none⟩) hpW).trans c0; have z2 := (hSw.cell (p := ⟨w.heap.size, 2, none⟩) hgW).trans qa2; go_simp; (try with_reducible rfl)
    refine tk 6 (v := ?_) ?_ ?_
    rotate_left
    · intro w' hSw; have hl := (HMA.out.below hSw).run_ok keyI Try.underlying123 (zeroA _) (kI wa) (v := .agg #[.int .i64 0, .int .i64 0, .int .i64 0, .bool false, .bool false, .slice none 0 0]) (c := false) (by rw [hfx]; rfl) (by rw [hfx]; rfl); go_simp; (try with_reducible rfl)
    refine tk 7 (v := ?_) ?_ ?_
    rotate_left
    · intro w' hSw; go_simp; (try with_reducible rfl)
    refine tk 8 (v := ?_) ?_ ?_
    rotate_left
    · intro w' hSw; go_simp; (try with_reducible rfl)
    refine tk 9 (v := ?_) ?_ ?_
    rotate_left
    · intro w' hSw; go_simp; (try with_reducible rfl)
    (try simp only [List.getElem_toArray, List.getElem_cons_succ, List.getElem_cons_zero, Act.put, List.setIfInBounds_toArray, List.set_cons_zero, List.set_cons_succ])
    refine wpAnyH_ready (rs := [10]) (by kernel_rfl) (by simp) ?_
    refine AllReadyH.cons rfl (fun K' hK => ?_) AllReadyH.nil
    go_simp
    refine hK.out _ _ (by (repeat (first | exact hHeld | exact Below.refl _ _ | (refine Below.alloc ?_ (by (try simp) <;> omega) _) | (refine Below.setCell ?_ (by (try simp) <;> omega) _) | refine Below.drew ?_ | refine below_drewN ?_ _))) (fun hHeld => ?_)
    clear hK K'
    (try simp only [List.getElem_toArray, List.getElem_cons_succ, List.getElem_cons_zero, Act.put, List.setIfInBounds_toArray, List.set_cons_zero, List.set_cons_succ])
    refine wpAnyH_ready (rs := [11]) (by kernel_rfl) (by simp) ?_
    refine AllReadyH.cons rfl (fun K' hK => ?_) AllReadyH.nil
    go_simp
    refine hK.out _ _ (by (repeat (first | exact hHeld | exact Below.refl _ _ | (refine Below.alloc ?_ (by (try simp) <;> omega) _) | (refine Below.setCell ?_ (by (try simp) <;> omega) _) | refine Below.drew ?_ | refine below_drewN ?_ _))) (fun hHeld => ?_)
    clear hK K'
    (try simp only [List.getElem_toArray, List.getElem_cons_succ, List.getElem_cons_zero, Act.put, List.setIfInBounds_toArray, List.set_cons_zero, List.set_cons_succ])
    refine tk 12 (v := ?_) ?_ ?_
    rotate_left
    · intro w' hSw; go_simp; (try with_reducible rfl)
    (try simp only [List.getElem_toArray, List.getElem_cons_succ, List.getElem_cons_zero, Act.put, List.setIfInBounds_toArray, List.set_cons_zero, List.set_cons_succ])
    refine wpAnyH_done (by kernel_rfl) ?_ _
    (try simp only [List.getElem_toArray, List.getElem_cons_succ, List.getElem_cons_zero, Act.put, List.setIfInBounds_toArray, List.set_cons_zero, List.set_cons_succ])
    have hT2 := hT.trans (hHeld.mono hT.size)
    have HQ := Lib.hid (show accP s ⟨at_, 2, acc, sub, num, name, val⟩ = 11 by unfold accP; simp only [hacc])
    clear hHeld hacc hfx
    go_wp2_with fail
    go_ret
    exact ⟨ret_int HQ.out.symm, hT2⟩
  case some =>
    rename_i ac
    rw [hacc] at hfx
    refine wp_region_held_drew (S := fun w' => Below W.heap.size W w') (by kernel_rfl) ((Below.refl _ _).drew) (fun hHeld => ?_)
    refine tk 0 (v := ?_) ?_ ?_
    rotate_left
    · intro w' hSw; go_simp; (try with_reducible rfl)
    refine tk 1 (v := ?_) ?_ ?_
    rotate_left
    · intro w' hSw; go_simp; (try with_reducible rfl)
    refine tk 2 (v := ?_) ?_ ?_
    rotate_left
    · intro w' hSw; go_simp; (try with_reducible rfl)
    refine tk 3 (v := ?_) ?_ ?_
    rotate_left
    · intro w' hSw; have z0 := (hSw.cell (p := ⟨k.p, 0, none⟩) hpW).trans c0; have z2 := (hSw.cell (p := ⟨w.heap.size, 2, none⟩) hgW).trans qa2; go_simp; (try with_reducible rfl)
    refine tk 4 (v := ?_) ?_ ?_
    rotate_left
    · intro w' hSw; go_simp; (try with_reducible rfl)
    refine tk 5 (v := ?_) ?_ ?_
    rotate_left
    · intro w' hSw; have z0 := (hSw.cell (p := ⟨k.p, 0, none⟩) hpW).trans c0; have z2 := (hSw.cell (p := ⟨w.heap.size, 2, none⟩) hgW).trans qa2; go_simp; (try with_reducible rfl)
    refine tk 6 (v := ?_) ?_ ?_
    rotate_left
    · intro w' hSw; have hl := (HMA.out.below hSw).run_ok keyI Try.underlying123 (zeroA _) (kI wa) (v := .agg #[.int .i64 ac.id, .int .i64 ac.since, .int .i64 ac.anchor, .bool ac.prepaid, .bool ac.closed, .slice none 0 0]) (c := true) (by rw [hfx]; rfl) (by rw [hfx]; rfl); go_simp; (try with_reducible rfl)
    refine tk 7 (v := ?_) ?_ ?_
    rotate_left
    · intro w' hSw; go_simp; (try with_reducible rfl)
    refine tk 8 (v := ?_) ?_ ?_
    rotate_left
    · intro w' hSw; go_simp; (try with_reducible rfl)
    refine tk 9 (v := ?_) ?_ ?_
    rotate_left
    · intro w' hSw; go_simp; (try with_reducible rfl)
    (try simp only [List.getElem_toArray, List.getElem_cons_succ, List.getElem_cons_zero, Act.put, List.setIfInBounds_toArray, List.set_cons_zero, List.set_cons_succ])
    refine wpAnyH_ready (rs := [10]) (by kernel_rfl) (by simp) ?_
    refine AllReadyH.cons rfl (fun K' hK => ?_) AllReadyH.nil
    go_simp
    refine hK.out _ _ (by (repeat (first | exact hHeld | exact Below.refl _ _ | (refine Below.alloc ?_ (by (try simp) <;> omega) _) | (refine Below.setCell ?_ (by (try simp) <;> omega) _) | refine Below.drew ?_ | refine below_drewN ?_ _))) (fun hHeld => ?_)
    clear hK K'
    (try simp only [List.getElem_toArray, List.getElem_cons_succ, List.getElem_cons_zero, Act.put, List.setIfInBounds_toArray, List.set_cons_zero, List.set_cons_succ])
    refine wpAnyH_ready (rs := [11]) (by kernel_rfl) (by simp) ?_
    refine AllReadyH.cons rfl (fun K' hK => ?_) AllReadyH.nil
    go_simp
    refine hK.out _ _ (by (repeat (first | exact hHeld | exact Below.refl _ _ | (refine Below.alloc ?_ (by (try simp) <;> omega) _) | (refine Below.setCell ?_ (by (try simp) <;> omega) _) | refine Below.drew ?_ | refine below_drewN ?_ _))) (fun hHeld => ?_)
    clear hK K'
    (try simp only [List.getElem_toArray, List.getElem_cons_succ, List.getElem_cons_zero, Act.put, List.setIfInBounds_toArray, List.set_cons_zero, List.set_cons_succ])
    refine tk 12 (v := ?_) ?_ ?_
    rotate_left
    · intro w' hSw; go_simp; (try with_reducible rfl)
    (try simp only [List.getElem_toArray, List.getElem_cons_succ, List.getElem_cons_zero, Act.put, List.setIfInBounds_toArray, List.set_cons_zero, List.set_cons_succ])
    refine wpAnyH_done (by kernel_rfl) ?_ _
    (try simp only [List.getElem_toArray, List.getElem_cons_succ, List.getElem_cons_zero, Act.put, List.setIfInBounds_toArray, List.set_cons_zero, List.set_cons_succ])
    obtain ⟨V, hV, hbV, hzV, fv, -⟩ := box1d W #[.int .i64 ac.id, .int .i64 ac.since, .int .i64 ac.anchor, .bool ac.prepaid, .bool ac.closed, .slice none 0 0] 46
    rw [← hV]
    have va3 := fv 3 _ rfl
    have va4 := fv 4 _ rfl
    (have hzhbV := hbV.size; replace qa0 := cl hbV qa0; replace qa1 := cl hbV qa1; replace qa2 := cl hbV qa2; replace qa3 := cl hbV qa3; replace qa4 := cl hbV qa4; replace qa5 := cl hbV qa5; replace qa6 := cl hbV qa6; replace c0 := cl hbV c0)
    replace hT := hT.trans (hbV.mono hT.size)
    replace HR := Lib.hid (HR.out.below hbV)
    have hpV : k.p < V.heap.size := by omega
    have hgV : w.heap.size < V.heap.size := by omega
    have hgV2 : W.heap.size < V.heap.size := hzV
    have c2 := HR.out.c2
    have c4 := HR.out.c4
    clear hV fv hHeld hbV HMA hfx
    have HAC := Lib.hid (show accP s ⟨at_, 2, acc, sub, num, name, val⟩ = if ac.closed = true then 17 else if 0 < s.live acc then 22 else 0 by unfold accP; simp only [hacc]; simp)
    clear hacc
    cases hcl : ac.closed
    case true =>
      rw [hcl] at va4 HAC
      have HQ := Lib.hid (HAC.out.trans (if_pos rfl))
      go_wp2_with fail
      go_ret
      exact ⟨ret_int HQ.out.symm, hT⟩
    case false =>
      rw [hcl] at va4 HAC
      replace HAC := Lib.hid (HAC.out.trans (if_neg (by decide)))
      obtain ⟨fl, hML, hFL⟩ := HR.out.live
      have HML := Lib.hid hML
      have hlv := (hFL acc).1
      clear hML hFL
      have hl := fun z : Wd (Below V.heap.size V) => (HML.out.below z.h).run keyI Try.underlying126 (zeroI _) (kI wa) (v := .int .i64 (s.live acc)) hlv
      clear hlv
      by_cases hpos : 0 < s.live acc
      · have HQ := Lib.hid (HAC.out.trans (if_pos hpos))
        go_upto_region 6 with (fail)
        ((with_reducible refine wp_region_class (Below V.heap.size V) ?_ ?_ ?_ ?_); kernel_rfl; kernel_rfl; (exact (Below.refl _ _).drew); (intro hnonemp); (have zqa0 := fun z : Wd (Below V.heap.size V) => cl z.h qa0; have zqa1 := fun z : Wd (Below V.heap.size V) => cl z.h qa1; have zqa2 := fun z : Wd (Below V.heap.size V) => cl z.h qa2; have zqa3 := fun z : Wd (Below V.heap.size V) => cl z.h qa3; have zqa4 := fun z : Wd (Below V.heap.size V) => cl z.h qa4; have zqa5 := fun z : Wd (Below V.heap.size V) => cl z.h qa5; have zqa6 := fun z : Wd (Below V.heap.size V) => cl z.h qa6; have zva3 := fun z : Wd (Below V.heap.size V) => cl z.h va3; have zc4 := fun z : Wd (Below V.heap.size V) => cl z.h c4); (repeat (any_goals (first | go_big_quiet_step (((first | fail))) | (refine wpQuiet_step (fun K hK => ?_); go_simp; (first | (refine hK _ ?_; clear hK K) | (split <;> rename_i hg <;> (refine hK _ ?_; clear hK K) <;> (try simp only [Bool.not_eq_true] at hg) <;> (first | simp only [Int.not_lt.2 hg, decide_false] | simp only [Int.not_le.1 hg, decide_true] | simp only [hg, decide_true, decide_false] | skip)))))));  all_goals (refine wpQuiet_nil ?_; intro wq hgq))
        all_goals
          replace hT := hT.trans (hgq.mono hT.size)
          (have hzhgq := hgq.size; replace qa0 := cl hgq qa0; replace qa1 := cl hgq qa1; replace qa2 := cl hgq qa2; replace qa3 := cl hgq qa3; replace qa4 := cl hgq qa4; replace qa5 := cl hgq qa5; replace qa6 := cl hgq qa6; replace va3 := cl hgq va3)
          go_wp2_with fail
          all_goals (first | (exfalso; omega) | skip)
          all_goals
            go_ret
            exact ⟨ret_int HQ.out.symm, by first | exact hT | exact below_drewN hT _⟩
      · have HQ := Lib.hid (HAC.out.trans (if_neg hpos))
        go_upto_region 6 with (fail)
        ((with_reducible refine wp_region_class (Below V.heap.size V) ?_ ?_ ?_ ?_); kernel_rfl; kernel_rfl; (exact (Below.refl _ _).drew); (intro hnonemp); (have zqa0 := fun z : Wd (Below V.heap.size V) => cl z.h qa0; have zqa1 := fun z : Wd (Below V.heap.size V) => cl z.h qa1; have zqa2 := fun z : Wd (Below V.heap.size V) => cl z.h qa2; have zqa3 := fun z : Wd (Below V.heap.size V) => cl z.h qa3; have zqa4 := fun z : Wd (Below V.heap.size V) => cl z.h qa4; have zqa5 := fun z : Wd (Below V.heap.size V) => cl z.h qa5; have zqa6 := fun z : Wd (Below V.heap.size V) => cl z.h qa6; have zva3 := fun z : Wd (Below V.heap.size V) => cl z.h va3; have zc4 := fun z : Wd (Below V.heap.size V) => cl z.h c4); (repeat (any_goals (first | go_big_quiet_step (((first | fail))) | (refine wpQuiet_step (fun K hK => ?_); go_simp; (first | (refine hK _ ?_; clear hK K) | (split <;> rename_i hg <;> (refine hK _ ?_; clear hK K) <;> (try simp only [Bool.not_eq_true] at hg) <;> (first | simp only [Int.not_lt.2 hg, decide_false] | simp only [Int.not_le.1 hg, decide_true] | simp only [hg, decide_true, decide_false] | skip)))))));  all_goals (refine wpQuiet_nil ?_; intro wq hgq))
        all_goals
          replace hT := hT.trans (hgq.mono hT.size)
          (have hzhgq := hgq.size; replace qa0 := cl hgq qa0; replace qa1 := cl hgq qa1; replace qa2 := cl hgq qa2; replace qa3 := cl hgq qa3; replace qa4 := cl hgq qa4; replace qa5 := cl hgq qa5; replace qa6 := cl hgq qa6; replace va3 := cl hgq va3)
          go_wp2_with (((with_reducible refine wp_region_quiet_lit ?_ ?_ ?_); kernel_rfl; kernel_rfl; (repeat (any_goals (first | go_big_quiet_step (fail) | (refine wpQuiet_step (fun K hK => ?_); go_simp; (first | (refine hK _ ?_; clear hK K) | (split <;> rename_i hg <;> (refine hK _ ?_; clear hK K) <;> (try simp only [Bool.not_eq_true] at hg) <;> (first | simp only [Int.not_lt.2 hg, decide_false] | simp only [Int.not_le.1 hg, decide_true] | simp only [hg, decide_true, decide_false] | skip))))))); all_goals (refine wpQuiet_nil ?_; intro _ hw'; obtain ⟨nq, hw''⟩ := hw'; subst hw'')))
          all_goals (first | (exfalso; omega) | skip)
          all_goals go_wp2_with (((with_reducible refine wp_region_quiet_lit ?_ ?_ ?_); kernel_rfl; kernel_rfl; (repeat (any_goals (first | go_big_quiet_step (fail) | (refine wpQuiet_step (fun K hK => ?_); go_simp; (first | (refine hK _ ?_; clear hK K) | (split <;> rename_i hg <;> (refine hK _ ?_; clear hK K) <;> (try simp only [Bool.not_eq_true] at hg) <;> (first | simp only [Int.not_lt.2 hg, decide_false] | simp only [Int.not_le.1 hg, decide_true] | simp only [hg, decide_true, decide_false] | skip))))))); all_goals (refine wpQuiet_nil ?_; intro _ hw'; obtain ⟨nq, hw''⟩ := hw'; subst hw'')))
          all_goals
            go_ret
            exact ⟨ret_int HQ.out.symm, by first | exact hT | exact below_drewN hT _⟩
set_option maxHeartbeats 8000000 in
theorem account_3 (at_ acc sub val : Int) (num name : ByteArray) (B M NN : Nat) (k : Bl) (s : St) (w : World) (h : Rep w B M NN k s) (wa : (Lit.int .i64 acc).wf = true) (ws : (Lit.int .i64 sub).wf = true) :
    Calls Try.prog 97 #[.pointer (some ⟨k.p, 0, none⟩), .agg #[.int .i64 at_, .int .i64 3, .int .i64 acc, .int .i64 sub, .string num, .string name, .int .i64 val]] w fun r w' => r = .returned (.int .i64 (accP s ⟨at_, 3, acc, sub, num, name, val⟩)) ∧ Below w.heap.size w w' := by
  have HR := Lib.hid h
  clear h
  go_enter Try.func97, Try.ntmps97
  go_upto_region 1 with (fail)
  (obtain ⟨W, hWW, hbW, hzW, f1W, qfa⟩ := box1 w #[.int .i64 at_, .int .i64 3, .int .i64 acc, .int .i64 sub, .string num, .string name, .int .i64 val] 36; rw [← hWW]; have qa0 : W.cell? ⟨w.heap.size, 0, none⟩ = some (.int .i64 at_) := f1W 0 _ rfl; have qa1 : W.cell? ⟨w.heap.size, 1, none⟩ = some (.int .i64 3) := f1W 1 _ rfl; have qa2 : W.cell? ⟨w.heap.size, 2, none⟩ = some (.int .i64 acc) := f1W 2 _ rfl; have qa3 : W.cell? ⟨w.heap.size, 3, none⟩ = some (.int .i64 sub) := f1W 3 _ rfl; have qa4 : W.cell? ⟨w.heap.size, 4, none⟩ = some (.string num) := f1W 4 _ rfl; have qa5 : W.cell? ⟨w.heap.size, 5, none⟩ = some (.string name) := f1W 5 _ rfl; have qa6 : W.cell? ⟨w.heap.size, 6, none⟩ = some (.int .i64 val) := f1W 6 _ rfl; clear hWW f1W)
  have hT := hbW
  have hpw : k.p < w.heap.size := Nat.lt_of_lt_of_le HR.out.hi.1 HR.out.m
  have hpW : k.p < W.heap.size := Nat.lt_trans hpw hzW
  have hgW : w.heap.size < W.heap.size := hzW
  replace HR := Lib.hid (HR.out.below hbW)
  have c0 := HR.out.c0
  obtain ⟨fa, hMA, hFA⟩ := HR.out.acc
  have HMA := Lib.hid hMA
  have hfx := hFA acc
  clear hMA hFA qfa hbW hzW
  cases hacc : s.acc acc
  case none =>
    rw [hacc] at hfx
    refine wp_region_held_drew (S := fun w' => Below W.heap.size W w') (by kernel_rfl) ((Below.refl _ _).drew) (fun hHeld => ?_)
    refine tk 0 (v := ?_) ?_ ?_
    rotate_left
    · intro w' hSw; go_simp; (try with_reducible rfl)
    refine tk 1 (v := ?_) ?_ ?_
    rotate_left
    · intro w' hSw; go_simp; (try with_reducible rfl)
    refine tk 2 (v := ?_) ?_ ?_
    rotate_left
    · intro w' hSw; go_simp; (try with_reducible rfl)
    refine tk 3 (v := ?_) ?_ ?_
    rotate_left
    · intro w' hSw; have z0 := (hSw.cell (p := ⟨k.p, 0, none⟩) hpW).trans c0; have z2 := (hSw.cell (p := ⟨w.heap.size, 2, none⟩) hgW).trans qa2; go_simp; (try with_reducible rfl)
    refine tk 4 (v := ?_) ?_ ?_
    rotate_left
    · intro w' hSw; go_simp; (try with_reducible rfl)
    refine tk 5 (v := ?_) ?_ ?_
    rotate_left
    · intro w' hSw; have z0 := (hSw.cell (p := ⟨k.p, 0, none⟩) hpW).trans c0; have z2 := (hSw.cell (p := ⟨w.heap.size, 2, none⟩) hgW).trans qa2; go_simp; (try with_reducible rfl)
    refine tk 6 (v := ?_) ?_ ?_
    rotate_left
    · intro w' hSw; have hl := (HMA.out.below hSw).run_ok keyI Try.underlying123 (zeroA _) (kI wa) (v := .agg #[.int .i64 0, .int .i64 0, .int .i64 0, .bool false, .bool false, .slice none 0 0]) (c := false) (by rw [hfx]; rfl) (by rw [hfx]; rfl); go_simp; (try with_reducible rfl)
    refine tk 7 (v := ?_) ?_ ?_
    rotate_left
    · intro w' hSw; go_simp; (try with_reducible rfl)
    refine tk 8 (v := ?_) ?_ ?_
    rotate_left
    · intro w' hSw; go_simp; (try with_reducible rfl)
    refine tk 9 (v := ?_) ?_ ?_
    rotate_left
    · intro w' hSw; go_simp; (try with_reducible rfl)
    (try simp only [List.getElem_toArray, List.getElem_cons_succ, List.getElem_cons_zero, Act.put, List.setIfInBounds_toArray, List.set_cons_zero, List.set_cons_succ])
    refine wpAnyH_ready (rs := [10]) (by kernel_rfl) (by simp) ?_
    refine AllReadyH.cons rfl (fun K' hK => ?_) AllReadyH.nil
    go_simp
    refine hK.out _ _ (by (repeat (first | exact hHeld | exact Below.refl _ _ | (refine Below.alloc ?_ (by (try simp) <;> omega) _) | (refine Below.setCell ?_ (by (try simp) <;> omega) _) | refine Below.drew ?_ | refine below_drewN ?_ _))) (fun hHeld => ?_)
    clear hK K'
    (try simp only [List.getElem_toArray, List.getElem_cons_succ, List.getElem_cons_zero, Act.put, List.setIfInBounds_toArray, List.set_cons_zero, List.set_cons_succ])
    refine wpAnyH_ready (rs := [11]) (by kernel_rfl) (by simp) ?_
    refine AllReadyH.cons rfl (fun K' hK => ?_) AllReadyH.nil
    go_simp
    refine hK.out _ _ (by (repeat (first | exact hHeld | exact Below.refl _ _ | (refine Below.alloc ?_ (by (try simp) <;> omega) _) | (refine Below.setCell ?_ (by (try simp) <;> omega) _) | refine Below.drew ?_ | refine below_drewN ?_ _))) (fun hHeld => ?_)
    clear hK K'
    (try simp only [List.getElem_toArray, List.getElem_cons_succ, List.getElem_cons_zero, Act.put, List.setIfInBounds_toArray, List.set_cons_zero, List.set_cons_succ])
    refine tk 12 (v := ?_) ?_ ?_
    rotate_left
    · intro w' hSw; go_simp; (try with_reducible rfl)
    (try simp only [List.getElem_toArray, List.getElem_cons_succ, List.getElem_cons_zero, Act.put, List.setIfInBounds_toArray, List.set_cons_zero, List.set_cons_succ])
    refine wpAnyH_done (by kernel_rfl) ?_ _
    (try simp only [List.getElem_toArray, List.getElem_cons_succ, List.getElem_cons_zero, Act.put, List.setIfInBounds_toArray, List.set_cons_zero, List.set_cons_succ])
    have hT2 := hT.trans (hHeld.mono hT.size)
    have HQ := Lib.hid (show accP s ⟨at_, 3, acc, sub, num, name, val⟩ = 11 by unfold accP; simp only [hacc])
    clear hHeld hacc hfx
    go_wp2_with fail
    go_ret
    exact ⟨ret_int HQ.out.symm, hT2⟩
  case some =>
    rename_i ac
    rw [hacc] at hfx
    refine wp_region_held_drew (S := fun w' => Below W.heap.size W w') (by kernel_rfl) ((Below.refl _ _).drew) (fun hHeld => ?_)
    refine tk 0 (v := ?_) ?_ ?_
    rotate_left
    · intro w' hSw; go_simp; (try with_reducible rfl)
    refine tk 1 (v := ?_) ?_ ?_
    rotate_left
    · intro w' hSw; go_simp; (try with_reducible rfl)
    refine tk 2 (v := ?_) ?_ ?_
    rotate_left
    · intro w' hSw; go_simp; (try with_reducible rfl)
    refine tk 3 (v := ?_) ?_ ?_
    rotate_left
    · intro w' hSw; have z0 := (hSw.cell (p := ⟨k.p, 0, none⟩) hpW).trans c0; have z2 := (hSw.cell (p := ⟨w.heap.size, 2, none⟩) hgW).trans qa2; go_simp; (try with_reducible rfl)
    refine tk 4 (v := ?_) ?_ ?_
    rotate_left
    · intro w' hSw; go_simp; (try with_reducible rfl)
    refine tk 5 (v := ?_) ?_ ?_
    rotate_left
    · intro w' hSw; have z0 := (hSw.cell (p := ⟨k.p, 0, none⟩) hpW).trans c0; have z2 := (hSw.cell (p := ⟨w.heap.size, 2, none⟩) hgW).trans qa2; go_simp; (try with_reducible rfl)
    refine tk 6 (v := ?_) ?_ ?_
    rotate_left
    · intro w' hSw; have hl := (HMA.out.below hSw).run_ok keyI Try.underlying123 (zeroA _) (kI wa) (v := .agg #[.int .i64 ac.id, .int .i64 ac.since, .int .i64 ac.anchor, .bool ac.prepaid, .bool ac.closed, .slice none 0 0]) (c := true) (by rw [hfx]; rfl) (by rw [hfx]; rfl); go_simp; (try with_reducible rfl)
    refine tk 7 (v := ?_) ?_ ?_
    rotate_left
    · intro w' hSw; go_simp; (try with_reducible rfl)
    refine tk 8 (v := ?_) ?_ ?_
    rotate_left
    · intro w' hSw; go_simp; (try with_reducible rfl)
    refine tk 9 (v := ?_) ?_ ?_
    rotate_left
    · intro w' hSw; go_simp; (try with_reducible rfl)
    (try simp only [List.getElem_toArray, List.getElem_cons_succ, List.getElem_cons_zero, Act.put, List.setIfInBounds_toArray, List.set_cons_zero, List.set_cons_succ])
    refine wpAnyH_ready (rs := [10]) (by kernel_rfl) (by simp) ?_
    refine AllReadyH.cons rfl (fun K' hK => ?_) AllReadyH.nil
    go_simp
    refine hK.out _ _ (by (repeat (first | exact hHeld | exact Below.refl _ _ | (refine Below.alloc ?_ (by (try simp) <;> omega) _) | (refine Below.setCell ?_ (by (try simp) <;> omega) _) | refine Below.drew ?_ | refine below_drewN ?_ _))) (fun hHeld => ?_)
    clear hK K'
    (try simp only [List.getElem_toArray, List.getElem_cons_succ, List.getElem_cons_zero, Act.put, List.setIfInBounds_toArray, List.set_cons_zero, List.set_cons_succ])
    refine wpAnyH_ready (rs := [11]) (by kernel_rfl) (by simp) ?_
    refine AllReadyH.cons rfl (fun K' hK => ?_) AllReadyH.nil
    go_simp
    refine hK.out _ _ (by (repeat (first | exact hHeld | exact Below.refl _ _ | (refine Below.alloc ?_ (by (try simp) <;> omega) _) | (refine Below.setCell ?_ (by (try simp) <;> omega) _) | refine Below.drew ?_ | refine below_drewN ?_ _))) (fun hHeld => ?_)
    clear hK K'
    (try simp only [List.getElem_toArray, List.getElem_cons_succ, List.getElem_cons_zero, Act.put, List.setIfInBounds_toArray, List.set_cons_zero, List.set_cons_succ])
    refine tk 12 (v := ?_) ?_ ?_
    rotate_left
    · intro w' hSw; go_simp; (try with_reducible rfl)
    (try simp only [List.getElem_toArray, List.getElem_cons_succ, List.getElem_cons_zero, Act.put, List.setIfInBounds_toArray, List.set_cons_zero, List.set_cons_succ])
    refine wpAnyH_done (by kernel_rfl) ?_ _
    (try simp only [List.getElem_toArray, List.getElem_cons_succ, List.getElem_cons_zero, Act.put, List.setIfInBounds_toArray, List.set_cons_zero, List.set_cons_succ])
    obtain ⟨V, hV, hbV, hzV, fv, -⟩ := box1d W #[.int .i64 ac.id, .int .i64 ac.since, .int .i64 ac.anchor, .bool ac.prepaid, .bool ac.closed, .slice none 0 0] 46
    rw [← hV]
    have va3 := fv 3 _ rfl
    have va4 := fv 4 _ rfl
    (have hzhbV := hbV.size; replace qa0 := cl hbV qa0; replace qa1 := cl hbV qa1; replace qa2 := cl hbV qa2; replace qa3 := cl hbV qa3; replace qa4 := cl hbV qa4; replace qa5 := cl hbV qa5; replace qa6 := cl hbV qa6; replace c0 := cl hbV c0)
    replace hT := hT.trans (hbV.mono hT.size)
    replace HR := Lib.hid (HR.out.below hbV)
    have hpV : k.p < V.heap.size := by omega
    have hgV : w.heap.size < V.heap.size := by omega
    have hgV2 : W.heap.size < V.heap.size := hzV
    have c2 := HR.out.c2
    have c4 := HR.out.c4
    clear hV fv hHeld hbV HMA hfx
    have HAC := Lib.hid (show accP s ⟨at_, 3, acc, sub, num, name, val⟩ = if ac.closed = true then 17 else if s.ever sub = true then 10 else 0 by unfold accP; simp only [hacc]; simp)
    clear hacc
    cases hcl : ac.closed
    case true =>
      rw [hcl] at va4 HAC
      have HQ := Lib.hid (HAC.out.trans (if_pos rfl))
      go_wp2_with fail
      go_ret
      exact ⟨ret_int HQ.out.symm, hT⟩
    case false =>
      rw [hcl] at va4 HAC
      replace HAC := Lib.hid (HAC.out.trans (if_neg (by decide)))
      obtain ⟨fl, hML, hFL⟩ := HR.out.ever
      have HML := Lib.hid hML
      have hlv := hFL sub
      clear hML hFL
      go_upto_region 6 with (fail)
      ((with_reducible refine wp_region_quiet_lit ?_ ?_ ?_); kernel_rfl; kernel_rfl; (repeat (any_goals (first | go_big_quiet_step (fail) | (refine wpQuiet_step (fun K hK => ?_); go_simp; (first | (refine hK _ ?_; clear hK K) | (split <;> rename_i hg <;> (refine hK _ ?_; clear hK K) <;> (try simp only [Bool.not_eq_true] at hg) <;> (first | simp only [Int.not_lt.2 hg, decide_false] | simp only [Int.not_le.1 hg, decide_true] | simp only [hg, decide_true, decide_false] | skip))))))); all_goals (refine wpQuiet_nil ?_; intro _ hw'; obtain ⟨nq, hw''⟩ := hw'; subst hw''))
      all_goals go_upto_region 10 with (fail)
      obtain ⟨X, hX⟩ : ∃ X, X = V.drewN nq := ⟨_, rfl⟩
      rw [← hX]
      have hXb : Below V.heap.size V X := by rw [hX]; exact below_drewN (Below.refl _ _) _
      (have hzhXb := hXb.size; replace qa0 := cl hXb qa0; replace qa1 := cl hXb qa1; replace qa2 := cl hXb qa2; replace qa3 := cl hXb qa3; replace qa4 := cl hXb qa4; replace qa5 := cl hXb qa5; replace qa6 := cl hXb qa6; replace va3 := cl hXb va3; replace c2 := cl hXb c2)
      replace hT := hT.trans (hXb.mono hT.size)
      have hgX : w.heap.size < X.heap.size := by omega
      have hgX2 : W.heap.size < X.heap.size := by omega
      have hpX : k.p < X.heap.size := by omega
      have hl := fun z : Wd (Below X.heap.size X) => (HML.out.below (hXb.trans (z.h.mono hXb.size))).run keyI Try.underlying125 (zeroB _) (kI ws) (v := .bool (s.ever sub)) hlv
      clear hlv hX hXb
      cases hev : s.ever sub
      case false =>
        rw [hev] at hl HAC
        have HQ := Lib.hid (HAC.out.trans (if_neg (by decide)))
        ((with_reducible refine wp_region_class (Below X.heap.size X) ?_ ?_ ?_ ?_); kernel_rfl; kernel_rfl; (exact (Below.refl _ _).drew); (intro hnonemp); (have zqa0 := fun z : Wd (Below X.heap.size X) => cl z.h qa0; have zqa1 := fun z : Wd (Below X.heap.size X) => cl z.h qa1; have zqa2 := fun z : Wd (Below X.heap.size X) => cl z.h qa2; have zqa3 := fun z : Wd (Below X.heap.size X) => cl z.h qa3; have zqa4 := fun z : Wd (Below X.heap.size X) => cl z.h qa4; have zqa5 := fun z : Wd (Below X.heap.size X) => cl z.h qa5; have zqa6 := fun z : Wd (Below X.heap.size X) => cl z.h qa6; have zva3 := fun z : Wd (Below X.heap.size X) => cl z.h va3; have zc2 := fun z : Wd (Below X.heap.size X) => cl z.h c2); (repeat (any_goals (first | go_big_quiet_step (((first | fail))) | (refine wpQuiet_step (fun K hK => ?_); go_simp; (first | (refine hK _ ?_; clear hK K) | (split <;> rename_i hg <;> (refine hK _ ?_; clear hK K) <;> (try simp only [Bool.not_eq_true] at hg) <;> (first | simp only [Int.not_lt.2 hg, decide_false] | simp only [Int.not_le.1 hg, decide_true] | simp only [hg, decide_true, decide_false] | skip)))))));  all_goals (refine wpQuiet_nil ?_; intro wq hgq))
        all_goals
          replace hT := hT.trans (hgq.mono hT.size)
          go_wp2_with fail
          go_ret
          exact ⟨ret_int HQ.out.symm, hT⟩
      case true =>
        rw [hev] at hl HAC
        have HQ := Lib.hid (HAC.out.trans (if_pos rfl))
        ((with_reducible refine wp_region_class (Below X.heap.size X) ?_ ?_ ?_ ?_); kernel_rfl; kernel_rfl; (exact (Below.refl _ _).drew); (intro hnonemp); (have zqa0 := fun z : Wd (Below X.heap.size X) => cl z.h qa0; have zqa1 := fun z : Wd (Below X.heap.size X) => cl z.h qa1; have zqa2 := fun z : Wd (Below X.heap.size X) => cl z.h qa2; have zqa3 := fun z : Wd (Below X.heap.size X) => cl z.h qa3; have zqa4 := fun z : Wd (Below X.heap.size X) => cl z.h qa4; have zqa5 := fun z : Wd (Below X.heap.size X) => cl z.h qa5; have zqa6 := fun z : Wd (Below X.heap.size X) => cl z.h qa6; have zva3 := fun z : Wd (Below X.heap.size X) => cl z.h va3; have zc2 := fun z : Wd (Below X.heap.size X) => cl z.h c2); (repeat (any_goals (first | go_big_quiet_step (((first | fail))) | (refine wpQuiet_step (fun K hK => ?_); go_simp; (first | (refine hK _ ?_; clear hK K) | (split <;> rename_i hg <;> (refine hK _ ?_; clear hK K) <;> (try simp only [Bool.not_eq_true] at hg) <;> (first | simp only [Int.not_lt.2 hg, decide_false] | simp only [Int.not_le.1 hg, decide_true] | simp only [hg, decide_true, decide_false] | skip)))))));  all_goals (refine wpQuiet_nil ?_; intro wq hgq))
        all_goals
          replace hT := hT.trans (hgq.mono hT.size)
          go_wp2_with fail
          go_ret
          exact ⟨ret_int HQ.out.symm, hT⟩
set_option maxHeartbeats 8000000 in
theorem account_14 (at_ acc sub val : Int) (num name : ByteArray) (B M NN : Nat) (k : Bl) (s : St) (w : World) (h : Rep w B M NN k s) (wa : (Lit.int .i64 acc).wf = true) (ws : (Lit.int .i64 sub).wf = true) :
    Calls Try.prog 97 #[.pointer (some ⟨k.p, 0, none⟩), .agg #[.int .i64 at_, .int .i64 14, .int .i64 acc, .int .i64 sub, .string num, .string name, .int .i64 val]] w fun r w' => r = .returned (.int .i64 (accP s ⟨at_, 14, acc, sub, num, name, val⟩)) ∧ Below w.heap.size w w' := by
  have HR := Lib.hid h
  clear h
  go_enter Try.func97, Try.ntmps97
  go_upto_region 1 with (fail)
  (obtain ⟨W, hWW, hbW, hzW, f1W, qfa⟩ := box1 w #[.int .i64 at_, .int .i64 14, .int .i64 acc, .int .i64 sub, .string num, .string name, .int .i64 val] 36; rw [← hWW]; have qa0 : W.cell? ⟨w.heap.size, 0, none⟩ = some (.int .i64 at_) := f1W 0 _ rfl; have qa1 : W.cell? ⟨w.heap.size, 1, none⟩ = some (.int .i64 14) := f1W 1 _ rfl; have qa2 : W.cell? ⟨w.heap.size, 2, none⟩ = some (.int .i64 acc) := f1W 2 _ rfl; have qa3 : W.cell? ⟨w.heap.size, 3, none⟩ = some (.int .i64 sub) := f1W 3 _ rfl; have qa4 : W.cell? ⟨w.heap.size, 4, none⟩ = some (.string num) := f1W 4 _ rfl; have qa5 : W.cell? ⟨w.heap.size, 5, none⟩ = some (.string name) := f1W 5 _ rfl; have qa6 : W.cell? ⟨w.heap.size, 6, none⟩ = some (.int .i64 val) := f1W 6 _ rfl; clear hWW f1W)
  have hT := hbW
  have hpw : k.p < w.heap.size := Nat.lt_of_lt_of_le HR.out.hi.1 HR.out.m
  have hpW : k.p < W.heap.size := Nat.lt_trans hpw hzW
  have hgW : w.heap.size < W.heap.size := hzW
  replace HR := Lib.hid (HR.out.below hbW)
  have c0 := HR.out.c0
  obtain ⟨fa, hMA, hFA⟩ := HR.out.acc
  have HMA := Lib.hid hMA
  have hfx := hFA acc
  clear hMA hFA qfa hbW hzW
  cases hacc : s.acc acc
  case none =>
    rw [hacc] at hfx
    refine wp_region_held_drew (S := fun w' => Below W.heap.size W w') (by kernel_rfl) ((Below.refl _ _).drew) (fun hHeld => ?_)
    refine tk 0 (v := ?_) ?_ ?_
    rotate_left
    · intro w' hSw; go_simp; (try with_reducible rfl)
    refine tk 1 (v := ?_) ?_ ?_
    rotate_left
    · intro w' hSw; go_simp; (try with_reducible rfl)
    refine tk 2 (v := ?_) ?_ ?_
    rotate_left
    · intro w' hSw; go_simp; (try with_reducible rfl)
    refine tk 3 (v := ?_) ?_ ?_
    rotate_left
    · intro w' hSw; have z0 := (hSw.cell (p := ⟨k.p, 0, none⟩) hpW).trans c0; have z2 := (hSw.cell (p := ⟨w.heap.size, 2, none⟩) hgW).trans qa2; go_simp; (try with_reducible rfl)
    refine tk 4 (v := ?_) ?_ ?_
    rotate_left
    · intro w' hSw; go_simp; (try with_reducible rfl)
    refine tk 5 (v := ?_) ?_ ?_
    rotate_left
    · intro w' hSw; have z0 := (hSw.cell (p := ⟨k.p, 0, none⟩) hpW).trans c0; have z2 := (hSw.cell (p := ⟨w.heap.size, 2, none⟩) hgW).trans qa2; go_simp; (try with_reducible rfl)
    refine tk 6 (v := ?_) ?_ ?_
    rotate_left
    · intro w' hSw; have hl := (HMA.out.below hSw).run_ok keyI Try.underlying123 (zeroA _) (kI wa) (v := .agg #[.int .i64 0, .int .i64 0, .int .i64 0, .bool false, .bool false, .slice none 0 0]) (c := false) (by rw [hfx]; rfl) (by rw [hfx]; rfl); go_simp; (try with_reducible rfl)
    refine tk 7 (v := ?_) ?_ ?_
    rotate_left
    · intro w' hSw; go_simp; (try with_reducible rfl)
    refine tk 8 (v := ?_) ?_ ?_
    rotate_left
    · intro w' hSw; go_simp; (try with_reducible rfl)
    refine tk 9 (v := ?_) ?_ ?_
    rotate_left
    · intro w' hSw; go_simp; (try with_reducible rfl)
    (try simp only [List.getElem_toArray, List.getElem_cons_succ, List.getElem_cons_zero, Act.put, List.setIfInBounds_toArray, List.set_cons_zero, List.set_cons_succ])
    refine wpAnyH_ready (rs := [10]) (by kernel_rfl) (by simp) ?_
    refine AllReadyH.cons rfl (fun K' hK => ?_) AllReadyH.nil
    go_simp
    refine hK.out _ _ (by (repeat (first | exact hHeld | exact Below.refl _ _ | (refine Below.alloc ?_ (by (try simp) <;> omega) _) | (refine Below.setCell ?_ (by (try simp) <;> omega) _) | refine Below.drew ?_ | refine below_drewN ?_ _))) (fun hHeld => ?_)
    clear hK K'
    (try simp only [List.getElem_toArray, List.getElem_cons_succ, List.getElem_cons_zero, Act.put, List.setIfInBounds_toArray, List.set_cons_zero, List.set_cons_succ])
    refine wpAnyH_ready (rs := [11]) (by kernel_rfl) (by simp) ?_
    refine AllReadyH.cons rfl (fun K' hK => ?_) AllReadyH.nil
    go_simp
    refine hK.out _ _ (by (repeat (first | exact hHeld | exact Below.refl _ _ | (refine Below.alloc ?_ (by (try simp) <;> omega) _) | (refine Below.setCell ?_ (by (try simp) <;> omega) _) | refine Below.drew ?_ | refine below_drewN ?_ _))) (fun hHeld => ?_)
    clear hK K'
    (try simp only [List.getElem_toArray, List.getElem_cons_succ, List.getElem_cons_zero, Act.put, List.setIfInBounds_toArray, List.set_cons_zero, List.set_cons_succ])
    refine tk 12 (v := ?_) ?_ ?_
    rotate_left
    · intro w' hSw; go_simp; (try with_reducible rfl)
    (try simp only [List.getElem_toArray, List.getElem_cons_succ, List.getElem_cons_zero, Act.put, List.setIfInBounds_toArray, List.set_cons_zero, List.set_cons_succ])
    refine wpAnyH_done (by kernel_rfl) ?_ _
    (try simp only [List.getElem_toArray, List.getElem_cons_succ, List.getElem_cons_zero, Act.put, List.setIfInBounds_toArray, List.set_cons_zero, List.set_cons_succ])
    have hT2 := hT.trans (hHeld.mono hT.size)
    have HQ := Lib.hid (show accP s ⟨at_, 14, acc, sub, num, name, val⟩ = 11 by unfold accP; simp only [hacc])
    clear hHeld hacc hfx
    go_wp2_with fail
    go_ret
    exact ⟨ret_int HQ.out.symm, hT2⟩
  case some =>
    rename_i ac
    rw [hacc] at hfx
    refine wp_region_held_drew (S := fun w' => Below W.heap.size W w') (by kernel_rfl) ((Below.refl _ _).drew) (fun hHeld => ?_)
    refine tk 0 (v := ?_) ?_ ?_
    rotate_left
    · intro w' hSw; go_simp; (try with_reducible rfl)
    refine tk 1 (v := ?_) ?_ ?_
    rotate_left
    · intro w' hSw; go_simp; (try with_reducible rfl)
    refine tk 2 (v := ?_) ?_ ?_
    rotate_left
    · intro w' hSw; go_simp; (try with_reducible rfl)
    refine tk 3 (v := ?_) ?_ ?_
    rotate_left
    · intro w' hSw; have z0 := (hSw.cell (p := ⟨k.p, 0, none⟩) hpW).trans c0; have z2 := (hSw.cell (p := ⟨w.heap.size, 2, none⟩) hgW).trans qa2; go_simp; (try with_reducible rfl)
    refine tk 4 (v := ?_) ?_ ?_
    rotate_left
    · intro w' hSw; go_simp; (try with_reducible rfl)
    refine tk 5 (v := ?_) ?_ ?_
    rotate_left
    · intro w' hSw; have z0 := (hSw.cell (p := ⟨k.p, 0, none⟩) hpW).trans c0; have z2 := (hSw.cell (p := ⟨w.heap.size, 2, none⟩) hgW).trans qa2; go_simp; (try with_reducible rfl)
    refine tk 6 (v := ?_) ?_ ?_
    rotate_left
    · intro w' hSw; have hl := (HMA.out.below hSw).run_ok keyI Try.underlying123 (zeroA _) (kI wa) (v := .agg #[.int .i64 ac.id, .int .i64 ac.since, .int .i64 ac.anchor, .bool ac.prepaid, .bool ac.closed, .slice none 0 0]) (c := true) (by rw [hfx]; rfl) (by rw [hfx]; rfl); go_simp; (try with_reducible rfl)
    refine tk 7 (v := ?_) ?_ ?_
    rotate_left
    · intro w' hSw; go_simp; (try with_reducible rfl)
    refine tk 8 (v := ?_) ?_ ?_
    rotate_left
    · intro w' hSw; go_simp; (try with_reducible rfl)
    refine tk 9 (v := ?_) ?_ ?_
    rotate_left
    · intro w' hSw; go_simp; (try with_reducible rfl)
    (try simp only [List.getElem_toArray, List.getElem_cons_succ, List.getElem_cons_zero, Act.put, List.setIfInBounds_toArray, List.set_cons_zero, List.set_cons_succ])
    refine wpAnyH_ready (rs := [10]) (by kernel_rfl) (by simp) ?_
    refine AllReadyH.cons rfl (fun K' hK => ?_) AllReadyH.nil
    go_simp
    refine hK.out _ _ (by (repeat (first | exact hHeld | exact Below.refl _ _ | (refine Below.alloc ?_ (by (try simp) <;> omega) _) | (refine Below.setCell ?_ (by (try simp) <;> omega) _) | refine Below.drew ?_ | refine below_drewN ?_ _))) (fun hHeld => ?_)
    clear hK K'
    (try simp only [List.getElem_toArray, List.getElem_cons_succ, List.getElem_cons_zero, Act.put, List.setIfInBounds_toArray, List.set_cons_zero, List.set_cons_succ])
    refine wpAnyH_ready (rs := [11]) (by kernel_rfl) (by simp) ?_
    refine AllReadyH.cons rfl (fun K' hK => ?_) AllReadyH.nil
    go_simp
    refine hK.out _ _ (by (repeat (first | exact hHeld | exact Below.refl _ _ | (refine Below.alloc ?_ (by (try simp) <;> omega) _) | (refine Below.setCell ?_ (by (try simp) <;> omega) _) | refine Below.drew ?_ | refine below_drewN ?_ _))) (fun hHeld => ?_)
    clear hK K'
    (try simp only [List.getElem_toArray, List.getElem_cons_succ, List.getElem_cons_zero, Act.put, List.setIfInBounds_toArray, List.set_cons_zero, List.set_cons_succ])
    refine tk 12 (v := ?_) ?_ ?_
    rotate_left
    · intro w' hSw; go_simp; (try with_reducible rfl)
    (try simp only [List.getElem_toArray, List.getElem_cons_succ, List.getElem_cons_zero, Act.put, List.setIfInBounds_toArray, List.set_cons_zero, List.set_cons_succ])
    refine wpAnyH_done (by kernel_rfl) ?_ _
    (try simp only [List.getElem_toArray, List.getElem_cons_succ, List.getElem_cons_zero, Act.put, List.setIfInBounds_toArray, List.set_cons_zero, List.set_cons_succ])
    obtain ⟨V, hV, hbV, hzV, fv, -⟩ := box1d W #[.int .i64 ac.id, .int .i64 ac.since, .int .i64 ac.anchor, .bool ac.prepaid, .bool ac.closed, .slice none 0 0] 46
    rw [← hV]
    have va3 := fv 3 _ rfl
    have va4 := fv 4 _ rfl
    (have hzhbV := hbV.size; replace qa0 := cl hbV qa0; replace qa1 := cl hbV qa1; replace qa2 := cl hbV qa2; replace qa3 := cl hbV qa3; replace qa4 := cl hbV qa4; replace qa5 := cl hbV qa5; replace qa6 := cl hbV qa6; replace c0 := cl hbV c0)
    replace hT := hT.trans (hbV.mono hT.size)
    replace HR := Lib.hid (HR.out.below hbV)
    have hpV : k.p < V.heap.size := by omega
    have hgV : w.heap.size < V.heap.size := by omega
    have hgV2 : W.heap.size < V.heap.size := hzV
    have c2 := HR.out.c2
    have c4 := HR.out.c4
    clear hV fv hHeld hbV HMA hfx
    have HAC := Lib.hid (show accP s ⟨at_, 14, acc, sub, num, name, val⟩ = if ac.closed = true then 17 else if ac.prepaid = false then 22 else 0 by unfold accP; simp only [hacc]; simp)
    clear hacc
    cases hcl : ac.closed
    case true =>
      rw [hcl] at va4 HAC
      have HQ := Lib.hid (HAC.out.trans (if_pos rfl))
      go_wp2_with fail
      go_ret
      exact ⟨ret_int HQ.out.symm, hT⟩
    case false =>
      rw [hcl] at va4 HAC
      replace HAC := Lib.hid (HAC.out.trans (if_neg (by decide)))
      cases hpp : ac.prepaid
      case false =>
        rw [hpp] at va3 HAC
        have HQ := Lib.hid (HAC.out.trans (if_pos rfl))
        go_upto_region 6 with (fail)
        ((with_reducible refine wp_region_quiet_lit ?_ ?_ ?_); kernel_rfl; kernel_rfl; (repeat (any_goals (first | go_big_quiet_step (fail) | (refine wpQuiet_step (fun K hK => ?_); go_simp; (first | (refine hK _ ?_; clear hK K) | (split <;> rename_i hg <;> (refine hK _ ?_; clear hK K) <;> (try simp only [Bool.not_eq_true] at hg) <;> (first | simp only [Int.not_lt.2 hg, decide_false] | simp only [Int.not_le.1 hg, decide_true] | simp only [hg, decide_true, decide_false] | skip))))))); all_goals (refine wpQuiet_nil ?_; intro _ hw'; obtain ⟨nq, hw''⟩ := hw'; subst hw''))
        all_goals go_wp2_with (((with_reducible refine wp_region_quiet_lit ?_ ?_ ?_); kernel_rfl; kernel_rfl; (repeat (any_goals (first | go_big_quiet_step (fail) | (refine wpQuiet_step (fun K hK => ?_); go_simp; (first | (refine hK _ ?_; clear hK K) | (split <;> rename_i hg <;> (refine hK _ ?_; clear hK K) <;> (try simp only [Bool.not_eq_true] at hg) <;> (first | simp only [Int.not_lt.2 hg, decide_false] | simp only [Int.not_le.1 hg, decide_true] | simp only [hg, decide_true, decide_false] | skip))))))); all_goals (refine wpQuiet_nil ?_; intro _ hw'; obtain ⟨nq, hw''⟩ := hw'; subst hw'')))
        all_goals go_wp2_with (((with_reducible refine wp_region_quiet_lit ?_ ?_ ?_); kernel_rfl; kernel_rfl; (repeat (any_goals (first | go_big_quiet_step (fail) | (refine wpQuiet_step (fun K hK => ?_); go_simp; (first | (refine hK _ ?_; clear hK K) | (split <;> rename_i hg <;> (refine hK _ ?_; clear hK K) <;> (try simp only [Bool.not_eq_true] at hg) <;> (first | simp only [Int.not_lt.2 hg, decide_false] | simp only [Int.not_le.1 hg, decide_true] | simp only [hg, decide_true, decide_false] | skip))))))); all_goals (refine wpQuiet_nil ?_; intro _ hw'; obtain ⟨nq, hw''⟩ := hw'; subst hw'')))
        all_goals
          go_ret
          exact ⟨ret_int HQ.out.symm, by first | exact hT | exact below_drewN hT _ | exact below_drewN (below_drewN hT _) _⟩
      case true =>
        rw [hpp] at va3 HAC
        have HQ := Lib.hid (HAC.out.trans (if_neg (by decide)))
        go_upto_region 6 with (fail)
        ((with_reducible refine wp_region_quiet_lit ?_ ?_ ?_); kernel_rfl; kernel_rfl; (repeat (any_goals (first | go_big_quiet_step (fail) | (refine wpQuiet_step (fun K hK => ?_); go_simp; (first | (refine hK _ ?_; clear hK K) | (split <;> rename_i hg <;> (refine hK _ ?_; clear hK K) <;> (try simp only [Bool.not_eq_true] at hg) <;> (first | simp only [Int.not_lt.2 hg, decide_false] | simp only [Int.not_le.1 hg, decide_true] | simp only [hg, decide_true, decide_false] | skip))))))); all_goals (refine wpQuiet_nil ?_; intro _ hw'; obtain ⟨nq, hw''⟩ := hw'; subst hw''))
        all_goals go_wp2_with (((with_reducible refine wp_region_quiet_lit ?_ ?_ ?_); kernel_rfl; kernel_rfl; (repeat (any_goals (first | go_big_quiet_step (fail) | (refine wpQuiet_step (fun K hK => ?_); go_simp; (first | (refine hK _ ?_; clear hK K) | (split <;> rename_i hg <;> (refine hK _ ?_; clear hK K) <;> (try simp only [Bool.not_eq_true] at hg) <;> (first | simp only [Int.not_lt.2 hg, decide_false] | simp only [Int.not_le.1 hg, decide_true] | simp only [hg, decide_true, decide_false] | skip))))))); all_goals (refine wpQuiet_nil ?_; intro _ hw'; obtain ⟨nq, hw''⟩ := hw'; subst hw'')))
        all_goals go_wp2_with (((with_reducible refine wp_region_quiet_lit ?_ ?_ ?_); kernel_rfl; kernel_rfl; (repeat (any_goals (first | go_big_quiet_step (fail) | (refine wpQuiet_step (fun K hK => ?_); go_simp; (first | (refine hK _ ?_; clear hK K) | (split <;> rename_i hg <;> (refine hK _ ?_; clear hK K) <;> (try simp only [Bool.not_eq_true] at hg) <;> (first | simp only [Int.not_lt.2 hg, decide_false] | simp only [Int.not_le.1 hg, decide_true] | simp only [hg, decide_true, decide_false] | skip))))))); all_goals (refine wpQuiet_nil ?_; intro _ hw'; obtain ⟨nq, hw''⟩ := hw'; subst hw'')))
        all_goals
          go_ret
          exact ⟨ret_int HQ.out.symm, by first | exact hT | exact below_drewN hT _ | exact below_drewN (below_drewN hT _) _⟩
set_option maxHeartbeats 8000000 in
theorem account_15 (at_ acc sub val : Int) (num name : ByteArray) (B M NN : Nat) (k : Bl) (s : St) (w : World) (h : Rep w B M NN k s) (wa : (Lit.int .i64 acc).wf = true) (ws : (Lit.int .i64 sub).wf = true) :
    Calls Try.prog 97 #[.pointer (some ⟨k.p, 0, none⟩), .agg #[.int .i64 at_, .int .i64 15, .int .i64 acc, .int .i64 sub, .string num, .string name, .int .i64 val]] w fun r w' => r = .returned (.int .i64 (accP s ⟨at_, 15, acc, sub, num, name, val⟩)) ∧ Below w.heap.size w w' := by
  have HR := Lib.hid h
  clear h
  go_enter Try.func97, Try.ntmps97
  go_upto_region 1 with (fail)
  (obtain ⟨W, hWW, hbW, hzW, f1W, qfa⟩ := box1 w #[.int .i64 at_, .int .i64 15, .int .i64 acc, .int .i64 sub, .string num, .string name, .int .i64 val] 36; rw [← hWW]; have qa0 : W.cell? ⟨w.heap.size, 0, none⟩ = some (.int .i64 at_) := f1W 0 _ rfl; have qa1 : W.cell? ⟨w.heap.size, 1, none⟩ = some (.int .i64 15) := f1W 1 _ rfl; have qa2 : W.cell? ⟨w.heap.size, 2, none⟩ = some (.int .i64 acc) := f1W 2 _ rfl; have qa3 : W.cell? ⟨w.heap.size, 3, none⟩ = some (.int .i64 sub) := f1W 3 _ rfl; have qa4 : W.cell? ⟨w.heap.size, 4, none⟩ = some (.string num) := f1W 4 _ rfl; have qa5 : W.cell? ⟨w.heap.size, 5, none⟩ = some (.string name) := f1W 5 _ rfl; have qa6 : W.cell? ⟨w.heap.size, 6, none⟩ = some (.int .i64 val) := f1W 6 _ rfl; clear hWW f1W)
  have hT := hbW
  have hpw : k.p < w.heap.size := Nat.lt_of_lt_of_le HR.out.hi.1 HR.out.m
  have hpW : k.p < W.heap.size := Nat.lt_trans hpw hzW
  have hgW : w.heap.size < W.heap.size := hzW
  replace HR := Lib.hid (HR.out.below hbW)
  have c0 := HR.out.c0
  obtain ⟨fa, hMA, hFA⟩ := HR.out.acc
  have HMA := Lib.hid hMA
  have hfx := hFA acc
  clear hMA hFA qfa hbW hzW
  cases hacc : s.acc acc
  case none =>
    rw [hacc] at hfx
    refine wp_region_held_drew (S := fun w' => Below W.heap.size W w') (by kernel_rfl) ((Below.refl _ _).drew) (fun hHeld => ?_)
    refine tk 0 (v := ?_) ?_ ?_
    rotate_left
    · intro w' hSw; go_simp; (try with_reducible rfl)
    refine tk 1 (v := ?_) ?_ ?_
    rotate_left
    · intro w' hSw; go_simp; (try with_reducible rfl)
    refine tk 2 (v := ?_) ?_ ?_
    rotate_left
    · intro w' hSw; go_simp; (try with_reducible rfl)
    refine tk 3 (v := ?_) ?_ ?_
    rotate_left
    · intro w' hSw; have z0 := (hSw.cell (p := ⟨k.p, 0, none⟩) hpW).trans c0; have z2 := (hSw.cell (p := ⟨w.heap.size, 2, none⟩) hgW).trans qa2; go_simp; (try with_reducible rfl)
    refine tk 4 (v := ?_) ?_ ?_
    rotate_left
    · intro w' hSw; go_simp; (try with_reducible rfl)
    refine tk 5 (v := ?_) ?_ ?_
    rotate_left
    · intro w' hSw; have z0 := (hSw.cell (p := ⟨k.p, 0, none⟩) hpW).trans c0; have z2 := (hSw.cell (p := ⟨w.heap.size, 2, none⟩) hgW).trans qa2; go_simp; (try with_reducible rfl)
    refine tk 6 (v := ?_) ?_ ?_
    rotate_left
    · intro w' hSw; have hl := (HMA.out.below hSw).run_ok keyI Try.underlying123 (zeroA _) (kI wa) (v := .agg #[.int .i64 0, .int .i64 0, .int .i64 0, .bool false, .bool false, .slice none 0 0]) (c := false) (by rw [hfx]; rfl) (by rw [hfx]; rfl); go_simp; (try with_reducible rfl)
    refine tk 7 (v := ?_) ?_ ?_
    rotate_left
    · intro w' hSw; go_simp; (try with_reducible rfl)
    refine tk 8 (v := ?_) ?_ ?_
    rotate_left
    · intro w' hSw; go_simp; (try with_reducible rfl)
    refine tk 9 (v := ?_) ?_ ?_
    rotate_left
    · intro w' hSw; go_simp; (try with_reducible rfl)
    (try simp only [List.getElem_toArray, List.getElem_cons_succ, List.getElem_cons_zero, Act.put, List.setIfInBounds_toArray, List.set_cons_zero, List.set_cons_succ])
    refine wpAnyH_ready (rs := [10]) (by kernel_rfl) (by simp) ?_
    refine AllReadyH.cons rfl (fun K' hK => ?_) AllReadyH.nil
    go_simp
    refine hK.out _ _ (by (repeat (first | exact hHeld | exact Below.refl _ _ | (refine Below.alloc ?_ (by (try simp) <;> omega) _) | (refine Below.setCell ?_ (by (try simp) <;> omega) _) | refine Below.drew ?_ | refine below_drewN ?_ _))) (fun hHeld => ?_)
    clear hK K'
    (try simp only [List.getElem_toArray, List.getElem_cons_succ, List.getElem_cons_zero, Act.put, List.setIfInBounds_toArray, List.set_cons_zero, List.set_cons_succ])
    refine wpAnyH_ready (rs := [11]) (by kernel_rfl) (by simp) ?_
    refine AllReadyH.cons rfl (fun K' hK => ?_) AllReadyH.nil
    go_simp
    refine hK.out _ _ (by (repeat (first | exact hHeld | exact Below.refl _ _ | (refine Below.alloc ?_ (by (try simp) <;> omega) _) | (refine Below.setCell ?_ (by (try simp) <;> omega) _) | refine Below.drew ?_ | refine below_drewN ?_ _))) (fun hHeld => ?_)
    clear hK K'
    (try simp only [List.getElem_toArray, List.getElem_cons_succ, List.getElem_cons_zero, Act.put, List.setIfInBounds_toArray, List.set_cons_zero, List.set_cons_succ])
    refine tk 12 (v := ?_) ?_ ?_
    rotate_left
    · intro w' hSw; go_simp; (try with_reducible rfl)
    (try simp only [List.getElem_toArray, List.getElem_cons_succ, List.getElem_cons_zero, Act.put, List.setIfInBounds_toArray, List.set_cons_zero, List.set_cons_succ])
    refine wpAnyH_done (by kernel_rfl) ?_ _
    (try simp only [List.getElem_toArray, List.getElem_cons_succ, List.getElem_cons_zero, Act.put, List.setIfInBounds_toArray, List.set_cons_zero, List.set_cons_succ])
    have hT2 := hT.trans (hHeld.mono hT.size)
    have HQ := Lib.hid (show accP s ⟨at_, 15, acc, sub, num, name, val⟩ = 11 by unfold accP; simp only [hacc])
    clear hHeld hacc hfx
    go_wp2_with fail
    go_ret
    exact ⟨ret_int HQ.out.symm, hT2⟩
  case some =>
    rename_i ac
    rw [hacc] at hfx
    refine wp_region_held_drew (S := fun w' => Below W.heap.size W w') (by kernel_rfl) ((Below.refl _ _).drew) (fun hHeld => ?_)
    refine tk 0 (v := ?_) ?_ ?_
    rotate_left
    · intro w' hSw; go_simp; (try with_reducible rfl)
    refine tk 1 (v := ?_) ?_ ?_
    rotate_left
    · intro w' hSw; go_simp; (try with_reducible rfl)
    refine tk 2 (v := ?_) ?_ ?_
    rotate_left
    · intro w' hSw; go_simp; (try with_reducible rfl)
    refine tk 3 (v := ?_) ?_ ?_
    rotate_left
    · intro w' hSw; have z0 := (hSw.cell (p := ⟨k.p, 0, none⟩) hpW).trans c0; have z2 := (hSw.cell (p := ⟨w.heap.size, 2, none⟩) hgW).trans qa2; go_simp; (try with_reducible rfl)
    refine tk 4 (v := ?_) ?_ ?_
    rotate_left
    · intro w' hSw; go_simp; (try with_reducible rfl)
    refine tk 5 (v := ?_) ?_ ?_
    rotate_left
    · intro w' hSw; have z0 := (hSw.cell (p := ⟨k.p, 0, none⟩) hpW).trans c0; have z2 := (hSw.cell (p := ⟨w.heap.size, 2, none⟩) hgW).trans qa2; go_simp; (try with_reducible rfl)
    refine tk 6 (v := ?_) ?_ ?_
    rotate_left
    · intro w' hSw; have hl := (HMA.out.below hSw).run_ok keyI Try.underlying123 (zeroA _) (kI wa) (v := .agg #[.int .i64 ac.id, .int .i64 ac.since, .int .i64 ac.anchor, .bool ac.prepaid, .bool ac.closed, .slice none 0 0]) (c := true) (by rw [hfx]; rfl) (by rw [hfx]; rfl); go_simp; (try with_reducible rfl)
    refine tk 7 (v := ?_) ?_ ?_
    rotate_left
    · intro w' hSw; go_simp; (try with_reducible rfl)
    refine tk 8 (v := ?_) ?_ ?_
    rotate_left
    · intro w' hSw; go_simp; (try with_reducible rfl)
    refine tk 9 (v := ?_) ?_ ?_
    rotate_left
    · intro w' hSw; go_simp; (try with_reducible rfl)
    (try simp only [List.getElem_toArray, List.getElem_cons_succ, List.getElem_cons_zero, Act.put, List.setIfInBounds_toArray, List.set_cons_zero, List.set_cons_succ])
    refine wpAnyH_ready (rs := [10]) (by kernel_rfl) (by simp) ?_
    refine AllReadyH.cons rfl (fun K' hK => ?_) AllReadyH.nil
    go_simp
    refine hK.out _ _ (by (repeat (first | exact hHeld | exact Below.refl _ _ | (refine Below.alloc ?_ (by (try simp) <;> omega) _) | (refine Below.setCell ?_ (by (try simp) <;> omega) _) | refine Below.drew ?_ | refine below_drewN ?_ _))) (fun hHeld => ?_)
    clear hK K'
    (try simp only [List.getElem_toArray, List.getElem_cons_succ, List.getElem_cons_zero, Act.put, List.setIfInBounds_toArray, List.set_cons_zero, List.set_cons_succ])
    refine wpAnyH_ready (rs := [11]) (by kernel_rfl) (by simp) ?_
    refine AllReadyH.cons rfl (fun K' hK => ?_) AllReadyH.nil
    go_simp
    refine hK.out _ _ (by (repeat (first | exact hHeld | exact Below.refl _ _ | (refine Below.alloc ?_ (by (try simp) <;> omega) _) | (refine Below.setCell ?_ (by (try simp) <;> omega) _) | refine Below.drew ?_ | refine below_drewN ?_ _))) (fun hHeld => ?_)
    clear hK K'
    (try simp only [List.getElem_toArray, List.getElem_cons_succ, List.getElem_cons_zero, Act.put, List.setIfInBounds_toArray, List.set_cons_zero, List.set_cons_succ])
    refine tk 12 (v := ?_) ?_ ?_
    rotate_left
    · intro w' hSw; go_simp; (try with_reducible rfl)
    (try simp only [List.getElem_toArray, List.getElem_cons_succ, List.getElem_cons_zero, Act.put, List.setIfInBounds_toArray, List.set_cons_zero, List.set_cons_succ])
    refine wpAnyH_done (by kernel_rfl) ?_ _
    (try simp only [List.getElem_toArray, List.getElem_cons_succ, List.getElem_cons_zero, Act.put, List.setIfInBounds_toArray, List.set_cons_zero, List.set_cons_succ])
    obtain ⟨V, hV, hbV, hzV, fv, -⟩ := box1d W #[.int .i64 ac.id, .int .i64 ac.since, .int .i64 ac.anchor, .bool ac.prepaid, .bool ac.closed, .slice none 0 0] 46
    rw [← hV]
    have va3 := fv 3 _ rfl
    have va4 := fv 4 _ rfl
    (have hzhbV := hbV.size; replace qa0 := cl hbV qa0; replace qa1 := cl hbV qa1; replace qa2 := cl hbV qa2; replace qa3 := cl hbV qa3; replace qa4 := cl hbV qa4; replace qa5 := cl hbV qa5; replace qa6 := cl hbV qa6; replace c0 := cl hbV c0)
    replace hT := hT.trans (hbV.mono hT.size)
    replace HR := Lib.hid (HR.out.below hbV)
    have hpV : k.p < V.heap.size := by omega
    have hgV : w.heap.size < V.heap.size := by omega
    have hgV2 : W.heap.size < V.heap.size := hzV
    have c2 := HR.out.c2
    have c4 := HR.out.c4
    clear hV fv hHeld hbV HMA hfx
    have HAC := Lib.hid (show accP s ⟨at_, 15, acc, sub, num, name, val⟩ = if ac.closed = true then 17 else if ac.prepaid = false then 22 else 0 by unfold accP; simp only [hacc]; simp)
    clear hacc
    cases hcl : ac.closed
    case true =>
      rw [hcl] at va4 HAC
      have HQ := Lib.hid (HAC.out.trans (if_pos rfl))
      go_wp2_with fail
      go_ret
      exact ⟨ret_int HQ.out.symm, hT⟩
    case false =>
      rw [hcl] at va4 HAC
      replace HAC := Lib.hid (HAC.out.trans (if_neg (by decide)))
      cases hpp : ac.prepaid
      case false =>
        rw [hpp] at va3 HAC
        have HQ := Lib.hid (HAC.out.trans (if_pos rfl))
        go_upto_region 6 with (fail)
        ((with_reducible refine wp_region_quiet_lit ?_ ?_ ?_); kernel_rfl; kernel_rfl; (repeat (any_goals (first | go_big_quiet_step (fail) | (refine wpQuiet_step (fun K hK => ?_); go_simp; (first | (refine hK _ ?_; clear hK K) | (split <;> rename_i hg <;> (refine hK _ ?_; clear hK K) <;> (try simp only [Bool.not_eq_true] at hg) <;> (first | simp only [Int.not_lt.2 hg, decide_false] | simp only [Int.not_le.1 hg, decide_true] | simp only [hg, decide_true, decide_false] | skip))))))); all_goals (refine wpQuiet_nil ?_; intro _ hw'; obtain ⟨nq, hw''⟩ := hw'; subst hw''))
        all_goals go_wp2_with (((with_reducible refine wp_region_quiet_lit ?_ ?_ ?_); kernel_rfl; kernel_rfl; (repeat (any_goals (first | go_big_quiet_step (fail) | (refine wpQuiet_step (fun K hK => ?_); go_simp; (first | (refine hK _ ?_; clear hK K) | (split <;> rename_i hg <;> (refine hK _ ?_; clear hK K) <;> (try simp only [Bool.not_eq_true] at hg) <;> (first | simp only [Int.not_lt.2 hg, decide_false] | simp only [Int.not_le.1 hg, decide_true] | simp only [hg, decide_true, decide_false] | skip))))))); all_goals (refine wpQuiet_nil ?_; intro _ hw'; obtain ⟨nq, hw''⟩ := hw'; subst hw'')))
        all_goals go_wp2_with (((with_reducible refine wp_region_quiet_lit ?_ ?_ ?_); kernel_rfl; kernel_rfl; (repeat (any_goals (first | go_big_quiet_step (fail) | (refine wpQuiet_step (fun K hK => ?_); go_simp; (first | (refine hK _ ?_; clear hK K) | (split <;> rename_i hg <;> (refine hK _ ?_; clear hK K) <;> (try simp only [Bool.not_eq_true] at hg) <;> (first | simp only [Int.not_lt.2 hg, decide_false] | simp only [Int.not_le.1 hg, decide_true] | simp only [hg, decide_true, decide_false] | skip))))))); all_goals (refine wpQuiet_nil ?_; intro _ hw'; obtain ⟨nq, hw''⟩ := hw'; subst hw'')))
        all_goals
          go_ret
          exact ⟨ret_int HQ.out.symm, by first | exact hT | exact below_drewN hT _ | exact below_drewN (below_drewN hT _) _⟩
      case true =>
        rw [hpp] at va3 HAC
        have HQ := Lib.hid (HAC.out.trans (if_neg (by decide)))
        go_upto_region 6 with (fail)
        ((with_reducible refine wp_region_quiet_lit ?_ ?_ ?_); kernel_rfl; kernel_rfl; (repeat (any_goals (first | go_big_quiet_step (fail) | (refine wpQuiet_step (fun K hK => ?_); go_simp; (first | (refine hK _ ?_; clear hK K) | (split <;> rename_i hg <;> (refine hK _ ?_; clear hK K) <;> (try simp only [Bool.not_eq_true] at hg) <;> (first | simp only [Int.not_lt.2 hg, decide_false] | simp only [Int.not_le.1 hg, decide_true] | simp only [hg, decide_true, decide_false] | skip))))))); all_goals (refine wpQuiet_nil ?_; intro _ hw'; obtain ⟨nq, hw''⟩ := hw'; subst hw''))
        all_goals go_wp2_with (((with_reducible refine wp_region_quiet_lit ?_ ?_ ?_); kernel_rfl; kernel_rfl; (repeat (any_goals (first | go_big_quiet_step (fail) | (refine wpQuiet_step (fun K hK => ?_); go_simp; (first | (refine hK _ ?_; clear hK K) | (split <;> rename_i hg <;> (refine hK _ ?_; clear hK K) <;> (try simp only [Bool.not_eq_true] at hg) <;> (first | simp only [Int.not_lt.2 hg, decide_false] | simp only [Int.not_le.1 hg, decide_true] | simp only [hg, decide_true, decide_false] | skip))))))); all_goals (refine wpQuiet_nil ?_; intro _ hw'; obtain ⟨nq, hw''⟩ := hw'; subst hw'')))
        all_goals go_wp2_with (((with_reducible refine wp_region_quiet_lit ?_ ?_ ?_); kernel_rfl; kernel_rfl; (repeat (any_goals (first | go_big_quiet_step (fail) | (refine wpQuiet_step (fun K hK => ?_); go_simp; (first | (refine hK _ ?_; clear hK K) | (split <;> rename_i hg <;> (refine hK _ ?_; clear hK K) <;> (try simp only [Bool.not_eq_true] at hg) <;> (first | simp only [Int.not_lt.2 hg, decide_false] | simp only [Int.not_le.1 hg, decide_true] | simp only [hg, decide_true, decide_false] | skip))))))); all_goals (refine wpQuiet_nil ?_; intro _ hw'; obtain ⟨nq, hw''⟩ := hw'; subst hw'')))
        all_goals
          go_ret
          exact ⟨ret_int HQ.out.symm, by first | exact hT | exact below_drewN hT _ | exact below_drewN (below_drewN hT _) _⟩
end Cu
end Go.Proofs.Yteaanngagcflhaa
