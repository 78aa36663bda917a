/-
  Expressions: the reference's result. No condition.
-/
import Derived.Test.YtdnnnajohdohaaaExD
import Derived.BigQuiet
import Derived.StillTailTactics
import Derived.Lib.Overlaps
import Derived.Deep.DeepCutAuto
set_option maxRecDepth 100000
set_option linter.unusedVariables false
set_option linter.unusedSimpArgs false
namespace Go.Proofs.Ytdnnnajohdohaaa
open Go.RowKit

namespace Xp

theorem Sl.at0 {w : World} {A : Option Addr} {n c : Nat} {l : List Int} {a : Int} (h : Sl w A n c l) (ha : l[0]? = some a) : ∃ b off, A = some ⟨b, off, none⟩ ∧ b < w.heap.size ∧ w.cell? ⟨b, off, none⟩ = some (.int .i64 a) := by
  have hn : 0 < n := by have := h.len; have := (List.getElem?_eq_some_iff.1 ha).1; omega
  obtain ⟨b, off, e, hb, hc⟩ := Sl.one rfl h hn
  exact ⟨b, off, e, hb, hc 0 a _ ha rfl⟩
theorem Sl.at1 {w : World} {n c b off : Nat} {l : List Int} {a : Int} (h : Sl w (some ⟨b, off, none⟩) n c l) (ha : l[1]? = some a) : w.cell? ⟨b, off + 1, none⟩ = some (.int .i64 a) := by
  have hn : 0 < n := by have := h.len; have := (List.getElem?_eq_some_iff.1 ha).1; omega
  obtain ⟨b', off', e, hb, hc⟩ := Sl.one rfl h hn
  injection e with e
  injection e with e1 e2
  subst e1 e2
  exact hc 1 a _ ha rfl
set_option maxHeartbeats 4000000 in
theorem result_leaf (op : Int) (x : It) (hx : x.op = op) (B : Option Addr) (m d : Nat) (w : World) (h : op = 1 ∨ op = 2 ∨ op = 3) :
    Calls Try.prog 87 #[x.val, .slice B m d] w fun r w' => r = .returned (.int .i64 (if op = 3 then attrSort x.text else op)) ∧ Below w.heap.size w w' := by
  obtain ⟨o, num, text, A, n, c⟩ := x
  dsimp only at hx
  subst hx
  unfold It.val
  rcases h with rfl | rfl | rfl
  all_goals
    go_enter Try.func87, Try.ntmps87
    go_upto_region 1 with (fail)
    (try dsimp only)
    first
      | ((obtain ⟨W, hWW, hbW, hzW, f1W, qfa⟩ := box1 w #[.int .i64 1, .int .i64 num, .string text, .slice A n c] 60; rw [← hWW]; have qa0 : W.cell? ⟨w.heap.size, 0, none⟩ = some (.int .i64 1) := f1W 0 _ rfl; have qa1 : W.cell? ⟨w.heap.size, 1, none⟩ = some (.int .i64 num) := f1W 1 _ rfl; have qa2 : W.cell? ⟨w.heap.size, 2, none⟩ = some (.string text) := f1W 2 _ rfl; have qa3 : W.cell? ⟨w.heap.size, 3, none⟩ = some (.slice A n c) := f1W 3 _ rfl; clear hWW f1W))
      | ((obtain ⟨W, hWW, hbW, hzW, f1W, qfa⟩ := box1 w #[.int .i64 2, .int .i64 num, .string text, .slice A n c] 60; rw [← hWW]; have qa0 : W.cell? ⟨w.heap.size, 0, none⟩ = some (.int .i64 2) := f1W 0 _ rfl; have qa1 : W.cell? ⟨w.heap.size, 1, none⟩ = some (.int .i64 num) := f1W 1 _ rfl; have qa2 : W.cell? ⟨w.heap.size, 2, none⟩ = some (.string text) := f1W 2 _ rfl; have qa3 : W.cell? ⟨w.heap.size, 3, none⟩ = some (.slice A n c) := f1W 3 _ rfl; clear hWW f1W))
      | ((obtain ⟨W, hWW, hbW, hzW, f1W, qfa⟩ := box1 w #[.int .i64 3, .int .i64 num, .string text, .slice A n c] 60; rw [← hWW]; have qa0 : W.cell? ⟨w.heap.size, 0, none⟩ = some (.int .i64 3) := f1W 0 _ rfl; have qa1 : W.cell? ⟨w.heap.size, 1, none⟩ = some (.int .i64 num) := f1W 1 _ rfl; have qa2 : W.cell? ⟨w.heap.size, 2, none⟩ = some (.string text) := f1W 2 _ rfl; have qa3 : W.cell? ⟨w.heap.size, 3, none⟩ = some (.slice A n c) := f1W 3 _ rfl; clear hWW f1W))
    go_wp2_with fail
    first
      | (go_ret
         exact ⟨ret_int rfl, hbW⟩)
      | (refine (refattr_any text _).mono ?_
         rintro e w5 ⟨rfl, hb5⟩
         have hbe := hbW.trans (hb5.mono hbW.size)
         go_wp2_with fail
         go_ret
         exact ⟨ret_int rfl, hbe⟩)
set_option maxHeartbeats 4000000 in
theorem result_not (x : It) (hx : x.op = 4) (B : Option Addr) (d : Nat) (s : Int) (w : World) (h : Sl w B 1 d [s]) :
    Calls Try.prog 87 #[x.val, .slice B 1 d] w fun r w' => r = .returned (.int .i64 (comb 4 s 0).1) ∧ Below w.heap.size w w' := by
  obtain ⟨o, num, text, A, n, c⟩ := x
  dsimp only at hx
  subst hx
  unfold It.val
  obtain ⟨b, off, rfl, hbw, k0⟩ := Sl.at0 h rfl
  clear h
  have HC := Lib.hid (show (comb 4 s 0).1 = if s = 3 then 3 else 0 by unfold comb combOk; by_cases h : s = 3 <;> simp [h])
  cases hs : (s == 3)
  all_goals
    have HS := Lib.hid hs
    go_enter Try.func87, Try.ntmps87
    go_upto_region 1 with (fail)
    (try dsimp only)
    (obtain ⟨W, hWW, hbW, hzW, f1W, qfa⟩ := box1 w #[.int .i64 4, .int .i64 num, .string text, .slice A n c] 60; rw [← hWW]; have qa0 : W.cell? ⟨w.heap.size, 0, none⟩ = some (.int .i64 4) := f1W 0 _ rfl; have qa1 : W.cell? ⟨w.heap.size, 1, none⟩ = some (.int .i64 num) := f1W 1 _ rfl; have qa2 : W.cell? ⟨w.heap.size, 2, none⟩ = some (.string text) := f1W 2 _ rfl; have qa3 : W.cell? ⟨w.heap.size, 3, none⟩ = some (.slice A n c) := f1W 3 _ rfl; clear hWW f1W)
    replace k0 := (hbW.cell (p := ⟨_, _, none⟩) (by (try dsimp only) <;> omega)).trans k0
    go_wp2_with fail
    go_ret
    refine ⟨ret_int ?_, hbW⟩
    rw [HC.out]
    have := HS.out
    simp at this
    simp [this]
set_option maxHeartbeats 8000000 in
theorem result_bin (op : Int) (x : It) (hx : x.op = op) (B : Option Addr) (d : Nat) (s t : Int) (w : World) (h : Sl w B 2 d [s, t]) (hop : 5 ≤ op ∧ op ≤ 15) :
    Calls Try.prog 87 #[x.val, .slice B 2 d] w fun r w' => r = .returned (.int .i64 (comb op s t).1) ∧ Below w.heap.size w w' := by
  obtain ⟨o, num, text, A, n, c⟩ := x
  dsimp only at hx
  subst hx
  unfold It.val
  obtain ⟨b, off, rfl, hbw, k0⟩ := Sl.at0 h rfl
  have k1 := Sl.at1 h rfl
  clear h
  obtain ⟨R, hR⟩ : ∃ R, (comb o s t).1 = R := ⟨_, rfl⟩
  rw [hR]
  by_cases hst : s = t
  · subst hst
    have HR : Hid (R = if o = 5 ∨ o = 6 then (if s = 3 then 3 else 0) else if o = 7 ∨ o = 8 then (if s = 3 then 0 else 3) else if o = 9 ∨ o = 10 then (if s = 1 then 3 else 0) else (if s = 1 then 1 else 0)) := by
      rw [← hR]
      unfold comb combOk
      refine Lib.hid ?_
      have h11 : o = 5 ∨ o = 6 ∨ o = 7 ∨ o = 8 ∨ o = 9 ∨ o = 10 ∨ o = 11 ∨ o = 12 ∨ o = 13 ∨ o = 14 ∨ o = 15 := by omega
      rcases h11 with rfl | rfl | rfl | rfl | rfl | rfl | rfl | rfl | rfl | rfl | rfl
      all_goals (by_cases h1 : s = 3 <;> by_cases h2 : s = 1 <;> simp_all)
    clear hR
    have h11 : o = 5 ∨ o = 6 ∨ o = 7 ∨ o = 8 ∨ o = 9 ∨ o = 10 ∨ (11 ≤ o ∧ o ≤ 15) := by omega
    clear hop
    obtain ⟨g1, g2⟩ : (∃ g, (s == 3) = g) ∧ (∃ g, (s == 1) = g) := ⟨⟨_, rfl⟩, ⟨_, rfl⟩⟩
    rcases h11 with rfl | rfl | rfl | rfl | rfl | rfl | ⟨ho1, ho2⟩
    all_goals
      go_enter Try.func87, Try.ntmps87
      go_upto_region 1 with (fail)
      (try dsimp only)
      obtain ⟨W, hWW, hbW, hzW, f1W, -⟩ := box1 w _ _
      rw [← hWW]
      have qa0 := f1W 0 _ rfl
      clear hWW f1W
      replace k0 := (hbW.cell (p := ⟨_, _, none⟩) (by (try dsimp only) <;> omega)).trans k0
      replace k1 := (hbW.cell (p := ⟨_, _, none⟩) (by (try dsimp only) <;> omega)).trans k1
      go_wp2_with ((with_reducible refine wp_region_quiet_lit ?_ ?_ ?_); kernel_rfl; kernel_rfl; (repeat (any_goals (first | go_big_quiet_step (fail) | (refine wpQuiet_step (fun K hK => ?_); go_simp; (first | (refine hK _ ?_; clear hK K) | (split <;> rename_i hg <;> (refine hK _ ?_; clear hK K) <;> (try simp only [Bool.not_eq_true] at hg) <;> (first | simp only [Int.not_lt.2 hg, decide_false] | simp only [Int.not_le.1 hg, decide_true] | simp only [hg, decide_true, decide_false] | skip))))))); all_goals (refine wpQuiet_nil ?_; intro _ hw'; obtain ⟨nq, hw''⟩ := hw'; subst hw''))
      all_goals
        go_ret
        refine ⟨ret_int ?_, by (repeat (first | exact hbW | exact Below.refl _ _ | (refine Below.alloc ?_ (by (try simp) <;> omega) _) | (refine Below.setCell ?_ (by (try simp) <;> omega) _) | refine Below.drew ?_ | refine below_drewN ?_ _))⟩
        rw [HR.out]
        simp_all
  · have HR : Hid (R = 0) := by
      rw [← hR]
      unfold comb combOk
      refine Lib.hid ?_
      have h11 : o = 5 ∨ o = 6 ∨ o = 7 ∨ o = 8 ∨ o = 9 ∨ o = 10 ∨ o = 11 ∨ o = 12 ∨ o = 13 ∨ o = 14 ∨ o = 15 := by omega
      rcases h11 with rfl | rfl | rfl | rfl | rfl | rfl | rfl | rfl | rfl | rfl | rfl
      all_goals (by_cases h1 : s = 3 <;> by_cases h2 : s = 1 <;> by_cases h3 : t = 3 <;> by_cases h4 : t = 1 <;> simp_all)
    have hne : (s != t) = true := by simpa using hst
    clear hR hst
    obtain ⟨hop1, hop2⟩ := hop
    go_enter Try.func87, Try.ntmps87
    go_upto_region 1 with (fail)
    (try dsimp only)
    (obtain ⟨W, hWW, hbW, hzW, f1W, qfa⟩ := box1 w #[.int .i64 o, .int .i64 num, .string text, .slice A n c] 60; rw [← hWW]; have qa0 : W.cell? ⟨w.heap.size, 0, none⟩ = some (.int .i64 o) := f1W 0 _ rfl; have qa1 : W.cell? ⟨w.heap.size, 1, none⟩ = some (.int .i64 num) := f1W 1 _ rfl; have qa2 : W.cell? ⟨w.heap.size, 2, none⟩ = some (.string text) := f1W 2 _ rfl; have qa3 : W.cell? ⟨w.heap.size, 3, none⟩ = some (.slice A n c) := f1W 3 _ rfl; clear hWW f1W)
    replace k0 := (hbW.cell (p := ⟨_, _, none⟩) (by (try dsimp only) <;> omega)).trans k0
    replace k1 := (hbW.cell (p := ⟨_, _, none⟩) (by (try dsimp only) <;> omega)).trans k1
    go_wp2_with ((with_reducible refine wp_region_quiet_lit ?_ ?_ ?_); kernel_rfl; kernel_rfl; (repeat (any_goals (first | go_big_quiet_step (fail) | (refine wpQuiet_step (fun K hK => ?_); go_simp; (first | (refine hK _ ?_; clear hK K) | (split <;> rename_i hg <;> (refine hK _ ?_; clear hK K) <;> (try simp only [Bool.not_eq_true] at hg) <;> (first | simp only [Int.not_lt.2 hg, decide_false] | simp only [Int.not_le.1 hg, decide_true] | simp only [hg, decide_true, decide_false] | skip))))))); all_goals (refine wpQuiet_nil ?_; intro _ hw'; obtain ⟨nq, hw''⟩ := hw'; subst hw''))
    go_ret
    exact ⟨ret_int HR.out.symm, by (repeat (first | exact hbW | exact Below.refl _ _ | (refine Below.alloc ?_ (by (try simp) <;> omega) _) | (refine Below.setCell ?_ (by (try simp) <;> omega) _) | refine Below.drew ?_ | refine below_drewN ?_ _))⟩

end Xp
end Go.Proofs.Ytdnnnajohdohaaa
