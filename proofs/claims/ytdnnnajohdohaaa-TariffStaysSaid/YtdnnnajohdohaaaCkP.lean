/-
  Ladders in plain words. No condition.
-/
import Derived.Test.YtdnnnajohdohaaaExC
import Derived.Test.YtdnnnajohdohaaaComB
import Derived.BigQuiet
import Derived.StillTailTactics
import Derived.Lib.Overlaps
import Derived.Deep.DeepCutAuto
set_option maxRecDepth 100000
set_option linter.unusedVariables false
set_option linter.unusedSimpArgs false
namespace Go.Proofs.Ytdnnnajohdohaaa
open Go.RowKit

namespace Ck
open Xp
structure Stp where
  upto : Int
  quantum : Int
  price : Int
instance : Flat Stp where
  sz := 3
  pos := by decide
  cells s := [.int .i64 s.upto, .int .i64 s.quantum, .int .i64 s.price]
  len _ := rfl
  one _ := by simp [Value.oneCell']
/-- are the numbers of a step permitted? -/
def okS (s : Stp) : Bool := inB 1099511627776 s.upto && inB 1099511627776 s.quantum && decide (s.quantum ≠ 0) && inB 1125899906842624 s.price
/-- the error of a step behind one that reaches up to p; last: is it the last one? -/
def stepE (p : Int) (last : Bool) (s : Stp) : Int :=
  if okS s = false then 6 else if decide (s.upto = 0) ≠ last then 8 else if s.upto ≠ 0 ∧ s.upto ≤ p then 9 else 0
def restE : Int → List Stp → Int
  | _, [] => 0
  | p, s :: l => if stepE p l.isEmpty s ≠ 0 then stepE p l.isEmpty s else restE s.upto l
def stepsE (l : List Stp) : Int := if l.length = 0 then 8 else if 64 < l.length then 5 else restE 0 l
theorem drop_cons {l : List Stp} {k : Nat} {s : Stp} (h : l[k]? = some s) : l.drop k = s :: l.drop (k + 1) := by
  obtain ⟨hk, rfl⟩ := List.getElem?_eq_some_iff.1 h
  exact List.drop_eq_getElem_cons hk
theorem restE_bad {l : List Stp} {k : Nat} {s : Stp} {p e : Int} (h : l[k]? = some s) (he : stepE p (decide (k + 1 = l.length)) s = e) (hne : e ≠ 0) : restE p (l.drop k) = e := by
  have hk := (List.getElem?_eq_some_iff.1 h).1
  rw [drop_cons h, restE]
  have : (l.drop (k + 1)).isEmpty = decide (k + 1 = l.length) := by
    rw [Bool.eq_iff_iff, List.isEmpty_iff_length_eq_zero, List.length_drop, decide_eq_true_eq]; omega
  rw [this, he, if_pos hne]
theorem restE_ok {l : List Stp} {k : Nat} {s : Stp} {p : Int} (h : l[k]? = some s) (he : stepE p (decide (k + 1 = l.length)) s = 0) : restE p (l.drop k) = restE s.upto (l.drop (k + 1)) := by
  have hk := (List.getElem?_eq_some_iff.1 h).1
  rw [drop_cons h, restE]
  have : (l.drop (k + 1)).isEmpty = decide (k + 1 = l.length) := by
    rw [Bool.eq_iff_iff, List.isEmpty_iff_length_eq_zero, List.length_drop, decide_eq_true_eq]; omega
  rw [this, he, if_neg (by simp)]
end Ck
end Go.Proofs.Ytdnnnajohdohaaa
