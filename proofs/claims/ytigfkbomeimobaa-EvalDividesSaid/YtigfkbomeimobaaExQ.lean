/-
  Expressions: what the laws' own trees come to. No condition.
-/
import Derived.Test.YtigfkbomeimobaaExZ
import Derived.BigQuiet
import Derived.StillTailTactics
import Derived.Lib.Overlaps
import Derived.Deep.DeepCutAuto
set_option maxRecDepth 100000
set_option linter.unusedVariables false
set_option linter.unusedSimpArgs false
namespace Go.Proofs.Ytigfkbomeimobaa
open Go.RowKit

namespace Xp
def vAB (a b : Int) : Env := ⟨0, a, 0, 0, b, 0, ⟨#[]⟩, ⟨#[]⟩, false⟩
abbrev eU : Ex := Lf 3 0 nUnits
abbrev eT : Ex := Lf 3 0 nTotal
theorem numU (a b : Int) (d : Nat) : numE (vAB a b) (d + 1) eU = rng a := by
  rw [numE.eq_2, if_neg (by decide), if_pos rfl]
  rfl
theorem numT (a b : Int) (d : Nat) : numE (vAB a b) (d + 1) eT = rng b := by
  rw [numE.eq_2, if_neg (by decide), if_pos rfl]
  rfl
def cmpAB (op a b : Int) : Bool := match rng a, rng b with | some x, some y => test op (ordI x y) | _, _ => false
theorem srt_cmp (op : Int) (h : op = 7 ∨ op = 8 ∨ op = 9 ∨ op = 10) (x y : Ex) (hx : x = eU ∨ x = eT) (hy : y = eU ∨ y = eT) : srt 16 (Tw op x y) = (3, 0) := by
  rcases h with rfl | rfl | rfl | rfl <;> rcases hx with rfl | rfl <;> rcases hy with rfl | rfl <;> rfl
theorem srt_num (op : Int) (h : op = 11 ∨ op = 12 ∨ op = 13 ∨ op = 14 ∨ op = 15) (x y : Ex) (hx : x = eU ∨ x = eT) (hy : y = eU ∨ y = eT) : srt 16 (Tw op x y) = (1, 0) := by
  rcases h with rfl | rfl | rfl | rfl | rfl <;> rcases hx with rfl | rfl <;> rcases hy with rfl | rfl <;> rfl
theorem topH_UT (op a b : Int) (h : op = 7 ∨ op = 8 ∨ op = 9 ∨ op = 10) : topH (vAB a b) (Tw op eU eT) = cmpAB op a b := by
  unfold topH
  rw [if_pos (by rw [srt_cmp op h _ _ (.inl rfl) (.inr rfl)]; exact ⟨rfl, rfl⟩), holE_cmp (by omega)]
  unfold cmpE ordE
  rw [if_neg (show ¬ (srt 16 eU).1 = 2 by decide), numU, numT]
  unfold cmpAB
  cases rng a <;> cases rng b <;> rfl
theorem topH_TU (op a b : Int) (h : op = 7 ∨ op = 8 ∨ op = 9 ∨ op = 10) : topH (vAB a b) (Tw op eT eU) = cmpAB op b a := by
  unfold topH
  rw [if_pos (by rw [srt_cmp op h _ _ (.inr rfl) (.inl rfl)]; exact ⟨rfl, rfl⟩), holE_cmp (by omega)]
  unfold cmpE ordE
  rw [if_neg (show ¬ (srt 16 eT).1 = 2 by decide), numU, numT]
  unfold cmpAB
  cases rng b <;> cases rng a <;> rfl
theorem topN_UT (op a b : Int) (h : op = 11 ∨ op = 12 ∨ op = 13 ∨ op = 14 ∨ op = 15) : topN (vAB a b) (Tw op eU eT) = both op (rng a) (rng b) := by
  unfold topN
  rw [if_pos (by rw [srt_num op h _ _ (.inl rfl) (.inr rfl)]; exact ⟨rfl, rfl⟩), numE_bin (by omega), numU, numT]
theorem topN_TU (op a b : Int) (h : op = 11 ∨ op = 12 ∨ op = 13 ∨ op = 14 ∨ op = 15) : topN (vAB a b) (Tw op eT eU) = both op (rng b) (rng a) := by
  unfold topN
  rw [if_pos (by rw [srt_num op h _ _ (.inr rfl) (.inl rfl)]; exact ⟨rfl, rfl⟩), numE_bin (by omega), numU, numT]

theorem rng_out {n : Int} (h : n < -4611686018427387904 ∨ 4611686018427387904 < n) : rng n = none := by unfold rng lim; rw [if_pos (by omega)]
theorem cmp_out {op a b : Int} (h : (a < -4611686018427387904 ∨ 4611686018427387904 < a) ∨ (b < -4611686018427387904 ∨ 4611686018427387904 < b)) : cmpAB op a b = false ∧ cmpAB op b a = false := by
  unfold cmpAB
  rcases h with h | h
  · rw [rng_out h]; cases rng b <;> exact ⟨rfl, rfl⟩
  · rw [rng_out h]; cases rng a <;> exact ⟨rfl, rfl⟩
theorem cmp_in {op a b : Int} (ha : -4611686018427387904 ≤ a ∧ a ≤ 4611686018427387904) (hb : -4611686018427387904 ≤ b ∧ b ≤ 4611686018427387904) : cmpAB op a b = test op (ordI a b) := by
  unfold cmpAB
  rw [rng_in ha, rng_in hb]
theorem both_add (x y : Int) : both 11 (some x) (some y) = rng (x + y) := rfl

end Xp
end Go.Proofs.Ytigfkbomeimobaa
