/-
  Expressions: negations, conjunctions, disjunctions in plain words. No condition.
-/
import Derived.Test.YtigfkbomeimobaaExZ
import Derived.BigQuiet
import Derived.StillTailTactics
import Derived.Lib.Overlaps
import Derived.Deep.DeepCutAuto
set_option maxRecDepth 100000
set_option linter.unusedVariables false
set_option linter.unusedSimpArgs false
namespace Go.Proofs.Ytigfkbomeimobaa
open Go.RowKit

namespace Xp
abbrev Nn (e : Ex) : Ex := .mk 4 0 ⟨#[]⟩ [e]
theorem box3 (w : World) (cs : Array Value) (t : TypeId) (cs2 : Array Value) (t2 : TypeId) (cs3 : Array Value) (t3 : TypeId) : ∃ W, W = ((w.alloc (.cells cs t)).alloc (.cells cs2 t2)).alloc (.cells cs3 t3) ∧ Below w.heap.size w W ∧ w.heap.size + 1 + 1 < W.heap.size ∧ (∀ j u, cs.toList[j]? = some u → W.cell? ⟨w.heap.size, j, none⟩ = some u) ∧ (∀ j u, cs2.toList[j]? = some u → W.cell? ⟨w.heap.size + 1, j, none⟩ = some u) ∧ (∀ j u, cs3.toList[j]? = some u → W.cell? ⟨w.heap.size + 1 + 1, j, none⟩ = some u) := by
  obtain ⟨W2, h2, b2, z2, c1, c2, _, _⟩ := box2 w cs t cs2 t2
  obtain ⟨W3, h3, b3, z3, c3, _⟩ := box1 W2 cs3 t3
  have hs : W2.heap.size = w.heap.size + 1 + 1 := by rw [h2]; simp
  rw [hs] at c3 z3
  refine ⟨W3, by rw [h3, h2], b2.trans (b3.mono (by omega)), z3, fun j u h => ?_, fun j u h => ?_, c3⟩
  · exact (b3.cell (p := ⟨_, _, none⟩) (by dsimp only; omega)).trans (c1 j u h)
  · exact (b3.cell (p := ⟨_, _, none⟩) (by dsimp only; omega)).trans (c2 j u h)
theorem numE_succ (v : Env) : ∀ (d : Nat) (e : Ex), (srt d e).2 = 0 → numE v (d + 1) e = numE v d e := by
  intro d
  induction d with
  | zero => intro e h; simp [srt] at h
  | succ d ih =>
    intro e h
    obtain ⟨op, num, text, args⟩ := e
    rcases arity_args h with ⟨rfl, _⟩ | ⟨a, rfl, _, _⟩ | ⟨a, b, rfl, _, _, ha, hb, _⟩
    · rfl
    · rfl
    · rw [numE.eq_2, numE.eq_2]
      simp only [List.map_cons, List.map_nil, ih a ha, ih b hb]
theorem holE_succ (v : Env) : ∀ (d : Nat) (e : Ex), (srt d e).2 = 0 → holE v (d + 1) e = holE v d e := by
  intro d
  induction d with
  | zero => intro e h; simp [srt] at h
  | succ d ih =>
    intro e h
    obtain ⟨op, num, text, args⟩ := e
    rcases arity_args h with ⟨rfl, _⟩ | ⟨a, rfl, _, ha⟩ | ⟨a, b, rfl, _, _, ha, hb, _⟩
    · rfl
    · rw [holE.eq_2, holE.eq_2]
      simp only [List.map_cons, List.map_nil, ih a (by rw [ha])]
      rfl
    · rw [holE.eq_2, holE.eq_2]
      simp only [List.map_cons, List.map_nil, ih a ha, ih b hb, cmpL, cmpE, ordE, numE_succ v d a ha, numE_succ v d b hb]
theorem holE_mono (v : Env) {d k : Nat} (e : Ex) (h : (srt d e).2 = 0) (hk : d ≤ k) : holE v k e = holE v d e := by
  induction k with
  | zero =>
    obtain rfl : d = 0 := by omega
    rfl
  | succ k ih =>
    by_cases hd : d = k + 1
    · rw [hd]
    · rw [holE_succ v k e (by rw [srt_mono e h (by omega)]; exact h), ih (by omega)]
/-- a truth with so many levels -/
def Okd (d : Nat) (e : Ex) : Prop := srt d e = (3, 0)
theorem Okd.not {d : Nat} {e : Ex} (h : Okd d e) : Okd (d + 1) (Nn e) := by
  unfold Okd at *
  rw [srt_not, h]; rfl
theorem Okd.and {d : Nat} {e f : Ex} (h : Okd d e) (g : Okd d f) : Okd (d + 1) (Tw 5 e f) := by
  unfold Okd at *
  rw [srt_bin (by omega), h, g]; rfl
theorem Okd.or {d : Nat} {e f : Ex} (h : Okd d e) (g : Okd d f) : Okd (d + 1) (Tw 6 e f) := by
  unfold Okd at *
  rw [srt_bin (by omega), h, g]; rfl
theorem Okd.top {v : Env} {d : Nat} {e : Ex} (h : Okd d e) (hd : d ≤ 16) : topH v e = holE v d e := by
  unfold Okd at h
  unfold topH
  have h0 : (srt d e).2 = 0 := by rw [h]
  rw [if_pos (by rw [srt_mono e h0 hd, h]; exact ⟨rfl, rfl⟩), holE_mono v e h0 hd]
theorem Okd.topNot {v : Env} {d : Nat} {e : Ex} (h : Okd d e) (hd : d < 16) : topH v (Nn e) = !topH v e := by
  rw [h.not.top (by omega), h.top (by omega), holE_not]
theorem Okd.topAnd {v : Env} {d : Nat} {e f : Ex} (h : Okd d e) (g : Okd d f) (hd : d < 16) : topH v (Tw 5 e f) = (topH v e && topH v f) := by
  rw [(h.and g).top (by omega), h.top (by omega), g.top (by omega), holE_and]
theorem Okd.topOr {v : Env} {d : Nat} {e f : Ex} (h : Okd d e) (g : Okd d f) (hd : d < 16) : topH v (Tw 6 e f) = (topH v e || topH v f) := by
  rw [(h.or g).top (by omega), h.top (by omega), g.top (by omega), holE_or]
theorem Okd.of_not {d : Nat} {e : Ex} (h : Okd (d + 1) (Nn e)) : Okd d e := by
  unfold Okd at *
  rcases arity_args (show (srt (d + 1) (.mk 4 0 ⟨#[]⟩ [e])).2 = 0 by rw [h]) with ⟨h1, _⟩ | ⟨a, h1, _, ha⟩ | ⟨a, b, h1, _⟩
  · cases h1
  · injection h1 with h1; rw [h1]; exact ha
  · injection h1 with _ h1; cases h1

end Xp
end Go.Proofs.Ytigfkbomeimobaa
