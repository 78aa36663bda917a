/-
  Dedup: what Filter keeps and adds, in plain words. No condition.
-/
import Derived.Test.YtdcekckghlpamaaDedR
import Derived.BigQuiet
import Derived.StillTailTactics
import Derived.Lib.Overlaps
import Derived.Deep.DeepCutAuto
set_option maxRecDepth 100000
set_option linter.unusedVariables false
set_option linter.unusedSimpArgs false
namespace Go.Proofs.Ytdcekckghlpamaa
open Go.RowKit

namespace Dd
theorem cnt_left (src ser : Int) (L : List Rng) : cnt (leftOf src ser L).1 + (ser - (leftOf src ser L).2) = cnt L := by
  unfold leftOf
  cases hL : L.getLast? with
  | none => simp
  | some p =>
    dsimp only
    split
    · rename_i h
      obtain ⟨ys, rfl⟩ := List.getLast?_eq_some_iff.1 hL
      rw [List.dropLast_concat, cnt_append]
      simp only [cnt]
      omega
    · simp
theorem cnt_right (src ser : Int) (R : List Rng) : cnt (rightOf src ser R).1 + ((rightOf src ser R).2 - ser) = cnt R := by
  cases R with
  | nil => simp [rightOf, cnt]
  | cons q R2 =>
    simp only [rightOf]
    split
    · simp only [cnt]; omega
    · simp [cnt]
theorem cnt_refAdd {xs : List Rng} (h : Can xs) {src ser : Int} (hid : ident src ser = true) (hno : hasL xs src ser = false) : cnt (refAdd xs src ser) = cnt xs + 1 := by
  obtain ⟨L, R, rfl, hb, ha⟩ := place_ex2 h hid hno
  rw [refAdd_res h hb ha, res, cnt_append, cnt_append]
  have h1 := cnt_left src ser L
  have h2 := cnt_right src ser R
  simp only [cnt]
  omega
def sameI (s t : Int) (r : Rec) : Bool := decide (s = r.src) && decide (t = r.ser)
structure FLaw (xs : List Rng) (l : List Rec) (k : Nat) (F : Fst) : Prop where
  cnt : cnt F.1 = cnt xs + F.2.1.length
  has : ∀ s t, hasL F.1 s t = (hasL xs s t || F.2.1.any (sameI s t))
  new : ∀ r ∈ F.2.1, hasL xs r.src r.ser = false
  old : ∀ j r, j < k → l[j]? = some r → ident r.src r.ser = true → hasL F.1 r.src r.ser = true
  mem : ∀ r ∈ F.2.1, ∃ j, j < k ∧ l[j]? = some r
theorem hasL_ident {xs : List Rng} {s t : Int} (h : hasL xs s t = true) : ident s t = true := (hasL_iff.1 h).2
theorem filtK_law {xs : List Rng} {l : List Rec} (hc : Can xs) : ∀ k, k ≤ l.length → FLaw xs l k (filtK xs l k)
  | 0, _ => ⟨by simp [filtK], fun s t => by simp [filtK], fun r hr => by simp [filtK] at hr, fun j r hj => absurd hj (by omega), fun r hr => by simp [filtK] at hr⟩
  | k + 1, hk => by
    have ih := filtK_law (l := l) hc k (by omega)
    obtain ⟨h1, h2, h3⟩ := filtK_inv (l := l) hc k (by omega)
    obtain ⟨r, hr⟩ : ∃ r, l[k]? = some r := ⟨_, List.getElem?_eq_getElem (show k < l.length by omega)⟩
    rw [filtK_succ hr]
    cases ha : addOk (filtK xs l k).1 r.src r.ser with
    | true =>
      obtain ⟨i1, i2⟩ := addOk_parts ha
      rw [fstep_yes ha]
      refine ⟨?_, fun s t => ?_, fun q hq => ?_, fun j q hj hq hi => ?_, fun q hq => ?_⟩
      · dsimp only
        rw [cnt_refAdd h1 i1 i2, ih.cnt, List.length_append, List.length_singleton]; push_cast; omega
      · dsimp only
        rw [refAdd_has h1 i1 i2, ih.has, List.any_append, Bool.or_assoc]
        simp [sameI]
      · dsimp only at hq
        rcases List.mem_append.1 hq with hq | hq
        · exact ih.new q hq
        · obtain rfl := List.mem_singleton.1 hq
          have := ih.has q.src q.ser
          rw [i2] at this
          cases hx : hasL xs q.src q.ser with
          | false => rfl
          | true => rw [hx] at this; simp at this
      · dsimp only
        rw [refAdd_has h1 i1 i2]
        by_cases hjk : j < k
        · rw [ih.old j q hjk hq hi]; rfl
        · obtain rfl : j = k := by omega
          rw [hr] at hq; cases hq
          simp
      · dsimp only at hq
        rcases List.mem_append.1 hq with hq | hq
        · obtain ⟨j, hj, hjq⟩ := ih.mem q hq
          exact ⟨j, by omega, hjq⟩
        · obtain rfl := List.mem_singleton.1 hq
          exact ⟨k, by omega, hr⟩
    | false =>
      have hF : ∃ y, fstep (filtK xs l k) k r = ((filtK xs l k).1, (filtK xs l k).2.1, y) := ⟨_, by rw [fstep, if_neg (by simp [ha])]⟩
      obtain ⟨y, hy⟩ := hF
      rw [hy]
      refine ⟨ih.cnt, ih.has, ih.new, fun j q hj hq hi => ?_, fun q hq => ?_⟩
      · by_cases hjk : j < k
        · exact ih.old j q hjk hq hi
        · obtain rfl : j = k := by omega
          rw [hr] at hq; cases hq
          rw [addOk, hi] at ha
          simpa using ha
      · obtain ⟨j, hj, hjq⟩ := ih.mem q hq
        exact ⟨j, by omega, hjq⟩
theorem any_self {l : List Rec} {r : Rec} (h : r ∈ l) : l.any (sameI r.src r.ser) = true := List.any_eq_true.2 ⟨r, h, by simp [sameI]⟩
theorem FLaw.in_ {xs : List Rng} {l : List Rec} {k : Nat} {F : Fst} (h : FLaw xs l k F) {r : Rec} (hr : r ∈ F.2.1) : hasL F.1 r.src r.ser = true := by
  rw [h.has, any_self hr, Bool.or_true]
end Dd
end Go.Proofs.Ytdcekckghlpamaa
