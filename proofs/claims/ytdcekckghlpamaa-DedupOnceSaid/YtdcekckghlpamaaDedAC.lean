/-
  Dedup: Filter over two batches, and which record is accepted, in plain words. No condition.
-/
import Derived.Test.YtdcekckghlpamaaDedAA
import Derived.BigQuiet
import Derived.StillTailTactics
import Derived.Lib.Overlaps
import Derived.Deep.DeepCutAuto
set_option maxRecDepth 100000
set_option linter.unusedVariables false
set_option linter.unusedSimpArgs false
namespace Go.Proofs.Ytdcekckghlpamaa
open Go.RowKit

namespace Dd
theorem filtK_left (xs : List Rng) (a b : List Rec) : ∀ k, k ≤ a.length → filtK xs (a ++ b) k = filtK xs a k
  | 0, _ => rfl
  | k + 1, hk => by
    obtain ⟨r, hr⟩ : ∃ r, a[k]? = some r := ⟨_, List.getElem?_eq_getElem (show k < a.length by omega)⟩
    rw [filtK_succ hr, filtK_succ (l := a ++ b) (by rw [List.getElem?_append_left (by omega)]; exact hr), filtK_left xs a b k (by omega)]
theorem filtK_right (xs : List Rng) (a b : List Rec) : ∀ j, j ≤ b.length → (filtK xs (a ++ b) (a.length + j)).1 = (filtK (filt xs a).1 b j).1 ∧ (filtK xs (a ++ b) (a.length + j)).2.1 = (filt xs a).2.1 ++ (filtK (filt xs a).1 b j).2.1
  | 0, _ => by rw [Nat.add_zero, filtK_left xs a b _ (Nat.le_refl _)]; exact ⟨rfl, by simp [filt, filtK]⟩
  | j + 1, hj => by
    obtain ⟨h1, h2⟩ := filtK_right xs a b j (by omega)
    obtain ⟨r, hr⟩ : ∃ r, b[j]? = some r := ⟨_, List.getElem?_eq_getElem (show j < b.length by omega)⟩
    have hr2 : (a ++ b)[a.length + j]? = some r := by rw [List.getElem?_append_right (by omega), Nat.add_sub_cancel_left]; exact hr
    rw [← Nat.add_assoc, filtK_succ hr, filtK_succ hr2]
    unfold fstep
    rw [h1]
    split
    · exact ⟨rfl, by dsimp only; rw [h2, List.append_assoc]⟩
    · exact ⟨rfl, h2⟩
theorem filt_two (xs : List Rng) (a b : List Rec) : (filt xs (a ++ b)).1 = (filt (filt xs a).1 b).1 ∧ (filt xs (a ++ b)).2.1 = (filt xs a).2.1 ++ (filt (filt xs a).1 b).2.1 := by
  have := filtK_right xs a b b.length (Nat.le_refl _)
  rw [← List.length_append] at this
  exact this
theorem filtK_pre (xs : List Rng) (l : List Rec) (k : Nat) : ∀ d, k + d ≤ l.length → ∃ t, (filtK xs l (k + d)).2.1 = (filtK xs l k).2.1 ++ t
  | 0, _ => ⟨[], by simp⟩
  | d + 1, hd => by
    obtain ⟨t, ht⟩ := filtK_pre xs l k d (by omega)
    obtain ⟨r, hr⟩ : ∃ r, l[k + d]? = some r := ⟨_, List.getElem?_eq_getElem (show k + d < l.length by omega)⟩
    rw [← Nat.add_assoc, filtK_succ hr]
    unfold fstep
    split
    · exact ⟨t ++ [r], by dsimp only; rw [ht, List.append_assoc]⟩
    · exact ⟨t, ht⟩
/-- was the record i seen before: in the list, out of range, or earlier among the records? -/
def ag0 (xs : List Rng) (r : Rec) : Bool := hasL xs r.src r.ser || !ident r.src r.ser
def sameR (r q : Rec) : Bool := (q.src == r.src) && (q.ser == r.ser)
def agB (xs : List Rng) (l : List Rec) (r : Rec) (j : Nat) : Bool := ag0 xs r || (l.take j).any (sameR r)
theorem agB_succ {xs : List Rng} {l : List Rec} {r q : Rec} {j : Nat} (h : l[j]? = some q) : agB xs l r (j + 1) = (agB xs l r j || sameR r q) := by
  unfold agB
  rw [List.take_add_one, h, List.any_append, Bool.or_assoc]
  simp
theorem agB_zero (xs : List Rng) (l : List Rec) (r : Rec) : agB xs l r 0 = ag0 xs r := by simp [agB]
theorem once_yes {xs : List Rng} {l : List Rec} (hc : Can xs) {i : Nat} {r : Rec} (hr : l[i]? = some r) (h : agB xs l r i = true) : (filtK xs l (i + 1)).2.1.length = (filtK xs l i).2.1.length := by
  have hi := (List.getElem?_eq_some_iff.1 hr).1
  have hl := filtK_law (l := l) hc i (by omega)
  have hno : addOk (filtK xs l i).1 r.src r.ser = false := by
    cases hid : ident r.src r.ser with
    | false => simp [addOk, hid]
    | true =>
      suffices hh : hasL (filtK xs l i).1 r.src r.ser = true by simp [addOk, hh]
      unfold agB ag0 at h
      rw [hid, Bool.not_true, Bool.or_false, Bool.or_eq_true] at h
      rcases h with h | h
      · rw [hl.has, h, Bool.true_or]
      · obtain ⟨q, hq, hs⟩ := List.any_eq_true.1 h
        unfold sameR at hs
        rw [Bool.and_eq_true, beq_iff_eq, beq_iff_eq] at hs
        obtain ⟨j, hj⟩ := List.mem_iff_getElem?.1 hq
        rw [List.getElem?_take] at hj
        split at hj
        · rename_i hji
          have := hl.old j q hji hj (by rw [hs.1, hs.2]; exact hid)
          rwa [hs.1, hs.2] at this
        · cases hj
  rw [filtK_succ hr, fstep, if_neg (by simp [hno])]
theorem once_no {xs : List Rng} {l : List Rec} (hc : Can xs) {i : Nat} {r : Rec} (hr : l[i]? = some r) (h : agB xs l r i = false) : (filtK xs l (i + 1)).2.1.length = (filtK xs l i).2.1.length + 1 ∧ (filt xs l).2.1[(filtK xs l i).2.1.length]? = some r ∧ hasL (filt xs l).1 r.src r.ser = true := by
  have hi := (List.getElem?_eq_some_iff.1 hr).1
  have hl := filtK_law (l := l) hc i (by omega)
  unfold agB ag0 at h
  rw [Bool.or_eq_false_iff, Bool.or_eq_false_iff, Bool.not_eq_false'] at h
  obtain ⟨⟨h1, h2⟩, h3⟩ := h
  have hadd : addOk (filtK xs l i).1 r.src r.ser = true := by
    rw [addOk, h2, hl.has, h1, Bool.false_or, Bool.true_and, Bool.not_eq_true']
    rw [List.any_eq_false]
    intro q hq hs
    obtain ⟨j, hj, hjq⟩ := hl.mem q hq
    rw [List.any_eq_false] at h3
    refine h3 q (List.mem_iff_getElem?.2 ⟨j, by rw [List.getElem?_take, if_pos hj]; exact hjq⟩) ?_
    unfold sameI at hs
    unfold sameR
    rw [Bool.and_eq_true, decide_eq_true_eq, decide_eq_true_eq] at hs
    rw [Bool.and_eq_true, beq_iff_eq, beq_iff_eq]
    exact ⟨hs.1.symm, hs.2.symm⟩
  have he : filtK xs l (i + 1) = (refAdd (filtK xs l i).1 r.src r.ser, (filtK xs l i).2.1 ++ [r], (filtK xs l i).2.2) := by rw [filtK_succ hr, fstep_yes hadd]
  refine ⟨by rw [he]; simp, ?_, (filtK_law (l := l) hc l.length (Nat.le_refl _)).old i r hi hr h2⟩
  obtain ⟨t, ht⟩ := filtK_pre xs l (i + 1) (l.length - (i + 1)) (by omega)
  rw [show i + 1 + (l.length - (i + 1)) = l.length by omega, he] at ht
  rw [show (filt xs l).2.1 = _ from ht]
  simp
end Dd
end Go.Proofs.Ytdcekckghlpamaa
