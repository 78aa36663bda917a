/-
  Tariffs: a discount less, a rate in front, in plain words. No condition.
-/
import Derived.Test.YtcifbjgomflanaaCkW
import Derived.Test.YtcifbjgomflanaaCvE
import Derived.BigQuiet
import Derived.StillTailTactics
import Derived.Lib.Overlaps
import Derived.Deep.DeepCutAuto
import Derived.Deep.RegionWith
set_option maxRecDepth 100000
set_option linter.unusedVariables false
set_option linter.unusedSimpArgs false
namespace Go.Proofs.Ytcifbjgomflanaa
open Go.RowKit

namespace Cv
open Xp Ck
theorem firstE_zero : ∀ (n : Nat) (f : Nat → Int), firstE n f = 0 → ∀ j, j < n → f j = 0
  | 0, _, _, j, hj => absurd hj (by omega)
  | n + 1, f, h, j, hj => by
    rw [firstE] at h
    split at h
    · rename_i hne; exact absurd h hne
    · rename_i hz
      cases j with
      | zero => omega
      | succ j => exact firstE_zero n (fun i => f (i + 1)) h j (by omega)
section
variable {name : ByteArray} {from_ : Int} {PZ : Nm → List ByteArray} {SB : Nm → List Slt} {SR : Rt → List Stp} {E : Dq → Ex} {zs bs : List Nm} {rs : List Rt} {ds : List Dq}
theorem tarE_zero (h : tarE name from_ PZ SB SR E zs bs rs ds = 0) : nameB name = true ∧ ¬ from_ < 0 ∧ ¬ 12622780800 ≤ from_ ∧ zonesE PZ zs = 0 ∧ bandsE SB bs = 0 ∧ ratesE SR zs bs rs = 0 ∧ discsE E ds = 0 := by
  unfold tarE at h
  split at h
  · cases h
  · rename_i hn
    split at h
    · cases h
    · rename_i hf
      unfold restT at h
      split at h
      · rename_i hz; exact absurd h hz
      · rename_i hz
        split at h
        · rename_i hb; exact absurd h hb
        · rename_i hb
          split at h
          · rename_i hr; exact absurd h hr
          · rename_i hr
            exact ⟨by simpa using hn, by omega, by omega, by simpa using hz, by simpa using hb, by simpa using hr, h⟩
theorem tarE_good (hn : nameB name = true) (h1 : ¬ from_ < 0) (h2 : ¬ 12622780800 ≤ from_) (hz : zonesE PZ zs = 0) (hb : bandsE SB bs = 0) (hr : ratesE SR zs bs rs = 0) (hd : discsE E ds = 0) : tarE name from_ PZ SB SR E zs bs rs ds = 0 := by
  rw [tarE_rest hn h1 h2, restT_d hz hb hr, hd]
end
theorem discsE_zero {E : Dq → Ex} {ds : List Dq} (h : discsE E ds = 0) : ds.length ≤ 64 ∧ ∀ j, j < ds.length → discE E ds j = 0 := by
  unfold discsE at h
  split at h
  · cases h
  · rename_i h64; exact ⟨by omega, firstE_zero _ _ h⟩
theorem discE_zero {E : Dq → Ex} {ds : List Dq} {i : Nat} {d : Dq} (hd : ds[i]? = some d) : discE E ds i = 0 ↔ nameB d.name = true ∧ (ds.take i).any (dqEq d.name) = false ∧ oneE (E d) d.pts = 0 := by
  simp only [discE, hd]
  constructor
  · intro h
    split at h
    · cases h
    · rename_i hn
      split at h
      · cases h
      · rename_i ht
        exact ⟨by simpa using hn, by simpa using ht, h⟩
  · rintro ⟨h1, h2, h3⟩
    rw [if_neg (by rw [h1]; simp), if_neg (by rw [h2]; simp), h3]
/-- a discount less -/
theorem discsE_less {E : Dq → Ex} {ds : List Dq} (h : discsE E ds = 0) (k : Nat) : discsE E (ds.take k ++ ds.drop (k + 1)) = 0 := by
  obtain ⟨h64, hall⟩ := discsE_zero h
  have hlen : (ds.take k ++ ds.drop (k + 1)).length ≤ ds.length := by rw [List.length_append, List.length_take, List.length_drop]; omega
  refine discsE_ok (by omega) fun j hj => ?_
  by_cases hjk : j < k
  · by_cases hjl : j < ds.length
    · obtain ⟨d, hd⟩ : ∃ d, ds[j]? = some d := ⟨_, List.getElem?_eq_getElem hjl⟩
      have hd2 : (ds.take k ++ ds.drop (k + 1))[j]? = some d := by
        rw [List.getElem?_append_left (by rw [List.length_take]; omega), List.getElem?_take, if_pos hjk]; exact hd
      rw [discE_zero hd2]
      have h3 := (discE_zero hd).1 (hall j hjl)
      refine ⟨h3.1, ?_, h3.2.2⟩
      rw [List.take_append_of_le_length (by rw [List.length_take]; omega), List.take_take, Nat.min_eq_left (by omega)]
      exact h3.2.1
    · omega
  · have hkl : k < ds.length := by
      rw [List.length_append, List.length_take, List.length_drop] at hj; omega
    have hjl : j + 1 < ds.length := by
      rw [List.length_append, List.length_take, List.length_drop] at hj; omega
    obtain ⟨d, hd⟩ : ∃ d, ds[j + 1]? = some d := ⟨_, List.getElem?_eq_getElem hjl⟩
    have htl : (ds.take k).length = k := by rw [List.length_take]; omega
    have hd2 : (ds.take k ++ ds.drop (k + 1))[j]? = some d := by
      rw [List.getElem?_append_right (by omega), htl, List.getElem?_drop, show k + 1 + (j - k) = j + 1 by omega]; exact hd
    rw [discE_zero hd2]
    have h3 := (discE_zero hd).1 (hall (j + 1) hjl)
    refine ⟨h3.1, ?_, h3.2.2⟩
    rw [List.any_eq_false]
    intro x hx
    have h4 := List.any_eq_false.1 h3.2.1 x
    refine h4 ?_
    rw [List.take_append, htl, List.take_of_length_le (by omega)] at hx
    rcases List.mem_append.1 hx with hx | hx
    · exact List.take_subset_take_left _ (by omega) hx
    · obtain ⟨i, hi⟩ := List.mem_iff_getElem?.1 hx
      rw [List.getElem?_take] at hi
      split at hi
      · rw [List.getElem?_drop] at hi
        exact List.mem_iff_getElem?.2 ⟨k + 1 + i, by rw [List.getElem?_take, if_pos (by omega)]; exact hi⟩
      · cases hi
/-- a rate in front -/
theorem ratesE_more {SR : Rt → List Stp} {zs bs : List Nm} {rs : List Rt} {r : Rt} (h : ratesE SR zs bs rs = 0) (hl : rs.length ≤ 60) (hr : rateE SR zs bs r = 0) : ratesE SR zs bs (r :: rs) = 0 := by
  have hall : ∀ j, j < rs.length → ratesF SR zs bs rs j = 0 := by
    unfold ratesE at h
    split at h
    · cases h
    · exact firstE_zero _ _ h
  refine ratesE_ok (by simp; omega) fun j hj => ?_
  cases j with
  | zero => exact (ratesF_at (show (r :: rs)[0]? = some r from rfl)).trans hr
  | succ j =>
    have := hall j (by simpa using hj)
    obtain ⟨q, hq⟩ : ∃ q, rs[j]? = some q := ⟨_, List.getElem?_eq_getElem (show j < rs.length by simpa using hj)⟩
    rw [ratesF_at (show (r :: rs)[j + 1]? = some q from by simpa using hq)]
    rw [ratesF_at hq] at this
    exact this
theorem covB_front {zs bs : List Nm} {rs : List Rt} {r : Rt} {k : Int} (hk : r.kind = k) (hz : r.zone = ⟨#[]⟩) (hb : r.band = ⟨#[]⟩) (h1 : 1 ≤ k) (h4 : k ≤ 4) : covB zs bs (r :: rs) k = true := by
  have hs : ∀ z b, ratedB (r :: rs) k z b = true := fun z b => by
    unfold ratedB
    rw [List.any_cons, show seesB k z b r = true from by unfold seesB; rw [hk, hz, hb]; simp, Bool.true_or]
  unfold covB
  rw [decide_eq_true h1, decide_eq_true h4]
  refine List.all_eq_true.2 fun b _ => ?_
  unfold bandB
  rw [hs, List.all_eq_true.2 (fun z _ => hs _ _)]
  rfl
end Cv
end Go.Proofs.Ytcifbjgomflanaa
