/-
  Digits: the plain laws on packed numbers. No condition.
-/
import Derived.Test.YtohcdkkneikjmaaDigP
set_option linter.unusedVariables false
set_option linter.unusedSimpArgs false
namespace Go.Proofs.Ytohcdkkneikjmaa
namespace Dg

def packAt (l : List UInt8) (k : Nat) : UInt8 := UInt8.ofNat (16 * ((l.getD (2 * k) 0).toNat - 48) + (if 2 * k + 1 < l.length then (l.getD (2 * k + 1) 0).toNat - 48 else 15))
def packK (l : List UInt8) (k : Nat) : List UInt8 := (List.range k).map (packAt l)
def packL (l : List UInt8) : List UInt8 := packK l ((l.length + 1) / 2)
theorem packK_succ (l : List UInt8) (k : Nat) : packK l (k + 1) = packK l k ++ [packAt l k] := by simp [packK, List.range_succ]
theorem packK_len (l : List UInt8) (k : Nat) : (packK l k).length = k := by simp [packK]
theorem dig_at {l : List UInt8} (h : valid l = true) {k : Nat} (hk : k < l.length) : 48 ≤ (l.getD k 0).toNat ∧ (l.getD k 0).toNat ≤ 57 := by
  have h1 := (valid_iff.1 h).1 (l.getD k 0) (by simp [List.getD, List.getElem?_eq_getElem hk])
  simpa [dig] using h1
theorem packAt_nat {l : List UInt8} (h : valid l = true) {k : Nat} (hk : 2 * k < l.length) :
    (packAt l k).toNat = 16 * ((l.getD (2 * k) 0).toNat - 48) + (if 2 * k + 1 < l.length then (l.getD (2 * k + 1) 0).toNat - 48 else 15) := by
  have h1 := dig_at h hk
  have h2 : ∀ h : 2 * k + 1 < l.length, _ := fun h3 => dig_at h h3
  unfold packAt
  rw [UInt8.toNat_ofNat']
  apply Nat.mod_eq_of_lt
  split
  · have := h2 ‹_›; omega
  · omega

def hiD (c : UInt8) : UInt8 := UInt8.ofNat (48 + c.toNat / 16)
def loD (c : UInt8) : UInt8 := UInt8.ofNat (48 + c.toNat % 16)
theorem hiD_nat (c : UInt8) : (hiD c).toNat = 48 + c.toNat / 16 := by
  have := c.toNat_lt
  unfold hiD; rw [UInt8.toNat_ofNat']; omega
theorem loD_nat (c : UInt8) : (loD c).toNat = 48 + c.toNat % 16 := by
  have := c.toNat_lt
  unfold loD; rw [UInt8.toNat_ofNat']; omega
def two (b : List UInt8) (i : Nat) : Bool := decide ((b.getD i 0).toNat % 16 ≠ 15) || decide (i + 1 < b.length)
def unpAt (b : List UInt8) (i : Nat) : List UInt8 := if two b i = true then [hiD (b.getD i 0), loD (b.getD i 0)] else [hiD (b.getD i 0)]
def unpK (b : List UInt8) : Nat → List UInt8
  | 0 => []
  | k + 1 => unpK b k ++ unpAt b k
theorem unpK_len (b : List UInt8) : ∀ k, (k < b.length → (unpK b k).length = 2 * k) ∧ (k ≤ b.length → 2 * k ≤ (unpK b k).length + 1 ∧ (unpK b k).length ≤ 2 * k) := by
  intro k
  induction k with
  | zero => simp [unpK]
  | succ k ih =>
    have e : (unpK b (k + 1)).length = (unpK b k).length + (unpAt b k).length := by simp [unpK]
    have e2 : (unpAt b k).length = if two b k = true then 2 else 1 := by unfold unpAt; split <;> rfl
    have e3 : k + 1 < b.length → two b k = true := fun h => by simp [two, h]
    refine ⟨fun h => ?_, fun h => ?_⟩
    · rw [e, e2, if_pos (e3 h), ih.1 (by omega)]; omega
    · have := ih.1 (by omega)
      rw [e, e2]
      split <;> omega
def unpOk (b : List UInt8) : Bool := valid (unpK b b.length)
def unpL (b : List UInt8) : List UInt8 := if unpOk b = true then unpK b b.length else []
theorem valid_len {l : List UInt8} (h : 15 < l.length) : valid l = false := by
  unfold valid
  rw [show decide (l.length ≤ 15) = false from decide_eq_false (by omega)]
  simp
theorem ref_long (b : List UInt8) (h : 16 < b.length) : valid (unpK b 16) = false ∧ unpOk b = false := by
  refine ⟨valid_len ?_, valid_len ?_⟩
  · rw [(unpK_len b 16).1 h]; omega
  · have := ((unpK_len b b.length).2 (Nat.le_refl _)).1
    omega
theorem unp_pack {l : List UInt8} (h : valid l = true) : ∀ k, k ≤ (l.length + 1) / 2 → unpK (packL l) k = l.take (2 * k) := by
  intro k
  induction k with
  | zero => intro _; simp [unpK]
  | succ k ih =>
    intro hk
    have hlen : (packL l).length = (l.length + 1) / 2 := packK_len _ _
    have hk2 : 2 * k < l.length := by omega
    have hg : (packL l).getD k 0 = packAt l k := by simp [packL, packK, List.getD, show k < (l.length + 1) / 2 by omega]
    have hn := packAt_nat h hk2
    have h1 := dig_at h hk2
    have e0 : l[2 * k] = l.getD (2 * k) 0 := by simp [List.getD, List.getElem?_eq_getElem hk2]
    have ehi : hiD (packAt l k) = l[2 * k] := by
      rw [e0]
      apply UInt8.toNat_inj.1
      rw [hiD_nat, hn]
      split
      · have := dig_at h (show 2 * k + 1 < l.length by omega); omega
      · omega
    rw [unpK, ih (by omega), show 2 * (k + 1) = 2 * k + 1 + 1 by omega]
    by_cases hc : 2 * k + 1 < l.length
    · rw [if_pos hc] at hn
      have h2 := dig_at h hc
      have e1 : l[2 * k + 1] = l.getD (2 * k + 1) 0 := by simp [List.getD, List.getElem?_eq_getElem hc]
      have htwo : two (packL l) k = true := by
        unfold two; rw [hg]
        have : (packAt l k).toNat % 16 ≠ 15 := by omega
        simp [this]
      have elo : loD (packAt l k) = l[2 * k + 1] := by
        rw [e1]
        apply UInt8.toNat_inj.1
        rw [loD_nat]; omega
      unfold unpAt
      rw [if_pos htwo, hg, ehi, elo, List.take_succ_eq_append_getElem hc, List.take_succ_eq_append_getElem hk2, List.append_assoc]
      rfl
    · rw [if_neg hc] at hn
      have htwo : two (packL l) k = false := by
        unfold two; rw [hg, hlen]
        rw [show decide ((packAt l k).toNat % 16 ≠ 15) = false from decide_eq_false (by omega), show decide (k + 1 < (l.length + 1) / 2) = false from decide_eq_false (by omega)]
        rfl
      unfold unpAt
      rw [if_neg (by rw [htwo]; decide), hg, ehi, List.take_of_length_le (show l.length ≤ 2 * k + 1 + 1 by omega)]
      have : l = l.take (2 * k) ++ [l[2 * k]] := by
        rw [← List.take_succ_eq_append_getElem hk2, List.take_of_length_le (by omega)]
      exact this.symm
theorem unp_back {l : List UInt8} (h : valid l = true) : unpOk (packL l) = true ∧ unpL (packL l) = l := by
  have e : unpK (packL l) (packL l).length = l := by
    rw [unp_pack h _ (by rw [packL, packK_len]; exact Nat.le_refl _), packL, packK_len, List.take_of_length_le (by omega)]
  have h1 : unpOk (packL l) = true := by unfold unpOk; rw [e]; exact h
  exact ⟨h1, by unfold unpL; rw [if_pos h1, e]⟩

end Dg
end Go.Proofs.Ytohcdkkneikjmaa
