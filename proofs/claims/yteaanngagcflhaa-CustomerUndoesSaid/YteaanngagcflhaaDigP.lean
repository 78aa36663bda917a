/-
  Digits: the plain laws on lists of bytes. No condition.
-/
import Derived.Lib.Strings
import GoSem.Op.String
set_option linter.unusedVariables false
set_option linter.unusedSimpArgs false
namespace Go.Proofs.Yteaanngagcflhaa
open Go.Op (bytesLess)
namespace Dg

def dig (c : UInt8) : Bool := decide (48 ≤ c.toNat) && decide (c.toNat ≤ 57)
def valid (l : List UInt8) : Bool := l.all dig && decide (1 ≤ l.length) && decide (l.length ≤ 15)
def bs (l : List UInt8) : ByteArray := ⟨l.toArray⟩
theorem bs_list (l : List UInt8) : (bs l).data.toList = l := by simp [bs]
theorem bs_toList (l : List UInt8) : (bs l).toList = l := by rw [Lib.toList_data, bs_list]
theorem bs_eta (s : ByteArray) : bs s.data.toList = s := by cases s; simp [bs]
theorem ba_ext {s t : ByteArray} (h : s.data.toList = t.data.toList) : s = t := by rw [← bs_eta s, ← bs_eta t, h]
theorem valid_iff {l : List UInt8} : valid l = true ↔ (∀ c ∈ l, dig c = true) ∧ 1 ≤ l.length ∧ l.length ≤ 15 := by
  simp [valid, and_assoc]

/-! ### Order -/
def cmpL (a b : List UInt8) : Int :=
  if a.length < b.length then -1 else if b.length < a.length then 1 else if bytesLess a b = true then -1 else if bytesLess b a = true then 1 else 0
theorem less_irrefl (a : List UInt8) : bytesLess a a = false := by
  induction a with
  | nil => rfl
  | cons x a ih => simp [bytesLess, ih]
theorem less_asymm : ∀ (a b : List UInt8), bytesLess a b = true → bytesLess b a = false
  | _, [], h => by simp [bytesLess] at h
  | [], _ :: _, _ => rfl
  | x :: a, y :: b, h => by
    simp only [bytesLess, Bool.or_eq_true, decide_eq_true_eq, Bool.and_eq_true, beq_iff_eq] at h
    simp only [bytesLess, Bool.or_eq_false_iff, decide_eq_false_iff_not, Bool.and_eq_false_iff, beq_eq_false_iff_ne]
    rw [UInt8.lt_iff_toNat_lt] at h
    rw [UInt8.lt_iff_toNat_lt]
    rcases h with h | ⟨rfl, h⟩
    · refine ⟨by omega, .inl fun e => ?_⟩
      subst e; omega
    · exact ⟨by omega, .inr (less_asymm a b h)⟩
theorem less_total : ∀ (a b : List UInt8), bytesLess a b = false → bytesLess b a = false → a = b
  | [], [], _, _ => rfl
  | [], _ :: _, h, _ => by simp [bytesLess] at h
  | _ :: _, [], _, h => by simp [bytesLess] at h
  | x :: a, y :: b, h1, h2 => by
    simp only [bytesLess, Bool.or_eq_false_iff, decide_eq_false_iff_not, Bool.and_eq_false_iff, beq_eq_false_iff_ne] at h1 h2
    obtain ⟨p1, p2⟩ := h1
    obtain ⟨q1, q2⟩ := h2
    rw [UInt8.lt_iff_toNat_lt] at p1 q1
    have e : x = y := UInt8.toNat_inj.1 (by omega)
    subst e
    rw [less_total a b (p2.resolve_left (by simp)) (q2.resolve_left (by simp))]
theorem less_trans : ∀ (a b c : List UInt8), bytesLess a b = true → bytesLess b c = true → bytesLess a c = true
  | _, _, [], _, h => by simp [bytesLess] at h
  | _, [], _ :: _, h, _ => by simp [bytesLess] at h
  | [], _ :: _, _ :: _, _, _ => rfl
  | x :: a, y :: b, z :: c, h1, h2 => by
    simp only [bytesLess, Bool.or_eq_true, decide_eq_true_eq, Bool.and_eq_true, beq_iff_eq] at h1 h2 ⊢
    rw [UInt8.lt_iff_toNat_lt] at h1 h2 ⊢
    rcases h1 with h1 | ⟨rfl, h1⟩
    · rcases h2 with h2 | ⟨rfl, h2⟩
      · exact .inl (by omega)
      · exact .inl h1
    · rcases h2 with h2 | ⟨rfl, h2⟩
      · exact .inl h2
      · exact .inr ⟨rfl, less_trans a b c h1 h2⟩
theorem cmp_neg (a b : List UInt8) : cmpL a b = - cmpL b a := by
  unfold cmpL
  by_cases h1 : a.length < b.length
  · rw [if_pos h1, if_neg (by omega), if_pos h1]
  · rw [if_neg h1]
    by_cases h2 : b.length < a.length
    · rw [if_pos h2, if_pos h2]; rfl
    · rw [if_neg h2, if_neg h2, if_neg h1]
      cases h3 : bytesLess a b <;> cases h4 : bytesLess b a <;> simp
      have := less_asymm a b h3
      rw [h4] at this; cases this
theorem cmp_zero (a b : List UInt8) : cmpL a b = 0 ↔ a = b := by
  constructor
  · intro h
    unfold cmpL at h
    split at h
    · simp at h
    · split at h
      · simp at h
      · cases h3 : bytesLess a b <;> cases h4 : bytesLess b a <;> simp [h3, h4] at h
        exact less_total a b h3 h4
  · rintro rfl
    unfold cmpL
    simp [less_irrefl]
theorem cmp_bd (a b : List UInt8) : -1 ≤ cmpL a b ∧ cmpL a b ≤ 1 := by
  unfold cmpL
  repeat' split
  all_goals omega
theorem cmp_le_iff (a b : List UInt8) : cmpL a b ≤ 0 ↔ a.length < b.length ∨ (a.length = b.length ∧ (bytesLess a b = true ∨ a = b)) := by
  unfold cmpL
  by_cases h1 : a.length < b.length
  · rw [if_pos h1]; simp [h1]
  · rw [if_neg h1]
    by_cases h2 : b.length < a.length
    · rw [if_pos h2]
      constructor
      · intro h; omega
      · rintro (h | ⟨h, _⟩) <;> omega
    · rw [if_neg h2]
      have e : a.length = b.length := by omega
      cases h3 : bytesLess a b
      · cases h4 : bytesLess b a
        · simp [less_total a b h3 h4]
        · have hne : a ≠ b := by rintro rfl; rw [less_irrefl] at h4; cases h4
          simp [e, hne]
      · simp [e]
theorem cmp_trans (a b c : List UInt8) (h1 : cmpL a b ≤ 0) (h2 : cmpL b c ≤ 0) : cmpL a c ≤ 0 := by
  rw [cmp_le_iff] at *
  rcases h1 with h1 | ⟨e1, h1⟩
  · rcases h2 with h2 | ⟨e2, _⟩ <;> exact .inl (by omega)
  · rcases h2 with h2 | ⟨e2, h2⟩
    · exact .inl (by omega)
    · refine .inr ⟨by omega, ?_⟩
      rcases h1 with h1 | rfl
      · rcases h2 with h2 | rfl
        · exact .inl (less_trans a b c h1 h2)
        · exact .inl h1
      · exact h2
theorem cmp_prefix (a b : List UInt8) (h : Lib.hasPrefix a b = true) : a = b ∨ cmpL a b = 1 := by
  have hp : b <+: a := by simpa [Lib.hasPrefix] using h
  obtain ⟨t, rfl⟩ := hp
  cases t with
  | nil => exact .inl (by simp)
  | cons x t =>
    right
    unfold cmpL
    rw [if_neg (by simp), if_pos (by simp)]

/-! ### Longest -/
def lenAt (ps : List (List UInt8)) (b : Int) : Nat := (ps.getD b.toNat []).length
/-- the first k rounds -/
def longK (s : List UInt8) (ps : List (List UInt8)) : Nat → Int
  | 0 => -1
  | k + 1 => if Lib.hasPrefix s (ps.getD k []) = true ∧ (longK s ps k < 0 ∨ lenAt ps (longK s ps k) < (ps.getD k []).length) then (k : Int) else longK s ps k
theorem longK_bd (s : List UInt8) (ps : List (List UInt8)) (k : Nat) : -1 ≤ longK s ps k ∧ longK s ps k < k := by
  induction k with
  | zero => simp [longK]
  | succ k ih => unfold longK; split <;> omega
theorem longK_append (s : List UInt8) (ps qs : List (List UInt8)) (k : Nat) (hk : k ≤ ps.length) : longK s (ps ++ qs) k = longK s ps k := by
  induction k with
  | zero => rfl
  | succ k ih =>
    have hb := longK_bd s ps k
    have h1 : (ps ++ qs).getD k [] = ps.getD k [] := by simp [List.getD, List.getElem?_append_left (show k < ps.length by omega)]
    have h2 : 0 ≤ longK s ps k → lenAt (ps ++ qs) (longK s ps k) = lenAt ps (longK s ps k) := fun h0 => by
      unfold lenAt
      simp [List.getD, List.getElem?_append_left (show (longK s ps k).toNat < ps.length by omega)]
    unfold longK
    rw [ih (by omega), h1]
    by_cases h0 : longK s ps k < 0
    · simp [h0]
    · rw [h2 (by omega)]
theorem longest_more (s : List UInt8) (ps : List (List UInt8)) (more : List UInt8) :
    longK s (ps ++ [more]) (ps.length + 1) = longK s ps ps.length ∨ (longK s (ps ++ [more]) (ps.length + 1) = ps.length ∧ Lib.hasPrefix s more = true) := by
  rw [longK]
  have h1 : (ps ++ [more]).getD ps.length [] = more := by simp [List.getD]
  rw [longK_append s ps [more] ps.length (Nat.le_refl _), h1]
  split
  · rename_i h; exact .inr ⟨rfl, h.1⟩
  · exact .inl rfl

/-! ### Normal -/
def plus : List UInt8 := [43]
def zz : List UInt8 := [48, 48]
def zr : List UInt8 := [48]
def strip (s c : List UInt8) : List UInt8 :=
  if Lib.hasPrefix s plus = true then s.drop 1 else if Lib.hasPrefix s zz = true then s.drop 2 else if Lib.hasPrefix s zr = true then c ++ s.drop 1 else s
def normOk (s c : List UInt8) : Bool := valid c && valid (strip s c)
def norm (s c : List UInt8) : List UInt8 := if normOk s c = true then strip s c else []
theorem strip_plus (a c : List UInt8) : strip (plus ++ a) c = a := by
  unfold strip
  rw [if_pos (by simp [Lib.hasPrefix, plus])]
  simp [plus]
theorem norm_again {s c : List UInt8} (h : normOk s c = true) : normOk (plus ++ norm s c) c = true ∧ norm (plus ++ norm s c) c = norm s c ∧ valid (norm s c) = true := by
  have h0 := h
  simp only [normOk, Bool.and_eq_true] at h
  have h1 : norm s c = strip s c := by rw [norm, if_pos h0]
  have h2 : normOk (plus ++ norm s c) c = true := by
    simp only [normOk, Bool.and_eq_true]
    rw [strip_plus, h1]
    exact h
  refine ⟨h2, ?_, by rw [h1]; exact h.2⟩
  rw [norm, if_pos h2, strip_plus]

/-! ### Mask -/
def maskL (s : List UInt8) (keep : Int) : List UInt8 := s.take keep.toNat ++ List.replicate (s.length - keep.toNat) 120
def maskK (s : List UInt8) (keep : Int) (k : Nat) : List UInt8 := (s.take k).take keep.toNat ++ List.replicate (k - keep.toNat) 120
theorem maskK_succ {s : List UInt8} {keep : Int} {k : Nat} (hk : k < s.length) : maskK s keep (k + 1) = maskK s keep k ++ [if (k : Int) < keep then s[k] else 120] := by
  unfold maskK
  by_cases h : (k : Int) < keep
  · rw [if_pos h, show k + 1 - keep.toNat = 0 by omega, show k - keep.toNat = 0 by omega]
    simp only [List.replicate_zero, List.append_nil, List.take_take]
    rw [Nat.min_eq_right (by omega), Nat.min_eq_right (by omega), List.take_succ_eq_append_getElem hk]
  · rw [if_neg h, show k + 1 - keep.toNat = (k - keep.toNat) + 1 by omega, List.replicate_succ']
    simp only [List.take_take]
    rw [Nat.min_eq_left (by omega), Nat.min_eq_left (by omega), List.append_assoc]
theorem maskK_all (s : List UInt8) (keep : Int) : maskK s keep s.length = maskL s keep := by
  unfold maskK maskL; rw [List.take_length]

end Dg
end Go.Proofs.Yteaanngagcflhaa
