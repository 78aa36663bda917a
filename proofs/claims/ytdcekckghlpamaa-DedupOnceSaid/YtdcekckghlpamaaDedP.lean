/-
  Dedup: the plain laws of insertion into a canonical list. No condition.
-/
import Derived.Test.YtdcekckghlpamaaDedH
import Derived.BigQuiet
import Derived.StillTailTactics
import Derived.Lib.Overlaps
import Derived.Deep.DeepCutAuto
set_option maxRecDepth 100000
set_option linter.unusedVariables false
set_option linter.unusedSimpArgs false
namespace Go.Proofs.Ytdcekckghlpamaa
open Go.RowKit

namespace Dd

/-! ### canonical lists -/
def Rg (r : Rng) : Prop := 1 ≤ r.src ∧ r.src ≤ 99 ∧ 1 ≤ r.lo ∧ r.lo ≤ r.hi ∧ r.hi ≤ 999999999
def Lt (p r : Rng) : Prop := p.src < r.src ∨ p.src = r.src ∧ p.hi + 1 < r.lo
structure Can (xs : List Rng) : Prop where
  rg : ∀ x ∈ xs, Rg x
  pw : xs.Pairwise Lt

theorem okR_some {p r : Rng} : okR (some p) r = true ↔ Rg r ∧ Lt p r := by
  rw [okR_iff]; simp only [ident_iff, Rg, Lt]; omega
theorem okR_none {r : Rng} : okR none r = true ↔ Rg r := by
  rw [okR_iff0]; simp only [ident_iff, Rg]; omega

/-- from a range on, every one is in its place behind the one before it -/
def chainB : Option Rng → List Rng → Bool
  | _, [] => true
  | p, r :: l => okR p r && chainB (some r) l
theorem okAt_cons (r : Rng) (l : List Rng) (i : Nat) : okAt (r :: l) (i + 1) = match l[i]? with | none => true | some x => okR (if i = 0 then some r else l[i-1]?) x := by
  simp only [okAt, List.getElem?_cons_succ]
  cases l[i]? with
  | none => rfl
  | some x =>
    rw [if_neg (by omega)]
    cases i with
    | zero => simp
    | succ i => simp
theorem canon_chain_go (l : List Rng) : ∀ r, (∀ i, i < l.length → okAt (r :: l) (i + 1) = true) ↔ chainB (some r) l = true := by
  induction l with
  | nil => intro r; simp [chainB]
  | cons x l ih =>
    intro r
    simp only [chainB, Bool.and_eq_true]
    rw [← ih x]
    constructor
    · intro h
      refine ⟨by have := h 0 (by simp); simpa [okAt_cons] using this, fun i hi => ?_⟩
      have := h (i + 1) (by simp; omega)
      rw [okAt_cons] at this
      simp only [List.getElem?_cons_succ] at this
      rw [okAt_cons]
      cases hx : l[i]? with
      | none => rfl
      | some y =>
        rw [hx] at this
        cases i with
        | zero => simpa using this
        | succ i => simpa using this
    · rintro ⟨h1, h2⟩ i hi
      cases i with
      | zero => simpa [okAt_cons] using h1
      | succ i =>
        have := h2 i (by simp at hi; omega)
        rw [okAt_cons] at this ⊢
        simp only [List.getElem?_cons_succ]
        cases hx : l[i]? with
        | none => rfl
        | some y =>
          rw [hx] at this
          cases i with
          | zero => simpa using this
          | succ i => simpa using this
theorem canon_chain (xs : List Rng) : canon xs = true ↔ chainB none xs = true := by
  rw [canon, allB_iff]
  cases xs with
  | nil => simp [chainB]
  | cons r l =>
    simp only [chainB, Bool.and_eq_true]
    rw [← canon_chain_go]
    constructor
    · intro h
      exact ⟨by have := h 0 (by simp); simpa [okAt] using this, fun i hi => h (i + 1) (by simp; omega)⟩
    · rintro ⟨h1, h2⟩ i hi
      cases i with
      | zero => simpa [okAt] using h1
      | succ i => exact h2 i (by simp at hi; omega)
theorem Lt.trans {a b c : Rng} (h : Lt a b) (hb : Rg b) (k : Lt b c) : Lt a c := by
  unfold Lt Rg at *; omega
theorem chain_can (l : List Rng) : ∀ p, chainB (some p) l = true ↔ (∀ x ∈ l, Lt p x) ∧ Can l := by
  induction l with
  | nil => intro p; simp [chainB]; exact ⟨by simp, List.Pairwise.nil⟩
  | cons r l ih =>
    intro p
    simp only [chainB, Bool.and_eq_true, okR_some]
    rw [ih r]
    constructor
    · rintro ⟨⟨h1, h2⟩, h3, h4⟩
      refine ⟨fun x hx => ?_, ⟨fun x hx => ?_, List.Pairwise.cons h3 h4.pw⟩⟩
      · rcases List.mem_cons.1 hx with rfl | hx
        · exact h2
        · exact h2.trans h1 (h3 x hx)
      · rcases List.mem_cons.1 hx with rfl | hx
        · exact h1
        · exact h4.rg x hx
    · rintro ⟨h1, h2⟩
      have hp := List.pairwise_cons.1 h2.pw
      exact ⟨⟨h2.rg r (by simp), h1 r (by simp)⟩, hp.1, ⟨fun x hx => h2.rg x (by simp [hx]), hp.2⟩⟩
theorem canon_iff (xs : List Rng) : canon xs = true ↔ Can xs := by
  rw [canon_chain]
  cases xs with
  | nil => simp [chainB]; exact ⟨by simp, List.Pairwise.nil⟩
  | cons r l =>
    simp only [chainB, Bool.and_eq_true, okR_none]
    rw [chain_can]
    constructor
    · rintro ⟨h1, h3, h4⟩
      refine ⟨fun x hx => ?_, List.Pairwise.cons h3 h4.pw⟩
      rcases List.mem_cons.1 hx with rfl | hx
      · exact h1
      · exact h4.rg x hx
    · intro h2
      have hp := List.pairwise_cons.1 h2.pw
      exact ⟨h2.rg r (by simp), hp.1, ⟨fun x hx => h2.rg x (by simp [hx]), hp.2⟩⟩
theorem Can.bd {xs : List Rng} (h : Can xs) : ∀ (i : Nat) (r : Rng), xs[i]? = some r → Bd r := by
  intro i r hr
  have := h.rg r (List.mem_of_getElem? hr)
  unfold Rg at this; unfold Bd; omega
theorem Can.bh {xs : List Rng} (h : Can xs) : Bh xs := by
  intro x hx
  have := h.rg x hx
  unfold Rg at this; omega

/-! ### where a serial number belongs -/
def Before (src ser : Int) (x : Rng) : Prop := x.src < src ∨ x.src = src ∧ x.hi < ser
def After (src ser : Int) (x : Rng) : Prop := src < x.src ∨ x.src = src ∧ ser < x.lo
theorem pastR_false {src ser : Int} {x : Rng} : pastR src ser x = false ↔ Before src ser x := by
  simp only [pastR, Before, Bool.or_eq_false_iff, decide_eq_false_iff_not, Bool.and_eq_false_iff, beq_eq_false_iff_ne]; omega
theorem pastR_true {src ser : Int} {x : Rng} : pastR src ser x = true ↔ (src < x.src ∨ x.src = src ∧ ser ≤ x.hi) := by
  simp [pastR]
/-- the place parts a canonical list -/
theorem split_at {xs : List Rng} (h : Can xs) {src ser : Int} {i : Nat} (hi : i ≤ xs.length) (h1 : ∀ x, 0 < i → xs[i-1]? = some x → pastR src ser x = false) (h2 : ∀ x, xs[i]? = some x → pastR src ser x = true) :
    (∀ x ∈ xs.take i, Before src ser x) ∧ (∀ x ∈ xs.drop i, src < x.src ∨ x.src = src ∧ ser ≤ x.hi) := by
  have hpw := h.pw
  have key : ∀ (a b : Nat) (x y : Rng), a < b → xs[a]? = some x → xs[b]? = some y → Lt x y := by
    intro a b x y hab hx hy
    obtain ⟨ha, rfl⟩ := List.getElem?_eq_some_iff.1 hx
    obtain ⟨hb, rfl⟩ := List.getElem?_eq_some_iff.1 hy
    exact List.pairwise_iff_getElem.1 hpw a b ha hb hab
  constructor
  · intro x hx
    obtain ⟨a, ha, rfl⟩ := List.mem_iff_getElem.1 hx
    have ha' : a < i := by simp at ha; omega
    have hxa : xs[a]? = some (xs.take i)[a] := by rw [List.getElem_take]; exact List.getElem?_eq_getElem (by omega)
    obtain ⟨y, hy⟩ : ∃ y, xs[i-1]? = some y := ⟨xs[i-1]'(by omega), List.getElem?_eq_getElem (by omega)⟩
    have hb := pastR_false.1 (h1 y (by omega) hy)
    by_cases hai : a = i - 1
    · subst hai
      rw [hxa] at hy
      rw [Option.some.inj hy]; exact hb
    · have hl := key a (i-1) _ _ (by omega) hxa hy
      have hr := h.rg y (List.mem_of_getElem? hy)
      have hr2 := h.rg _ (List.mem_of_getElem? hxa)
      unfold Lt at hl; unfold Before at *; unfold Rg at hr hr2; omega
  · intro x hx
    obtain ⟨a, ha, rfl⟩ := List.mem_iff_getElem.1 hx
    have ha' : i + a < xs.length := by simp at ha; omega
    have hxa : xs[i+a]? = some (xs.drop i)[a] := by rw [List.getElem_drop]; exact List.getElem?_eq_getElem (by omega)
    obtain ⟨y, hy⟩ : ∃ y, xs[i]? = some y := ⟨xs[i]'(by omega), List.getElem?_eq_getElem (by omega)⟩
    have hb := pastR_true.1 (h2 y hy)
    by_cases hai : a = 0
    · subst hai
      rw [Nat.add_zero, hy] at hxa
      rw [← Option.some.inj hxa]; exact hb
    · have hl := key i (i+a) _ _ (by omega) hy hxa
      have hr := h.rg y (List.mem_of_getElem? hy)
      have hr2 := h.rg _ (List.mem_of_getElem? hxa)
      unfold Lt at hl; unfold Rg at hr hr2; omega
def Hit (src ser : Int) (x : Rng) : Prop := x.src = src ∧ x.lo ≤ ser ∧ ser ≤ x.hi
theorem hitR_iff {src ser : Int} {x : Rng} : hitR src ser x = true ↔ Hit src ser x := by simp [hitR, Hit, and_assoc]
theorem hasL_iff {xs : List Rng} {src ser : Int} : hasL xs src ser = true ↔ (∃ x ∈ xs, Hit src ser x) ∧ ident src ser = true := by
  simp only [hasL, Bool.and_eq_true, List.any_eq_true, hitR_iff]
/-- what Has answers, by its place -/
theorem hasAt_eq {xs : List Rng} (h : Can xs) {src ser : Int} {i : Nat} (hi : i ≤ xs.length) (h1 : ∀ x, 0 < i → xs[i-1]? = some x → pastR src ser x = false) (h2 : ∀ x, xs[i]? = some x → pastR src ser x = true) :
    hasAt xs src ser i = hasL xs src ser := by
  obtain ⟨hb, ha⟩ := split_at h hi h1 h2
  rw [Bool.eq_iff_iff, hasL_iff]
  have hmem : ∀ x, x ∈ xs ↔ x ∈ xs.take i ∨ x ∈ xs.drop i := fun x => by rw [← List.mem_append, List.take_append_drop]
  cases hx : xs[i]? with
  | none =>
    have hl : xs.length ≤ i := by simpa using hx
    simp only [hasAt, hx, Bool.false_eq_true, false_iff]
    rintro ⟨⟨x, hm, hh⟩, _⟩
    rcases (hmem x).1 hm with h3 | h3
    · have := hb x h3; unfold Before at this; unfold Hit at hh; omega
    · rw [List.drop_of_length_le hl] at h3; cases h3
  | some r =>
    have hil := (List.getElem?_eq_some_iff.1 hx).1
    simp only [hasAt, hx, Bool.and_eq_true, beq_iff_eq, decide_eq_true_eq]
    have hpr := pastR_true.1 (h2 r hx)
    constructor
    · rintro ⟨⟨h3, h4⟩, h5⟩
      exact ⟨⟨r, List.mem_of_getElem? hx, by unfold Hit; omega⟩, h3⟩
    · rintro ⟨⟨x, hm, hh⟩, h3⟩
      rcases (hmem x).1 hm with h4 | h4
      · have := hb x h4; unfold Before at this; unfold Hit at hh; omega
      · rw [List.drop_eq_getElem_cons hil] at h4
        have hr' : xs[i] = r := by have := List.getElem?_eq_getElem hil; rw [this] at hx; exact Option.some.inj hx
        rw [hr'] at h4
        rcases List.mem_cons.1 h4 with rfl | h5
        · unfold Hit at hh; exact ⟨⟨h3, hh.1⟩, hh.2.1⟩
        · have hpw := h.pw
          rw [← List.take_append_drop i xs, List.drop_eq_getElem_cons hil, hr'] at hpw
          have hl := (List.pairwise_cons.1 (List.pairwise_append.1 hpw).2.1).1 x h5
          have hr := h.rg r (List.mem_of_getElem? hx)
          have hrx := h.rg x hm
          unfold Lt at hl; unfold Hit at hh; unfold Rg at hr hrx; omega

end Dd
end Go.Proofs.Ytdcekckghlpamaa
