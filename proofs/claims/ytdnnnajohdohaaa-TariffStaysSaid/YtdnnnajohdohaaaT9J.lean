/-
  Tariffs: plain laws on ascending lists, on versions, on changes. No condition.
-/
import Derived.Test.YtdnnnajohdohaaaT9I
import Derived.BigQuiet
import Derived.StillTailTactics
import Derived.Lib.Overlaps
import Derived.Deep.DeepCutAuto
import Derived.Deep.RegionWith
import Derived.Laws.RangeAny
set_option maxRecDepth 100000
set_option linter.unusedVariables false
set_option linter.unusedSimpArgs false
namespace Go.Proofs.Ytdnnnajohdohaaa
open Go.RowKit

namespace Cv
open Xp Ck
open Go.Op (bytesLess)
/-! ### the order -/
theorem bl_irrefl (a : List UInt8) : bytesLess a a = false := by
  induction a with
  | nil => rfl
  | cons x a ih => simp [bytesLess, ih]
theorem bl_total : ∀ (a b : List UInt8), bytesLess a b = false → bytesLess b a = false → a = b
  | [], [], _, _ => rfl
  | [], _ :: _, h, _ => by simp [bytesLess] at h
  | _ :: _, [], _, h => by simp [bytesLess] at h
  | x :: a, y :: b, h1, h2 => by
    simp only [bytesLess, Bool.or_eq_false_iff, decide_eq_false_iff_not, Bool.and_eq_false_iff, beq_eq_false_iff_ne] at h1 h2
    obtain ⟨p1, p2⟩ := h1
    obtain ⟨q1, q2⟩ := h2
    rw [UInt8.lt_iff_toNat_lt] at p1 q1
    have e : x = y := UInt8.toNat_inj.1 (by omega)
    subst e
    rw [bl_total a b (p2.resolve_left (by simp)) (q2.resolve_left (by simp))]
theorem bl_trans : ∀ (a b c : List UInt8), bytesLess a b = true → bytesLess b c = true → bytesLess a c = true
  | _, _, [], _, h => by simp [bytesLess] at h
  | _, [], _ :: _, h, _ => by simp [bytesLess] at h
  | [], _ :: _, _ :: _, _, _ => rfl
  | x :: a, y :: b, z :: c, h1, h2 => by
    simp only [bytesLess, Bool.or_eq_true, decide_eq_true_eq, Bool.and_eq_true, beq_iff_eq] at h1 h2 ⊢
    rw [UInt8.lt_iff_toNat_lt] at h1 h2 ⊢
    rcases h1 with h1 | ⟨rfl, h1⟩
    · rcases h2 with h2 | ⟨rfl, h2⟩
      · exact .inl (by omega)
      · exact .inl h1
    · rcases h2 with h2 | ⟨rfl, h2⟩
      · exact .inl h2
      · exact .inr ⟨rfl, bl_trans a b c h1 h2⟩
def ltT (A B : Td) : Prop := bytesLess A.name.toList B.name.toList = true ∨ (A.name.toList = B.name.toList ∧ A.from_ < B.from_)
theorem ltT_iff {A B : Td} : cmpT A B < 0 ↔ ltT A B := by
  unfold cmpT cmpN ltT
  by_cases h1 : bytesLess A.name.toList B.name.toList = true
  · simp [h1]
  · rw [if_neg h1]
    by_cases h2 : A.name.toList = B.name.toList
    · rw [if_pos h2]
      by_cases h3 : A.from_ < B.from_
      · rw [if_pos h3]; simp [h2, h3]
      · rw [if_neg h3]
        split <;> simp [h1, h3]
    · rw [if_neg h2]; simp [h1, h2]
theorem cmp_zero {A B : Td} (h : cmpT A B = 0) : A.name.toList = B.name.toList ∧ A.from_ = B.from_ := by
  unfold cmpT cmpN at h
  split at h
  · simp at h
  · split at h
    · rename_i h2
      split at h
      · simp at h
      · split at h
        · rename_i h4; exact ⟨h2, h4⟩
        · simp at h
    · simp at h
theorem cmp_pos {A B : Td} (h : ¬ cmpT A B < 0) (h0 : cmpT A B ≠ 0) : ltT B A := by
  unfold cmpT cmpN at h h0
  split at h
  · exact absurd (by decide) h
  · rename_i h1
    rw [if_neg h1] at h0
    split at h
    · rename_i h2
      rw [if_pos h2] at h0
      split at h
      · exact absurd (by decide) h
      · rename_i h3
        rw [if_neg h3] at h0
        split at h0
        · exact absurd rfl h0
        · exact .inr ⟨h2.symm, by omega⟩
    · rename_i h2
      refine .inl ?_
      cases h3 : bytesLess B.name.toList A.name.toList
      · exact absurd (bl_total _ _ (by simpa using h1) h3) h2
      · rfl
theorem ltT.trans {A B C : Td} (h : ltT A B) (k : ltT B C) : ltT A C := by
  rcases h with h | ⟨h1, h2⟩
  · rcases k with k | ⟨k1, k2⟩
    · exact .inl (bl_trans _ _ _ h k)
    · exact .inl (by rw [← k1]; exact h)
  · rcases k with k | ⟨k1, k2⟩
    · exact .inl (by rw [h1]; exact k)
    · exact .inr ⟨h1.trans k1, by omega⟩
theorem ltT.same {A B : Td} (h : ltT A B) (e : A.name.toList = B.name.toList) : A.from_ < B.from_ := by
  rcases h with h | ⟨_, h⟩
  · rw [e, bl_irrefl] at h; cases h
  · exact h
theorem ltT.of_eq {A B C : Td} (e : A.name.toList = B.name.toList ∧ A.from_ = B.from_) (h : ltT A C) : ltT B C := by
  unfold ltT at h ⊢
  rw [← e.1, ← e.2]
  exact h
theorem pw_of_asc : ∀ {l : List Td}, AscL l → l.Pairwise ltT
  | [], _ => List.Pairwise.nil
  | a :: l, h => by
    have ih := pw_of_asc (l := l) (fun j x y hx hy => h (j + 1) x y (by simpa using hx) (by simpa using hy))
    refine List.pairwise_cons.2 ⟨?_, ih⟩
    cases l with
    | nil => intro b hb; cases hb
    | cons b l =>
      have hab : ltT a b := ltT_iff.1 (h 0 a b rfl rfl)
      intro x hx
      rcases List.mem_cons.1 hx with rfl | hx
      · exact hab
      · exact hab.trans ((List.pairwise_cons.1 ih).1 x hx)
theorem asc_of_pw {l : List Td} (h : l.Pairwise ltT) : AscL l := fun j a b ha hb => by
  rw [List.pairwise_iff_getElem] at h
  obtain ⟨h1, e1⟩ := List.getElem?_eq_some_iff.1 ha
  obtain ⟨h2, e2⟩ := List.getElem?_eq_some_iff.1 hb
  have := h j (j + 1) h1 h2 (by omega)
  rw [e1, e2] at this
  exact ltT_iff.2 this
theorem firstE_zero : ∀ (n : Nat) (f : Nat → Int), firstE n f = 0 → ∀ j, j < n → f j = 0
  | 0, _, _, _, hj => absurd hj (by omega)
  | n + 1, f, h, j, hj => by
    unfold firstE at h
    split at h
    · rename_i h0; exact absurd h h0
    · rename_i h0
      cases j with
      | zero => exact Classical.not_not.1 h0
      | succ j => exact firstE_zero n (fun i => f (i + 1)) h j (by omega)
theorem chk_iff (l : List Td) : chkE l = 0 ↔ l.length ≤ 4096 ∧ (∀ x ∈ l, tarD x = 0) ∧ l.Pairwise ltT := by
  constructor
  · intro h
    unfold chkE at h
    split at h
    · cases h
    · rename_i h4
      have hz := firstE_zero _ _ h
      have ht : ∀ (j : Nat) (x : Td), l[j]? = some x → tarD x = 0 := fun j x hx => by
        have := hz j (List.getElem?_eq_some_iff.1 hx).1
        by_cases h0 : tarD x = 0
        · exact h0
        · rw [chkF_bad hx rfl h0] at this; exact this
      refine ⟨by omega, fun x hx => by obtain ⟨j, hj⟩ := List.getElem?_of_mem hx; exact ht j x hj, pw_of_asc fun j a b ha hb => ?_⟩
      have h2 := hz (j + 1) (List.getElem?_eq_some_iff.1 hb).1
      rw [chkF_order hb (ht _ _ hb) (by omega) (by rw [Nat.add_sub_cancel]; exact ha)] at h2
      split at h2
      · cases h2
      · omega
  · rintro ⟨h1, h2, h3⟩
    refine chkE_ok (by omega) fun j hj => ?_
    have hx := List.getElem?_eq_getElem hj
    have ht := h2 _ (List.mem_of_getElem? hx)
    cases j with
    | zero => exact chkF_first hx ht
    | succ j =>
      have hy := List.getElem?_eq_getElem (show j < l.length by omega)
      rw [chkF_order hx ht (by omega) (by rw [Nat.add_sub_cancel]; exact hy), if_neg]
      have := asc_of_pw h3 j _ _ hy hx
      omega

/-! ### the version at an instant -/
def stepA (nm : ByteArray) (t : Int) (acc : Td × Bool) (x : Td) : Td × Bool := if hitB nm t x = true then (x, true) else acc
def atF (nm : ByteArray) (t : Int) (l : List Td) : Td × Bool := l.foldl (stepA nm t) (zeroT, false)
theorem atK_take (Ts : List Td) (nm : ByteArray) (t : Int) : ∀ k, k ≤ Ts.length → atK Ts nm t k = atF nm t (Ts.take k)
  | 0, _ => rfl
  | k + 1, hk => by
    have hx := List.getElem?_eq_getElem (show k < Ts.length by omega)
    have e : atF nm t (Ts.take (k + 1)) = stepA nm t (atF nm t (Ts.take k)) (Ts[k]'(by omega)) := by
      unfold atF
      rw [List.take_add_one, hx, Option.toList_some, List.foldl_append]
      rfl
    rw [e]
    unfold stepA
    cases hh : hitB nm t (Ts[k]'(by omega))
    · rw [atK_no hx hh, atK_take Ts nm t k (by omega)]; rfl
    · rw [atK_yes hx hh]; rfl
theorem atD_eq (Ts : List Td) (nm : ByteArray) (t : Int) : atD Ts nm t = atF nm t Ts := by
  unfold atD
  rw [atK_take Ts nm t _ (Nat.le_refl _), List.take_of_length_le (Nat.le_refl _)]
theorem fold_none {nm : ByteArray} {t : Int} : ∀ {R : List Td} (acc : Td × Bool), (∀ r ∈ R, hitB nm t r = false) → R.foldl (stepA nm t) acc = acc
  | [], _, _ => rfl
  | x :: R, acc, h => by
    rw [List.foldl_cons, show stepA nm t acc x = acc by unfold stepA; rw [if_neg (by rw [h x (List.mem_cons_self ..)]; simp)]]
    exact fold_none acc fun r hr => h r (List.mem_cons_of_mem _ hr)
theorem fold_acc {nm : ByteArray} {t : Int} : ∀ {R : List Td} (acc acc' : Td × Bool) (r : Td), r ∈ R → hitB nm t r = true → R.foldl (stepA nm t) acc = R.foldl (stepA nm t) acc'
  | x :: R, acc, acc', r, hr, hh => by
    rw [List.foldl_cons, List.foldl_cons]
    rcases List.mem_cons.1 hr with rfl | hr
    · simp only [stepA, if_pos hh]
    · exact fold_acc _ _ r hr hh
theorem fold_mem {nm : ByteArray} {t : Int} : ∀ {R : List Td} (acc : Td × Bool), (∃ r ∈ R, hitB nm t r = true) → ∃ r ∈ R, hitB nm t r = true ∧ R.foldl (stepA nm t) acc = (r, true)
  | [], _, ⟨r, hr, _⟩ => by cases hr
  | x :: R, acc, h => by
    rw [List.foldl_cons]
    by_cases h1 : ∃ r ∈ R, hitB nm t r = true
    · obtain ⟨r, hr, h2⟩ := fold_mem (R := R) (stepA nm t acc x) h1
      exact ⟨r, List.mem_cons_of_mem _ hr, h2⟩
    · obtain ⟨r, hr, hh⟩ := h
      rcases List.mem_cons.1 hr with rfl | hr
      · refine ⟨r, List.mem_cons_self .., hh, ?_⟩
        rw [fold_none _ fun y hy => by cases h3 : hitB nm t y; rfl; exact absurd ⟨y, hy, h3⟩ h1]
        simp only [stepA, if_pos hh]
      · exact absurd ⟨r, hr, hh⟩ h1
theorem hit_iff {nm : ByteArray} {t : Int} {x : Td} : hitB nm t x = true ↔ x.name.toList = nm.toList ∧ x.from_ ≤ t := by
  unfold hitB
  simp [Bool.and_eq_true]

/-! ### a version replaced -/
theorem rep_parts : ∀ (l : List Td) (T : Td), l.Pairwise ltT → ∃ L M R, l = L ++ M ++ R ∧ repL l T = L ++ [T] ++ R ∧ (∀ x ∈ L, ltT x T) ∧ (∀ x ∈ R, ltT T x) ∧ (∀ x ∈ M, x.name.toList = T.name.toList ∧ x.from_ = T.from_)
  | [], T, _ => ⟨[], [], [], rfl, rfl, (by intro x hx; cases hx), (by intro x hx; cases hx), (by intro x hx; cases hx)⟩
  | y :: l, T, h => by
    obtain ⟨hy, hl⟩ := List.pairwise_cons.1 h
    by_cases hc : cmpT y T < 0
    · obtain ⟨L, M, R, e1, e2, k1, k2, k3⟩ := rep_parts l T hl
      refine ⟨y :: L, M, R, by rw [e1]; rfl, ?_, ?_, k2, k3⟩
      · have hp : plc (y :: l) T = plc l T + 1 := by conv => lhs; unfold plc
                                                     rw [if_pos hc]
        have hs : sameB (y :: l) T = sameB l T := by unfold sameB; rw [hp]; rfl
        have e3 : repL (y :: l) T = y :: repL l T := by
          unfold repL
          rw [hs, hp]
          split <;> rfl
        rw [e3, e2]; rfl
      · intro x hx
        rcases List.mem_cons.1 hx with rfl | hx
        · exact ltT_iff.1 hc
        · exact k1 x hx
    · have hp : plc (y :: l) T = 0 := by unfold plc; rw [if_neg hc]
      have hs : sameB (y :: l) T = decide (cmpT y T = 0) := by unfold sameB; rw [hp]; rfl
      by_cases h0 : cmpT y T = 0
      · have he := cmp_zero h0
        refine ⟨[], [y], l, rfl, ?_, (by intro x hx; cases hx), fun x hx => ltT.of_eq he (hy x hx), fun x hx => by rw [List.mem_singleton] at hx; subst hx; exact he⟩
        unfold repL
        rw [hs, hp, decide_eq_true h0]
        rfl
      · have hlt := cmp_pos hc h0
        refine ⟨[], [], y :: l, rfl, ?_, (by intro x hx; cases hx), fun x hx => ?_, (by intro x hx; cases hx)⟩
        · unfold repL
          rw [hs, hp, decide_eq_false h0]
          rfl
        · rcases List.mem_cons.1 hx with rfl | hx
          · exact hlt
          · exact hlt.trans (hy x hx)
theorem rep_chk {l : List Td} {T : Td} (h : chkE l = 0) (hT : tarD T = 0) (hn : l.length ≤ 1000) : chkE (repL l T) = 0 := by
  obtain ⟨h1, h2, h3⟩ := (chk_iff l).1 h
  obtain ⟨L, M, R, e1, e2, k1, k2, k3⟩ := rep_parts l T h3
  rw [e2]
  refine (chk_iff _).2 ⟨?_, ?_, ?_⟩
  · have := congrArg List.length e1
    simp only [List.length_append, List.length_singleton] at this ⊢
    omega
  · intro x hx
    simp only [List.mem_append, List.mem_singleton] at hx
    rcases hx with (hx | rfl) | hx
    · exact h2 x (by rw [e1]; simp [hx])
    · exact hT
    · exact h2 x (by rw [e1]; simp [hx])
  · rw [e1] at h3
    rw [List.pairwise_append] at h3 ⊢
    obtain ⟨p1, p2, p3⟩ := h3
    rw [List.pairwise_append] at p1 ⊢
    refine ⟨⟨p1.1, List.pairwise_singleton _ _, fun a ha b hb => by rw [List.mem_singleton] at hb; subst hb; exact k1 a ha⟩, p2, fun a ha b hb => ?_⟩
    rcases List.mem_append.1 ha with ha | ha
    · exact p3 a (List.mem_append_left _ ha) b hb
    · rw [List.mem_singleton] at ha; subst ha; exact k2 b hb
theorem rep_hit {l : List Td} {T : Td} {nm : ByteArray} {t : Int} (h : l.Pairwise ltT) (hn : nm.toList = T.name.toList) (ht : T.from_ ≤ t) (hc : (atD l nm t).2 = false ∨ (atD l nm t).1.from_ ≤ T.from_) : atD (repL l T) nm t = (T, true) := by
  obtain ⟨L, M, R, e1, e2, k1, k2, k3⟩ := rep_parts l T h
  rw [atD_eq] at hc ⊢
  rw [e1] at hc
  rw [e2]
  unfold atF at hc ⊢
  rw [List.foldl_append] at hc ⊢
  by_cases hR : ∃ r ∈ R, hitB nm t r = true
  · obtain ⟨r, hr, hh, e⟩ := fold_mem (List.foldl (stepA nm t) (zeroT, false) (L ++ M)) hR
    rw [e] at hc
    exfalso
    have := (k2 r hr).same (by rw [← hn, (hit_iff.1 hh).1])
    rcases hc with hc | hc
    · cases hc
    · dsimp only at hc; omega
  · rw [fold_none _ fun y hy => by cases h3 : hitB nm t y; rfl; exact absurd ⟨y, hy, h3⟩ hR, List.foldl_append]
    simp only [List.foldl_cons, List.foldl_nil, stepA, if_pos (hit_iff.2 ⟨hn.symm, ht⟩)]
theorem rep_no {l : List Td} {T : Td} {nm : ByteArray} {t : Int} (h : l.Pairwise ltT) (hc : ¬ (nm.toList = T.name.toList ∧ T.from_ ≤ t ∧ ((atD l nm t).2 = false ∨ (atD l nm t).1.from_ ≤ T.from_))) : atD (repL l T) nm t = atD l nm t := by
  obtain ⟨L, M, R, e1, e2, k1, k2, k3⟩ := rep_parts l T h
  rw [atD_eq, atD_eq]
  rw [atD_eq] at hc
  rw [e1] at hc
  rw [e2, e1]
  unfold atF at hc ⊢
  rw [List.foldl_append] at hc ⊢
  rw [List.foldl_append (l := L ++ M)]
  by_cases hR : ∃ r ∈ R, hitB nm t r = true
  · obtain ⟨r, hr, hh⟩ := hR
    exact fold_acc _ _ r hr hh
  · have hR' : ∀ r ∈ R, hitB nm t r = false := fun y hy => by cases h3 : hitB nm t y; rfl; exact absurd ⟨y, hy, h3⟩ hR
    rw [fold_none _ hR'] at hc ⊢
    rw [fold_none _ hR', List.foldl_append, List.foldl_append]
    by_cases hTh : hitB nm t T = true
    · exfalso
      obtain ⟨hn, ht⟩ := hit_iff.1 hTh
      refine hc ⟨hn.symm, ht, ?_⟩
      by_cases hLM : ∃ r ∈ L ++ M, hitB nm t r = true
      · obtain ⟨r, hr, hh, e⟩ := fold_mem (zeroT, false) hLM
        rw [e]
        refine .inr ?_
        dsimp only
        rcases List.mem_append.1 hr with hr | hr
        · have := (k1 r hr).same (by rw [hn, (hit_iff.1 hh).1]); omega
        · have := (k3 r hr).2; omega
      · rw [fold_none _ fun y hy => by cases h3 : hitB nm t y; rfl; exact absurd ⟨y, hy, h3⟩ hLM]
        exact .inl rfl
    · have hM : ∀ r ∈ M, hitB nm t r = false := fun r hr => by
        cases h3 : hitB nm t r
        · rfl
        · exfalso
          obtain ⟨a1, a2⟩ := hit_iff.1 h3
          obtain ⟨b1, b2⟩ := k3 r hr
          exact hTh (hit_iff.2 ⟨by rw [← b1]; exact a1, by omega⟩)
      rw [fold_none _ hM]
      simp only [List.foldl_cons, List.foldl_nil, stepA, if_neg hTh]

/-! ### between two changes -/
theorem at_congr {l : List Td} {nm : ByteArray} {t u : Int} (h : ∀ x ∈ l, hitB nm t x = hitB nm u x) : atD l nm t = atD l nm u := by
  rw [atD_eq, atD_eq]
  unfold atF
  generalize ((zeroT, false) : Td × Bool) = acc
  induction l generalizing acc with
  | nil => rfl
  | cons x l ih =>
    rw [List.foldl_cons, List.foldl_cons, ih (fun y hy => h y (List.mem_cons_of_mem _ hy))]
    unfold stepA
    rw [h x (List.mem_cons_self ..)]
theorem inP_iff {nm : ByteArray} {f t : Int} {x : Td} : inP nm f t x = true ↔ x.name.toList = nm.toList ∧ f ≤ x.from_ ∧ x.from_ < t := by
  unfold inP
  simp [Bool.and_eq_true]
theorem chg_pw {l : List Td} {nm : ByteArray} {f t : Int} (h : l.Pairwise ltT) : (chgL l nm f t).Pairwise (· < ·) := by
  unfold chgL
  rw [List.pairwise_map]
  refine List.Pairwise.imp_of_mem ?_ (List.Pairwise.filter _ h)
  intro a b ha hb hab
  have h1 := (inP_iff.1 (List.mem_filter.1 ha).2).1
  have h2 := (inP_iff.1 (List.mem_filter.1 hb).2).1
  exact hab.same (h1.trans h2.symm)
theorem chg_mem {l : List Td} {nm : ByteArray} {f t z : Int} : z ∈ chgL l nm f t ↔ ∃ x ∈ l, x.name.toList = nm.toList ∧ f ≤ x.from_ ∧ x.from_ < t ∧ x.from_ = z := by
  unfold chgL
  simp only [List.mem_map, List.mem_filter, inP_iff]
  constructor
  · rintro ⟨x, ⟨h1, h2, h3, h4⟩, h5⟩; exact ⟨x, h1, h2, h3, h4, h5⟩
  · rintro ⟨x, h1, h2, h3, h4, h5⟩; exact ⟨x, ⟨h1, h2, h3, h4⟩, h5⟩
/-- the version that begins at t is the one at t -/
theorem at_begin {l : List Td} {nm : ByteArray} {t : Int} (h : l.Pairwise ltT) (x : Td) (hx : x ∈ l) (hn : x.name.toList = nm.toList) (hf : x.from_ = t) : (atD l nm t).2 = true ∧ (atD l nm t).1.from_ = t := by
  rw [atD_eq]
  unfold atF
  have hh : hitB nm t x = true := hit_iff.2 ⟨hn, by omega⟩
  obtain ⟨P, Q, rfl⟩ := List.append_of_mem hx
  rw [List.foldl_append, List.foldl_cons]
  have hs : stepA nm t (P.foldl (stepA nm t) (zeroT, false)) x = (x, true) := by unfold stepA; rw [if_pos hh]
  rw [hs]
  have hQ : ∀ r ∈ Q, hitB nm t r = false := fun r hr => by
    cases h3 : hitB nm t r
    · rfl
    · exfalso
      obtain ⟨a1, a2⟩ := hit_iff.1 h3
      have h4 := (List.pairwise_cons.1 (List.pairwise_append.1 h).2.1).1 r hr
      have := h4.same (hn.trans a1.symm)
      omega
  rw [fold_none _ hQ]
  exact ⟨rfl, hf⟩
/-- the beginning and the end of the part with number i -/
def frS (cs : List Int) (f : Int) (i : Nat) : Int := if i = 0 then f else (cs[i - 1]?).getD 0
def toS (cs : List Int) (t : Int) (i : Nat) : Int := (cs[i]?).getD t
theorem stays {l : List Td} {nm : ByteArray} {f t : Int} (h : l.Pairwise ltT) (i : Nat) (hi : i ≤ (chgL l nm f t).length) :
    atD l nm (frS (chgL l nm f t) f i) = atD l nm (toS (chgL l nm f t) t i - 1) ∨ ¬ frS (chgL l nm f t) f i < toS (chgL l nm f t) t i := by
  by_cases hlt : frS (chgL l nm f t) f i < toS (chgL l nm f t) t i
  · refine .inl (at_congr fun x hx => ?_)
    rw [Bool.eq_iff_iff, hit_iff, hit_iff]
    refine ⟨fun ⟨a, b⟩ => ⟨a, by omega⟩, fun ⟨a, b⟩ => ⟨a, ?_⟩⟩
    have hp := chg_pw (nm := nm) (f := f) (t := t) h
    have hm := @chg_mem l nm f t
    generalize chgL l nm f t = cs at *
    rw [List.pairwise_iff_getElem] at hp
    refine Classical.byContradiction fun hgt => ?_
    have hfr : f ≤ frS cs f i := by
      unfold frS
      split
      · exact Int.le_refl _
      · have hk : i - 1 < cs.length := by omega
        rw [List.getElem?_eq_getElem hk]
        obtain ⟨y, _, _, h1, _, h2⟩ := hm.1 (List.getElem_mem hk)
        simp only [Option.getD_some]; omega
    have hto : toS cs t i ≤ t := by
      unfold toS
      cases hc : cs[i]? with
      | none => exact Int.le_refl _
      | some z =>
        obtain ⟨y, _, _, _, h1, h2⟩ := hm.1 (List.mem_of_getElem? hc)
        simp only [Option.getD_some]; omega
    have hmx : x.from_ ∈ cs := hm.2 ⟨x, hx, a, by omega, by omega, rfl⟩
    obtain ⟨k, hk, hkx⟩ := List.getElem_of_mem hmx
    by_cases hki : k < i
    · have h0 : i ≠ 0 := by omega
      have hk1 : i - 1 < cs.length := by omega
      have e : frS cs f i = cs[i - 1] := by unfold frS; rw [if_neg h0, List.getElem?_eq_getElem hk1]; rfl
      by_cases hk2 : k = i - 1
      · subst hk2; omega
      · have := hp k (i - 1) hk hk1 (by omega)
        omega
    · have hil : i < cs.length := by omega
      have e : toS cs t i = cs[i] := by unfold toS; rw [List.getElem?_eq_getElem hil]; rfl
      by_cases hk2 : k = i
      · subst hk2; omega
      · have := hp i k hil hk (by omega)
        omega
  · exact .inr hlt
theorem stays_from {l : List Td} {nm : ByteArray} {f t : Int} (h : l.Pairwise ltT) (i : Nat) (hi : i ≤ (chgL l nm f t).length) (h0 : 0 < i) :
    (atD l nm (frS (chgL l nm f t) f i)).2 = true ∧ (atD l nm (frS (chgL l nm f t) f i)).1.from_ = frS (chgL l nm f t) f i := by
  have hk : i - 1 < (chgL l nm f t).length := by omega
  have e : frS (chgL l nm f t) f i = (chgL l nm f t)[i - 1] := by unfold frS; rw [if_neg (by omega), List.getElem?_eq_getElem hk]; rfl
  obtain ⟨x, hx, hn, _, _, hf⟩ := chg_mem.1 (List.getElem_mem hk)
  rw [e]
  exact at_begin h x hx hn hf
theorem toS_bound {l : List Td} {nm : ByteArray} {f t : Int} (i : Nat) (hft : f < t) : f ≤ toS (chgL l nm f t) t i ∧ toS (chgL l nm f t) t i ≤ t := by
  unfold toS
  cases hc : (chgL l nm f t)[i]? with
  | none => exact ⟨by show f ≤ t; omega, Int.le_refl _⟩
  | some z =>
    obtain ⟨y, _, _, h0, h1, h2⟩ := chg_mem.1 (List.mem_of_getElem? hc)
    exact ⟨by show f ≤ z; omega, by show z ≤ t; omega⟩
theorem frS_next {cs : List Int} {f t : Int} {i : Nat} (hi : i < cs.length) : frS cs f (i + 1) = toS cs t i := by
  unfold frS toS
  rw [if_neg (by omega), Nat.add_sub_cancel, List.getElem?_eq_getElem hi]
  rfl
end Cv
end Go.Proofs.Ytdnnnajohdohaaa
