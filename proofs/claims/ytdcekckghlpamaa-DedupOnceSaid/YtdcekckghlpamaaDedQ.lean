/-
  Dedup: the two insertions are one. No condition.
-/
import Derived.Test.YtdcekckghlpamaaDedP
import Derived.BigQuiet
import Derived.StillTailTactics
import Derived.Lib.Overlaps
import Derived.Deep.DeepCutAuto
set_option maxRecDepth 100000
set_option linter.unusedVariables false
set_option linter.unusedSimpArgs false
namespace Go.Proofs.Ytdcekckghlpamaa
open Go.RowKit

namespace Dd

def leftOf (src ser : Int) (L : List Rng) : List Rng × Int :=
  match L.getLast? with
  | some p => if p.src = src ∧ p.hi + 1 = ser then (L.dropLast, p.lo) else (L, ser)
  | none => (L, ser)
def rightOf (src ser : Int) (R : List Rng) : List Rng × Int :=
  match R with
  | q :: R2 => if q.src = src ∧ ser + 1 = q.lo then (R2, q.hi) else (q :: R2, ser)
  | [] => ([], ser)
def res (src ser : Int) (L R : List Rng) : List Rng := (leftOf src ser L).1 ++ ⟨src, (leftOf src ser L).2, (rightOf src ser R).2⟩ :: (rightOf src ser R).1

theorem mergeAt_mid (L R : List Rng) (a b : Rng) : mergeAt (L ++ a :: b :: R) L.length = if a.src = b.src ∧ a.hi + 1 = b.lo then L ++ ⟨a.src, a.lo, b.hi⟩ :: R else L ++ a :: b :: R := by
  have h1 : (L ++ a :: b :: R)[L.length]? = some a := by simp
  have h2 : (L ++ a :: b :: R)[L.length + 1]? = some b := by
    rw [List.getElem?_append_right (by omega)]; simp
  unfold mergeAt
  rw [h1, h2]
  by_cases h : a.src = b.src ∧ a.hi + 1 = b.lo
  · simp only
    rw [if_pos (by simpa using h), if_pos h, List.set_append, if_neg (by omega)]
    simp only [Nat.sub_self, List.set_cons_zero]
    rw [List.take_append, List.drop_append, List.take_of_length_le (by omega), List.drop_of_length_le (by omega)]
    have e1 : L.length + 1 - L.length = 1 := by omega
    have e2 : L.length + 1 + 1 - L.length = 2 := by omega
    rw [e1, e2]
    simp
  · simp only
    rw [if_neg (by simpa using h), if_neg h]
theorem insL_res (L R : List Rng) (src ser : Int) : insL (L ++ R) L.length ⟨src, ser, ser⟩ = res src ser L R := by
  unfold insL
  rw [List.take_left', List.drop_left'] <;> try rfl
  have hr : mergeAt (L ++ (⟨src, ser, ser⟩ : Rng) :: R) L.length = L ++ ⟨src, ser, (rightOf src ser R).2⟩ :: (rightOf src ser R).1 := by
    cases R with
    | nil => rw [mergeAt_end (by simp)]; rfl
    | cons q R2 =>
      rw [mergeAt_mid]
      simp only [rightOf]
      by_cases h : q.src = src ∧ ser + 1 = q.lo
      · rw [if_pos ⟨h.1.symm, h.2⟩, if_pos h]
      · rw [if_neg (fun h2 => h ⟨h2.1.symm, h2.2⟩), if_neg h]
  rw [hr]
  unfold res
  generalize (rightOf src ser R).2 = hi
  generalize (rightOf src ser R).1 = R'
  rcases List.eq_nil_or_concat L with rfl | ⟨L0, p, rfl⟩
  · simp [leftOf]
  · rw [if_pos (by simp)]
    have e1 : (L0 ++ [p]).length - 1 = L0.length := by simp
    simp only [List.concat_eq_append]
    rw [e1]
    simp only [List.append_assoc, List.singleton_append]
    rw [mergeAt_mid]
    simp only [leftOf, List.getLast?_concat, List.dropLast_concat]
    by_cases h : p.src = src ∧ p.hi + 1 = ser
    · rw [if_pos h, if_pos h]
      simp [h.1]
    · rw [if_neg h, if_neg h]
      simp

/-! ### the reference's way -/
def stepR (src ser : Int) (s : List Rng × Rng × Bool) (x : Rng) : List Rng × Rng × Bool :=
  if x.src = src ∧ x.hi + 1 = ser then (s.1, ⟨s.2.1.src, x.lo, s.2.1.hi⟩, s.2.2)
  else if x.src = src ∧ x.lo - 1 = ser then (s.1, ⟨s.2.1.src, s.2.1.lo, x.hi⟩, s.2.2)
  else if s.2.2 = true ∨ x.src < src ∨ x.src = src ∧ x.hi < ser then (s.1 ++ [x], s.2.1, s.2.2)
  else (s.1 ++ [s.2.1, x], s.2.1, true)
def endR (s : List Rng × Rng × Bool) : List Rng := if s.2.2 = true then s.1 else s.1 ++ [s.2.1]
def refAdd (xs : List Rng) (src ser : Int) : List Rng := endR (xs.foldl (stepR src ser) ([], ⟨src, ser, ser⟩, false))

theorem fold_before (src ser : Int) (L : List Rng) : ∀ (out : List Rng) (r : Rng), (∀ z ∈ L, Before src ser z ∧ ¬ (z.src = src ∧ z.hi + 1 = ser) ∧ Rg z) → L.foldl (stepR src ser) (out, r, false) = (out ++ L, r, false) := by
  induction L with
  | nil => intro out r _; simp
  | cons z L ih =>
    intro out r h
    obtain ⟨h1, h2, h3⟩ := h z (by simp)
    rw [List.foldl_cons]
    have hs : stepR src ser (out, r, false) z = (out ++ [z], r, false) := by
      unfold stepR
      rw [if_neg h2, if_neg (by unfold Before at h1; unfold Rg at h3; omega), if_pos (by unfold Before at h1; exact .inr h1)]
    rw [hs, ih _ _ (fun x hx => h x (by simp [hx]))]
    simp
theorem fold_left (src ser : Int) (L : List Rng) (hb : ∀ z ∈ L, Before src ser z) (hc : Can L) :
    L.foldl (stepR src ser) ([], ⟨src, ser, ser⟩, false) = ((leftOf src ser L).1, ⟨src, (leftOf src ser L).2, ser⟩, false) := by
  rcases List.eq_nil_or_concat L with rfl | ⟨L0, p, rfl⟩
  · simp [leftOf]
  · simp only [List.concat_eq_append] at *
    have hpw := List.pairwise_append.1 hc.pw
    have hbp := hb p (by simp)
    rw [List.foldl_append, fold_before src ser L0 [] _ (fun z hz => ?_)]
    · simp only [List.foldl_cons, List.foldl_nil, List.nil_append, leftOf, List.getLast?_concat, List.dropLast_concat]
      unfold stepR
      by_cases h : p.src = src ∧ p.hi + 1 = ser
      · rw [if_pos h, if_pos h]
      · have hrp := hc.rg p (by simp)
        rw [if_neg h, if_neg h, if_neg (by unfold Before at hbp; unfold Rg at hrp; omega), if_pos (by unfold Before at hbp; exact .inr hbp)]
    · have hl := hpw.2.2 z hz p (by simp)
      have hrp := hc.rg p (by simp)
      refine ⟨hb z (by simp [hz]), ?_, hc.rg z (by simp [hz])⟩
      unfold Lt at hl; unfold Before at hbp; unfold Rg at hrp; omega
theorem fold_done (src ser : Int) (R : List Rng) : ∀ (out : List Rng) (r : Rng), (∀ z ∈ R, After src ser z ∧ ¬ (z.src = src ∧ z.lo - 1 = ser) ∧ Rg z) → R.foldl (stepR src ser) (out, r, true) = (out ++ R, r, true) := by
  induction R with
  | nil => intro out r _; simp
  | cons z L ih =>
    intro out r h
    obtain ⟨h1, h2, h3⟩ := h z (by simp)
    rw [List.foldl_cons]
    have hs : stepR src ser (out, r, true) z = (out ++ [z], r, true) := by
      unfold stepR
      rw [if_neg (by unfold After at h1; unfold Rg at h3; omega), if_neg h2, if_pos (.inl rfl)]
    rw [hs, ih _ _ (fun x hx => h x (by simp [hx]))]
    simp
theorem fold_right0 (src ser : Int) (R : List Rng) (out : List Rng) (r : Rng) (h : ∀ z ∈ R, After src ser z ∧ ¬ (z.src = src ∧ z.lo - 1 = ser) ∧ Rg z) :
    endR (R.foldl (stepR src ser) (out, r, false)) = out ++ r :: R := by
  cases R with
  | nil => simp [endR]
  | cons z R =>
    obtain ⟨h1, h2, h3⟩ := h z (by simp)
    have hs : stepR src ser (out, r, false) z = (out ++ [r, z], r, true) := by
      unfold stepR
      rw [if_neg (by unfold After at h1; unfold Rg at h3; omega), if_neg h2, if_neg (by unfold After at h1; unfold Rg at h3; simp; omega)]
    rw [List.foldl_cons, hs, fold_done src ser R _ _ (fun x hx => h x (by simp [hx]))]
    simp [endR]
theorem fold_right (src ser : Int) (R : List Rng) (ha : ∀ z ∈ R, After src ser z) (hc : Can R) (out : List Rng) (lo : Int) :
    endR (R.foldl (stepR src ser) (out, ⟨src, lo, ser⟩, false)) = out ++ ⟨src, lo, (rightOf src ser R).2⟩ :: (rightOf src ser R).1 := by
  cases R with
  | nil => simp [endR, rightOf]
  | cons q R2 =>
    have hpw := List.pairwise_cons.1 hc.pw
    have haq := ha q (by simp)
    have hrq := hc.rg q (by simp)
    by_cases h : q.src = src ∧ ser + 1 = q.lo
    · have hs : stepR src ser (out, ⟨src, lo, ser⟩, false) q = (out, ⟨src, lo, q.hi⟩, false) := by
        unfold stepR
        rw [if_neg (by unfold Rg at hrq; omega), if_pos (by omega)]
      rw [List.foldl_cons, hs, fold_right0]
      · simp only [rightOf, if_pos h]
      · intro z hz
        have hl := hpw.1 z hz
        refine ⟨ha z (by simp [hz]), ?_, hc.rg z (by simp [hz])⟩
        unfold Lt at hl; unfold Rg at hrq; omega
    · rw [fold_right0]
      · simp only [rightOf, if_neg h]
      · intro z hz
        refine ⟨ha z hz, ?_, hc.rg z hz⟩
        rcases List.mem_cons.1 hz with rfl | hz
        · omega
        · have hl := hpw.1 z hz
          have haz := ha q (by simp)
          unfold Lt at hl; unfold After at haz; unfold Rg at hrq; omega
theorem Can.append {L R : List Rng} (h : Can (L ++ R)) : Can L ∧ Can R :=
  ⟨⟨fun x hx => h.rg x (by simp [hx]), (List.pairwise_append.1 h.pw).1⟩, ⟨fun x hx => h.rg x (by simp [hx]), (List.pairwise_append.1 h.pw).2.1⟩⟩
theorem refAdd_res {L R : List Rng} (hc : Can (L ++ R)) {src ser : Int} (hb : ∀ z ∈ L, Before src ser z) (ha : ∀ z ∈ R, After src ser z) : refAdd (L ++ R) src ser = res src ser L R := by
  unfold refAdd
  rw [List.foldl_append, fold_left src ser L hb hc.append.1, fold_right src ser R ha hc.append.2]
  rfl

/-! ### both, over a list that does not hold the number -/
theorem parts {xs : List Rng} (h : Can xs) {src ser : Int} (hid : ident src ser = true) (hno : hasL xs src ser = false) {i : Nat} (hi : i ≤ xs.length) (h1 : ∀ x, 0 < i → xs[i-1]? = some x → pastR src ser x = false) (h2 : ∀ x, xs[i]? = some x → pastR src ser x = true) :
    (∀ x ∈ xs.take i, Before src ser x) ∧ (∀ x ∈ xs.drop i, After src ser x) := by
  obtain ⟨hb, ha⟩ := split_at h hi h1 h2
  refine ⟨hb, fun x hx => ?_⟩
  have h3 := ha x hx
  have hnh : ¬ Hit src ser x := fun hh => by
    have := (hasL_iff (xs := xs)).2 ⟨⟨x, List.mem_of_mem_drop hx, hh⟩, hid⟩
    rw [hno] at this; cases this
  unfold Hit at hnh; unfold After; omega
theorem ins_eq {xs : List Rng} (h : Can xs) {src ser : Int} (hid : ident src ser = true) (hno : hasL xs src ser = false) {i : Nat} (hi : i ≤ xs.length) (h1 : ∀ x, 0 < i → xs[i-1]? = some x → pastR src ser x = false) (h2 : ∀ x, xs[i]? = some x → pastR src ser x = true) :
    insL xs i ⟨src, ser, ser⟩ = refAdd xs src ser := by
  obtain ⟨hb, ha⟩ := parts h hid hno hi h1 h2
  have hx : xs = xs.take i ++ xs.drop i := (List.take_append_drop i xs).symm
  have hl : (xs.take i).length = i := by simp; omega
  have e1 := insL_res (xs.take i) (xs.drop i) src ser
  rw [hl, List.take_append_drop] at e1
  have e2 := refAdd_res (L := xs.take i) (R := xs.drop i) (by rw [← hx]; exact h) hb ha
  rw [List.take_append_drop] at e2
  rw [e1, e2]
/-- there is such a place -/
theorem place_ex {xs : List Rng} (h : Can xs) (src ser : Int) : ∃ L R, xs = L ++ R ∧ (∀ x ∈ L, Before src ser x) ∧ (∀ x ∈ R, src < x.src ∨ x.src = src ∧ ser ≤ x.hi) := by
  induction xs with
  | nil => exact ⟨[], [], rfl, by simp, by simp⟩
  | cons q xs ih =>
    have hpw := List.pairwise_cons.1 h.pw
    have hc : Can xs := ⟨fun x hx => h.rg x (by simp [hx]), hpw.2⟩
    by_cases hq : Before src ser q
    · obtain ⟨L, R, rfl, hb, ha⟩ := ih hc
      exact ⟨q :: L, R, rfl, fun x hx => by
        rcases List.mem_cons.1 hx with rfl | hx
        · exact hq
        · exact hb x hx, ha⟩
    · refine ⟨[], q :: xs, rfl, by simp, fun x hx => ?_⟩
      have hrq := h.rg q (by simp)
      rcases List.mem_cons.1 hx with rfl | hx
      · unfold Before at hq; omega
      · have hl := hpw.1 x hx
        have hrx := h.rg x (by simp [hx])
        unfold Lt at hl; unfold Before at hq; unfold Rg at hrq hrx; omega
theorem place_ex2 {xs : List Rng} (h : Can xs) {src ser : Int} (hid : ident src ser = true) (hno : hasL xs src ser = false) : ∃ L R, xs = L ++ R ∧ (∀ x ∈ L, Before src ser x) ∧ (∀ x ∈ R, After src ser x) := by
  obtain ⟨L, R, rfl, hb, ha⟩ := place_ex h src ser
  refine ⟨L, R, rfl, hb, fun x hx => ?_⟩
  have h3 := ha x hx
  have hnh : ¬ Hit src ser x := fun hh => by
    have := (hasL_iff (xs := L ++ R)).2 ⟨⟨x, by simp [hx], hh⟩, hid⟩
    rw [hno] at this; cases this
  unfold Hit at hnh; unfold After; omega

/-! ### what insertion keeps and adds -/
theorem res_can {L R : List Rng} (hc : Can (L ++ R)) {src ser : Int} (hid : ident src ser = true) (hb : ∀ z ∈ L, Before src ser z) (ha : ∀ z ∈ R, After src ser z) : Can (res src ser L R) := by
  rw [ident_iff] at hid
  -- the left part: what stays lies before the new range
  have hl : ∃ L' lo, leftOf src ser L = (L', lo) ∧ (∀ z ∈ L', z ∈ L) ∧ L'.Pairwise Lt ∧ 1 ≤ lo ∧ lo ≤ ser ∧ ∀ z ∈ L', z.src < src ∨ z.src = src ∧ z.hi + 1 < lo := by
    rcases List.eq_nil_or_concat L with rfl | ⟨L0, p, rfl⟩
    · exact ⟨[], ser, rfl, by simp, List.Pairwise.nil, by omega, by omega, by simp⟩
    · simp only [List.concat_eq_append] at *
      have hpw := List.pairwise_append.1 (List.pairwise_append.1 hc.pw).1
      have hbp := hb p (by simp)
      have hrp := hc.rg p (by simp)
      unfold Rg at hrp
      unfold Before at hbp
      simp only [leftOf, List.getLast?_concat, List.dropLast_concat]
      by_cases h : p.src = src ∧ p.hi + 1 = ser
      · rw [if_pos h]
        refine ⟨_, _, rfl, fun z hz => by simp [hz], hpw.1, by omega, by omega, fun z hz => ?_⟩
        have := hpw.2.2 z hz p (by simp)
        unfold Lt at this; omega
      · rw [if_neg h]
        refine ⟨_, _, rfl, fun z hz => hz, (List.pairwise_append.1 hc.pw).1, by omega, by omega, fun z hz => ?_⟩
        rcases List.mem_append.1 hz with hz | hz
        · have := hpw.2.2 z hz p (by simp)
          unfold Lt at this; omega
        · have : z = p := by simpa using hz
          subst this; omega
  have hr : ∃ R' hi, rightOf src ser R = (R', hi) ∧ (∀ z ∈ R', z ∈ R) ∧ R'.Pairwise Lt ∧ ser ≤ hi ∧ hi ≤ 999999999 ∧ ∀ z ∈ R', src < z.src ∨ z.src = src ∧ hi + 1 < z.lo := by
    cases R with
    | nil => exact ⟨[], ser, rfl, by simp, List.Pairwise.nil, by omega, by omega, by simp⟩
    | cons q R2 =>
      have hpw := List.pairwise_cons.1 (List.pairwise_append.1 hc.pw).2.1
      have haq := ha q (by simp)
      have hrq := hc.rg q (by simp)
      unfold Rg at hrq
      unfold After at haq
      simp only [rightOf]
      by_cases h : q.src = src ∧ ser + 1 = q.lo
      · rw [if_pos h]
        refine ⟨_, _, rfl, fun z hz => by simp [hz], hpw.2, by omega, by omega, fun z hz => ?_⟩
        have := hpw.1 z hz
        unfold Lt at this; omega
      · rw [if_neg h]
        refine ⟨_, _, rfl, fun z hz => hz, (List.pairwise_append.1 hc.pw).2.1, by omega, by omega, fun z hz => ?_⟩
        rcases List.mem_cons.1 hz with rfl | hz
        · omega
        · have := hpw.1 z hz
          unfold Lt at this; omega
  obtain ⟨L', lo, e1, hl1, hl2, hl3, hl4, hl5⟩ := hl
  obtain ⟨R', hi, e2, hr1, hr2, hr3, hr4, hr5⟩ := hr
  unfold res
  rw [e1, e2]
  constructor
  · intro x hx
    rcases List.mem_append.1 hx with h | h
    · exact hc.rg x (by simp [hl1 x h])
    · rcases List.mem_cons.1 h with rfl | h
      · unfold Rg; dsimp only; omega
      · exact hc.rg x (by simp [hr1 x h])
  · rw [List.pairwise_append]
    refine ⟨hl2, List.Pairwise.cons (fun z hz => by have := hr5 z hz; unfold Lt; dsimp only; omega) hr2, fun a haL b hbR => ?_⟩
    have h5 := hl5 a haL
    rcases List.mem_cons.1 hbR with rfl | h
    · unfold Lt; dsimp only; omega
    · have h6 := hr5 b h
      have h7 := hc.rg a (by simp [hl1 a haL])
      unfold Lt; unfold Rg at h7; omega

theorem res_hit {L R : List Rng} (hc : Can (L ++ R)) {src ser : Int} (hb : ∀ z ∈ L, Before src ser z) (ha : ∀ z ∈ R, After src ser z) (s t : Int) :
    (∃ x ∈ res src ser L R, Hit s t x) ↔ (∃ x ∈ L ++ R, Hit s t x) ∨ (s = src ∧ t = ser) := by
  have hl : (∃ x ∈ (leftOf src ser L).1, Hit s t x) ∨ (s = src ∧ (leftOf src ser L).2 ≤ t ∧ t < ser) ↔ ∃ x ∈ L, Hit s t x := by
    rcases List.eq_nil_or_concat L with rfl | ⟨L0, p, rfl⟩
    · simp [leftOf] <;> omega
    · simp only [List.concat_eq_append] at *
      have hrp := hc.rg p (by simp)
      unfold Rg at hrp
      simp only [leftOf, List.getLast?_concat, List.dropLast_concat]
      by_cases h : p.src = src ∧ p.hi + 1 = ser
      · rw [if_pos h]
        constructor
        · rintro (⟨x, hx, hh⟩ | hh)
          · exact ⟨x, by simp [hx], hh⟩
          · exact ⟨p, by simp, by unfold Hit; omega⟩
        · rintro ⟨x, hx, hh⟩
          rcases List.mem_append.1 hx with hx | hx
          · exact .inl ⟨x, hx, hh⟩
          · have : x = p := by simpa using hx
            subst this; unfold Hit at hh; exact .inr (by omega)
      · rw [if_neg h]
        constructor
        · rintro (hh | hh)
          · exact hh
          · exfalso; dsimp only at hh; omega
        · exact .inl
  have hr : (∃ x ∈ (rightOf src ser R).1, Hit s t x) ∨ (s = src ∧ ser < t ∧ t ≤ (rightOf src ser R).2) ↔ ∃ x ∈ R, Hit s t x := by
    cases R with
    | nil => simp [rightOf] <;> omega
    | cons q R2 =>
      have hrq := hc.rg q (by simp)
      unfold Rg at hrq
      simp only [rightOf]
      by_cases h : q.src = src ∧ ser + 1 = q.lo
      · rw [if_pos h]
        constructor
        · rintro (⟨x, hx, hh⟩ | hh)
          · exact ⟨x, by simp [hx], hh⟩
          · exact ⟨q, by simp, by unfold Hit; omega⟩
        · rintro ⟨x, hx, hh⟩
          rcases List.mem_cons.1 hx with rfl | hx
          · unfold Hit at hh; exact .inr (by omega)
          · exact .inl ⟨x, hx, hh⟩
      · rw [if_neg h]
        constructor
        · rintro (hh | hh)
          · exact hh
          · exfalso; dsimp only at hh; omega
        · exact .inl
  have h1 : (leftOf src ser L).2 ≤ ser := by
    rcases List.eq_nil_or_concat L with rfl | ⟨L0, p, rfl⟩
    · simp [leftOf]
    · simp only [List.concat_eq_append] at *
      have hrp := hc.rg p (by simp)
      unfold Rg at hrp
      simp only [leftOf, List.getLast?_concat]
      split <;> dsimp only <;> omega
  have h2 : ser ≤ (rightOf src ser R).2 := by
    cases R with
    | nil => simp [rightOf]
    | cons q R2 =>
      have hrq := hc.rg q (by simp)
      unfold Rg at hrq
      simp only [rightOf]
      split <;> dsimp only <;> omega
  unfold res
  constructor
  · rintro ⟨x, hx, hh⟩
    rcases List.mem_append.1 hx with hx | hx
    · obtain ⟨y, hy, hk⟩ := hl.1 (.inl ⟨x, hx, hh⟩)
      exact .inl ⟨y, by simp [hy], hk⟩
    · rcases List.mem_cons.1 hx with rfl | hx
      · unfold Hit at hh
        dsimp only at hh
        by_cases ht : t = ser
        · exact .inr ⟨by omega, ht⟩
        · by_cases ht2 : t < ser
          · obtain ⟨y, hy, hk⟩ := hl.1 (.inr ⟨by omega, by omega, ht2⟩)
            exact .inl ⟨y, by simp [hy], hk⟩
          · obtain ⟨y, hy, hk⟩ := hr.1 (.inr ⟨by omega, by omega, by omega⟩)
            exact .inl ⟨y, by simp [hy], hk⟩
      · obtain ⟨y, hy, hk⟩ := hr.1 (.inl ⟨x, hx, hh⟩)
        exact .inl ⟨y, by simp [hy], hk⟩
  · have hmid : ∀ u, (leftOf src ser L).2 ≤ u → u ≤ (rightOf src ser R).2 → ∃ x ∈ (leftOf src ser L).1 ++ ⟨src, (leftOf src ser L).2, (rightOf src ser R).2⟩ :: (rightOf src ser R).1, Hit src u x := fun u hu1 hu2 =>
      ⟨_, List.mem_append.2 (.inr (List.mem_cons_self ..)), rfl, hu1, hu2⟩
    rintro (⟨x, hx, hh⟩ | ⟨rfl, rfl⟩)
    · rcases List.mem_append.1 hx with hx | hx
      · rcases hl.2 ⟨x, hx, hh⟩ with ⟨y, hy, hk⟩ | ⟨rfl, h3, h4⟩
        · exact ⟨y, by simp [hy], hk⟩
        · exact hmid t h3 (by omega)
      · rcases hr.2 ⟨x, hx, hh⟩ with ⟨y, hy, hk⟩ | ⟨rfl, h3, h4⟩
        · exact ⟨y, by simp [hy], hk⟩
        · exact hmid t (by omega) h4
    · exact hmid _ h1 h2

theorem refAdd_can {xs : List Rng} (h : Can xs) {src ser : Int} (hid : ident src ser = true) (hno : hasL xs src ser = false) : Can (refAdd xs src ser) := by
  obtain ⟨L, R, rfl, hb, ha⟩ := place_ex2 h hid hno
  rw [refAdd_res h hb ha]
  exact res_can h hid hb ha
theorem refAdd_has {xs : List Rng} (h : Can xs) {src ser : Int} (hid : ident src ser = true) (hno : hasL xs src ser = false) (s t : Int) :
    hasL (refAdd xs src ser) s t = (hasL xs s t || (decide (s = src) && decide (t = ser))) := by
  obtain ⟨L, R, rfl, hb, ha⟩ := place_ex2 h hid hno
  rw [refAdd_res h hb ha, Bool.eq_iff_iff]
  simp only [Bool.or_eq_true, Bool.and_eq_true, decide_eq_true_eq, hasL_iff, res_hit h hb ha]
  constructor
  · rintro ⟨h1 | h1, h2⟩
    · exact .inl ⟨h1, h2⟩
    · exact .inr h1
  · rintro (⟨h1, h2⟩ | ⟨rfl, rfl⟩)
    · exact ⟨.inl h1, h2⟩
    · exact ⟨.inr ⟨rfl, rfl⟩, hid⟩
theorem res_len (src ser : Int) (L R : List Rng) : (res src ser L R).length ≤ L.length + R.length + 1 := by
  have h1 : (leftOf src ser L).1.length ≤ L.length := by unfold leftOf; split <;> (try split) <;> simp
  have h2 : (rightOf src ser R).1.length ≤ R.length := by unfold rightOf; split <;> (try split) <;> simp
  unfold res
  simp; omega
theorem refAdd_len {xs : List Rng} (h : Can xs) {src ser : Int} (hid : ident src ser = true) (hno : hasL xs src ser = false) : (refAdd xs src ser).length ≤ xs.length + 1 := by
  obtain ⟨L, R, rfl, hb, ha⟩ := place_ex2 h hid hno
  rw [refAdd_res h hb ha]
  have := res_len src ser L R
  simp at *; omega

end Dd
end Go.Proofs.Ytdcekckghlpamaa
