/-
  Customers: an event inserted, in plain words. No condition.
-/
import Derived.Test.YteaanngagcflhaaKb18
import Derived.BigQuiet
import Derived.StillTailTactics
import Derived.Lib.Overlaps
import Derived.Deep.DeepCutAuto
import Derived.Deep.RegionWith
set_option maxRecDepth 100000
set_option linter.unusedVariables false
set_option linter.unusedSimpArgs false
namespace Go.Proofs.Yteaanngagcflhaa
open Go.RowKit
namespace Cu
theorem cutN_eq {l : List Ev} {t : Int} {k : Nat} (hk : k ≤ l.length) (h1 : ∀ (m : Nat) y, m < k → l[m]? = some y → y.at_ ≤ t) (h2 : ∀ y, l[k]? = some y → ¬ y.at_ ≤ t) : cutN l t = k := by
  unfold cutN
  induction l generalizing k with
  | nil => simp at hk; simp [hk]
  | cons x l ih =>
    cases k with
    | zero =>
      have := h2 x rfl
      rw [List.takeWhile_cons_of_neg (by simpa using this)]; rfl
    | succ k =>
      have := h1 0 x (by omega) rfl
      rw [List.takeWhile_cons_of_pos (by simpa using this), List.length_cons, ih (k := k) (by simpa using hk) (fun m y hm hy => h1 (m + 1) y (by omega) (by simpa using hy)) (fun y hy => h2 y (by simpa using hy))]
theorem of_sub {b : Bk} {e : Ev} {last : Int} (h : faultR b e last = 0) (hu : uA e.kind = false) : formR e last = 0 ∧ ofSub b e = 0 := by
  unfold faultR at h
  by_cases h1 : formR e last = 0
  · rw [if_neg (by simp [h1]), if_neg (by simp [hu])] at h
    exact ⟨h1, h⟩
  · rw [if_pos h1] at h; exact absurd h h1
end Cu
end Go.Proofs.Yteaanngagcflhaa
namespace Go.Proofs.Yteaanngagcflhaa
open Go.RowKit
namespace Ss
open Cu
structure Iv (α : Type) where
  from_ : Int
  to_ : Int
  q : α
def fo : Int := 12622780800
structure Can {α : Type} (A : List (Iv α)) (T : Int) (f : Int → Option α) : Prop where
  good : ∀ d ∈ A, 0 ≤ d.from_ ∧ d.from_ < d.to_ ∧ d.to_ ≤ fo ∧ d.to_ ≤ T
  nb : ∀ (i : Nat) (a b : Iv α), A[i]? = some a → A[i + 1]? = some b → a.to_ ≤ b.from_ ∧ ¬ (a.to_ = b.from_ ∧ a.q = b.q)
  cov : ∀ t v, 0 ≤ t → t < T → ((∃ d ∈ A, d.from_ ≤ t ∧ t < d.to_ ∧ d.q = v) ↔ f t = some v)
variable {α : Type}
theorem can_0 {f : Int → Option α} {T : Int} (h : ∀ t, 0 ≤ t → t < T → f t = none) : Can [] T f :=
  ⟨fun d hd => (by cases hd), fun i a b h => (by simp at h), fun t n h0 ht => (by rw [h t h0 ht]; simp)⟩
theorem can_none {f : Int → Option α} {T T' : Int} {out : List (Iv α)} (h : Can out T f) (hT : T ≤ T') (hn : ∀ t, T ≤ t → t < T' → f t = none) : Can out T' f :=
  ⟨fun d hd => by have := h.good d hd; omega, h.nb, fun t n h0 ht => by
    by_cases hlt : t < T
    · exact h.cov t n h0 hlt
    · rw [hn t (by omega) ht]
      constructor
      · rintro ⟨d, hd, h1, h2, _⟩
        have := h.good d hd; omega
      · intro e; cases e⟩
theorem can_app {f : Int → Option α} {T T' : Int} {out : List (Iv α)} {m : α} (h : Can out T f) (h0 : 0 ≤ T) (hT : T < T') (hF : T' ≤ fo) (hn : ∀ t, T ≤ t → t < T' → f t = some m)
    (hl : ∀ d, out.getLast? = some d → ¬ (d.to_ = T ∧ d.q = m)) : Can (out ++ [⟨T, T', m⟩]) T' f := by
  refine ⟨fun d hd => ?_, fun i a b ha hb => ?_, fun t n h1 ht => ?_⟩
  · rcases List.mem_append.1 hd with hd | hd
    · have := h.good d hd; omega
    · rw [List.mem_singleton] at hd; subst hd; dsimp only; omega
  · have hi : i + 1 < (out ++ [(⟨T, T', m⟩ : Iv α)]).length := (List.getElem?_eq_some_iff.1 hb).1
    rw [List.length_append, List.length_singleton] at hi
    rw [List.getElem?_append_left (by omega)] at ha
    by_cases h2 : i + 1 < out.length
    · rw [List.getElem?_append_left h2] at hb
      exact h.nb i a b ha hb
    · have h3 : i + 1 = out.length := by omega
      rw [h3, List.getElem?_append_right (Nat.le_refl _), Nat.sub_self] at hb
      simp at hb
      subst hb
      have hg := h.good a (List.mem_of_getElem? ha)
      have hla : out.getLast? = some a := by rw [List.getLast?_eq_getElem?, show out.length - 1 = i by omega]; exact ha
      exact ⟨hg.2.2.2, fun e => hl a hla e⟩
  · by_cases hlt : t < T
    · rw [← h.cov t n h1 hlt]
      constructor
      · rintro ⟨d, hd, h2, h3, h4⟩
        rcases List.mem_append.1 hd with hd | hd
        · exact ⟨d, hd, h2, h3, h4⟩
        · rw [List.mem_singleton] at hd; subst hd; dsimp only at h2; omega
      · rintro ⟨d, hd, h2⟩
        exact ⟨d, List.mem_append_left _ hd, h2⟩
    · rw [hn t (by omega) ht]
      constructor
      · rintro ⟨d, hd, h2, h3, h4⟩
        rcases List.mem_append.1 hd with hd | hd
        · have := h.good d hd; omega
        · rw [List.mem_singleton] at hd; subst hd; exact congrArg some h4
      · intro e
        cases e
        exact ⟨⟨T, T', m⟩, List.mem_append_right _ (List.mem_singleton.2 rfl), by dsimp only; omega, ht, rfl⟩
theorem can_ext {f : Int → Option α} {T T' : Int} {out : List (Iv α)} {d : Iv α} (h : Can (out ++ [d]) T f) (h0 : 0 ≤ T) (hT : T < T') (hF : T' ≤ fo) (hd : d.to_ = T) (hn : ∀ t, T ≤ t → t < T' → f t = some d.q) :
    Can (out ++ [⟨d.from_, T', d.q⟩]) T' f := by
  have hg := h.good d (List.mem_append_right _ (List.mem_singleton.2 rfl))
  refine ⟨fun e he => ?_, fun i a b ha hb => ?_, fun t n h1 ht => ?_⟩
  · rcases List.mem_append.1 he with he | he
    · have := h.good e (List.mem_append_left _ he); omega
    · rw [List.mem_singleton] at he; subst he; dsimp only; omega
  · have hi : i + 1 < (out ++ [(⟨d.from_, T', d.q⟩ : Iv α)]).length := (List.getElem?_eq_some_iff.1 hb).1
    rw [List.length_append, List.length_singleton] at hi
    rw [List.getElem?_append_left (by omega)] at ha
    have ha' : (out ++ [d])[i]? = some a := by rw [List.getElem?_append_left (by omega)]; exact ha
    by_cases h2 : i + 1 < out.length
    · rw [List.getElem?_append_left h2] at hb
      exact h.nb i a b ha' (by rw [List.getElem?_append_left h2]; exact hb)
    · have h3 : i + 1 = out.length := by omega
      have hb' : (out ++ [d])[i + 1]? = some d := by rw [h3, List.getElem?_append_right (Nat.le_refl _), Nat.sub_self]; rfl
      rw [h3, List.getElem?_append_right (Nat.le_refl _), Nat.sub_self] at hb
      simp at hb
      subst hb
      exact h.nb i a d ha' hb'
  · have hsame : ∀ t, t < T → ((∃ e ∈ out ++ [(⟨d.from_, T', d.q⟩ : Iv α)], e.from_ ≤ t ∧ t < e.to_ ∧ e.q = n) ↔ (∃ e ∈ out ++ [d], e.from_ ≤ t ∧ t < e.to_ ∧ e.q = n)) := fun t hlt => by
      constructor
      · rintro ⟨e, he, h2, h3, h4⟩
        rcases List.mem_append.1 he with he | he
        · exact ⟨e, List.mem_append_left _ he, h2, h3, h4⟩
        · rw [List.mem_singleton] at he; subst he
          exact ⟨d, List.mem_append_right _ (List.mem_singleton.2 rfl), h2, by omega, h4⟩
      · rintro ⟨e, he, h2, h3, h4⟩
        rcases List.mem_append.1 he with he | he
        · exact ⟨e, List.mem_append_left _ he, h2, h3, h4⟩
        · rw [List.mem_singleton] at he; subst he
          exact ⟨_, List.mem_append_right _ (List.mem_singleton.2 rfl), h2, by dsimp only; omega, h4⟩
    by_cases hlt : t < T
    · rw [hsame t hlt]; exact h.cov t n h1 hlt
    · rw [hn t (by omega) ht]
      constructor
      · rintro ⟨e, he, h2, h3, h4⟩
        rcases List.mem_append.1 he with he | he
        · have := h.good e (List.mem_append_left _ he); omega
        · rw [List.mem_singleton] at he; subst he; exact congrArg some h4
      · intro e
        cases e
        exact ⟨_, List.mem_append_right _ (List.mem_singleton.2 rfl), by dsimp only; omega, ht, rfl⟩
theorem can_tl {f : Int → Option α} {T : Int} {a : Iv α} {A : List (Iv α)} (h : Can (a :: A) T f) : (∀ d ∈ A, a.to_ ≤ d.from_) := by
  have key : ∀ (i : Nat) (d : Iv α), A[i]? = some d → a.to_ ≤ d.from_ := by
    intro i
    induction i with
    | zero => intro d hd; exact (h.nb 0 a d rfl hd).1
    | succ i ih =>
      intro d hd
      obtain ⟨e, he⟩ : ∃ e, A[i]? = some e := ⟨_, List.getElem?_eq_getElem (by have := (List.getElem?_eq_some_iff.1 hd).1; omega)⟩
      have h1 := ih e he
      have h2 := (h.nb (i + 1) e d he hd).1
      have h3 := (h.good e (List.mem_cons_of_mem _ (List.mem_of_getElem? he))).2.1
      omega
  intro d hd
  obtain ⟨i, hi⟩ := List.getElem?_of_mem hd
  exact key i d hi
theorem can_pop {f : Int → Option α} {T : Int} {a : Iv α} {A : List (Iv α)} (h : Can (a :: A) T f) : Can A T fun t => if t < a.to_ then none else f t := by
  have ht := can_tl h
  refine ⟨fun d hd => h.good d (List.mem_cons_of_mem _ hd), fun i x y hx hy => h.nb (i + 1) x y hx hy, fun t v h0 h1 => ?_⟩
  by_cases hlt : t < a.to_
  · rw [if_pos hlt]
    constructor
    · rintro ⟨d, hd, h2, _⟩; have := ht d hd; omega
    · intro e; cases e
  · rw [if_neg hlt, ← h.cov t v h0 h1]
    constructor
    · rintro ⟨d, hd, h2⟩; exact ⟨d, List.mem_cons_of_mem _ hd, h2⟩
    · rintro ⟨d, hd, h2⟩
      rcases List.mem_cons.1 hd with rfl | hd
      · omega
      · exact ⟨d, hd, h2⟩
theorem can_first {f : Int → Option α} {T : Int} {a b : Iv α} {A B : List (Iv α)} (h : Can (a :: A) T f) (k : Can (b :: B) T f) : b.from_ ≤ a.from_ := by
  have ha := h.good a List.mem_cons_self
  have hb := k.good b List.mem_cons_self
  have h1 := (h.cov a.from_ a.q ha.1 (by omega)).1 ⟨a, List.mem_cons_self, Int.le_refl _, ha.2.1, rfl⟩
  obtain ⟨d, hd, h2, h3, _⟩ := (k.cov a.from_ a.q ha.1 (by omega)).2 h1
  rcases List.mem_cons.1 hd with rfl | hd
  · exact h2
  · have := can_tl k d hd; omega
theorem can_to {f : Int → Option α} {T : Int} {a b : Iv α} {A B : List (Iv α)} (h : Can (a :: A) T f) (k : Can (b :: B) T f) (hf : a.from_ = b.from_) (hq : a.q = b.q) : b.to_ ≤ a.to_ := by
  have ha := h.good a List.mem_cons_self
  have hb := k.good b List.mem_cons_self
  by_cases hlt : a.to_ < b.to_
  · exfalso
    have h1 := (k.cov a.to_ b.q (by omega) (by omega)).1 ⟨b, List.mem_cons_self, by omega, hlt, rfl⟩
    obtain ⟨d, hd, h2, h3, h4⟩ := (h.cov a.to_ b.q (by omega) (by omega)).2 h1
    rcases List.mem_cons.1 hd with rfl | hd
    · omega
    · obtain ⟨e, A', rfl⟩ : ∃ e A', A = e :: A' := by
        cases A with
        | nil => cases hd
        | cons e A' => exact ⟨e, A', rfl⟩
      have hn := h.nb 0 a e rfl rfl
      have he := h.good e (List.mem_cons_of_mem _ List.mem_cons_self)
      rcases List.mem_cons.1 hd with rfl | hd
      · exact hn.2 ⟨by omega, by rw [hq, h4]⟩
      · have htl := can_tl (can_pop h) d hd
        omega
  · omega
theorem can_uniq : ∀ {A B : List (Iv α)} {T : Int} {f : Int → Option α}, Can A T f → Can B T f → A = B
  | [], [], _, _, _, _ => rfl
  | a :: A, [], T, f, h, k => by
    have ha := h.good a List.mem_cons_self
    have h1 := (h.cov a.from_ a.q ha.1 (by omega)).1 ⟨a, List.mem_cons_self, Int.le_refl _, ha.2.1, rfl⟩
    obtain ⟨d, hd, _⟩ := (k.cov a.from_ a.q ha.1 (by omega)).2 h1
    cases hd
  | [], b :: B, T, f, h, k => by
    have hb := k.good b List.mem_cons_self
    have h1 := (k.cov b.from_ b.q hb.1 (by omega)).1 ⟨b, List.mem_cons_self, Int.le_refl _, hb.2.1, rfl⟩
    obtain ⟨d, hd, _⟩ := (h.cov b.from_ b.q hb.1 (by omega)).2 h1
    cases hd
  | a :: A, b :: B, T, f, h, k => by
    have ha := h.good a List.mem_cons_self
    have hb := k.good b List.mem_cons_self
    have e1 : a.from_ = b.from_ := by have := can_first h k; have := can_first k h; omega
    have h1 := (h.cov a.from_ a.q ha.1 (by omega)).1 ⟨a, List.mem_cons_self, Int.le_refl _, ha.2.1, rfl⟩
    have h2 := (k.cov b.from_ b.q hb.1 (by omega)).1 ⟨b, List.mem_cons_self, Int.le_refl _, hb.2.1, rfl⟩
    have e2 : a.q = b.q := by rw [e1, h2] at h1; injection h1 with h1; exact h1.symm
    have e3 : a.to_ = b.to_ := by have := can_to h k e1 e2; have := can_to k h e1.symm e2.symm; omega
    have hp := can_pop h
    have kp := can_pop k
    rw [← e3] at kp
    have := can_uniq hp kp
    subst this
    cases a; cases b; simp_all
end Ss
end Go.Proofs.Yteaanngagcflhaa
namespace Go.Proofs.Yteaanngagcflhaa
open Go.RowKit
namespace Ss
open Cu
structure Q where
  plan : ByteArray
  prods : List ByteArray
  susp : Bool
  fam : Bool
theorem Q.ext_ {a b : Q} (h1 : a.plan = b.plan) (h2 : a.prods = b.prods) (h3 : a.susp = b.susp) (h4 : a.fam = b.fam) : a = b := by cases a; cases b; simp_all
instance : DecidableEq Q := fun a b => decidable_of_iff (a.plan = b.plan ∧ a.prods = b.prods ∧ a.susp = b.susp ∧ a.fam = b.fam) ⟨fun ⟨h1, h2, h3, h4⟩ => Q.ext_ h1 h2 h3 h4, fun h => by subst h; simp⟩
def qOf (s : Sb) : Q := ⟨s.plan, s.prods, s.susp, s.fam⟩
def stQ (l : List Ev) (x t : Int) : Option Q := (liveS (bkAt l t) x).map qOf
def toE (l : List Ev) (k : Nat) : Int := match l[k]? with
  | some e => e.at_
  | none => fo
def addI (out : List (Iv Q)) (q : Q) (f t : Int) : List (Iv Q) := match out.getLast? with
  | some d => if d.to_ = f ∧ d.q = q then out.dropLast ++ [⟨d.from_, t, d.q⟩] else out ++ [⟨f, t, q⟩]
  | none => out ++ [⟨f, t, q⟩]
def stepI (l : List Ev) (x : Int) (k : Nat) (e : Ev) (out : List (Iv Q)) : List (Iv Q) :=
  if e.at_ = toE l (k + 1) then out else match stQ l x e.at_ with
  | none => out
  | some q => addI out q e.at_ (toE l (k + 1))
def spI (l : List Ev) (x : Int) : Nat → List (Iv Q)
  | 0 => []
  | k + 1 => match l[k]? with
    | some e => stepI l x k e (spI l x k)
    | none => spI l x k
theorem spI_succ {l : List Ev} {x : Int} {k : Nat} {e : Ev} (h : l[k]? = some e) : spI l x (k + 1) = stepI l x k e (spI l x k) := by
  show (match l[k]? with | some e => stepI l x k e (spI l x k) | none => spI l x k) = _
  rw [h]
theorem toE_at {l : List Ev} {k : Nat} {e : Ev} (h : l[k]? = some e) : toE l k = e.at_ := by unfold toE; rw [h]
theorem toE_end {l : List Ev} {k : Nat} (h : l.length ≤ k) : toE l k = fo := by unfold toE; rw [List.getElem?_eq_none h]
theorem toE_mono {l : List Ev} (hv : Vl l) {k : Nat} {e : Ev} (h : l[k]? = some e) : e.at_ ≤ toE l (k + 1) := by
  unfold toE
  cases h2 : l[k + 1]? with
  | none => have := (hv.bnd h).2; dsimp only [fo]; omega
  | some f => exact hv.asc k (k + 1) e f (by omega) h h2
theorem toE_le {l : List Ev} (hv : Vl l) (k : Nat) : toE l k ≤ fo := by
  unfold toE
  cases h : l[k]? with
  | none => exact Int.le_refl _
  | some e => have := (hv.bnd h).2; dsimp only [fo]; omega
theorem bk_settledE {l : List Ev} (hv : Vl l) {k : Nat} {e : Ev} (h : l[k]? = some e) (hne : e.at_ ≠ toE l (k + 1)) {t : Int} (h1 : e.at_ ≤ t) (h2 : t < toE l (k + 1)) : bkAt l t = bkN l (k + 1) := by
  have hk := (List.getElem?_eq_some_iff.1 h).1
  rw [(bkAt_N hv t).1]
  congr 1
  refine cutN_eq (by omega) (fun m y hm hy => ?_) (fun y hy => ?_)
  · have := hv.asc m k y e (by omega) hy h; omega
  · rw [toE_at hy] at h2; omega
theorem stQ_before {l : List Ev} (hv : Vl l) {x t : Int} (h2 : t < toE l 0) : stQ l x t = none := by
  unfold stQ
  rw [(bkAt_N hv t).1, show cutN l t = 0 from cutN_eq (Nat.zero_le _) (fun m y hm => absurd hm (Nat.not_lt_zero _)) (fun y hy => by rw [toE_at hy] at h2; omega)]
  rfl
theorem addI_new {out : List (Iv Q)} {q : Q} {f t : Int} (h : ∀ d, out.getLast? = some d → ¬ (d.to_ = f ∧ d.q = q)) : addI out q f t = out ++ [⟨f, t, q⟩] := by
  unfold addI
  cases hl : out.getLast? with
  | none => rfl
  | some d => dsimp only; rw [if_neg (h d hl)]
theorem can_all {l : List Ev} (hv : Vl l) (x : Int) : ∀ k, k ≤ l.length → Can (spI l x k) (toE l k) (stQ l x)
  | 0, _ => can_0 fun t _ h => stQ_before hv h
  | k + 1, hk => by
    have ih := can_all hv x k (by omega)
    obtain ⟨e, he⟩ : ∃ e, l[k]? = some e := ⟨_, List.getElem?_eq_getElem (by omega)⟩
    have hT : toE l k = e.at_ := toE_at he
    have hmono := toE_mono hv he
    have hb := hv.bnd he
    have hF := toE_le hv (k + 1)
    rw [spI_succ he]
    rw [hT] at ih
    unfold stepI
    by_cases hs : e.at_ = toE l (k + 1)
    · rw [if_pos hs, ← hs]; exact ih
    · rw [if_neg hs]
      have hbt : ∀ t, e.at_ ≤ t → t < toE l (k + 1) → stQ l x t = stQ l x e.at_ := fun t h1 h2 => by
        unfold stQ
        rw [bk_settledE hv he hs h1 h2, bk_settledE hv he hs (Int.le_refl _) (by omega)]
      cases ho : stQ l x e.at_ with
      | none => exact can_none ih hmono (fun t h1 h2 => (hbt t h1 h2).trans ho)
      | some m =>
        dsimp only
        by_cases hl : ∃ d, (spI l x k).getLast? = some d ∧ d.to_ = e.at_ ∧ d.q = m
        · obtain ⟨d, hd, h1, h2⟩ := hl
          have hne : spI l x k ≠ [] := fun e => by rw [e] at hd; cases hd
          have hsplit : spI l x k = (spI l x k).dropLast ++ [d] := by
            have := List.dropLast_concat_getLast hne
            rw [List.getLast?_eq_some_getLast hne] at hd
            injection hd with hd
            rw [hd] at this; exact this.symm
          have e1 : addI (spI l x k) m e.at_ (toE l (k + 1)) = (spI l x k).dropLast ++ [⟨d.from_, toE l (k + 1), d.q⟩] := by
            unfold addI; rw [hd]; dsimp only; rw [if_pos ⟨h1, h2⟩]
          rw [e1]
          exact can_ext (by rw [← hsplit]; exact ih) hb.1 (by omega) hF h1 (fun t g1 g2 => by rw [hbt t g1 g2, ho, h2])
        · have hno : ∀ d, (spI l x k).getLast? = some d → ¬ (d.to_ = e.at_ ∧ d.q = m) := fun d hd h => hl ⟨d, hd, h⟩
          rw [addI_new hno]
          exact can_app ih hb.1 (by omega) hF (fun t g1 g2 => by rw [hbt t g1 g2, ho]) hno
def nxtS (s : Sb) (e : Ev) : Sb :=
  if e.kind = 3 then ⟨e.sub, e.acc, e.at_, e.name, [], [], false, false⟩ else
  if e.kind = 4 then sb0 else
  if e.kind = 7 then { s with plan := e.name } else
  if e.kind = 8 then { s with prods := insS s.prods e.name } else
  if e.kind = 9 then { s with prods := remS s.prods e.name } else
  if e.kind = 10 ∨ e.kind = 11 then { s with susp := decide (e.kind = 10) } else
  if e.kind = 12 ∨ e.kind = 13 then { s with fam := decide (e.kind = 12) } else s
structure Mo where
  at_ : Int
  s : Sb
def addM (M : List Mo) (a : Int) (s : Sb) : List Mo := match M.getLast? with
  | some m => if m.at_ = a then M.dropLast ++ [⟨a, s⟩] else M ++ [⟨a, s⟩]
  | none => M ++ [⟨a, s⟩]
def moN (l : List Ev) (x : Int) : Nat → List Mo × Sb
  | 0 => ([], sb0)
  | k + 1 => match l[k]? with
    | some e => if x = 0 ∨ e.sub ≠ x then moN l x k else (addM (moN l x k).1 e.at_ (nxtS (moN l x k).2 e), nxtS (moN l x k).2 e)
    | none => moN l x k
def atM (M : List Mo) (t : Int) : Sb := M.foldl (fun s m => if m.at_ ≤ t then m.s else s) sb0
theorem atM_snoc (M : List Mo) (m : Mo) (t : Int) : atM (M ++ [m]) t = if m.at_ ≤ t then m.s else atM M t := by
  unfold atM; rw [List.foldl_append]; rfl
theorem atM_last {M : List Mo} {m : Mo} (h : M.getLast? = some m) : M = M.dropLast ++ [m] := by
  have hne : M ≠ [] := fun e => by rw [e] at h; cases h
  have := List.dropLast_concat_getLast hne
  rw [List.getLast?_eq_some_getLast hne] at h
  injection h with h
  rw [h] at this; exact this.symm
theorem atM_addM (M : List Mo) (a : Int) (s : Sb) (t : Int) : atM (addM M a s) t = if a ≤ t then s else atM M t := by
  unfold addM
  cases hl : M.getLast? with
  | none => dsimp only; rw [atM_snoc]
  | some m =>
    dsimp only
    by_cases h : m.at_ = a
    · rw [if_pos h, atM_snoc]
      dsimp only
      by_cases ht : a ≤ t
      · rw [if_pos ht, if_pos ht]
      · rw [if_neg ht, if_neg ht]
        conv => rhs; rw [atM_last hl, atM_snoc, if_neg (by omega)]
    · rw [if_neg h, atM_snoc]
def prj (o : Option Sb) : Sb := match o with
  | some t => { t with nums := [] }
  | none => sb0
theorem nxtS_stN {s : St} {e : Ev} {x : Int} {t : Sb} (h1 : 3 ≤ e.kind) (h13 : e.kind ≤ 13) (hx : e.sub = x) (ht : e.kind ≠ 3 → s.sub x = some t) : prj ((applyP s e).sub x) = nxtS (prj (s.sub x)) e := by
  subst hx
  unfold applyP nxtS
  rw [if_neg (by omega), if_neg (by omega)]
  by_cases k3 : e.kind = 3
  · rw [if_pos k3, if_pos k3]; dsimp only; unfold upd; rw [if_pos rfl]; rfl
  rw [if_neg k3, if_neg k3]
  have hs := ht k3
  rw [hs]
  by_cases k4 : e.kind = 4
  · rw [if_pos k4, if_pos k4]; dsimp only; unfold upd; rw [if_pos rfl]; rfl
  rw [if_neg k4, if_neg k4, if_neg (by omega)]
  dsimp only
  unfold upd
  rw [if_pos rfl]
  unfold prj
  dsimp only
  unfold chgS
  by_cases k5 : e.kind = 5
  · rw [if_pos k5, if_neg (by omega), if_neg (by omega), if_neg (by omega), if_neg (by omega), if_neg (by omega)]
  rw [if_neg k5]
  by_cases k6 : e.kind = 6
  · rw [if_pos k6, if_neg (by omega), if_neg (by omega), if_neg (by omega), if_neg (by omega), if_neg (by omega)]
  rw [if_neg k6]
  by_cases k7 : e.kind = 7
  · rw [if_pos k7, if_pos k7]
  rw [if_neg k7, if_neg k7]
  by_cases k8 : e.kind = 8
  · rw [if_pos k8, if_pos k8]
  rw [if_neg k8, if_neg k8]
  by_cases k9 : e.kind = 9
  · rw [if_pos k9, if_pos k9]
  rw [if_neg k9, if_neg k9]
  by_cases k10 : e.kind = 10
  · rw [if_pos k10, if_pos (.inl k10), decide_eq_true k10]
  rw [if_neg k10]
  by_cases k11 : e.kind = 11
  · rw [if_pos k11, if_pos (.inr k11), decide_eq_false (by omega)]
  rw [if_neg k11, if_neg (show ¬ (e.kind = 10 ∨ e.kind = 11) by omega)]
  by_cases k12 : e.kind = 12
  · rw [if_pos k12, if_pos (.inl k12), decide_eq_true k12]
  rw [if_neg k12, if_pos (show e.kind = 13 by omega), if_pos (show e.kind = 12 ∨ e.kind = 13 by omega), decide_eq_false k12]
theorem sub_other {s : St} {e : Ev} {x : Int} (hk : (e.kind = 1 ∨ e.kind = 2 ∨ e.kind = 14 ∨ e.kind = 15) ∨ e.sub ≠ x) : (applyP s e).sub x = s.sub x := by
  unfold applyP
  by_cases k1 : e.kind = 1
  · rw [if_pos k1]
  rw [if_neg k1]
  by_cases k2 : e.kind = 2
  · rw [if_pos k2]
  rw [if_neg k2]
  by_cases k3 : e.kind = 3
  · rw [if_pos k3]; dsimp only; unfold upd; rw [if_neg (by rcases hk with h | h <;> omega)]
  rw [if_neg k3]
  by_cases k4 : e.kind = 4
  · rw [if_pos k4]; dsimp only; unfold upd; rw [if_neg (by rcases hk with h | h <;> omega)]
  rw [if_neg k4]
  by_cases k14 : e.kind = 14 ∨ e.kind = 15
  · rw [if_pos k14]
  rw [if_neg k14]
  cases s.sub e.sub with
  | none => rfl
  | some t => dsimp only; unfold upd; rw [if_neg (by rcases hk with h | h <;> omega)]
end Ss
end Go.Proofs.Yteaanngagcflhaa
