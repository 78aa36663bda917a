/-
  Customers: an event inserted, in plain words. No condition.
-/
import Derived.Test.YteaanngagcflhaaKc18
import Derived.BigQuiet
import Derived.StillTailTactics
import Derived.Lib.Overlaps
import Derived.Deep.DeepCutAuto
import Derived.Deep.RegionWith
set_option maxRecDepth 100000
set_option linter.unusedVariables false
set_option linter.unusedSimpArgs false
namespace Go.Proofs.Yteaanngagcflhaa
open Go.RowKit
namespace Cu
theorem of_sub {b : Bk} {e : Ev} {last : Int} (h : faultR b e last = 0) (hu : uA e.kind = false) : formR e last = 0 ∧ ofSub b e = 0 := by
  unfold faultR at h
  by_cases h1 : formR e last = 0
  · rw [if_neg (by simp [h1]), if_neg (by simp [hu])] at h
    exact ⟨h1, h⟩
  · rw [if_pos h1] at h; exact absurd h h1
end Cu
end Go.Proofs.Yteaanngagcflhaa
namespace Go.Proofs.Yteaanngagcflhaa
open Go.RowKit
namespace Ss
open Cu
structure Iv (α : Type) where
  from_ : Int
  to_ : Int
  q : α
def fo : Int := 12622780800
structure Can {α : Type} (A : List (Iv α)) (T : Int) (f : Int → Option α) : Prop where
  good : ∀ d ∈ A, 0 ≤ d.from_ ∧ d.from_ < d.to_ ∧ d.to_ ≤ fo ∧ d.to_ ≤ T
  nb : ∀ (i : Nat) (a b : Iv α), A[i]? = some a → A[i + 1]? = some b → a.to_ ≤ b.from_ ∧ ¬ (a.to_ = b.from_ ∧ a.q = b.q)
  cov : ∀ t v, 0 ≤ t → t < T → ((∃ d ∈ A, d.from_ ≤ t ∧ t < d.to_ ∧ d.q = v) ↔ f t = some v)
variable {α : Type}
theorem can_0 {f : Int → Option α} {T : Int} (h : ∀ t, 0 ≤ t → t < T → f t = none) : Can [] T f :=
  ⟨fun d hd => (by cases hd), fun i a b h => (by simp at h), fun t n h0 ht => (by rw [h t h0 ht]; simp)⟩
theorem can_none {f : Int → Option α} {T T' : Int} {out : List (Iv α)} (h : Can out T f) (hT : T ≤ T') (hn : ∀ t, T ≤ t → t < T' → f t = none) : Can out T' f :=
  ⟨fun d hd => by have := h.good d hd; omega, h.nb, fun t n h0 ht => by
    by_cases hlt : t < T
    · exact h.cov t n h0 hlt
    · rw [hn t (by omega) ht]
      constructor
      · rintro ⟨d, hd, h1, h2, _⟩
        have := h.good d hd; omega
      · intro e; cases e⟩
theorem can_app {f : Int → Option α} {T T' : Int} {out : List (Iv α)} {m : α} (h : Can out T f) (h0 : 0 ≤ T) (hT : T < T') (hF : T' ≤ fo) (hn : ∀ t, T ≤ t → t < T' → f t = some m)
    (hl : ∀ d, out.getLast? = some d → ¬ (d.to_ = T ∧ d.q = m)) : Can (out ++ [⟨T, T', m⟩]) T' f := by
  refine ⟨fun d hd => ?_, fun i a b ha hb => ?_, fun t n h1 ht => ?_⟩
  · rcases List.mem_append.1 hd with hd | hd
    · have := h.good d hd; omega
    · rw [List.mem_singleton] at hd; subst hd; dsimp only; omega
  · have hi : i + 1 < (out ++ [(⟨T, T', m⟩ : Iv α)]).length := (List.getElem?_eq_some_iff.1 hb).1
    rw [List.length_append, List.length_singleton] at hi
    rw [List.getElem?_append_left (by omega)] at ha
    by_cases h2 : i + 1 < out.length
    · rw [List.getElem?_append_left h2] at hb
      exact h.nb i a b ha hb
    · have h3 : i + 1 = out.length := by omega
      rw [h3, List.getElem?_append_right (Nat.le_refl _), Nat.sub_self] at hb
      simp at hb
      subst hb
      have hg := h.good a (List.mem_of_getElem? ha)
      have hla : out.getLast? = some a := by rw [List.getLast?_eq_getElem?, show out.length - 1 = i by omega]; exact ha
      exact ⟨hg.2.2.2, fun e => hl a hla e⟩
  · by_cases hlt : t < T
    · rw [← h.cov t n h1 hlt]
      constructor
      · rintro ⟨d, hd, h2, h3, h4⟩
        rcases List.mem_append.1 hd with hd | hd
        · exact ⟨d, hd, h2, h3, h4⟩
        · rw [List.mem_singleton] at hd; subst hd; dsimp only at h2; omega
      · rintro ⟨d, hd, h2⟩
        exact ⟨d, List.mem_append_left _ hd, h2⟩
    · rw [hn t (by omega) ht]
      constructor
      · rintro ⟨d, hd, h2, h3, h4⟩
        rcases List.mem_append.1 hd with hd | hd
        · have := h.good d hd; omega
        · rw [List.mem_singleton] at hd; subst hd; exact congrArg some h4
      · intro e
        cases e
        exact ⟨⟨T, T', m⟩, List.mem_append_right _ (List.mem_singleton.2 rfl), by dsimp only; omega, ht, rfl⟩
theorem can_tl {f : Int → Option α} {T : Int} {a : Iv α} {A : List (Iv α)} (h : Can (a :: A) T f) : (∀ d ∈ A, a.to_ ≤ d.from_) := by
  have key : ∀ (i : Nat) (d : Iv α), A[i]? = some d → a.to_ ≤ d.from_ := by
    intro i
    induction i with
    | zero => intro d hd; exact (h.nb 0 a d rfl hd).1
    | succ i ih =>
      intro d hd
      obtain ⟨e, he⟩ : ∃ e, A[i]? = some e := ⟨_, List.getElem?_eq_getElem (by have := (List.getElem?_eq_some_iff.1 hd).1; omega)⟩
      have h1 := ih e he
      have h2 := (h.nb (i + 1) e d he hd).1
      have h3 := (h.good e (List.mem_cons_of_mem _ (List.mem_of_getElem? he))).2.1
      omega
  intro d hd
  obtain ⟨i, hi⟩ := List.getElem?_of_mem hd
  exact key i d hi
theorem can_pop {f : Int → Option α} {T : Int} {a : Iv α} {A : List (Iv α)} (h : Can (a :: A) T f) : Can A T fun t => if t < a.to_ then none else f t := by
  have ht := can_tl h
  refine ⟨fun d hd => h.good d (List.mem_cons_of_mem _ hd), fun i x y hx hy => h.nb (i + 1) x y hx hy, fun t v h0 h1 => ?_⟩
  by_cases hlt : t < a.to_
  · rw [if_pos hlt]
    constructor
    · rintro ⟨d, hd, h2, _⟩; have := ht d hd; omega
    · intro e; cases e
  · rw [if_neg hlt, ← h.cov t v h0 h1]
    constructor
    · rintro ⟨d, hd, h2⟩; exact ⟨d, List.mem_cons_of_mem _ hd, h2⟩
    · rintro ⟨d, hd, h2⟩
      rcases List.mem_cons.1 hd with rfl | hd
      · omega
      · exact ⟨d, hd, h2⟩
end Ss
end Go.Proofs.Yteaanngagcflhaa
namespace Go.Proofs.Yteaanngagcflhaa
open Go.RowKit
namespace Ss
open Cu
structure Q where
  plan : ByteArray
  prods : List ByteArray
  susp : Bool
  fam : Bool
theorem Q.ext_ {a b : Q} (h1 : a.plan = b.plan) (h2 : a.prods = b.prods) (h3 : a.susp = b.susp) (h4 : a.fam = b.fam) : a = b := by cases a; cases b; simp_all
instance : DecidableEq Q := fun a b => decidable_of_iff (a.plan = b.plan ∧ a.prods = b.prods ∧ a.susp = b.susp ∧ a.fam = b.fam) ⟨fun ⟨h1, h2, h3, h4⟩ => Q.ext_ h1 h2 h3 h4, fun h => by subst h; simp⟩
def qOf (s : Sb) : Q := ⟨s.plan, s.prods, s.susp, s.fam⟩
def stQ (l : List Ev) (x t : Int) : Option Q := (liveS (bkAt l t) x).map qOf
def nxtS (s : Sb) (e : Ev) : Sb :=
  if e.kind = 3 then ⟨e.sub, e.acc, e.at_, e.name, [], [], false, false⟩ else
  if e.kind = 4 then sb0 else
  if e.kind = 7 then { s with plan := e.name } else
  if e.kind = 8 then { s with prods := insS s.prods e.name } else
  if e.kind = 9 then { s with prods := remS s.prods e.name } else
  if e.kind = 10 ∨ e.kind = 11 then { s with susp := decide (e.kind = 10) } else
  if e.kind = 12 ∨ e.kind = 13 then { s with fam := decide (e.kind = 12) } else s
structure Mo where
  at_ : Int
  s : Sb
def addM (M : List Mo) (a : Int) (s : Sb) : List Mo := match M.getLast? with
  | some m => if m.at_ = a then M.dropLast ++ [⟨a, s⟩] else M ++ [⟨a, s⟩]
  | none => M ++ [⟨a, s⟩]
def moN (l : List Ev) (x : Int) : Nat → List Mo × Sb
  | 0 => ([], sb0)
  | k + 1 => match l[k]? with
    | some e => if x = 0 ∨ e.sub ≠ x then moN l x k else (addM (moN l x k).1 e.at_ (nxtS (moN l x k).2 e), nxtS (moN l x k).2 e)
    | none => moN l x k
def atM (M : List Mo) (t : Int) : Sb := M.foldl (fun s m => if m.at_ ≤ t then m.s else s) sb0
theorem atM_snoc (M : List Mo) (m : Mo) (t : Int) : atM (M ++ [m]) t = if m.at_ ≤ t then m.s else atM M t := by
  unfold atM; rw [List.foldl_append]; rfl
theorem atM_last {M : List Mo} {m : Mo} (h : M.getLast? = some m) : M = M.dropLast ++ [m] := by
  have hne : M ≠ [] := fun e => by rw [e] at h; cases h
  have := List.dropLast_concat_getLast hne
  rw [List.getLast?_eq_some_getLast hne] at h
  injection h with h
  rw [h] at this; exact this.symm
theorem atM_addM (M : List Mo) (a : Int) (s : Sb) (t : Int) : atM (addM M a s) t = if a ≤ t then s else atM M t := by
  unfold addM
  cases hl : M.getLast? with
  | none => dsimp only; rw [atM_snoc]
  | some m =>
    dsimp only
    by_cases h : m.at_ = a
    · rw [if_pos h, atM_snoc]
      dsimp only
      by_cases ht : a ≤ t
      · rw [if_pos ht, if_pos ht]
      · rw [if_neg ht, if_neg ht]
        conv => rhs; rw [atM_last hl, atM_snoc, if_neg (by omega)]
    · rw [if_neg h, atM_snoc]
def prj (o : Option Sb) : Sb := match o with
  | some t => { t with nums := [] }
  | none => sb0
theorem nxtS_stN {s : St} {e : Ev} {x : Int} {t : Sb} (h1 : 3 ≤ e.kind) (h13 : e.kind ≤ 13) (hx : e.sub = x) (ht : e.kind ≠ 3 → s.sub x = some t) : prj ((applyP s e).sub x) = nxtS (prj (s.sub x)) e := by
  subst hx
  unfold applyP nxtS
  rw [if_neg (by omega), if_neg (by omega)]
  by_cases k3 : e.kind = 3
  · rw [if_pos k3, if_pos k3]; dsimp only; unfold upd; rw [if_pos rfl]; rfl
  rw [if_neg k3, if_neg k3]
  have hs := ht k3
  rw [hs]
  by_cases k4 : e.kind = 4
  · rw [if_pos k4, if_pos k4]; dsimp only; unfold upd; rw [if_pos rfl]; rfl
  rw [if_neg k4, if_neg k4, if_neg (by omega)]
  dsimp only
  unfold upd
  rw [if_pos rfl]
  unfold prj
  dsimp only
  unfold chgS
  by_cases k5 : e.kind = 5
  · rw [if_pos k5, if_neg (by omega), if_neg (by omega), if_neg (by omega), if_neg (by omega), if_neg (by omega)]
  rw [if_neg k5]
  by_cases k6 : e.kind = 6
  · rw [if_pos k6, if_neg (by omega), if_neg (by omega), if_neg (by omega), if_neg (by omega), if_neg (by omega)]
  rw [if_neg k6]
  by_cases k7 : e.kind = 7
  · rw [if_pos k7, if_pos k7]
  rw [if_neg k7, if_neg k7]
  by_cases k8 : e.kind = 8
  · rw [if_pos k8, if_pos k8]
  rw [if_neg k8, if_neg k8]
  by_cases k9 : e.kind = 9
  · rw [if_pos k9, if_pos k9]
  rw [if_neg k9, if_neg k9]
  by_cases k10 : e.kind = 10
  · rw [if_pos k10, if_pos (.inl k10), decide_eq_true k10]
  rw [if_neg k10]
  by_cases k11 : e.kind = 11
  · rw [if_pos k11, if_pos (.inr k11), decide_eq_false (by omega)]
  rw [if_neg k11, if_neg (show ¬ (e.kind = 10 ∨ e.kind = 11) by omega)]
  by_cases k12 : e.kind = 12
  · rw [if_pos k12, if_pos (.inl k12), decide_eq_true k12]
  rw [if_neg k12, if_pos (show e.kind = 13 by omega), if_pos (show e.kind = 12 ∨ e.kind = 13 by omega), decide_eq_false k12]
theorem sub_other {s : St} {e : Ev} {x : Int} (hk : (e.kind = 1 ∨ e.kind = 2 ∨ e.kind = 14 ∨ e.kind = 15) ∨ e.sub ≠ x) : (applyP s e).sub x = s.sub x := by
  unfold applyP
  by_cases k1 : e.kind = 1
  · rw [if_pos k1]
  rw [if_neg k1]
  by_cases k2 : e.kind = 2
  · rw [if_pos k2]
  rw [if_neg k2]
  by_cases k3 : e.kind = 3
  · rw [if_pos k3]; dsimp only; unfold upd; rw [if_neg (by rcases hk with h | h <;> omega)]
  rw [if_neg k3]
  by_cases k4 : e.kind = 4
  · rw [if_pos k4]; dsimp only; unfold upd; rw [if_neg (by rcases hk with h | h <;> omega)]
  rw [if_neg k4]
  by_cases k14 : e.kind = 14 ∨ e.kind = 15
  · rw [if_pos k14]
  rw [if_neg k14]
  cases s.sub e.sub with
  | none => rfl
  | some t => dsimp only; unfold upd; rw [if_neg (by rcases hk with h | h <;> omega)]
end Ss
end Go.Proofs.Yteaanngagcflhaa
namespace Go.Proofs.Yteaanngagcflhaa
open Go.RowKit
namespace Ss
open Cu
theorem liveS_st {s : St} {b : Bk} (hi : Inv s b) (n : Int) : liveS b n = s.sub n := by rw [hi.sub]; rfl
theorem liveS_0 {b : Bk} (hb : Bok b) : liveS b 0 = none := by
  cases h : liveS b 0 with
  | none => rfl
  | some s =>
    have h1 := liveS_id h
    unfold liveS at h
    split at h
    · cases h
    · have := hb.sr s (findS_id h).1; omega
theorem ofSub_liveS {b : Bk} {e : Ev} (h : ofSub b e = 0) : ∃ s, liveS b e.sub = some s := by
  unfold ofSub at h
  cases hf : findS b e.sub with
  | none => rw [hf] at h; cases h
  | some s =>
    rw [hf] at h
    dsimp only at h
    by_cases he : endedB b e.sub = true
    · rw [if_pos he] at h; cases h
    · exact ⟨s, by unfold liveS; rw [if_neg he]; exact hf⟩
theorem form_sub {e : Ev} {last : Int} (h : formR e last = 0) (hu : uS e.kind = false) : e.sub = 0 := by
  unfold formR at h
  split at h
  · omega
  split at h
  · omega
  split at h
  · omega
  unfold formT at h
  split at h
  · omega
  rename_i hf
  unfold fldBad at hf
  rw [hu] at hf
  by_cases hs : e.sub = 0
  · exact hs
  · exfalso; apply hf; simp [hs]
theorem vl_fault {l : List Ev} (hv : Vl l) {k : Nat} {e : Ev} (he : l[k]? = some e) : faultR (bkN l k) e (lastN l k) = 0 := by
  have := hv.2 k (List.getElem?_eq_some_iff.1 he).1
  unfold fltN at this; rw [he] at this; exact this
theorem mo_track {l : List Ev} (hv : Vl l) {x : Int} {k : Nat} {e : Ev} (he : l[k]? = some e) :
    prj (liveS (bkN l (k + 1)) x) = if x = 0 ∨ e.sub ≠ x then prj (liveS (bkN l k) x) else nxtS (prj (liveS (bkN l k) x)) e := by
  have hk := (List.getElem?_eq_some_iff.1 he).1
  obtain ⟨i0, b0⟩ := inv_upto (l := l) k (by omega) (fun j hj => hv.2 j (by omega))
  obtain ⟨i1, b1⟩ := inv_upto (l := l) (k + 1) hk (fun j hj => hv.2 j (by omega))
  have hf := vl_fault hv he
  obtain ⟨h15, _, _, _, _⟩ := fault_parts hf
  have hform : formR e (lastN l k) = 0 := by
    unfold faultR at hf
    by_cases h1 : formR e (lastN l k) = 0
    · exact h1
    · rw [if_pos h1] at hf; exact absurd hf h1
  by_cases hx : x = 0 ∨ e.sub ≠ x
  · rw [if_pos hx]
    by_cases h0 : x = 0
    · subst h0; rw [liveS_0 b0, liveS_0 b1]
    · rw [liveS_st i1, liveS_st i0, stN_succ he, sub_other (.inr (by rcases hx with h | h; exact absurd h h0; exact h))]
  · rw [if_neg hx]
    have hsx : e.sub = x := by omega
    have hx0 : ¬ x = 0 := by omega
    have hus : uS e.kind = true := by
      cases hu : uS e.kind with
      | true => rfl
      | false => have := form_sub hform hu; omega
    have hk3 : 3 ≤ e.kind ∧ e.kind ≤ 13 := by
      unfold uS at hus
      simp at hus
      omega
    rw [liveS_st i1, liveS_st i0, stN_succ he]
    by_cases k3 : e.kind = 3
    · exact nxtS_stN (t := sb0) hk3.1 hk3.2 hsx (fun h => absurd k3 h)
    · have hu : uA e.kind = false := by
        unfold uA
        have h1 : (e.kind == 1) = false := by rw [beq_eq_false_iff_ne]; omega
        have h2 : (e.kind == 2) = false := by rw [beq_eq_false_iff_ne]; omega
        have h3 : (e.kind == 3) = false := by rw [beq_eq_false_iff_ne]; omega
        have h4 : (e.kind == 14) = false := by rw [beq_eq_false_iff_ne]; omega
        have h5 : (e.kind == 15) = false := by rw [beq_eq_false_iff_ne]; omega
        rw [h1, h2, h3, h4, h5]; rfl
      obtain ⟨t, ht⟩ := ofSub_liveS (of_sub hf hu).2
      rw [hsx, liveS_st i0] at ht
      exact nxtS_stN (t := t) hk3.1 hk3.2 hsx (fun _ => ht)
theorem prj_id {b : Bk} {x : Int} : (prj (liveS b x)).id = 0 ∨ (prj (liveS b x)).id = x := by
  cases h : liveS b x with
  | none => exact .inl rfl
  | some s => exact .inr (show s.id = x from liveS_id h)
theorem bk_take {l : List Ev} (hv : Vl l) {k : Nat} {e : Ev} (he : l[k]? = some e) (t : Int) : bkAt (l.take (k + 1)) t = if e.at_ ≤ t then bkN l (k + 1) else bkAt (l.take k) t := by
  unfold bkAt
  rw [List.take_add_one, he, Option.toList_some, List.filter_append, List.foldl_append]
  by_cases h : e.at_ ≤ t
  · have hall : (l.take k).filter (atB t) = l.take k := List.filter_eq_self.2 fun y hy => by
      obtain ⟨i, hi⟩ := List.getElem?_of_mem hy
      have hik : i < k := by have := (List.getElem?_eq_some_iff.1 hi).1; rw [List.length_take] at this; omega
      rw [List.getElem?_take, if_pos hik] at hi
      have := hv.asc i k y e (by omega) hi he
      unfold atB; rw [decide_eq_true_eq]; omega
    rw [if_pos h, hall, List.filter_cons_of_pos (by unfold atB; rw [decide_eq_true_eq]; exact h), bkN_succ he]
    rfl
  · rw [if_neg h, List.filter_cons_of_neg (by unfold atB; rw [decide_eq_true_eq]; exact h)]; rfl
theorem moN_succ {l : List Ev} {x : Int} {k : Nat} {e : Ev} (h : l[k]? = some e) : moN l x (k + 1) = if x = 0 ∨ e.sub ≠ x then moN l x k else (addM (moN l x k).1 e.at_ (nxtS (moN l x k).2 e), nxtS (moN l x k).2 e) := by
  show (match l[k]? with | some e => if x = 0 ∨ e.sub ≠ x then moN l x k else (addM (moN l x k).1 e.at_ (nxtS (moN l x k).2 e), nxtS (moN l x k).2 e) | none => moN l x k) = _
  rw [h]
structure MI (l : List Ev) (x : Int) (k : Nat) (M : List Mo) (c : Sb) : Prop where
  s : c = prj (liveS (bkN l k) x)
  asc : M.Pairwise (fun a b => a.at_ < b.at_)
  le : ∀ m ∈ M, m.at_ ≤ lastN l k
  bnd : ∀ m ∈ M, 0 ≤ m.at_ ∧ m.at_ < fo
  id : ∀ m ∈ M, m.s.id = 0 ∨ m.s.id = x
  la : ∀ t, lastN l k ≤ t → atM M t = c
  at_ : ∀ t, atM M t = prj (liveS (bkAt (l.take k) t) x)
theorem addM_asc {M : List Mo} {a : Int} {s : Sb} (h : M.Pairwise (fun a b => a.at_ < b.at_)) (hle : ∀ m ∈ M, m.at_ ≤ a) : (addM M a s).Pairwise (fun a b => a.at_ < b.at_) := by
  unfold addM
  cases hl : M.getLast? with
  | none =>
    dsimp only
    rw [List.getLast?_eq_none_iff] at hl
    subst hl
    exact List.pairwise_singleton _ _
  | some m =>
    dsimp only
    have e := atM_last hl
    rw [e] at h
    obtain ⟨h1, _, h3⟩ := List.pairwise_append.1 h
    by_cases hm : m.at_ = a
    · rw [if_pos hm]
      refine List.pairwise_append.2 ⟨h1, List.pairwise_singleton _ _, fun d hd y hy => ?_⟩
      rw [List.mem_singleton] at hy; subst hy
      have := h3 d hd m (List.mem_singleton.2 rfl)
      dsimp only; omega
    · rw [if_neg hm]
      have hml := hle m (List.mem_of_getLast? hl)
      refine List.pairwise_append.2 ⟨by rw [e]; exact h, List.pairwise_singleton _ _, fun d hd y hy => ?_⟩
      rw [List.mem_singleton] at hy; subst hy
      dsimp only
      rw [e] at hd
      rcases List.mem_append.1 hd with hd | hd
      · have := h3 d hd m (List.mem_singleton.2 rfl); omega
      · rw [List.mem_singleton] at hd; subst hd; omega
theorem addM_mem {M : List Mo} {a : Int} {s : Sb} {m : Mo} (h : m ∈ addM M a s) : m ∈ M ∨ m = ⟨a, s⟩ := by
  unfold addM at h
  cases hl : M.getLast? with
  | none => rw [hl] at h; dsimp only at h; simpa using h
  | some d =>
    rw [hl] at h
    dsimp only at h
    split at h
    · rcases List.mem_append.1 h with h | h
      · exact .inl (List.dropLast_subset _ h)
      · exact .inr (List.mem_singleton.1 h)
    · simpa using h
theorem lastN_succ {l : List Ev} {k : Nat} {e : Ev} (h : l[k]? = some e) : lastN l (k + 1) = e.at_ := by
  show (match l[k]? with | some e => e.at_ | none => _) = _
  rw [h]
theorem mi_all {l : List Ev} (hv : Vl l) (x : Int) : ∀ k, k ≤ l.length → MI l x k (moN l x k).1 (moN l x k).2
  | 0, _ => ⟨rfl, List.Pairwise.nil, fun m hm => (by cases hm), fun m hm => (by cases hm), fun m hm => (by cases hm), fun t _ => rfl, fun t => rfl⟩
  | k + 1, hk => by
    have ih := mi_all hv x k (by omega)
    obtain ⟨e, he⟩ : ∃ e, l[k]? = some e := ⟨_, List.getElem?_eq_getElem (by omega)⟩
    have hb := hv.bnd he
    have hla := (flt_last he (hv.2 k (by omega))).2.2
    have htr := mo_track hv (x := x) he
    rw [moN_succ he]
    by_cases hx : x = 0 ∨ e.sub ≠ x
    · rw [if_pos hx] at htr ⊢
      refine ⟨ih.s.trans htr.symm, ih.asc, fun m hm => ?_, ih.bnd, ih.id, fun t ht => ?_, fun t => ?_⟩
      · rw [lastN_succ he]; have := ih.le m hm; omega
      · rw [lastN_succ he] at ht; exact ih.la t (by omega)
      · rw [bk_take hv he t]
        by_cases h : e.at_ ≤ t
        · rw [if_pos h, htr, ← ih.s]; exact ih.la t (by omega)
        · rw [if_neg h]; exact ih.at_ t
    · rw [if_neg hx] at htr ⊢
      dsimp only
      have hs' : nxtS (moN l x k).2 e = prj (liveS (bkN l (k + 1)) x) := by rw [htr, ← ih.s]
      refine ⟨hs', addM_asc ih.asc (fun m hm => by have := ih.le m hm; omega), fun m hm => ?_, fun m hm => ?_, fun m hm => ?_, fun t ht => ?_, fun t => ?_⟩
      · rw [lastN_succ he]
        rcases addM_mem hm with hm | rfl
        · have := ih.le m hm; omega
        · exact Int.le_refl _
      · rcases addM_mem hm with hm | rfl
        · exact ih.bnd m hm
        · exact ⟨hb.1, hb.2⟩
      · rcases addM_mem hm with hm | rfl
        · exact ih.id m hm
        · dsimp only; rw [hs']; exact prj_id
      · rw [lastN_succ he] at ht
        rw [atM_addM, if_pos ht]
      · rw [bk_take hv he t, atM_addM]
        by_cases h : e.at_ ≤ t
        · rw [if_pos h, if_pos h]; exact hs'
        · rw [if_neg h, if_neg h]; exact ih.at_ t
def eqvB (a b : Sb) : Bool := decide (a.id = b.id ∧ qOf a = qOf b)
theorem eqvB_iff {a b : Sb} : eqvB a b = true ↔ a.id = b.id ∧ qOf a = qOf b := by unfold eqvB; rw [decide_eq_true_eq]
def addJ (out : List Mo) (m : Mo) : List Mo := match out.getLast? with
  | some d => if eqvB d.s m.s = true then out else out ++ [m]
  | none => out ++ [m]
def jnN (M : List Mo) : Nat → List Mo
  | 0 => []
  | k + 1 => match M[k]? with
    | some m => addJ (jnN M k) m
    | none => jnN M k
theorem jnN_succ {M : List Mo} {k : Nat} {m : Mo} (h : M[k]? = some m) : jnN M (k + 1) = addJ (jnN M k) m := by
  show (match M[k]? with | some m => addJ (jnN M k) m | none => jnN M k) = _
  rw [h]
structure JI (M : List Mo) (k : Nat) (J : List Mo) : Prop where
  mem : ∀ m ∈ J, m ∈ M.take k
  asc : J.Pairwise (fun a b => a.at_ < b.at_)
  nb : ∀ (i : Nat) (a b : Mo), J[i]? = some a → J[i + 1]? = some b → eqvB a.s b.s = false
  at_ : ∀ t, eqvB (atM J t) (atM (M.take k) t) = true
theorem eqvB_refl (a : Sb) : eqvB a a = true := eqvB_iff.2 ⟨rfl, rfl⟩
theorem ji_all {M : List Mo} (hM : M.Pairwise (fun a b => a.at_ < b.at_)) : ∀ k, k ≤ M.length → JI M k (jnN M k)
  | 0, _ => ⟨fun m hm => (by cases hm), List.Pairwise.nil, fun i a b h => (by simp [jnN] at h), fun t => eqvB_refl _⟩
  | k + 1, hk => by
    have ih := ji_all hM k (by omega)
    obtain ⟨m, hm⟩ : ∃ m, M[k]? = some m := ⟨_, List.getElem?_eq_getElem (by omega)⟩
    rw [jnN_succ hm]
    have htk : M.take (k + 1) = M.take k ++ [m] := by rw [List.take_add_one, hm]; rfl
    have hlt : ∀ d ∈ M.take k, d.at_ < m.at_ := fun d hd => by
      have h2 := hM.sublist (List.take_sublist (k + 1) M)
      rw [htk] at h2
      exact (List.pairwise_append.1 h2).2.2 d hd m (List.mem_singleton.2 rfl)
    have new : (∀ d, (jnN M k).getLast? = some d → eqvB d.s m.s = false) → JI M (k + 1) (jnN M k ++ [m]) := fun hl => by
      refine ⟨fun d hd => ?_, ?_, fun i a b ha hb => ?_, fun t => ?_⟩
      · rw [htk]
        rcases List.mem_append.1 hd with hd | hd
        · exact List.mem_append_left _ (ih.mem d hd)
        · exact List.mem_append_right _ hd
      · refine List.pairwise_append.2 ⟨ih.asc, List.pairwise_singleton _ _, fun d hd y hy => ?_⟩
        rw [List.mem_singleton] at hy; subst hy
        exact hlt d (ih.mem d hd)
      · have hi : i + 1 < (jnN M k ++ [m]).length := (List.getElem?_eq_some_iff.1 hb).1
        rw [List.length_append, List.length_singleton] at hi
        rw [List.getElem?_append_left (by omega)] at ha
        by_cases h2 : i + 1 < (jnN M k).length
        · rw [List.getElem?_append_left h2] at hb
          exact ih.nb i a b ha hb
        · have h3 : i + 1 = (jnN M k).length := by omega
          rw [h3, List.getElem?_append_right (Nat.le_refl _), Nat.sub_self] at hb
          simp at hb
          subst hb
          exact hl a (by rw [List.getLast?_eq_getElem?, show (jnN M k).length - 1 = i by omega]; exact ha)
      · rw [htk, atM_snoc, atM_snoc]
        split
        · exact eqvB_refl _
        · exact ih.at_ t
    unfold addJ
    cases hl : (jnN M k).getLast? with
    | none => exact new fun d hd => by rw [hl] at hd; cases hd
    | some d =>
      dsimp only
      by_cases he : eqvB d.s m.s = true
      · rw [if_pos he]
        refine ⟨fun y hy => by rw [htk]; exact List.mem_append_left _ (ih.mem y hy), ih.asc, ih.nb, fun t => ?_⟩
        rw [htk, atM_snoc]
        by_cases ht : m.at_ ≤ t
        · rw [if_pos ht]
          have hd := hlt d (ih.mem d (List.mem_of_getLast? hl))
          rw [atM_last hl, atM_snoc, if_pos (by omega)]
          exact he
        · rw [if_neg ht]; exact ih.at_ t
      · rw [if_neg he]
        exact new fun d' hd' => by rw [hl] at hd'; cases hd'; simpa using he
def toJ (J : List Mo) (k : Nat) : Int := match J[k]? with
  | some m => m.at_
  | none => fo
def spK (J : List Mo) : Nat → List (Iv Q)
  | 0 => []
  | k + 1 => match J[k]? with
    | some m => if m.s.id = 0 then spK J k else spK J k ++ [⟨m.at_, toJ J (k + 1), qOf m.s⟩]
    | none => spK J k
theorem spK_succ {J : List Mo} {k : Nat} {m : Mo} (h : J[k]? = some m) : spK J (k + 1) = if m.s.id = 0 then spK J k else spK J k ++ [(⟨m.at_, toJ J (k + 1), qOf m.s⟩ : Iv Q)] := by
  show (match J[k]? with | some m => if m.s.id = 0 then spK J k else spK J k ++ [(⟨m.at_, toJ J (k + 1), qOf m.s⟩ : Iv Q)] | none => spK J k) = _
  rw [h]
theorem toJ_at {J : List Mo} {k : Nat} {m : Mo} (h : J[k]? = some m) : toJ J k = m.at_ := by unfold toJ; rw [h]
def seen (J : List Mo) (t : Int) : Option Q := if (atM J t).id = 0 then none else some (qOf (atM J t))
theorem atM_none : ∀ (J : List Mo) (t : Int) (s : Sb), (∀ m ∈ J, t < m.at_) → J.foldl (fun s m => if m.at_ ≤ t then m.s else s) s = s
  | [], t, s, _ => rfl
  | m :: J, t, s, h => by
    rw [List.foldl_cons, if_neg (by have := h m List.mem_cons_self; omega)]
    exact atM_none J t s fun d hd => h d (List.mem_cons_of_mem _ hd)
theorem pw_idx {J : List Mo} (h : J.Pairwise (fun a b => a.at_ < b.at_)) {i j : Nat} {a b : Mo} (hij : i < j) (ha : J[i]? = some a) (hb : J[j]? = some b) : a.at_ < b.at_ := by
  obtain ⟨hi, rfl⟩ := List.getElem?_eq_some_iff.1 ha
  obtain ⟨hj, rfl⟩ := List.getElem?_eq_some_iff.1 hb
  exact List.pairwise_iff_getElem.1 h i j hi hj hij
theorem atM_mid {J : List Mo} (h : J.Pairwise (fun a b => a.at_ < b.at_)) {k : Nat} {m : Mo} (hm : J[k]? = some m) {t : Int} (h1 : m.at_ ≤ t) (h2 : t < toJ J (k + 1)) : atM J t = m.s := by
  have hk := (List.getElem?_eq_some_iff.1 hm).1
  have hsp : J = (J.take k ++ [m]) ++ J.drop (k + 1) := by
    have := List.take_append_drop (k + 1) J
    rw [List.take_add_one, hm] at this
    exact this.symm
  have hd : ∀ d ∈ J.drop (k + 1), t < d.at_ := fun d hd => by
    obtain ⟨i, hi⟩ := List.getElem?_of_mem hd
    rw [List.getElem?_drop] at hi
    obtain ⟨n, hn⟩ : ∃ n, J[k + 1]? = some n := ⟨_, List.getElem?_eq_getElem (by have := (List.getElem?_eq_some_iff.1 hi).1; omega)⟩
    rw [toJ_at hn] at h2
    by_cases hz : i = 0
    · subst hz; rw [Nat.add_zero, hn] at hi; cases hi; exact h2
    · have := pw_idx h (show k + 1 < k + 1 + i by omega) hn hi; omega
  have e : atM J t = (J.drop (k + 1)).foldl (fun s m => if m.at_ ≤ t then m.s else s) (atM (J.take k ++ [m]) t) := by
    unfold atM
    conv => lhs; rw [hsp, List.foldl_append]
  rw [e, atM_none _ _ _ hd, atM_snoc, if_pos h1]
structure KI (J : List Mo) (k : Nat) (out : List (Iv Q)) : Prop where
  can : Can out (toJ J k) (seen J)
  la : ∀ d, out.getLast? = some d → d.to_ = toJ J k → ∃ m, 0 < k ∧ J[k - 1]? = some m ∧ m.s.id ≠ 0 ∧ d.q = qOf m.s
theorem ki_all {J : List Mo} {x : Int} (hJ : J.Pairwise (fun a b => a.at_ < b.at_)) (hb : ∀ m ∈ J, 0 ≤ m.at_ ∧ m.at_ < fo) (hid : ∀ m ∈ J, m.s.id = 0 ∨ m.s.id = x) (hnb : ∀ (i : Nat) (a b : Mo), J[i]? = some a → J[i + 1]? = some b → eqvB a.s b.s = false) :
    ∀ k, k ≤ J.length → KI J k (spK J k)
  | 0, _ => by
    refine ⟨can_0 fun t _ ht => ?_, fun d hd => (by cases hd)⟩
    have : atM J t = sb0 := atM_none J t sb0 fun m hm => by
      obtain ⟨i, hi⟩ := List.getElem?_of_mem hm
      obtain ⟨n, hn⟩ : ∃ n, J[0]? = some n := ⟨_, List.getElem?_eq_getElem (by have := (List.getElem?_eq_some_iff.1 hi).1; omega)⟩
      rw [toJ_at hn] at ht
      by_cases hz : i = 0
      · subst hz; rw [hn] at hi; cases hi; exact ht
      · have := pw_idx hJ (show 0 < i by omega) hn hi; omega
    unfold seen
    rw [this]; rfl
  | k + 1, hk => by
    have ih := ki_all hJ hb hid hnb k (by omega)
    obtain ⟨m, hm⟩ : ∃ m, J[k]? = some m := ⟨_, List.getElem?_eq_getElem (by omega)⟩
    have hmem := List.mem_of_getElem? hm
    have hmb := hb m hmem
    have hT : toJ J k = m.at_ := toJ_at hm
    have hlt : m.at_ < toJ J (k + 1) := by
      cases hn : J[k + 1]? with
      | none => unfold toJ; rw [hn]; exact hmb.2
      | some n => rw [toJ_at hn]; exact pw_idx hJ (Nat.lt_succ_self k) hm hn
    have hle : toJ J (k + 1) ≤ fo := by
      cases hn : J[k + 1]? with
      | none => unfold toJ; rw [hn]; exact Int.le_refl _
      | some n => rw [toJ_at hn]; have := hb n (List.mem_of_getElem? hn); omega
    rw [spK_succ hm]
    obtain ⟨hc, hl⟩ := ih
    rw [hT] at hc hl
    by_cases h0 : m.s.id = 0
    · rw [if_pos h0]
      refine ⟨can_none hc (by omega) fun t g1 g2 => ?_, fun d hd hto => ?_⟩
      · unfold seen; rw [atM_mid hJ hm g1 g2, if_pos h0]
      · have := (hc.good d (List.mem_of_getLast? hd)).2.2.2; omega
    · rw [if_neg h0]
      refine ⟨can_app hc hmb.1 hlt hle (fun t g1 g2 => ?_) (fun d hd => ?_), fun d hd hto => ?_⟩
      · unfold seen; rw [atM_mid hJ hm g1 g2, if_neg h0]
      · rintro ⟨g1, g2⟩
        obtain ⟨n, hk0, hn, hn0, hq⟩ := hl d hd g1
        have hf := hnb (k - 1) n m hn (by rw [show k - 1 + 1 = k by omega]; exact hm)
        have : eqvB n.s m.s = true := eqvB_iff.2 ⟨by
          have := hid m hmem
          have := hid n (List.mem_of_getElem? hn)
          omega, hq.symm.trans g2⟩
        rw [hf] at this; cases this
      · have e : d = ⟨m.at_, toJ J (k + 1), qOf m.s⟩ := by rw [List.getLast?_append] at hd; simpa using hd.symm
        subst e
        exact ⟨m, Nat.succ_pos k, hm, h0, rfl⟩
theorem can_congr {α : Type} {A : List (Iv α)} {T : Int} {f g : Int → Option α} (h : Can A T f) (e : ∀ t, 0 ≤ t → t < T → f t = g t) : Can A T g :=
  ⟨h.good, h.nb, fun t v h0 ht => by rw [← e t h0 ht]; exact h.cov t v h0 ht⟩
theorem toJ_end {J : List Mo} {k : Nat} (h : J.length ≤ k) : toJ J k = fo := by unfold toJ; rw [List.getElem?_eq_none h]
def moE (l : List Ev) (x : Int) : List Mo := (moN l x l.length).1
def jnE (l : List Ev) (x : Int) : List Mo := jnN (moE l x) (moE l x).length
def spE (l : List Ev) (x : Int) : List (Iv Q) := spK (jnE l x) (jnE l x).length
theorem spE_can {l : List Ev} (hv : Vl l) (x : Int) : Can (spE l x) fo (stQ l x) := by
  have hm := mi_all hv x l.length (Nat.le_refl _)
  have hj := ji_all (M := moE l x) hm.asc (moE l x).length (Nat.le_refl _)
  have htk : (moE l x).take (moE l x).length = moE l x := List.take_length
  have hmj : ∀ m ∈ jnE l x, m ∈ moE l x := fun m h => by have := hj.mem m h; rwa [htk] at this
  have hk : Can (spE l x) (toJ (jnE l x) (jnE l x).length) (seen (jnE l x)) := (ki_all (x := x) hj.asc (fun m h => hm.bnd m (hmj m h)) (fun m h => hm.id m (hmj m h)) hj.nb (jnE l x).length (Nat.le_refl _)).can
  rw [toJ_end (Nat.le_refl _)] at hk
  refine can_congr hk fun t h0 ht => ?_
  have h1 := hj.at_ t
  rw [htk, show atM (moE l x) t = _ from hm.at_ t, List.take_length] at h1
  obtain ⟨e1, e2⟩ := eqvB_iff.1 h1
  unfold seen stQ
  rw [show (atM (jnE l x) t).id = _ from e1, show qOf (atM (jnE l x) t) = _ from e2]
  cases hl : liveS (bkAt l t) x with
  | none => rfl
  | some s =>
    have hid := liveS_id hl
    have hs : 1 ≤ s.id := by
      unfold liveS at hl
      split at hl
      · cases hl
      · have := (at_inv hv t).2.sr s (findS_id hl).1; omega
    show (if s.id = 0 then none else some (qOf s)) = _
    rw [if_neg (by omega)]; rfl
end Ss
end Go.Proofs.Yteaanngagcflhaa
