/-
  Subscriptions, in plain words: what the program's moments say of every instant; its spells are the reference's. No condition.
-/
import Derived.Test.YteaanngagcflhaaKb19
import Derived.Test.YteaanngagcflhaaKb05
import Derived.Test.YteaanngagcflhaaKb18
import Derived.Test.YteaanngagcflhaaKb15
import Derived.BigQuiet
import Derived.StillTailTactics
import Derived.Lib.Overlaps
import Derived.Deep.DeepCutAuto
import Derived.Deep.RegionWith
import Derived.Laws.RangeAny
set_option maxRecDepth 100000
set_option linter.unusedVariables false
set_option linter.unusedSimpArgs false
namespace Go.Proofs.Yteaanngagcflhaa
open Go.RowKit
namespace Ss
open Cu
theorem liveS_st {s : St} {b : Bk} (hi : Inv s b) (n : Int) : liveS b n = s.sub n := by rw [hi.sub]; rfl
theorem liveS_0 {b : Bk} (hb : Bok b) : liveS b 0 = none := by
  cases h : liveS b 0 with
  | none => rfl
  | some s =>
    have h1 := liveS_id h
    unfold liveS at h
    split at h
    · cases h
    · have := hb.sr s (findS_id h).1; omega
theorem ofSub_liveS {b : Bk} {e : Ev} (h : ofSub b e = 0) : ∃ s, liveS b e.sub = some s := by
  unfold ofSub at h
  cases hf : findS b e.sub with
  | none => rw [hf] at h; cases h
  | some s =>
    rw [hf] at h
    dsimp only at h
    by_cases he : endedB b e.sub = true
    · rw [if_pos he] at h; cases h
    · exact ⟨s, by unfold liveS; rw [if_neg he]; exact hf⟩
theorem form_sub {e : Ev} {last : Int} (h : formR e last = 0) (hu : uS e.kind = false) : e.sub = 0 := by
  unfold formR at h
  split at h
  · omega
  split at h
  · omega
  split at h
  · omega
  unfold formT at h
  split at h
  · omega
  rename_i hf
  unfold fldBad at hf
  rw [hu] at hf
  by_cases hs : e.sub = 0
  · exact hs
  · exfalso; apply hf; simp [hs]
theorem vl_fault {l : List Ev} (hv : Vl l) {k : Nat} {e : Ev} (he : l[k]? = some e) : faultR (bkN l k) e (lastN l k) = 0 := by
  have := hv.2 k (List.getElem?_eq_some_iff.1 he).1
  unfold fltN at this; rw [he] at this; exact this
theorem mo_track {l : List Ev} (hv : Vl l) {x : Int} {k : Nat} {e : Ev} (he : l[k]? = some e) :
    prj (liveS (bkN l (k + 1)) x) = if x = 0 ∨ e.sub ≠ x then prj (liveS (bkN l k) x) else nxtS (prj (liveS (bkN l k) x)) e := by
  have hk := (List.getElem?_eq_some_iff.1 he).1
  obtain ⟨i0, b0⟩ := inv_upto (l := l) k (by omega) (fun j hj => hv.2 j (by omega))
  obtain ⟨i1, b1⟩ := inv_upto (l := l) (k + 1) hk (fun j hj => hv.2 j (by omega))
  have hf := vl_fault hv he
  obtain ⟨h15, _, _, _, _⟩ := fault_parts hf
  have hform : formR e (lastN l k) = 0 := by
    unfold faultR at hf
    by_cases h1 : formR e (lastN l k) = 0
    · exact h1
    · rw [if_pos h1] at hf; exact absurd hf h1
  by_cases hx : x = 0 ∨ e.sub ≠ x
  · rw [if_pos hx]
    by_cases h0 : x = 0
    · subst h0; rw [liveS_0 b0, liveS_0 b1]
    · rw [liveS_st i1, liveS_st i0, stN_succ he, sub_other (.inr (by rcases hx with h | h; exact absurd h h0; exact h))]
  · rw [if_neg hx]
    have hsx : e.sub = x := by omega
    have hx0 : ¬ x = 0 := by omega
    have hus : uS e.kind = true := by
      cases hu : uS e.kind with
      | true => rfl
      | false => have := form_sub hform hu; omega
    have hk3 : 3 ≤ e.kind ∧ e.kind ≤ 13 := by
      unfold uS at hus
      simp at hus
      omega
    rw [liveS_st i1, liveS_st i0, stN_succ he]
    by_cases k3 : e.kind = 3
    · exact nxtS_stN (t := sb0) hk3.1 hk3.2 hsx (fun h => absurd k3 h)
    · have hu : uA e.kind = false := by
        unfold uA
        have h1 : (e.kind == 1) = false := by rw [beq_eq_false_iff_ne]; omega
        have h2 : (e.kind == 2) = false := by rw [beq_eq_false_iff_ne]; omega
        have h3 : (e.kind == 3) = false := by rw [beq_eq_false_iff_ne]; omega
        have h4 : (e.kind == 14) = false := by rw [beq_eq_false_iff_ne]; omega
        have h5 : (e.kind == 15) = false := by rw [beq_eq_false_iff_ne]; omega
        rw [h1, h2, h3, h4, h5]; rfl
      obtain ⟨t, ht⟩ := ofSub_liveS (of_sub hf hu).2
      rw [hsx, liveS_st i0] at ht
      exact nxtS_stN (t := t) hk3.1 hk3.2 hsx (fun _ => ht)
theorem prj_id {b : Bk} {x : Int} : (prj (liveS b x)).id = 0 ∨ (prj (liveS b x)).id = x := by
  cases h : liveS b x with
  | none => exact .inl rfl
  | some s => exact .inr (show s.id = x from liveS_id h)
theorem bk_take {l : List Ev} (hv : Vl l) {k : Nat} {e : Ev} (he : l[k]? = some e) (t : Int) : bkAt (l.take (k + 1)) t = if e.at_ ≤ t then bkN l (k + 1) else bkAt (l.take k) t := by
  unfold bkAt
  rw [List.take_add_one, he, Option.toList_some, List.filter_append, List.foldl_append]
  by_cases h : e.at_ ≤ t
  · have hall : (l.take k).filter (atB t) = l.take k := List.filter_eq_self.2 fun y hy => by
      obtain ⟨i, hi⟩ := List.getElem?_of_mem hy
      have hik : i < k := by have := (List.getElem?_eq_some_iff.1 hi).1; rw [List.length_take] at this; omega
      rw [List.getElem?_take, if_pos hik] at hi
      have := hv.asc i k y e (by omega) hi he
      unfold atB; rw [decide_eq_true_eq]; omega
    rw [if_pos h, hall, List.filter_cons_of_pos (by unfold atB; rw [decide_eq_true_eq]; exact h), bkN_succ he]
    rfl
  · rw [if_neg h, List.filter_cons_of_neg (by unfold atB; rw [decide_eq_true_eq]; exact h)]; rfl
theorem moN_succ {l : List Ev} {x : Int} {k : Nat} {e : Ev} (h : l[k]? = some e) : moN l x (k + 1) = if x = 0 ∨ e.sub ≠ x then moN l x k else (addM (moN l x k).1 e.at_ (nxtS (moN l x k).2 e), nxtS (moN l x k).2 e) := by
  show (match l[k]? with | some e => if x = 0 ∨ e.sub ≠ x then moN l x k else (addM (moN l x k).1 e.at_ (nxtS (moN l x k).2 e), nxtS (moN l x k).2 e) | none => moN l x k) = _
  rw [h]
structure MI (l : List Ev) (x : Int) (k : Nat) (M : List Mo) (c : Sb) : Prop where
  s : c = prj (liveS (bkN l k) x)
  asc : M.Pairwise (fun a b => a.at_ < b.at_)
  le : ∀ m ∈ M, m.at_ ≤ lastN l k
  bnd : ∀ m ∈ M, 0 ≤ m.at_ ∧ m.at_ < fo
  id : ∀ m ∈ M, m.s.id = 0 ∨ m.s.id = x
  la : ∀ t, lastN l k ≤ t → atM M t = c
  at_ : ∀ t, atM M t = prj (liveS (bkAt (l.take k) t) x)
theorem addM_asc {M : List Mo} {a : Int} {s : Sb} (h : M.Pairwise (fun a b => a.at_ < b.at_)) (hle : ∀ m ∈ M, m.at_ ≤ a) : (addM M a s).Pairwise (fun a b => a.at_ < b.at_) := by
  unfold addM
  cases hl : M.getLast? with
  | none =>
    dsimp only
    rw [List.getLast?_eq_none_iff] at hl
    subst hl
    exact List.pairwise_singleton _ _
  | some m =>
    dsimp only
    have e := atM_last hl
    rw [e] at h
    obtain ⟨h1, _, h3⟩ := List.pairwise_append.1 h
    by_cases hm : m.at_ = a
    · rw [if_pos hm]
      refine List.pairwise_append.2 ⟨h1, List.pairwise_singleton _ _, fun d hd y hy => ?_⟩
      rw [List.mem_singleton] at hy; subst hy
      have := h3 d hd m (List.mem_singleton.2 rfl)
      dsimp only; omega
    · rw [if_neg hm]
      have hml := hle m (List.mem_of_getLast? hl)
      refine List.pairwise_append.2 ⟨by rw [e]; exact h, List.pairwise_singleton _ _, fun d hd y hy => ?_⟩
      rw [List.mem_singleton] at hy; subst hy
      dsimp only
      rw [e] at hd
      rcases List.mem_append.1 hd with hd | hd
      · have := h3 d hd m (List.mem_singleton.2 rfl); omega
      · rw [List.mem_singleton] at hd; subst hd; omega
theorem addM_mem {M : List Mo} {a : Int} {s : Sb} {m : Mo} (h : m ∈ addM M a s) : m ∈ M ∨ m = ⟨a, s⟩ := by
  unfold addM at h
  cases hl : M.getLast? with
  | none => rw [hl] at h; dsimp only at h; simpa using h
  | some d =>
    rw [hl] at h
    dsimp only at h
    split at h
    · rcases List.mem_append.1 h with h | h
      · exact .inl (List.dropLast_subset _ h)
      · exact .inr (List.mem_singleton.1 h)
    · simpa using h
theorem lastN_succ {l : List Ev} {k : Nat} {e : Ev} (h : l[k]? = some e) : lastN l (k + 1) = e.at_ := by
  show (match l[k]? with | some e => e.at_ | none => _) = _
  rw [h]
theorem mi_all {l : List Ev} (hv : Vl l) (x : Int) : ∀ k, k ≤ l.length → MI l x k (moN l x k).1 (moN l x k).2
  | 0, _ => ⟨rfl, List.Pairwise.nil, fun m hm => (by cases hm), fun m hm => (by cases hm), fun m hm => (by cases hm), fun t _ => rfl, fun t => rfl⟩
  | k + 1, hk => by
    have ih := mi_all hv x k (by omega)
    obtain ⟨e, he⟩ : ∃ e, l[k]? = some e := ⟨_, List.getElem?_eq_getElem (by omega)⟩
    have hb := hv.bnd he
    have hla := (flt_last he (hv.2 k (by omega))).2.2
    have htr := mo_track hv (x := x) he
    rw [moN_succ he]
    by_cases hx : x = 0 ∨ e.sub ≠ x
    · rw [if_pos hx] at htr ⊢
      refine ⟨ih.s.trans htr.symm, ih.asc, fun m hm => ?_, ih.bnd, ih.id, fun t ht => ?_, fun t => ?_⟩
      · rw [lastN_succ he]; have := ih.le m hm; omega
      · rw [lastN_succ he] at ht; exact ih.la t (by omega)
      · rw [bk_take hv he t]
        by_cases h : e.at_ ≤ t
        · rw [if_pos h, htr, ← ih.s]; exact ih.la t (by omega)
        · rw [if_neg h]; exact ih.at_ t
    · rw [if_neg hx] at htr ⊢
      dsimp only
      have hs' : nxtS (moN l x k).2 e = prj (liveS (bkN l (k + 1)) x) := by rw [htr, ← ih.s]
      refine ⟨hs', addM_asc ih.asc (fun m hm => by have := ih.le m hm; omega), fun m hm => ?_, fun m hm => ?_, fun m hm => ?_, fun t ht => ?_, fun t => ?_⟩
      · rw [lastN_succ he]
        rcases addM_mem hm with hm | rfl
        · have := ih.le m hm; omega
        · exact Int.le_refl _
      · rcases addM_mem hm with hm | rfl
        · exact ih.bnd m hm
        · exact ⟨hb.1, hb.2⟩
      · rcases addM_mem hm with hm | rfl
        · exact ih.id m hm
        · dsimp only; rw [hs']; exact prj_id
      · rw [lastN_succ he] at ht
        rw [atM_addM, if_pos ht]
      · rw [bk_take hv he t, atM_addM]
        by_cases h : e.at_ ≤ t
        · rw [if_pos h, if_pos h]; exact hs'
        · rw [if_neg h, if_neg h]; exact ih.at_ t
def eqvB (a b : Sb) : Bool := decide (a.id = b.id ∧ qOf a = qOf b)
theorem eqvB_iff {a b : Sb} : eqvB a b = true ↔ a.id = b.id ∧ qOf a = qOf b := by unfold eqvB; rw [decide_eq_true_eq]
def addJ (out : List Mo) (m : Mo) : List Mo := match out.getLast? with
  | some d => if eqvB d.s m.s = true then out else out ++ [m]
  | none => out ++ [m]
def jnN (M : List Mo) : Nat → List Mo
  | 0 => []
  | k + 1 => match M[k]? with
    | some m => addJ (jnN M k) m
    | none => jnN M k
theorem jnN_succ {M : List Mo} {k : Nat} {m : Mo} (h : M[k]? = some m) : jnN M (k + 1) = addJ (jnN M k) m := by
  show (match M[k]? with | some m => addJ (jnN M k) m | none => jnN M k) = _
  rw [h]
structure JI (M : List Mo) (k : Nat) (J : List Mo) : Prop where
  mem : ∀ m ∈ J, m ∈ M.take k
  asc : J.Pairwise (fun a b => a.at_ < b.at_)
  nb : ∀ (i : Nat) (a b : Mo), J[i]? = some a → J[i + 1]? = some b → eqvB a.s b.s = false
  at_ : ∀ t, eqvB (atM J t) (atM (M.take k) t) = true
theorem eqvB_refl (a : Sb) : eqvB a a = true := eqvB_iff.2 ⟨rfl, rfl⟩
theorem ji_all {M : List Mo} (hM : M.Pairwise (fun a b => a.at_ < b.at_)) : ∀ k, k ≤ M.length → JI M k (jnN M k)
  | 0, _ => ⟨fun m hm => (by cases hm), List.Pairwise.nil, fun i a b h => (by simp [jnN] at h), fun t => eqvB_refl _⟩
  | k + 1, hk => by
    have ih := ji_all hM k (by omega)
    obtain ⟨m, hm⟩ : ∃ m, M[k]? = some m := ⟨_, List.getElem?_eq_getElem (by omega)⟩
    rw [jnN_succ hm]
    have htk : M.take (k + 1) = M.take k ++ [m] := by rw [List.take_add_one, hm]; rfl
    have hlt : ∀ d ∈ M.take k, d.at_ < m.at_ := fun d hd => by
      have h2 := hM.sublist (List.take_sublist (k + 1) M)
      rw [htk] at h2
      exact (List.pairwise_append.1 h2).2.2 d hd m (List.mem_singleton.2 rfl)
    have new : (∀ d, (jnN M k).getLast? = some d → eqvB d.s m.s = false) → JI M (k + 1) (jnN M k ++ [m]) := fun hl => by
      refine ⟨fun d hd => ?_, ?_, fun i a b ha hb => ?_, fun t => ?_⟩
      · rw [htk]
        rcases List.mem_append.1 hd with hd | hd
        · exact List.mem_append_left _ (ih.mem d hd)
        · exact List.mem_append_right _ hd
      · refine List.pairwise_append.2 ⟨ih.asc, List.pairwise_singleton _ _, fun d hd y hy => ?_⟩
        rw [List.mem_singleton] at hy; subst hy
        exact hlt d (ih.mem d hd)
      · have hi : i + 1 < (jnN M k ++ [m]).length := (List.getElem?_eq_some_iff.1 hb).1
        rw [List.length_append, List.length_singleton] at hi
        rw [List.getElem?_append_left (by omega)] at ha
        by_cases h2 : i + 1 < (jnN M k).length
        · rw [List.getElem?_append_left h2] at hb
          exact ih.nb i a b ha hb
        · have h3 : i + 1 = (jnN M k).length := by omega
          rw [h3, List.getElem?_append_right (Nat.le_refl _), Nat.sub_self] at hb
          simp at hb
          subst hb
          exact hl a (by rw [List.getLast?_eq_getElem?, show (jnN M k).length - 1 = i by omega]; exact ha)
      · rw [htk, atM_snoc, atM_snoc]
        split
        · exact eqvB_refl _
        · exact ih.at_ t
    unfold addJ
    cases hl : (jnN M k).getLast? with
    | none => exact new fun d hd => by rw [hl] at hd; cases hd
    | some d =>
      dsimp only
      by_cases he : eqvB d.s m.s = true
      · rw [if_pos he]
        refine ⟨fun y hy => by rw [htk]; exact List.mem_append_left _ (ih.mem y hy), ih.asc, ih.nb, fun t => ?_⟩
        rw [htk, atM_snoc]
        by_cases ht : m.at_ ≤ t
        · rw [if_pos ht]
          have hd := hlt d (ih.mem d (List.mem_of_getLast? hl))
          rw [atM_last hl, atM_snoc, if_pos (by omega)]
          exact he
        · rw [if_neg ht]; exact ih.at_ t
      · rw [if_neg he]
        exact new fun d' hd' => by rw [hl] at hd'; cases hd'; simpa using he
def toJ (J : List Mo) (k : Nat) : Int := match J[k]? with
  | some m => m.at_
  | none => fo
def spK (J : List Mo) : Nat → List (Iv Q)
  | 0 => []
  | k + 1 => match J[k]? with
    | some m => if m.s.id = 0 then spK J k else spK J k ++ [⟨m.at_, toJ J (k + 1), qOf m.s⟩]
    | none => spK J k
theorem spK_succ {J : List Mo} {k : Nat} {m : Mo} (h : J[k]? = some m) : spK J (k + 1) = if m.s.id = 0 then spK J k else spK J k ++ [(⟨m.at_, toJ J (k + 1), qOf m.s⟩ : Iv Q)] := by
  show (match J[k]? with | some m => if m.s.id = 0 then spK J k else spK J k ++ [(⟨m.at_, toJ J (k + 1), qOf m.s⟩ : Iv Q)] | none => spK J k) = _
  rw [h]
theorem toJ_at {J : List Mo} {k : Nat} {m : Mo} (h : J[k]? = some m) : toJ J k = m.at_ := by unfold toJ; rw [h]
def seen (J : List Mo) (t : Int) : Option Q := if (atM J t).id = 0 then none else some (qOf (atM J t))
theorem atM_none : ∀ (J : List Mo) (t : Int) (s : Sb), (∀ m ∈ J, t < m.at_) → J.foldl (fun s m => if m.at_ ≤ t then m.s else s) s = s
  | [], t, s, _ => rfl
  | m :: J, t, s, h => by
    rw [List.foldl_cons, if_neg (by have := h m List.mem_cons_self; omega)]
    exact atM_none J t s fun d hd => h d (List.mem_cons_of_mem _ hd)
theorem pw_idx {J : List Mo} (h : J.Pairwise (fun a b => a.at_ < b.at_)) {i j : Nat} {a b : Mo} (hij : i < j) (ha : J[i]? = some a) (hb : J[j]? = some b) : a.at_ < b.at_ := by
  obtain ⟨hi, rfl⟩ := List.getElem?_eq_some_iff.1 ha
  obtain ⟨hj, rfl⟩ := List.getElem?_eq_some_iff.1 hb
  exact List.pairwise_iff_getElem.1 h i j hi hj hij
theorem atM_mid {J : List Mo} (h : J.Pairwise (fun a b => a.at_ < b.at_)) {k : Nat} {m : Mo} (hm : J[k]? = some m) {t : Int} (h1 : m.at_ ≤ t) (h2 : t < toJ J (k + 1)) : atM J t = m.s := by
  have hk := (List.getElem?_eq_some_iff.1 hm).1
  have hsp : J = (J.take k ++ [m]) ++ J.drop (k + 1) := by
    have := List.take_append_drop (k + 1) J
    rw [List.take_add_one, hm] at this
    exact this.symm
  have hd : ∀ d ∈ J.drop (k + 1), t < d.at_ := fun d hd => by
    obtain ⟨i, hi⟩ := List.getElem?_of_mem hd
    rw [List.getElem?_drop] at hi
    obtain ⟨n, hn⟩ : ∃ n, J[k + 1]? = some n := ⟨_, List.getElem?_eq_getElem (by have := (List.getElem?_eq_some_iff.1 hi).1; omega)⟩
    rw [toJ_at hn] at h2
    by_cases hz : i = 0
    · subst hz; rw [Nat.add_zero, hn] at hi; cases hi; exact h2
    · have := pw_idx h (show k + 1 < k + 1 + i by omega) hn hi; omega
  have e : atM J t = (J.drop (k + 1)).foldl (fun s m => if m.at_ ≤ t then m.s else s) (atM (J.take k ++ [m]) t) := by
    unfold atM
    conv => lhs; rw [hsp, List.foldl_append]
  rw [e, atM_none _ _ _ hd, atM_snoc, if_pos h1]
structure KI (J : List Mo) (k : Nat) (out : List (Iv Q)) : Prop where
  can : Can out (toJ J k) (seen J)
  la : ∀ d, out.getLast? = some d → d.to_ = toJ J k → ∃ m, 0 < k ∧ J[k - 1]? = some m ∧ m.s.id ≠ 0 ∧ d.q = qOf m.s
theorem ki_all {J : List Mo} {x : Int} (hJ : J.Pairwise (fun a b => a.at_ < b.at_)) (hb : ∀ m ∈ J, 0 ≤ m.at_ ∧ m.at_ < fo) (hid : ∀ m ∈ J, m.s.id = 0 ∨ m.s.id = x) (hnb : ∀ (i : Nat) (a b : Mo), J[i]? = some a → J[i + 1]? = some b → eqvB a.s b.s = false) :
    ∀ k, k ≤ J.length → KI J k (spK J k)
  | 0, _ => by
    refine ⟨can_0 fun t _ ht => ?_, fun d hd => (by cases hd)⟩
    have : atM J t = sb0 := atM_none J t sb0 fun m hm => by
      obtain ⟨i, hi⟩ := List.getElem?_of_mem hm
      obtain ⟨n, hn⟩ : ∃ n, J[0]? = some n := ⟨_, List.getElem?_eq_getElem (by have := (List.getElem?_eq_some_iff.1 hi).1; omega)⟩
      rw [toJ_at hn] at ht
      by_cases hz : i = 0
      · subst hz; rw [hn] at hi; cases hi; exact ht
      · have := pw_idx hJ (show 0 < i by omega) hn hi; omega
    unfold seen
    rw [this]; rfl
  | k + 1, hk => by
    have ih := ki_all hJ hb hid hnb k (by omega)
    obtain ⟨m, hm⟩ : ∃ m, J[k]? = some m := ⟨_, List.getElem?_eq_getElem (by omega)⟩
    have hmem := List.mem_of_getElem? hm
    have hmb := hb m hmem
    have hT : toJ J k = m.at_ := toJ_at hm
    have hlt : m.at_ < toJ J (k + 1) := by
      cases hn : J[k + 1]? with
      | none => unfold toJ; rw [hn]; exact hmb.2
      | some n => rw [toJ_at hn]; exact pw_idx hJ (Nat.lt_succ_self k) hm hn
    have hle : toJ J (k + 1) ≤ fo := by
      cases hn : J[k + 1]? with
      | none => unfold toJ; rw [hn]; exact Int.le_refl _
      | some n => rw [toJ_at hn]; have := hb n (List.mem_of_getElem? hn); omega
    rw [spK_succ hm]
    obtain ⟨hc, hl⟩ := ih
    rw [hT] at hc hl
    by_cases h0 : m.s.id = 0
    · rw [if_pos h0]
      refine ⟨can_none hc (by omega) fun t g1 g2 => ?_, fun d hd hto => ?_⟩
      · unfold seen; rw [atM_mid hJ hm g1 g2, if_pos h0]
      · have := (hc.good d (List.mem_of_getLast? hd)).2.2.2; omega
    · rw [if_neg h0]
      refine ⟨can_app hc hmb.1 hlt hle (fun t g1 g2 => ?_) (fun d hd => ?_), fun d hd hto => ?_⟩
      · unfold seen; rw [atM_mid hJ hm g1 g2, if_neg h0]
      · rintro ⟨g1, g2⟩
        obtain ⟨n, hk0, hn, hn0, hq⟩ := hl d hd g1
        have hf := hnb (k - 1) n m hn (by rw [show k - 1 + 1 = k by omega]; exact hm)
        have : eqvB n.s m.s = true := eqvB_iff.2 ⟨by
          have := hid m hmem
          have := hid n (List.mem_of_getElem? hn)
          omega, hq.symm.trans g2⟩
        rw [hf] at this; cases this
      · have e : d = ⟨m.at_, toJ J (k + 1), qOf m.s⟩ := by rw [List.getLast?_append] at hd; simpa using hd.symm
        subst e
        exact ⟨m, Nat.succ_pos k, hm, h0, rfl⟩
theorem can_congr {α : Type} {A : List (Iv α)} {T : Int} {f g : Int → Option α} (h : Can A T f) (e : ∀ t, 0 ≤ t → t < T → f t = g t) : Can A T g :=
  ⟨h.good, h.nb, fun t v h0 ht => by rw [← e t h0 ht]; exact h.cov t v h0 ht⟩
theorem toJ_end {J : List Mo} {k : Nat} (h : J.length ≤ k) : toJ J k = fo := by unfold toJ; rw [List.getElem?_eq_none h]
def moE (l : List Ev) (x : Int) : List Mo := (moN l x l.length).1
def jnE (l : List Ev) (x : Int) : List Mo := jnN (moE l x) (moE l x).length
def spE (l : List Ev) (x : Int) : List (Iv Q) := spK (jnE l x) (jnE l x).length
theorem spE_can {l : List Ev} (hv : Vl l) (x : Int) : Can (spE l x) fo (stQ l x) := by
  have hm := mi_all hv x l.length (Nat.le_refl _)
  have hj := ji_all (M := moE l x) hm.asc (moE l x).length (Nat.le_refl _)
  have htk : (moE l x).take (moE l x).length = moE l x := List.take_length
  have hmj : ∀ m ∈ jnE l x, m ∈ moE l x := fun m h => by have := hj.mem m h; rwa [htk] at this
  have hk : Can (spE l x) (toJ (jnE l x) (jnE l x).length) (seen (jnE l x)) := (ki_all (x := x) hj.asc (fun m h => hm.bnd m (hmj m h)) (fun m h => hm.id m (hmj m h)) hj.nb (jnE l x).length (Nat.le_refl _)).can
  rw [toJ_end (Nat.le_refl _)] at hk
  refine can_congr hk fun t h0 ht => ?_
  have h1 := hj.at_ t
  rw [htk, show atM (moE l x) t = _ from hm.at_ t, List.take_length] at h1
  obtain ⟨e1, e2⟩ := eqvB_iff.1 h1
  unfold seen stQ
  rw [show (atM (jnE l x) t).id = _ from e1, show qOf (atM (jnE l x) t) = _ from e2]
  cases hl : liveS (bkAt l t) x with
  | none => rfl
  | some s =>
    have hid := liveS_id hl
    have hs : 1 ≤ s.id := by
      unfold liveS at hl
      split at hl
      · cases hl
      · have := (at_inv hv t).2.sr s (findS_id hl).1; omega
    show (if s.id = 0 then none else some (qOf s)) = _
    rw [if_neg (by omega)]; rfl
theorem spI_can {l : List Ev} (hv : Vl l) (x : Int) : Can (spI l x l.length) fo (stQ l x) := by
  have := can_all hv x l.length (Nat.le_refl _)
  rwa [toE_end (Nat.le_refl _)] at this
theorem sp_eq {l : List Ev} (hv : Vl l) (x : Int) : spE l x = spI l x l.length := can_uniq (spE_can hv x) (spI_can hv x)
end Ss
end Go.Proofs.Yteaanngagcflhaa
namespace Go.Proofs.Yteaanngagcflhaa
open Go.RowKit
namespace Ss
open Cu
set_option maxHeartbeats 8000000 in
theorem with_any (A : Option Addr) (n c : Nat) (xs : List ByteArray) (x : ByteArray) (w : World) (h : Sl w A n c xs) (hA : A = none → c = 0) (hn9 : n ≤ 900000) :
    Calls Try.prog 126 #[.slice A n c, .string x] w fun e w' => ∃ v, e = .returned v ∧ Ow w' w.heap.size 9 v (insS xs x) ∧ Below w.heap.size w w' := by
  have HS := Lib.hid h
  have HNIL := Lib.hid hA
  have HLen := Lib.hid h.len
  have hn := h.nmax
  clear h hA
  go_enter Try.func126, Try.ntmps126
  go_wp2_with fail
  go_loopw [5] (fun i wr => ∃ k : Nat, k ≤ n ∧ i = .int .i64 k ∧ Below w.heap.size w wr ∧ ∀ j y, j < k → xs[j]? = some y → Op.bytesLess y.toList x.toList = true) (fun i _ => n - (intOf i).toNat)
  case atStart => exact ⟨0, Nat.zero_le _, rfl, Below.refl _ _, fun j y hj => absurd hj (by omega)⟩
  case round =>
    obtain ⟨k, hk, rfl, hbr, hall⟩ := hrel
    have HK := Lib.hid hall
    clear hall
    by_cases hcase : ∃ y, xs[k]? = some y ∧ Op.bytesLess y.toList x.toList = true
    · obtain ⟨y, hy, hlt⟩ := hcase
      have hkn : k < n := by have := (List.getElem?_eq_some_iff.1 hy).1; have := HLen.out; omega
      obtain ⟨b, off, rfl, hbl, hcells⟩ := HS.out.baseIn hbr (by omega)
      have e0 : wr.cell? ⟨b, off + k * 1, none⟩ = some (.string y) := Sl.at_ hcells hy 0 rfl
      rw [Nat.mul_one] at e0
      have HST := Lib.hid (show ∀ j z, j < k + 1 → xs[j]? = some z → Op.bytesLess z.toList x.toList = true from fun j z hj hz => by
        rcases Nat.lt_or_ge j k with h1 | h1
        · exact HK.out j z h1 hz
        · obtain rfl : j = k := by omega
          rw [hy] at hz; cases hz; exact hlt)
      have hbl2 : b < wr.heap.size := Nat.lt_of_lt_of_le hbl hbr.size
      clear hcells hy
      go_wp2_with fail
      go_roundw
      case rel => exact ⟨k + 1, by omega, by go_num, hbr, HST.out⟩
      case measure => simp [intOf]; omega
    · have HI := Lib.hid (show insS xs x = xs.take k ++ [x] ++ xs.drop k from insS_at xs x k HK.out (fun y hy hlt => hcase ⟨y, hy, hlt⟩))
      have hslT : ∀ W, (Instr.slice 49 (.slice A n c) none (some (.int .i64 (k : Int))) none).run Try.prog W = .ok (.slice A k c) W := fun W => run_slice_to (sz := 1) (by kernel_rfl) (by kernel_rfl) (by have := HS.out.le; omega) W
      have HST := Lib.hid (Sl.takeK HS.out hk)
      have hslF : ∀ W, (Instr.slice 49 (.slice A n c) (some (.int .i64 (k : Int))) none none).run Try.prog W = .ok (.slice (if c = k then A else A.map (·.add (k * 1))) (n - k) (c - k)) W := fun W => run_slice_from (sz := 1) (by kernel_rfl) (by kernel_rfl) hk W
      have hsF := Sl.dropG HS.out hk
      obtain ⟨AF, hAF⟩ : ∃ AF : Option Addr, (if c = k then A else A.map (·.add (k * 1))) = AF := ⟨_, rfl⟩
      have hAF' : (if c = k then A else A.map (·.add (k * Flat.sz ByteArray))) = AF := hAF
      have hnilF : AF = none → c - k = 0 := fun e => by
        have hcc := HNIL.out
        rw [← hAF] at e
        split at e
        · omega
        · cases A with
          | none => have := hcc rfl; omega
          | some a => cases e
      rw [hAF] at hslF
      rw [hAF'] at hsF
      have HSF := Lib.hid hsF
      have HNF := Lib.hid hnilF
      have htl : (xs.take k).length ≤ 900000 := by rw [List.length_take]; omega
      have htl2 : (xs.take k ++ [x]).length ≤ 900001 := by simp; omega
      obtain ⟨nf, hnf⟩ : ∃ nf, n - k = nf := ⟨_, rfl⟩
      obtain ⟨cf, hcf⟩ : ∃ cf, c - k = cf := ⟨_, rfl⟩
      rw [hnf, hcf] at hslF
      replace HSF := Lib.hid (show Sl w AF nf cf (xs.drop k) by have := HSF.out; rw [hnf, hcf] at this; exact this)
      replace HNF := Lib.hid (show AF = none → cf = 0 by have := HNF.out; rw [hcf] at this; exact this)
      have hnfl : nf ≤ 900000 := by omega
      clear hAF hAF' hsF hnilF hnf hcf
      by_cases hkn : k < n
      · obtain ⟨b, off, hAe, hbl, hcells⟩ := HS.out.baseIn hbr (by omega)
        obtain ⟨y, hy⟩ := HS.out.get hkn
        have hnl : ¬ (Op.bytesLess y.toList x.toList = true) := fun h => hcase ⟨y, hy, h⟩
        have e0 : wr.cell? ⟨b, off + k * 1, none⟩ = some (.string y) := Sl.at_ hcells hy 0 rfl
        rw [Nat.mul_one] at e0
        have hbl2 : b < wr.heap.size := Nat.lt_of_lt_of_le hbl hbr.size
        subst hAe
        clear hcells hy hcase
        skip
        go_upto_region 5 with (at_builtin; go_must (
          refine wpl_appendS _ rfl (.const (.slice none 0 0)) (.tmp 23) 49 rfl w.heap.size 9 _ 16 Try.underlying49 infoS rfl (.slice none 0 0) ([] : List ByteArray) rfl (Ow.nil_ _ _ _) (some ⟨b, off, none⟩) k c (xs.take k) rfl HNIL.out (HST.out.below hbr) (by simp; omega) (by omega) hbr.size ?_
          intro v5 w5 ho5 hu5
          rw [List.nil_append] at ho5
          have HB5 := Lib.hid (hu5.belowBase (Ow.nil_ _ _ 9 : Ow wr w.heap.size 9 (.slice none 0 0) ([] : List ByteArray)) hbr hbr.size)
          have HO5 := Lib.hid ho5
          clear ho5 hu5))
        go_upto_region 6 with (at_builtin; go_must (
          refine wpl_append1 _ rfl (.tmp 25) (.tmp 27) 49 rfl w.heap.size 9 _ 16 Try.underlying49 infoS rfl _ (xs.take k) rfl (HO5.out.alloc _) _ x rfl (fun j u hu => cells_new _ _ _ _ _ (by simp) u hu) (by omega) (by omega) (by rw [World.size_alloc]; have := HB5.out.size; omega) ?_
          intro v6 w6 ho6 hu6
          have hb6 := hu6.belowBase (HO5.out.alloc _) (HB5.out.alloc HB5.out.size _) (by rw [World.size_alloc]; have := HB5.out.size; omega)
          have HO6 := Lib.hid ho6
          have HB6 := Lib.hid hb6
          clear ho6 hu6 hb6))
        go_wp2_with (at_builtin; go_must (
          refine wpl_appendS _ rfl (.tmp 29) (.tmp 32) 49 rfl w.heap.size 9 _ 16 Try.underlying49 infoS rfl _ (xs.take k ++ [x]) rfl HO6.out AF nf cf (xs.drop k) rfl HNF.out (HSF.out.below HB6.out) (by omega) (by omega) HB6.out.size ?_
          intro v8 w8 ho8 hu8
          have HB8 := Lib.hid (hu8.belowBase HO6.out HB6.out HB6.out.size)
          have HO8 := Lib.hid ho8
          clear ho8 hu8))
        go_ret
        exact ⟨_, rfl, by rw [HI.out]; exact HO8.out, HB8.out⟩
      · obtain rfl : n = k := by omega
        have hkk : ¬ ((n : Int) < (n : Int)) := by omega
        clear hcase
        skip
        go_upto_region 5 with (at_builtin; go_must (
          refine wpl_appendS _ rfl (.const (.slice none 0 0)) (.tmp 23) 49 rfl w.heap.size 9 _ 16 Try.underlying49 infoS rfl (.slice none 0 0) ([] : List ByteArray) rfl (Ow.nil_ _ _ _) A n c (xs.take n) rfl HNIL.out (HST.out.below hbr) (by simp; omega) (by omega) hbr.size ?_
          intro v5 w5 ho5 hu5
          rw [List.nil_append] at ho5
          have HB5 := Lib.hid (hu5.belowBase (Ow.nil_ _ _ 9 : Ow wr w.heap.size 9 (.slice none 0 0) ([] : List ByteArray)) hbr hbr.size)
          have HO5 := Lib.hid ho5
          clear ho5 hu5))
        go_upto_region 6 with (at_builtin; go_must (
          refine wpl_append1 _ rfl (.tmp 25) (.tmp 27) 49 rfl w.heap.size 9 _ 16 Try.underlying49 infoS rfl _ (xs.take n) rfl (HO5.out.alloc _) _ x rfl (fun j u hu => cells_new _ _ _ _ _ (by simp) u hu) (by omega) (by omega) (by rw [World.size_alloc]; have := HB5.out.size; omega) ?_
          intro v6 w6 ho6 hu6
          have hb6 := hu6.belowBase (HO5.out.alloc _) (HB5.out.alloc HB5.out.size _) (by rw [World.size_alloc]; have := HB5.out.size; omega)
          have HO6 := Lib.hid ho6
          have HB6 := Lib.hid hb6
          clear ho6 hu6 hb6))
        go_wp2_with (at_builtin; go_must (
          refine wpl_appendS _ rfl (.tmp 29) (.tmp 32) 49 rfl w.heap.size 9 _ 16 Try.underlying49 infoS rfl _ (xs.take n ++ [x]) rfl HO6.out AF nf cf (xs.drop n) rfl HNF.out (HSF.out.below HB6.out) (by omega) (by omega) HB6.out.size ?_
          intro v8 w8 ho8 hu8
          have HB8 := Lib.hid (hu8.belowBase HO6.out HB6.out HB6.out.size)
          have HO8 := Lib.hid ho8
          clear ho8 hu8))
        go_ret
        exact ⟨_, rfl, by rw [HI.out]; exact HO8.out, HB8.out⟩
set_option maxHeartbeats 8000000 in
theorem without_any (A : Option Addr) (n c : Nat) (xs : List ByteArray) (x : ByteArray) (w : World) (h : Sl w A n c xs) (hn9 : n ≤ 900000) :
    Calls Try.prog 127 #[.slice A n c, .string x] w fun e w' => ∃ v, e = .returned v ∧ Ow w' w.heap.size 9 v (remS xs x) ∧ Below w.heap.size w w' := by
  have HS := Lib.hid h
  have HLen := Lib.hid h.len
  have hn := h.nmax
  clear h
  go_enter Try.func127, Try.ntmps127
  go_wp2_with fail
  go_loopw [5, 10] (fun o i wr => ∃ k : Nat, k ≤ n ∧ i = .int .i64 k ∧ Ow wr w.heap.size 9 o (remS (xs.take k) x) ∧ Below w.heap.size w wr) (fun _ i _ => n - (intOf i).toNat)
  case atStart => exact ⟨0, Nat.zero_le _, rfl, Ow.nil_ _ _ _, Below.refl _ _⟩
  case round =>
    obtain ⟨k, hk, rfl, ho, hbr⟩ := hrel
    have HO := Lib.hid ho
    clear ho
    by_cases hlt : k < n
    · obtain ⟨b, off, hAe, hbl, hcells⟩ := HS.out.baseIn hbr (by omega)
      obtain ⟨y, hy⟩ := HS.out.get hlt
      have e0 : wr.cell? ⟨b, off + k * 1, none⟩ = some (.string y) := Sl.at_ hcells hy 0 rfl
      rw [Nat.mul_one] at e0
      have hbl2 : b < wr.heap.size := Nat.lt_of_lt_of_le hbl hbr.size
      have htk : xs.take (k + 1) = xs.take k ++ [y] := by rw [List.take_add_one, hy]; rfl
      have hrl : (remS (xs.take k) x).length ≤ 900000 := by unfold remS; have := List.length_filter_le (fun y => !seq_ y x) (xs.take k); rw [List.length_take] at this; omega
      subst hAe
      clear hcells hy
      cases hb : (y.toList == x.toList)
      · have HR := Lib.hid (show remS (xs.take (k + 1)) x = remS (xs.take k) x ++ [y] by rw [htk]; unfold remS; rw [List.filter_append, List.filter_cons_of_pos (by unfold seq_; rw [hb]; rfl)]; rfl)
        clear htk
        go_wp2_with (at_builtin; go_must (
          refine wpl_append1 _ rfl (.tmp 17) (.tmp 19) 49 rfl w.heap.size 9 _ 16 Try.underlying49 infoS rfl _ (remS (xs.take k) x) rfl (HO.out.alloc _) _ y rfl (fun j u hu => cells_new _ _ _ _ _ (by simp) u hu) (by omega) (by omega) (by rw [World.size_alloc]; have := hbr.size; omega) ?_
          intro v6 w6 ho6 hu6
          have hb6 := hu6.belowBase (HO.out.alloc _) (hbr.alloc hbr.size _) (by rw [World.size_alloc]; have := hbr.size; omega)
          have HO6 := Lib.hid ho6
          have HB6 := Lib.hid hb6
          clear ho6 hu6 hb6))
        all_goals
          go_roundw
          case rel => exact ⟨k + 1, by omega, by go_num, by rw [HR.out]; exact HO6.out, HB6.out⟩
          case measure => simp [intOf]; omega
      · have HR := Lib.hid (show remS (xs.take (k + 1)) x = remS (xs.take k) x by rw [htk]; unfold remS; rw [List.filter_append, List.filter_cons_of_neg (by unfold seq_; rw [hb]; decide)]; simp)
        clear htk
        go_wp2_with fail
        go_roundw
        case rel => exact ⟨k + 1, by omega, by go_num, by rw [HR.out]; exact HO.out, hbr⟩
        case measure => simp [intOf]; omega
    · obtain rfl : n = k := by omega
      have hkn : ¬ ((n : Int) < (n : Int)) := by omega
      have HR := Lib.hid (show remS xs x = remS (xs.take n) x by rw [List.take_of_length_le (by have := HLen.out; omega)])
      go_wp2_with fail
      go_ret
      exact ⟨_, rfl, by rw [HR.out]; exact HO.out, hbr⟩
end Ss
end Go.Proofs.Yteaanngagcflhaa
namespace Go.Proofs.Yteaanngagcflhaa
open Go.RowKit
namespace Cu
def SaysEq {α : Type} (r : Ending) (x y : α) : Prop := ∃ q : Bool, r = .returned (.bool q) ∧ (q = true ↔ x = y)
theorem tl_inj {a b : ByteArray} : a.toList = b.toList ↔ a = b := by
  constructor
  · intro h
    rw [Lib.toList_data, Lib.toList_data] at h
    exact ByteArray.ext (Array.ext' h)
  · intro h; rw [h]
theorem be_t {α : Type} [BEq α] [LawfulBEq α] {x y : α} (h : x = y) : (x == y) = true ∧ (x != y) = false := by subst h; simp
theorem be_f {α : Type} [BEq α] [LawfulBEq α] {x y : α} (h : ¬ x = y) : (x == y) = false ∧ (x != y) = true := by simp [h]
theorem bs_t {x y : ByteArray} (h : x = y) : (x.toList == y.toList) = true ∧ (x.toList != y.toList) = false := be_t (by rw [h])
theorem bs_f {x y : ByteArray} (h : ¬ x = y) : (x.toList == y.toList) = false ∧ (x.toList != y.toList) = true := be_f (fun e => h (tl_inj.1 e))
theorem take_ne {α : Type} {xs ys : List α} {k : Nat} {x y : α} (hx : xs[k]? = some x) (hy : ys[k]? = some y) (h : ¬ x = y) : ¬ xs = ys := fun e => by subst e; rw [hx] at hy; cases hy; exact h rfl
theorem take_eq {α : Type} {xs ys : List α} {k : Nat} {x y : α} (hx : xs[k]? = some x) (hy : ys[k]? = some y) (h : x = y) (ht : xs.take k = ys.take k) : xs.take (k + 1) = ys.take (k + 1) := by
  rw [List.take_add_one, List.take_add_one, hx, hy, ht, h]
theorem take_all {α : Type} {xs ys : List α} {k : Nat} (hx : xs.length = k) (hy : ys.length = k) (ht : xs.take k = ys.take k) : xs = ys := by
  rw [List.take_of_length_le (by omega), List.take_of_length_le (by omega)] at ht; exact ht
theorem len_ne {α : Type} {xs ys : List α} {n m : Nat} (hx : xs.length = n) (hy : ys.length = m) (h : ¬ n = m) : ¬ xs = ys := fun e => by subst e; omega
set_option maxHeartbeats 8000000 in
theorem SameTexts_any (A B : Option Addr) (n c m d : Nat) (xs ys : List ByteArray) (w : World) (h : Sl w A n c xs) (h2 : Sl w B m d ys) :
    Calls Try.prog 48 #[.slice A n c, .slice B m d] w fun r w' => SaysEq r xs ys ∧ Below w.heap.size w w' := by
  have hn := h.nmax
  have H := Lib.hid h
  have H2 := Lib.hid h2
  have HL := Lib.hid h.len
  have HL2 := Lib.hid h2.len
  clear h h2
  go_enter Try.func48, Try.ntmps48
  by_cases hnm : n = m
  case neg =>
    obtain ⟨bn, dn⟩ := be_f (show ¬ (n : Int) = (m : Int) by omega)
    have HQ := Lib.hid (len_ne HL.out HL2.out hnm)
    clear hnm
    go_wp2_with fail
    go_ret
    exact ⟨⟨false, rfl, by simp [HQ.out]⟩, Below.refl _ _⟩
  subst hnm
  go_wp2_with fail
  go_loopw [5] (fun i wr => ∃ (k : Nat), k ≤ n ∧ i = .int .i64 k ∧ xs.take k = ys.take k ∧ Below w.heap.size w wr) (fun i _ => n - (intOf i).toNat)
  case atStart => exact ⟨0, Nat.zero_le _, rfl, rfl, Below.refl _ _⟩
  case round =>
    obtain ⟨k, hk, rfl, ht, hb⟩ := hrel
    have HT := Lib.hid ht
    clear ht
    by_cases hlt : k < n
    · obtain ⟨b, off, rfl, hbl, hcells⟩ := H.out.baseIn hb (by omega)
      obtain ⟨b2, off2, rfl, hbl2, hcells2⟩ := H2.out.baseIn hb (by omega)
      obtain ⟨x, hx⟩ := H.out.get hlt
      obtain ⟨y, hy⟩ := H2.out.get hlt
      have e0 : wr.cell? ⟨b, off + k * 1, none⟩ = some (.string (x)) := Sl.at_ hcells hx 0 rfl
      have f0 : wr.cell? ⟨b2, off2 + k * 1, none⟩ = some (.string (y)) := Sl.at_ hcells2 hy 0 rfl
      rw [Nat.mul_one] at e0 f0
      have HNE := Lib.hid (take_ne hx hy)
      have HEQ := Lib.hid (fun h => take_eq hx hy h HT.out)
      clear hcells hcells2 hx hy
      by_cases q0 : x = y
      case neg =>
        obtain ⟨b0, d0⟩ := bs_f q0
        have HQ := Lib.hid (HNE.out (fun e => q0 (by rw [e])))
        clear q0 HEQ HNE
        go_upto_region 6 with (fail)
        go_still_tail 8, (by kernel_rfl)
        change wpList _ _ _ _ _ wr.drew
        go_wp2_with fail
        go_ret
        exact ⟨⟨false, rfl, by simp [HQ.out]⟩, hb.drew⟩
      obtain ⟨b0, d0⟩ := bs_t q0
      have Q0 := Lib.hid q0
      clear q0
      have HE := Lib.hid (HEQ.out (Q0.out))
      clear HEQ HNE
      go_upto_region 6 with (fail)
      go_still_tail 8, (by kernel_rfl)
      change wpList _ _ _ _ _ wr.drew
      go_wp2_with fail
      go_roundw
      case rel => exact ⟨k + 1, by omega, by go_num, HE.out, hb.drew⟩
      case measure => simp [intOf]; omega
    · obtain rfl : k = n := by omega
      have hkn : ¬ ((k : Int) < (k : Int)) := by omega
      go_wp2_with fail
      go_ret
      exact ⟨⟨true, rfl, by simp [take_all HL.out HL2.out HT.out]⟩, hb⟩
theorem SaysEq.t {α : Type} {r : Ending} {x y : α} (h : SaysEq r x y) (e : x = y) : r = .returned (.bool true) := by
  obtain ⟨q, rfl, hq⟩ := h; rw [hq.2 e]
theorem SaysEq.f {α : Type} {r : Ending} {x y : α} (h : SaysEq r x y) (e : ¬ x = y) : r = .returned (.bool false) := by
  obtain ⟨q, rfl, hq⟩ := h; cases q
  · rfl
  · exact absurd (hq.1 rfl) e
end Cu
end Go.Proofs.Yteaanngagcflhaa
