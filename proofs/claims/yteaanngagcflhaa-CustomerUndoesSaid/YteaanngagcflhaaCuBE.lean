/-
  Customers: what is undone, in plain words. No condition.
-/
import Derived.Test.YteaanngagcflhaaCuAN
import Derived.BigQuiet
import Derived.StillTailTactics
import Derived.Lib.Overlaps
import Derived.Deep.DeepCutAuto
import Derived.Deep.RegionWith
set_option maxRecDepth 100000
set_option linter.unusedVariables false
set_option linter.unusedSimpArgs false
namespace Go.Proofs.Yteaanngagcflhaa
open Go.RowKit

namespace Cu
theorem cutN_lt (t : Int) : ∀ (l : List Ev) (k : Nat) (y : Ev), k ≤ cutN l t → l[k]? = some y → (y.at_ ≤ t ↔ k < cutN l t)
  | [], k, y, _, h => by simp at h
  | e :: l, k, y, hk, h => by
    unfold cutN at hk ⊢
    rw [List.takeWhile_cons] at hk ⊢
    by_cases he : e.at_ ≤ t
    · rw [if_pos (decide_eq_true he)] at hk ⊢
      cases k with
      | zero => simp at h; subst h; simp [he]
      | succ k =>
        have := cutN_lt t l k y (by simp at hk; exact hk) (by simpa using h)
        rw [this, List.length_cons]; unfold cutN; omega
    · rw [if_neg (by simpa using he)] at hk ⊢
      have hk0 : k = 0 := by simpa using hk
      subst hk0
      simp at h; subst h; simp [he]
theorem cutN_le (l : List Ev) (t : Int) : cutN l t ≤ l.length := by unfold cutN; exact (List.takeWhile_prefix _).length_le
theorem filter_all {α : Type} {p : α → Bool} : ∀ {l : List α}, (∀ x ∈ l, p x = true) → l.filter p = l := fun h => List.filter_eq_self.2 h
theorem bk_cut {l : List Ev} (hv : Vl l) (t u : Int) (h : t ≤ u ∨ 12622780800 ≤ u) : bkAt (l.take (cutN l t)) u = bkAt l t := by
  have h1 : ∀ e ∈ l.take (cutN l t), e.at_ ≤ t ∧ e.at_ < 12622780800 := fun e he => by
    obtain ⟨k, hk⟩ := List.getElem?_of_mem he
    rw [List.getElem?_take] at hk
    split at hk
    · rename_i hlt
      exact ⟨(cutN_lt t l k e (by omega) hk).2 hlt, (hv.bnd hk).2⟩
    · cases hk
  unfold bkAt
  rw [filter_asc t l hv.pw, filter_all (fun e he => by unfold atB; rw [decide_eq_true_eq]; have := h1 e he; omega)]
theorem chk_take {l : List Ev} (hv : Vl l) (k : Nat) : chkL (l.take k) = (0, 0) := by
  have h := hv.take k
  exact chkL_ok (by have := h.1; omega) h.2
theorem sz_take {l : List Ev} (h : SzOk l) (k : Nat) : SzOk (l.take k) := fun e he => h e (List.mem_of_mem_take he)
/-! ### one list more at the end -/
theorem flt_app {l : List Ev} {e : Ev} {j : Nat} (hj : j < l.length) : fltN (l ++ [e]) j = fltN l j := by
  have h1 := flt_take (l ++ [e]) l.length j hj
  rw [List.take_left] at h1
  exact h1.symm
theorem bkN_app {l : List Ev} {e : Ev} : bkN (l ++ [e]) l.length = bkN l l.length := by
  unfold bkN; rw [List.take_left, List.take_length]
theorem lastN_app {l : List Ev} {e : Ev} : lastN (l ++ [e]) l.length = lastN l l.length := by
  unfold lastN
  cases h : l.length with
  | zero => rfl
  | succ k => dsimp only; rw [List.getElem?_append_left (by omega)]
theorem flt_end (l : List Ev) (e : Ev) : fltN (l ++ [e]) l.length = faultR (bkN l l.length) e (lastN l l.length) := by
  unfold fltN
  rw [List.getElem?_append_right (Nat.le_refl _), Nat.sub_self]
  show faultR _ _ _ = _
  rw [bkN_app, lastN_app]
theorem chk_app {l : List Ev} (hv : Vl l) (e : Ev) : (chkL (l ++ [e])).2 = faultR (bkN l l.length) e (lastN l l.length) := by
  have h40 := hv.1
  have hn : ¬ 4096 < (l ++ [e]).length := by simp; omega
  by_cases hf : faultR (bkN l l.length) e (lastN l l.length) = 0
  · rw [chkL_ok hn, hf]
    intro j hj
    rw [List.length_append, List.length_singleton] at hj
    by_cases h : j < l.length
    · rw [flt_app h]; exact hv.2 j h
    · obtain rfl : j = l.length := by omega
      rw [flt_end]; exact hf
  · rw [chkL_bad (m := l.length) hn (by simp) (fun j hj => by rw [flt_app hj]; exact hv.2 j hj) (by rw [flt_end]; exact hf), flt_end]
theorem vl_app {l : List Ev} (hv : Vl l) {e : Ev} (h39 : l.length ≤ 39) (hf : faultR (bkN l l.length) e (lastN l l.length) = 0) : Vl (l ++ [e]) := by
  refine ⟨by simp; omega, fun j hj => ?_⟩
  rw [List.length_append, List.length_singleton] at hj
  by_cases h : j < l.length
  · rw [flt_app h]; exact hv.2 j h
  · obtain rfl : j = l.length := by omega
    rw [flt_end]; exact hf
theorem last_max {l : List Ev} (hv : Vl l) {e : Ev} (he : e ∈ l) : e.at_ ≤ lastN l l.length := by
  obtain ⟨k, hk⟩ := List.getElem?_of_mem he
  have hlt := (List.getElem?_eq_some_iff.1 hk).1
  unfold lastN
  cases h : l.length with
  | zero => omega
  | succ m =>
    dsimp only
    obtain ⟨y, hy⟩ : ∃ y, l[m]? = some y := ⟨_, List.getElem?_eq_getElem (by omega)⟩
    rw [hy]
    exact hv.asc k m e y (by omega) hk hy
theorem takeWhile_all {α : Type} {p : α → Bool} : ∀ {l : List α}, (∀ x ∈ l, p x = true) → l.takeWhile p = l
  | [], _ => rfl
  | x :: l, h => by rw [List.takeWhile_cons, if_pos (h x (List.mem_cons_self)), takeWhile_all fun y hy => h y (List.mem_cons_of_mem _ hy)]
theorem cut_all {l : List Ev} (t : Int) (h : ∀ e ∈ l, e.at_ ≤ t) : cutN l t = l.length := by
  unfold cutN; rw [takeWhile_all fun e he => decide_eq_true (h e he)]
theorem ins_last {l : List Ev} (hv : Vl l) {e : Ev} (he : e.at_ = lastN l l.length) : insL l e = l ++ [e] := by
  have h := cut_all e.at_ (fun x hx => by rw [he]; exact last_max hv hx)
  unfold insL
  rw [h, List.take_length, List.drop_length, List.append_nil]
theorem bk_last {l : List Ev} (hv : Vl l) (t : Int) (ht : t = lastN l l.length) : bkAt l t = bkN l l.length := by
  unfold bkAt bkN
  rw [filter_all (fun e he => by unfold atB; rw [decide_eq_true_eq, ht]; exact last_max hv he), List.take_length]
theorem lastN_snoc {l : List Ev} {e : Ev} : lastN (l ++ [e]) (l ++ [e]).length = e.at_ := by
  rw [List.length_append, List.length_singleton]
  show (match (l ++ [e])[l.length]? with | some e => e.at_ | none => 0) = e.at_
  rw [List.getElem?_append_right (Nat.le_refl _), Nat.sub_self]; rfl
theorem bkN_snoc {l : List Ev} {e : Ev} : bkN (l ++ [e]) (l ++ [e]).length = applyR (bkN l l.length) e := by
  unfold bkN; rw [List.take_length, List.take_length, List.foldl_append]; rfl
/-! ### lists of strings -/
theorem rem_none {x : ByteArray} : ∀ {l : List ByteArray}, hasS l x = false → remS l x = l := fun {l} h => by
  unfold remS hasS at *
  rw [List.any_eq_false] at h
  exact List.filter_eq_self.2 fun y hy => by have := h y hy; simpa using this
theorem seq_self (x : ByteArray) : seq_ x x = true := by unfold seq_; simp
theorem rem_ins {x : ByteArray} : ∀ {l : List ByteArray}, hasS l x = false → remS (insS l x) x = l
  | [], _ => by simp [insS, remS, seq_self]
  | y :: l, h => by
    have h1 : seq_ y x = false := by unfold hasS at h; rw [List.any_cons, Bool.or_eq_false_iff] at h; exact h.1
    have h2 : hasS l x = false := by unfold hasS at h ⊢; rw [List.any_cons, Bool.or_eq_false_iff] at h; exact h.2
    unfold insS
    split
    · have ih := rem_ins h2
      unfold remS at ih ⊢
      rw [List.filter_cons_of_pos (by simp [h1]), ih]
    · have ih := rem_none h
      unfold remS at ih ⊢
      rw [List.filter_cons_of_neg (by simp [seq_self]), ih]
theorem has_ins {x : ByteArray} : ∀ {l : List ByteArray}, hasS (insS l x) x = true
  | [] => by simp [insS, hasS, seq_self]
  | y :: l => by
    unfold insS
    split
    · have ih := has_ins (x := x) (l := l)
      unfold hasS at ih ⊢
      rw [List.any_cons, ih, Bool.or_true]
    · unfold hasS; rw [List.any_cons, seq_self, Bool.true_or]
/-! ### what is changed and changed back -/
theorem mapFirst_undo {α : Type} {p : α → Bool} {f g : α → α} (hp : ∀ x, p (f x) = p x) : ∀ {l : List α} {s : α}, l.find? p = some s → g (f s) = s → mapFirst p g (mapFirst p f l) = l
  | [], _, h, _ => by cases h
  | x :: l, s, h, hg => by
    have e1 : ∀ (f : α → α) (x : α) (l : List α), mapFirst p f (x :: l) = if p x = true then f x :: l else x :: mapFirst p f l := fun _ _ _ => rfl
    by_cases hx : p x = true
    · rw [List.find?_cons_of_pos hx] at h
      cases h
      rw [e1, if_pos hx, e1, if_pos ((hp x).trans hx), hg]
    · rw [List.find?_cons_of_neg hx] at h
      rw [e1, if_neg hx, e1, if_neg hx, mapFirst_undo hp h hg]
/-- the event that undoes another -/
def undoE (e : Ev) : Ev := { e with kind := e.kind + 1 }
def undK (k : Int) : Prop := k = 5 ∨ k = 8 ∨ k = 10 ∨ k = 12
theorem form_undo {e : Ev} {last : Int} (hk : undK e.kind) (hl : last ≤ e.at_) (h : formR e last = 0) : formR (undoE e) e.at_ = 0 := by
  obtain ⟨a, k, ac, sb, nu, na, vl⟩ := e
  unfold undK at hk
  dsimp only at hk hl ⊢
  unfold formR at h ⊢
  unfold undoE
  dsimp only at h ⊢
  rcases hk with rfl | rfl | rfl | rfl
  all_goals
    rw [if_neg (by omega)] at h ⊢
    split at h
    · cases h
    rename_i ht
    rw [if_neg ht]
    rw [if_neg (by omega)] at h
    rw [if_neg (by omega)]
    exact h
theorem fault_of {b : Bk} {e : Ev} {last : Int} (hu : uA e.kind = false) (h1 : formR e last = 0) (h2 : ofSub b e = 0) : faultR b e last = 0 := by
  unfold faultR
  rw [if_neg (by simp [h1]), if_neg (by simp [hu])]
  exact h2
/-- a subscription changed and changed back -/
theorem chg_undo {b : Bk} {e : Ev} (hk : undK e.kind) (h : ofSub b e = 0) : ∃ s, findS b e.sub = some s ∧ endedB b e.sub = false ∧ chgR (chgR s e) (undoE e) = s ∧ chgR s e ≠ s ∧
    (∀ b', findS b' e.sub = some (chgR s e) → endedB b' e.sub = false → ofSub b' (undoE e) = 0) := by
  unfold ofSub at h
  cases hf : findS b e.sub with
  | none => rw [hf] at h; cases h
  | some s =>
    rw [hf] at h
    dsimp only at h
    by_cases he : endedB b e.sub = true
    · rw [if_pos he] at h; cases h
    rw [if_neg he] at h
    refine ⟨s, rfl, by simpa using he, ?_⟩
    have hmem : s ∈ b.subs := List.mem_of_find?_eq_some hf
    obtain ⟨a, k, ac, sub, nu, na, vl⟩ := e
    obtain ⟨si, sa, ss, sp, sn, sd, su, sf⟩ := s
    unfold undK at hk
    dsimp only at hk h ⊢
    rcases hk with rfl | rfl | rfl | rfl
    · have hno : hasS sn nu = false := by
        cases hh : hasS sn nu
        · rfl
        · rw [if_pos rfl, if_pos (show takenB b nu = true from List.any_eq_true.2 ⟨_, hmem, hh⟩)] at h; cases h
      refine ⟨by simp [chgR, undoE, rem_ins hno], fun e => ?_, fun b' h1 h2 => ?_⟩
      · have := congrArg Sb.nums e
        simp only [chgR] at this
        have h3 := has_ins (x := nu) (l := sn)
        simp at this
        rw [this, hno] at h3; cases h3
      · simp [ofSub, undoE, h1, h2, chgR, has_ins]
    · have hno : hasS sd na = false := by
        cases hh : hasS sd na
        · rfl
        · simp [hh] at h
      refine ⟨by simp [chgR, undoE, rem_ins hno], fun e => ?_, fun b' h1 h2 => ?_⟩
      · have := congrArg Sb.prods e
        simp only [chgR] at this
        have h3 := has_ins (x := na) (l := sd)
        simp at this
        rw [this, hno] at h3; cases h3
      · simp [ofSub, undoE, h1, h2, chgR, has_ins]
    · have hno : su = false := by cases su <;> simp at h ⊢
      subst hno
      exact ⟨by simp [chgR, undoE], by simp [chgR], fun b' h1 h2 => by simp [ofSub, undoE, h1, h2, chgR]⟩
    · have hno : sf = false := by cases sf <;> simp at h ⊢
      subst hno
      exact ⟨by simp [chgR, undoE], by simp [chgR], fun b' h1 h2 => by simp [ofSub, undoE, h1, h2, chgR]⟩
theorem apply_mid {b : Bk} {e : Ev} (h4 : 5 ≤ e.kind) (h13 : e.kind ≤ 13) : applyR b e = { b with subs := mapFirst (fun s => s.id == e.sub) (fun s => chgR s e) b.subs } := by
  unfold applyR
  rw [if_neg (by omega), if_neg (by omega), if_neg (by omega), if_neg (by omega), if_neg (by omega)]
/-- what is undone leaves the book as it was; what is done does not -/
theorem undo_bk {b : Bk} (hb : Bok b) {s0 : St} (hi : Inv s0 b) {e : Ev} {last : Int} (hk : undK e.kind) (hl : last ≤ e.at_) (hf : faultR b e last = 0) :
    faultR (applyR b e) (undoE e) e.at_ = 0 ∧ applyR (applyR b e) (undoE e) = b ∧ cSubs (applyR b e) ≠ cSubs b := by
  have hu : uA e.kind = false := by unfold undK at hk; unfold uA; rcases hk with h | h | h | h <;> rw [h] <;> rfl
  have hu2 : uA (undoE e).kind = false := by unfold undK at hk; unfold uA undoE; dsimp only; rcases hk with h | h | h | h <;> rw [h] <;> rfl
  obtain ⟨h1, h2⟩ := of_sub hf hu
  obtain ⟨s, hs, hen, hback, hne, hof⟩ := chg_undo hk h2
  have e1 : applyR b e = { b with subs := mapFirst (fun s => s.id == e.sub) (fun s => chgR s e) b.subs } := apply_mid (by unfold undK at hk; omega) (by unfold undK at hk; omega)
  have hF : findS (applyR b e) e.sub = some (chgR s e) := by
    rw [e1]
    have := find_mapFirst Sb.id (fun s => chgR s e) (fun s => chgR_id s e) e.sub e.sub b.subs
    unfold findS at hs ⊢
    rw [this, if_pos rfl, hs]; rfl
  have hE : endedB (applyR b e) e.sub = false := by rw [e1]; exact hen
  refine ⟨fault_of hu2 (form_undo hk hl h1) (hof _ hF hE), ?_, fun hc => ?_⟩
  · rw [apply_mid (e := undoE e) (by unfold undK at hk; unfold undoE; dsimp only; omega) (by unfold undK at hk; unfold undoE; dsimp only; omega), e1]
    have := mapFirst_undo (p := fun s => s.id == e.sub) (f := fun s => chgR s e) (g := fun s => chgR s (undoE e)) (fun x => by simp only [chgR_id]) (show b.subs.find? (fun s => s.id == e.sub) = some s from hs) hback
    show ({ b with subs := mapFirst (fun s => s.id == e.sub) (fun s => chgR s (undoE e)) (mapFirst (fun s => s.id == e.sub) (fun s => chgR s e) b.subs) } : Bk) = b
    rw [this]
  · have hb' := (apply_inv hi hb e last hf).2
    have g1 := find_cSubs hb' e.sub
    have g2 := find_cSubs hb e.sub
    rw [hc, g2] at g1
    unfold liveS at g1
    rw [if_neg (by simp [hen]), if_neg (by simp [hE]), hs, hF] at g1
    exact hne (Option.some.inj g1).symm
end Cu
end Go.Proofs.Yteaanngagcflhaa
