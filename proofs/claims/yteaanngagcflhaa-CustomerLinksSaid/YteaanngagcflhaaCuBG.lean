/-
  Customers, in plain words: what hangs together. No condition.
-/
import Derived.Test.YteaanngagcflhaaCuAK
import Derived.BigQuiet
import Derived.StillTailTactics
import Derived.Lib.Overlaps
import Derived.Deep.DeepCutAuto
import Derived.Deep.RegionWith
set_option maxRecDepth 100000
set_option linter.unusedVariables false
set_option linter.unusedSimpArgs false
namespace Go.Proofs.Yteaanngagcflhaa
open Go.RowKit

namespace Cu
theorem since_step {b : Bk} {e : Ev} {t : Int} (he : e.at_ ≤ t) (ha : ∀ a ∈ b.accs, a.since ≤ t) (hs : ∀ s ∈ b.subs, s.since ≤ t) : (∀ a ∈ (applyR b e).accs, a.since ≤ t) ∧ ∀ s ∈ (applyR b e).subs, s.since ≤ t := by
  have hc : ∀ s : Sb, (chgR s e).since = s.since := fun s => by unfold chgR; (repeat' split) <;> rfl
  unfold applyR
  split
  · refine ⟨fun a h => ?_, hs⟩
    rcases List.mem_append.1 h with h | h
    · exact ha a h
    · rw [List.mem_singleton] at h; subst h; exact he
  split
  · refine ⟨fun a h => ?_, hs⟩
    rcases mapFirst_mem h with h | ⟨y, hy, rfl⟩
    · exact ha a h
    · exact ha y hy
  split
  · refine ⟨ha, fun s h => ?_⟩
    rcases List.mem_append.1 h with h | h
    · exact hs s h
    · rw [List.mem_singleton] at h; subst h; exact he
  split
  · exact ⟨ha, hs⟩
  · refine ⟨ha, fun s h => ?_⟩
    rcases mapFirst_mem h with h | ⟨y, hy, rfl⟩
    · exact hs s h
    · rw [hc]; exact hs y hy
theorem since_fold {t : Int} : ∀ (l : List Ev) (b : Bk), (∀ e ∈ l, e.at_ ≤ t) → (∀ a ∈ b.accs, a.since ≤ t) → (∀ s ∈ b.subs, s.since ≤ t) → (∀ a ∈ (l.foldl applyR b).accs, a.since ≤ t) ∧ ∀ s ∈ (l.foldl applyR b).subs, s.since ≤ t
  | [], b, _, ha, hs => ⟨ha, hs⟩
  | e :: l, b, he, ha, hs => by
    obtain ⟨h1, h2⟩ := since_step (he e List.mem_cons_self) ha hs
    exact since_fold l _ (fun e he' => he e (List.mem_cons_of_mem _ he')) h1 h2
theorem since_at (l : List Ev) (t : Int) : (∀ a ∈ (bkAt l t).accs, a.since ≤ t) ∧ ∀ s ∈ (bkAt l t).subs, s.since ≤ t :=
  since_fold _ _ (fun e he => by have := (List.mem_filter.1 he).2; unfold atB at this; simpa using this) (fun a h => by cases h) (fun s h => by cases h)
theorem cSubs_up (b : Bk) : (cSubs b).Pairwise (fun s t => s.id < t.id) := by
  unfold cSubs
  rw [List.pairwise_filterMap]
  refine (rngK_asc 9999).imp fun {a c} h s hs t ht => ?_
  rw [liveS_id hs, liveS_id ht]; exact h
theorem cAcc_id {b : Bk} {n : Int} {x : Ac × List Int} (h : cAcc b n = some x) : x.1.id = n ∧ findA b n = some x.1 ∧ x.2 = cOf (cSubs b) n := by
  unfold cAcc at h
  cases hf : findA b n with
  | none => rw [hf] at h; cases h
  | some a => rw [hf] at h; cases h; exact ⟨(findA_id hf).2, rfl, rfl⟩
theorem cAccs_up (b : Bk) : (cAccs b).Pairwise (fun s t => s.1.id < t.1.id) := by
  unfold cAccs
  rw [List.pairwise_filterMap]
  refine (rngK_asc 9999).imp fun {a c} h s hs t ht => ?_
  rw [(cAcc_id hs).1, (cAcc_id ht).1]; exact h
theorem cSubs_live {b : Bk} {s : Sb} (h : s ∈ cSubs b) : findS b s.id = some s ∧ endedB b s.id = false := by
  unfold cSubs at h
  obtain ⟨i, _, hi⟩ := List.mem_filterMap.1 h
  have h1 := liveS_id hi
  subst h1
  unfold liveS at hi
  split at hi
  · cases hi
  · rename_i he; exact ⟨hi, by simpa using he⟩
theorem cAccs_mem {b : Bk} {x : Ac × List Int} (h : x ∈ cAccs b) : findA b x.1.id = some x.1 ∧ x.2 = cOf (cSubs b) x.1.id := by
  unfold cAccs at h
  obtain ⟨i, _, hi⟩ := List.mem_filterMap.1 h
  obtain ⟨h1, h2, h3⟩ := cAcc_id hi
  subst h1
  exact ⟨h2, h3⟩
/-- the account of a subscription that is there -/
theorem sub_acc {b : Bk} (hb : Bok b) {s : Sb} (h : s ∈ cSubs b) : ∃ a, findA b s.acc = some a ∧ a.closed = false := by
  obtain ⟨h1, h2⟩ := cSubs_live h
  exact hb.oa s (findS_id h1).1 (by unfold liveB; rw [h2]; rfl)
theorem closed_nil {b : Bk} (hb : Bok b) {x : Ac × List Int} (h : x ∈ cAccs b) (hc : x.1.closed = true) : x.2 = [] := by
  obtain ⟨h1, h2⟩ := cAccs_mem h
  rw [h2]
  unfold cOf
  rw [List.map_eq_nil_iff, List.filter_eq_nil_iff]
  intro s hs he
  obtain ⟨a, ha, hac⟩ := sub_acc hb hs
  rw [beq_iff_eq] at he
  rw [he, h1] at ha
  cases ha
  rw [hac] at hc; cases hc
theorem cOf_up (b : Bk) (n : Int) : (cOf (cSubs b) n).Pairwise (· < ·) := by
  unfold cOf
  rw [List.pairwise_map]
  exact (cSubs_up b).sublist List.filter_sublist
theorem cOf_has {b : Bk} {s : Sb} (h : s ∈ cSubs b) : (cOf (cSubs b) s.acc).any (fun x => x == s.id) = true := by
  rw [List.any_eq_true]
  refine ⟨s.id, ?_, by simp⟩
  unfold cOf
  exact List.mem_map.2 ⟨s, List.mem_filter.2 ⟨h, by simp⟩, rfl⟩
theorem acc_find {b : Bk} (hb : Bok b) {s : Sb} (h : s ∈ cSubs b) : ∃ a, (cAccs b).find? (fun y => y.1.id == s.acc) = some (a, cOf (cSubs b) s.acc) := by
  obtain ⟨a, ha, _⟩ := sub_acc hb h
  refine ⟨a, ?_⟩
  rw [find_cAccs hb]
  unfold cAcc
  rw [ha]; rfl
/-- the links of the first accounts -/
def lnk (x : List (Ac × List Int)) (k : Nat) : Nat := ((x.take k).map fun y => y.2.length).sum
theorem lnk_succ {x : List (Ac × List Int)} {k : Nat} {y : Ac × List Int} (h : x[k]? = some y) : lnk x (k + 1) = lnk x k + y.2.length := by
  unfold lnk
  rw [List.take_add_one, h, Option.toList_some, List.map_append, List.sum_append]; simp
theorem sum_parts (f : Sb → Int) : ∀ (K : List Int) (S : List Sb), K.Nodup → (∀ s ∈ S, f s ∈ K) → (K.map fun k => (S.filter fun s => f s == k).length).sum = S.length
  | [], S, _, h => by
    cases S with
    | nil => rfl
    | cons s S => exact absurd (h s List.mem_cons_self) List.not_mem_nil
  | k :: K, S, hn, h => by
    obtain ⟨h1, h2⟩ := List.nodup_cons.1 hn
    have hr := sum_parts f K (S.filter fun s => f s != k) h2 fun s hs => by
      obtain ⟨a1, a2⟩ := List.mem_filter.1 hs
      rcases List.mem_cons.1 (h s a1) with e | e
      · rw [e] at a2; simp at a2
      · exact e
    have he : (K.map fun j => ((S.filter fun s => f s != k).filter fun s => f s == j).length) = K.map fun j => (S.filter fun s => f s == j).length := by
      refine List.map_congr_left fun j hj => ?_
      rw [List.filter_filter]
      congr 1
      refine List.filter_congr fun s _ => ?_
      by_cases e : f s = j
      · have : ¬ j = k := fun e2 => h1 (e2 ▸ hj)
        simp [e, this]
      · simp [e]
    rw [he] at hr
    rw [List.map_cons, List.sum_cons, hr]
    have := List.length_eq_countP_add_countP (fun s => f s == k) (l := S)
    rw [List.countP_eq_length_filter, List.countP_eq_length_filter] at this
    have e3 : (S.filter fun s => f s != k) = S.filter fun a => decide ¬ (f a == k) = true := List.filter_congr fun s _ => by by_cases e : f s = k <;> simp [e]
    rw [e3]
    omega
theorem lnk_all {b : Bk} (hb : Bok b) : lnk (cAccs b) (cAccs b).length = (cSubs b).length := by
  unfold lnk
  rw [List.take_length]
  have h1 : ((cAccs b).map fun y => y.2.length) = ((cAccs b).map fun y => y.1.id).map fun k => ((cSubs b).filter fun s => s.acc == k).length := by
    rw [List.map_map]
    refine List.map_congr_left fun y hy => ?_
    rw [(cAccs_mem hy).2]
    unfold cOf
    rw [List.length_map]; rfl
  rw [h1]
  refine sum_parts (fun s => s.acc) _ _ ?_ fun s hs => ?_
  · have := cAccs_up b
    rw [List.nodup_iff_pairwise_ne, List.pairwise_map]
    exact this.imp fun h => Int.ne_of_lt h
  · obtain ⟨a, ha⟩ := acc_find hb hs
    have h2 := List.mem_of_find?_eq_some ha
    have h3 := List.find?_some ha
    rw [beq_iff_eq] at h3
    exact List.mem_map.2 ⟨_, h2, h3⟩
theorem sum_take : ∀ (l : List Nat) (k : Nat), (l.take k).sum ≤ l.sum
  | [], k => by simp
  | a :: l, 0 => by simp
  | a :: l, k + 1 => by rw [List.take_succ_cons, List.sum_cons, List.sum_cons]; have := sum_take l k; omega
theorem lnk_le {b : Bk} (hb : Bok b) (k : Nat) : lnk (cAccs b) k ≤ (cSubs b).length := by
  rw [← lnk_all hb]
  unfold lnk
  rw [List.take_length, List.map_take]
  exact sum_take _ _
/-- no number belongs to two -/
theorem nums_apart {b : Bk} (hb : Bok b) {i k : Nat} {s t : Sb} (hs : (cSubs b)[i]? = some s) (ht : (cSubs b)[k]? = some t) (hki : k < i) {m : Nat} {x : ByteArray} (hx : s.nums[m]? = some x) : hasS t.nums x = false := by
  cases h : hasS t.nums x with
  | false => rfl
  | true =>
    exfalso
    have h1 : hasS s.nums x = true := by
      unfold hasS; rw [List.any_eq_true]; exact ⟨x, List.mem_of_getElem? hx, by unfold seq_; simp⟩
    have e := hb.dj _ _ _ _ x.toList (cSubs_live (List.mem_of_getElem? hs)).1 (cSubs_live (List.mem_of_getElem? ht)).1 h1 h
    obtain ⟨a1, rfl⟩ := List.getElem?_eq_some_iff.1 hs
    obtain ⟨a2, rfl⟩ := List.getElem?_eq_some_iff.1 ht
    have := List.pairwise_iff_getElem.1 (cSubs_up b) k i a2 a1 hki
    omega
theorem up_before {α : Type} {f : α → Int} {l : List α} (h : l.Pairwise (fun a b => f a < f b)) {k : Nat} {a b : α} (hk : 0 < k) (ha : l[k - 1]? = some a) (hb : l[k]? = some b) : f a < f b := by
  obtain ⟨a1, rfl⟩ := List.getElem?_eq_some_iff.1 ha
  obtain ⟨a2, rfl⟩ := List.getElem?_eq_some_iff.1 hb
  exact List.pairwise_iff_getElem.1 h (k - 1) k a1 a2 (by omega)
end Cu
end Go.Proofs.Yteaanngagcflhaa
