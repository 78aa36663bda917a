/-
  Customers in plain words: lists of events, what they say of an instant. No condition.
-/
import Derived.Test.YteaanngagcflhaaKc02
import Derived.Test.YteaanngagcflhaaKc00
import Derived.Test.YteaanngagcflhaaKc01
import Derived.Test.YteaanngagcflhaaRows
import Derived.BigQuiet
import Derived.StillTailTactics
import Derived.Lib.Overlaps
import Derived.Deep.DeepCutAuto
import Derived.Deep.RegionWith
import Derived.Laws.RangeAny
import Derived.RangeFuncNested
set_option maxRecDepth 100000
set_option linter.unusedVariables false
set_option linter.unusedSimpArgs false
namespace Go.Proofs.Yteaanngagcflhaa
open Go Go.RowKit
namespace Cu
def rngK (k : Nat) : List Int := (List.range k).map fun i : Nat => (i : Int) + 1
theorem rngK_asc (k : Nat) : (rngK k).Pairwise (· < ·) := by
  unfold rngK
  rw [List.pairwise_map]
  exact List.Pairwise.imp (fun h => by omega) List.pairwise_lt_range
theorem rngK_mem {k : Nat} {x : Int} : x ∈ rngK k ↔ 1 ≤ x ∧ x ≤ k := by
  unfold rngK
  rw [List.mem_map]
  constructor
  · rintro ⟨i, hi, rfl⟩; rw [List.mem_range] at hi; omega
  · rintro ⟨h1, h2⟩; exact ⟨(x - 1).toNat, List.mem_range.2 (by omega), by omega⟩
theorem fm_asc {β : Type} (f : Int → Option β) : ∀ (r l : List Int), r.Pairwise (· < ·) → l.Pairwise (· < ·) → (∀ x ∈ l, x ∈ r) → (∀ x ∈ r, x ∉ l → f x = none) → l.filterMap f = r.filterMap f
  | [], l, _, _, hm, _ => by
    cases l with
    | nil => rfl
    | cons y l => cases hm y (List.mem_cons_self ..)
  | x :: r, [], _, _, _, hn => by
    symm
    rw [List.filterMap_nil, List.filterMap_eq_nil_iff]
    exact fun y hy => hn y hy (by simp)
  | x :: r, y :: l, hr, hl, hm, hn => by
    obtain ⟨r1, r2⟩ := List.pairwise_cons.1 hr
    obtain ⟨l1, l2⟩ := List.pairwise_cons.1 hl
    by_cases hxy : y = x
    · subst hxy
      rw [List.filterMap_cons, List.filterMap_cons, fm_asc f r l r2 l2]
      · intro z hz
        have := l1 z hz
        rcases List.mem_cons.1 (hm z (List.mem_cons_of_mem _ hz)) with rfl | h
        · omega
        · exact h
      · intro z hz hzl
        refine hn z (List.mem_cons_of_mem _ hz) fun h => ?_
        rcases List.mem_cons.1 h with rfl | h
        · have := r1 z hz; omega
        · exact hzl h
    · have hyr : y ∈ r := by
        rcases List.mem_cons.1 (hm y (List.mem_cons_self ..)) with h | h
        · exact absurd h hxy
        · exact h
      have hxl : x ∉ y :: l := fun h => by
        have := r1 y hyr
        rcases List.mem_cons.1 h with h | h
        · omega
        · have := l1 x h; omega
      rw [List.filterMap_cons (a := x), hn x (List.mem_cons_self ..) hxl]
      refine fm_asc f r (y :: l) r2 hl (fun z hz => ?_) (fun z hz hzl => hn z (List.mem_cons_of_mem _ hz) hzl)
      rcases List.mem_cons.1 (hm z hz) with rfl | h
      · exact absurd hz hxl
      · exact h
def liveS (b : Bk) (n : Int) : Option Sb := if endedB b n = true then none else findS b n
def cSubs (b : Bk) : List Sb := (rngK 9999).filterMap (liveS b)
def cOf (subs : List Sb) (n : Int) : List Int := (subs.filter fun t => t.acc == n).map (·.id)
def cAcc (b : Bk) (n : Int) : Option (Ac × List Int) := (findA b n).map fun a => (a, cOf (cSubs b) n)
def cAccs (b : Bk) : List (Ac × List Int) := (rngK 9999).filterMap (cAcc b)
def pSubs (s : St) (l : List Int) : List Sb := l.filterMap s.sub
def pOf (s : St) (l : List Int) (n : Int) : List Int := l.filter fun i => match s.sub i with
  | some t => t.acc == n
  | none => false
def pAccs (s : St) (l : List Int) : List (Ac × List Int) := l.map fun n => ((s.acc n).getD ac0, pOf s s.added n)
theorem liveS_id {b : Bk} {n : Int} {t : Sb} (h : liveS b n = some t) : t.id = n := by
  unfold liveS at h
  split at h
  · cases h
  · exact (findS_id h).2
theorem of_filterMap (f : Int → Option Sb) (hf : ∀ i t, f i = some t → t.id = i) (n : Int) : ∀ l : List Int, cOf (l.filterMap f) n = l.filter fun i => match f i with
    | some t => t.acc == n
    | none => false
  | [] => rfl
  | x :: l => by
    have ih := of_filterMap f hf n l
    rw [List.filterMap_cons]
    cases hx : f x with
    | none =>
      rw [List.filter_cons_of_neg (by rw [hx]; simp)]
      exact ih
    | some t =>
      unfold cOf at ih ⊢
      by_cases ht : (t.acc == n) = true
      · rw [List.filter_cons_of_pos (by simpa using ht), List.filter_cons_of_pos (by rw [hx]; exact ht), List.map_cons, ih, hf x t hx]
      · rw [List.filter_cons_of_neg (by simpa using ht), List.filter_cons_of_neg (by rw [hx]; exact ht)]
        exact ih
theorem cust_subs {s : St} {b : Bk} (hi : Inv s b) (hb : Bok b) : pSubs s s.added = cSubs b := by
  unfold pSubs cSubs
  have hf : s.sub = liveS b := funext fun n => hi.sub n
  rw [hf]
  refine fm_asc _ _ _ (rngK_asc _) hi.added.1 (fun x hx => ?_) (fun x _ hx => ?_)
  · have := (hi.added.2 x).1 hx
    cases h : findS b x with
    | none => rw [h] at this; cases this
    | some t =>
      have h2 := findS_id h
      have := hb.sr t h2.1
      rw [h2.2] at this
      exact rngK_mem.2 (by omega)
  · unfold liveS
    split
    · rfl
    · cases h : findS b x with
      | none => rfl
      | some t => exact absurd ((hi.added.2 x).2 (by rw [h]; rfl)) hx
theorem cust_of {s : St} {b : Bk} (hi : Inv s b) (hb : Bok b) (n : Int) : pOf s s.added n = cOf (cSubs b) n := by
  rw [← cust_subs hi hb]
  unfold pSubs pOf
  have hf : s.sub = liveS b := funext fun n => hi.sub n
  rw [hf]
  exact (of_filterMap (liveS b) (fun i t h => liveS_id h) n s.added).symm
theorem map_filterMap {α β : Type} (f : α → Option β) (g : α → β) : ∀ l : List α, (∀ x ∈ l, f x = some (g x)) → l.map g = l.filterMap f
  | [], _ => rfl
  | x :: l, h => by rw [List.map_cons, List.filterMap_cons, h x (List.mem_cons_self ..), map_filterMap f g l fun y hy => h y (List.mem_cons_of_mem _ hy)]
theorem cust_accs {s : St} {b : Bk} (hi : Inv s b) (hb : Bok b) : pAccs s s.opened = cAccs b := by
  unfold pAccs cAccs
  rw [map_filterMap (cAcc b)]
  · refine fm_asc _ _ _ (rngK_asc _) hi.opened.1 (fun x hx => ?_) (fun x _ hx => ?_)
    · have := (hi.opened.2 x).1 hx
      cases h : findA b x with
      | none => rw [h] at this; cases this
      | some t =>
        have h2 := findA_id h
        have := hb.ar t h2.1
        rw [h2.2] at this
        exact rngK_mem.2 (by omega)
    · unfold cAcc
      cases h : findA b x with
      | none => rfl
      | some t => exact absurd ((hi.opened.2 x).2 (by rw [h]; rfl)) hx
  · intro n hn
    have := (hi.opened.2 n).1 hn
    unfold cAcc
    rw [hi.acc, cust_of hi hb]
    cases h : findA b n with
    | none => rw [h] at this; cases this
    | some a => rfl
theorem fm_len {α : Type} (g : α → Int) (f : Int → Option α) (hf : ∀ i t, f i = some t → g t = i) : ∀ (r : List Int) (L : List α), r.Pairwise (· < ·) → (∀ i ∈ r, ∀ t, f i = some t → t ∈ L) → (r.filterMap f).length ≤ L.length
  | [], L, _, _ => Nat.zero_le _
  | x :: r, L, hr, hm => by
    obtain ⟨r1, r2⟩ := List.pairwise_cons.1 hr
    rw [List.filterMap_cons]
    cases hx : f x with
    | none => exact fm_len g f hf r L r2 fun i hi t ht => hm i (List.mem_cons_of_mem _ hi) t ht
    | some t =>
      have ht := hm x (List.mem_cons_self ..) t hx
      have h1 := fm_len g f hf r (L.filter fun u => g u != x) r2 fun i hi u hu => by
        refine List.mem_filter.2 ⟨hm i (List.mem_cons_of_mem _ hi) u hu, ?_⟩
        have := hf i u hu
        have := r1 i hi
        simp; omega
      have h2 : (L.filter fun u => g u != x).length < L.length := by
        refine List.length_filter_lt_length_iff_exists.2 ⟨t, ht, ?_⟩
        have := hf x t hx
        simp [this]
      rw [List.length_cons]
      omega
theorem subs_len {b : Bk} (hb : Bok b) : ((rngK 9999).filterMap (liveS b)).length + b.ended.length ≤ b.subs.length := by
  have := fm_len Sb.id (liveS b) (fun i t h => liveS_id h) (rngK 9999) (b.subs.filter (liveB b)) (rngK_asc _) (fun i _ t ht => by
    have hid := liveS_id ht
    unfold liveS at ht
    split at ht
    · cases ht
    · rename_i he
      refine List.mem_filter.2 ⟨(findS_id ht).1, ?_⟩
      unfold liveB
      rw [hid]
      simpa using he)
  have := hb.cnt
  omega
def bkN (l : List Ev) (k : Nat) : Bk := (l.take k).foldl applyR bk0
def stN (l : List Ev) (k : Nat) : St := (l.take k).foldl applyP st0
def lastN (l : List Ev) (k : Nat) : Int := match k with
  | 0 => 0
  | k + 1 => match l[k]? with
    | some e => e.at_
    | none => 0
def fltN (l : List Ev) (k : Nat) : Int := match l[k]? with
  | some e => faultR (bkN l k) e (lastN l k)
  | none => 0
def chkGo (l : List Ev) : Nat → Nat → Int × Int
  | 0, _ => (0, 0)
  | f + 1, k => if fltN l k ≠ 0 then ((k : Int), fltN l k) else chkGo l f (k + 1)
def chkL (l : List Ev) : Int × Int := if 4096 < l.length then (0, 5) else chkGo l l.length 0
theorem bkN_succ {l : List Ev} {k : Nat} {e : Ev} (h : l[k]? = some e) : bkN l (k + 1) = applyR (bkN l k) e := by
  unfold bkN
  rw [List.take_add_one, h, Option.toList_some, List.foldl_append]; rfl
theorem stN_succ {l : List Ev} {k : Nat} {e : Ev} (h : l[k]? = some e) : stN l (k + 1) = applyP (stN l k) e := by
  unfold stN
  rw [List.take_add_one, h, Option.toList_some, List.foldl_append]; rfl
theorem chkGo_ok (l : List Ev) : ∀ (f k : Nat), (∀ j, k ≤ j → j < k + f → fltN l j = 0) → chkGo l f k = (0, 0)
  | 0, _, _ => rfl
  | f + 1, k, h => by
    unfold chkGo
    rw [if_neg (by rw [h k (Nat.le_refl _) (by omega)]; simp)]
    exact chkGo_ok l f (k + 1) fun j h1 h2 => h j (by omega) (by omega)
theorem chkGo_bad (l : List Ev) : ∀ (f k m : Nat), k ≤ m → m < k + f → (∀ j, k ≤ j → j < m → fltN l j = 0) → fltN l m ≠ 0 → chkGo l f k = ((m : Int), fltN l m)
  | 0, k, m, h1, h2, _, _ => absurd h2 (by omega)
  | f + 1, k, m, h1, h2, h, hm => by
    unfold chkGo
    by_cases hk : k = m
    · subst hk; rw [if_pos hm]
    · rw [if_neg (by rw [h k (Nat.le_refl _) (by omega)]; simp)]
      exact chkGo_bad l f (k + 1) m (by omega) (by omega) (fun j a b => h j (by omega) b) hm
theorem chkGo_zero (l : List Ev) : ∀ (f k : Nat), (chkGo l f k).2 = 0 → ∀ j, k ≤ j → j < k + f → fltN l j = 0
  | 0, k, _, j, h1, h2 => absurd h2 (by omega)
  | f + 1, k, h, j, h1, h2 => by
    unfold chkGo at h
    by_cases hz : fltN l k = 0
    · rw [if_neg (by rw [hz]; simp)] at h
      by_cases hj : j = k
      · rw [hj]; exact hz
      · exact chkGo_zero l f (k + 1) h j (by omega) (by omega)
    · rw [if_pos hz] at h; exact absurd h hz
theorem chkL_ok {l : List Ev} (h : ¬ 4096 < l.length) (ha : ∀ j, j < l.length → fltN l j = 0) : chkL l = (0, 0) := by unfold chkL; rw [if_neg h]; exact chkGo_ok l _ _ fun j _ h2 => ha j (by omega)
theorem chkL_bad {l : List Ev} (h : ¬ 4096 < l.length) {m : Nat} (hm : m < l.length) (ha : ∀ j, j < m → fltN l j = 0) (hf : fltN l m ≠ 0) : chkL l = ((m : Int), fltN l m) := by unfold chkL; rw [if_neg h]; exact chkGo_bad l _ _ m (Nat.zero_le _) (by omega) (fun j _ h2 => ha j h2) hf
theorem chkL_zero {l : List Ev} (h : (chkL l).2 = 0) : l.length ≤ 4096 ∧ ∀ j, j < l.length → fltN l j = 0 := by
  unfold chkL at h
  split at h
  · cases h
  · exact ⟨by omega, fun j hj => chkGo_zero l _ _ h j (Nat.zero_le _) (by omega)⟩
theorem inv_upto {l : List Ev} : ∀ k, k ≤ l.length → (∀ j, j < k → fltN l j = 0) → Inv (stN l k) (bkN l k) ∧ Bok (bkN l k)
  | 0, _, _ => ⟨inv0, bok0⟩
  | k + 1, hk, h => by
    obtain ⟨i1, b1⟩ := inv_upto k (by omega) fun j hj => h j (by omega)
    have he : l[k]? = some (l[k]'(by omega)) := List.getElem?_eq_getElem _
    rw [bkN_succ he, stN_succ he]
    have hf := h k (by omega)
    unfold fltN at hf
    rw [he] at hf
    exact apply_inv i1 b1 _ _ hf
def Vl (l : List Ev) : Prop := l.length ≤ 40 ∧ ∀ j, j < l.length → fltN l j = 0
theorem flt_last {l : List Ev} {k : Nat} {e : Ev} (he : l[k]? = some e) (h : fltN l k = 0) : 0 ≤ e.at_ ∧ e.at_ < 12622780800 ∧ lastN l k ≤ e.at_ := by
  unfold fltN at h
  rw [he] at h
  simp only [faultR] at h
  by_cases h1 : formR e (lastN l k) = 0
  · unfold formR at h1
    by_cases hk : e.kind < 1 ∨ 15 < e.kind
    · rw [if_pos hk] at h1; cases h1
    rw [if_neg hk] at h1
    by_cases ht : e.at_ < 0 ∨ 12622780800 ≤ e.at_
    · rw [if_pos ht] at h1; cases h1
    rw [if_neg ht] at h1
    by_cases hl : e.at_ < lastN l k
    · rw [if_pos hl] at h1; cases h1
    · omega
  · rw [if_pos h1] at h; exact absurd h h1
theorem Vl.asc {l : List Ev} (h : Vl l) : ∀ (i j : Nat) (a b : Ev), i ≤ j → l[i]? = some a → l[j]? = some b → a.at_ ≤ b.at_ := by
  intro i j a b hij ha hb
  obtain ⟨d, rfl⟩ := Nat.exists_eq_add_of_le hij
  clear hij
  induction d generalizing b with
  | zero => rw [Nat.add_zero, ha] at hb; cases hb; exact Int.le_refl _
  | succ d ih =>
    have hlt := (List.getElem?_eq_some_iff.1 hb).1
    have hc : l[i + d]? = some (l[i + d]'(by omega)) := List.getElem?_eq_getElem _
    have h1 := ih _ hc
    have h2 := (flt_last (k := i + d + 1) hb (h.2 _ (by omega))).2.2
    unfold lastN at h2
    simp only [hc] at h2
    omega
theorem Vl.bnd {l : List Ev} (h : Vl l) {i : Nat} {a : Ev} (ha : l[i]? = some a) : 0 ≤ a.at_ ∧ a.at_ < 12622780800 := by
  have := flt_last ha (h.2 i (List.getElem?_eq_some_iff.1 ha).1)
  omega
theorem flt_take (l : List Ev) (k j : Nat) (hj : j < k) : fltN (l.take k) j = fltN l j := by
  unfold fltN
  rw [List.getElem?_take_of_lt hj]
  cases h : l[j]? with
  | none => rfl
  | some e =>
    have e1 : bkN (l.take k) j = bkN l j := by unfold bkN; rw [List.take_take, Nat.min_eq_left (by omega)]
    have e2 : lastN (l.take k) j = lastN l j := by
      cases j with
      | zero => rfl
      | succ j => simp only [lastN]; rw [List.getElem?_take_of_lt (by omega)]
    simp only [e1, e2]
theorem Vl.take {l : List Ev} (h : Vl l) (k : Nat) : Vl (l.take k) := by
  refine ⟨by rw [List.length_take]; have := h.1; omega, fun j hj => ?_⟩
  rw [List.length_take] at hj
  rw [flt_take l k j (by omega)]
  exact h.2 j (by omega)
def cutN (l : List Ev) (t : Int) : Nat := (l.takeWhile fun e => decide (e.at_ ≤ t)).length
def atB (t : Int) (e : Ev) : Bool := decide (e.at_ ≤ t)
theorem filter_asc (t : Int) : ∀ l : List Ev, l.Pairwise (fun a b => a.at_ ≤ b.at_) → l.filter (atB t) = l.take (cutN l t)
  | [], _ => rfl
  | x :: l, h => by
    obtain ⟨h1, h2⟩ := List.pairwise_cons.1 h
    unfold cutN
    by_cases hx : x.at_ ≤ t
    · rw [List.filter_cons_of_pos (by simpa [atB] using hx), List.takeWhile_cons_of_pos (by simpa using hx), List.length_cons, List.take_succ_cons, filter_asc t l h2]
      rfl
    · rw [List.filter_cons_of_neg (by simpa [atB] using hx), List.takeWhile_cons_of_neg (by simpa using hx), List.length_nil, List.take_zero, List.filter_eq_nil_iff]
      intro y hy
      have := h1 y hy
      simp [atB]; omega
theorem Vl.pw {l : List Ev} (h : Vl l) : l.Pairwise (fun a b => a.at_ ≤ b.at_) := by
  rw [List.pairwise_iff_getElem]
  intro i j hi hj hij
  exact h.asc i j _ _ (by omega) (List.getElem?_eq_getElem hi) (List.getElem?_eq_getElem hj)
def bkAt (l : List Ev) (t : Int) : Bk := (l.filter (atB t)).foldl applyR bk0
def stAt (l : List Ev) (t : Int) : St := (l.filter (atB t)).foldl applyP st0
theorem at_inv {l : List Ev} (h : Vl l) (t : Int) : Inv (stAt l t) (bkAt l t) ∧ Bok (bkAt l t) := by
  unfold stAt bkAt
  rw [filter_asc t l h.pw]
  have hv := h.take (cutN l t)
  have := inv_upto (l := l.take (cutN l t)) (l.take (cutN l t)).length (Nat.le_refl _) hv.2
  unfold stN bkN at this
  rw [List.take_length] at this
  exact this
end Cu
end Go.Proofs.Yteaanngagcflhaa
namespace Go.Proofs.Yteaanngagcflhaa
open Go.RowKit
namespace Dg
theorem take_snoc (s : ByteArray) (k : Nat) (h : k < s.size) : s.data.toList.take (k + 1) = s.data.toList.take k ++ [s[k]] := by
  rw [List.take_succ_eq_append_getElem (by simpa using h)]; rfl
theorem size_list (s : ByteArray) : s.data.toList.length = s.size := by rw [Array.length_toList]; rfl
theorem allDig_succ {s : ByteArray} {k : Nat} (h : k < s.size) (ha : (s.data.toList.take k).all dig = true) (hd : dig s[k] = true) : (s.data.toList.take (k + 1)).all dig = true := by
  rw [take_snoc s k h, List.all_append, ha]; simp [hd]
theorem valid_no {s : ByteArray} {k : Nat} (h : k < s.size) (hd : dig s[k] = false) : valid s.data.toList = false := by
  have h1 : s.data.toList.all dig = false := by
    rw [List.all_eq_false]
    exact ⟨s[k], by rw [show s[k] = s.data.toList[k]'(by rw [size_list]; exact h) from rfl]; exact List.getElem_mem _, by rw [hd]; decide⟩
  simp [valid, h1]
theorem valid_end {s : ByteArray} (ha : (s.data.toList.take s.size).all dig = true) : valid s.data.toList = (decide (1 ≤ s.size) && decide (s.size ≤ 15)) := by
  rw [List.take_of_length_le (by rw [size_list]; exact Nat.le_refl _)] at ha
  unfold valid
  rw [ha, size_list]; rfl
set_option maxHeartbeats 400000 in
theorem refvalid_any (s : ByteArray) (w : World) (hs : s.size ≤ maxLen) :
    Calls Try.prog 120 #[.string s] w fun e w' => e = .returned (.bool (valid s.data.toList)) ∧ w = w' := by
  unfold maxLen at hs
  go_enter Try.func120, Try.ntmps120
  go_wp2_with fail
  go_loop [3] (fun i => ∃ k : Nat, k ≤ s.size ∧ i = .int .i64 k ∧ (s.data.toList.take k).all dig = true) (fun i => s.size - (intOf i).toNat)
  case atStart => exact ⟨0, Nat.zero_le _, rfl, by simp⟩
  case round =>
    obtain ⟨k, hk, rfl, ha⟩ := hrel
    have HA := Lib.hid ha
    clear ha
    by_cases hlt : k < s.size
    · go_wp2_with fail
      all_goals first
        | (go_ret
           refine ⟨ret_bool (valid_no hlt ?_).symm, rfl⟩
           unfold dig; rw [Bool.eq_iff_iff]; simp; omega)
        | (go_round
           case rel => exact ⟨k + 1, by omega, by go_num, allDig_succ hlt HA.out (by unfold dig; rw [Bool.eq_iff_iff]; simp; omega)⟩
           case measure => simp [intOf]; omega)
    · obtain rfl : s.size = k := by omega
      have HV := Lib.hid (valid_end HA.out)
      go_wp2_with fail
      all_goals (go_ret; refine ⟨ret_bool ?_, rfl⟩; rw [HV.out]; (rw [Bool.eq_iff_iff]; (try simp only [Bool.and_eq_true, Bool.or_eq_true, Bool.not_eq_true', decide_eq_true_eq, decide_eq_false_iff_not, Bool.false_eq_true, Bool.true_eq_false, false_iff, true_iff, iff_false, iff_true]); omega))
end Dg
end Go.Proofs.Yteaanngagcflhaa
namespace Go.Proofs.Yteaanngagcflhaa
open Go.RowKit
namespace Cu
open Go.Maps
def LS {α β : Type} [Flat α] (R : World → α → β → Prop) (w : World) (A : Option Addr) (n c : Nat) (ds : List β) : Prop := (A = none → c = 0) ∧ ∃ xs : List α, Sl w A n c xs ∧ All2 (R w) xs ds
theorem LS.on {α β : Type} [Flat α] {R : World → α → β → Prop} (hR : ∀ w w' x y, R w x y → Below w.heap.size w w' → R w' x y) {w w' : World} {A : Option Addr} {n c : Nat} {ds : List β} (h : LS R w A n c ds) (hb : Below w.heap.size w w') : LS R w' A n c ds := by
  obtain ⟨h0, xs, h1, h2⟩ := h
  exact ⟨h0, xs, h1.below hb, h2.imp fun x y h => hR _ _ _ _ h hb⟩
theorem LS.len {α β : Type} [Flat α] {R : World → α → β → Prop} {w : World} {A : Option Addr} {n c : Nat} {ds : List β} (h : LS R w A n c ds) : ds.length = n := by
  obtain ⟨h0, xs, h1, h2⟩ := h
  rw [← h2.1, h1.len]
theorem LS.nil_ {α β : Type} [Flat α] {R : World → α → β → Prop} (w : World) : LS (α := α) R w none 0 0 [] := ⟨fun _ => rfl, [], Sl.nil_ _, All2.nil_⟩
structure Sv where
  id : Int
  acc : Int
  since : Int
  plan : ByteArray
  An : Option Addr
  nn : Nat
  cn : Nat
  Ap : Option Addr
  np : Nat
  cp : Nat
  susp : Bool
  fam : Bool
instance : Flat Sv where
  sz := 8
  pos := by decide
  cells t := [.int .i64 t.id, .int .i64 t.acc, .int .i64 t.since, .string t.plan, .slice t.An t.nn t.cn, .slice t.Ap t.np t.cp, .bool t.susp, .bool t.fam]
  len _ := rfl
  one _ := by simp [Value.oneCell']
def Sv.val (t : Sv) : Value := .agg #[.int .i64 t.id, .int .i64 t.acc, .int .i64 t.since, .string t.plan, .slice t.An t.nn t.cn, .slice t.Ap t.np t.cp, .bool t.susp, .bool t.fam]
structure SR (w : World) (t : Sv) (s : Sb) : Prop where
  id : t.id = s.id
  acc : t.acc = s.acc
  since : t.since = s.since
  plan : t.plan = s.plan
  n0 : t.An = none → t.cn = 0
  n : Sl w t.An t.nn t.cn s.nums
  p0 : t.Ap = none → t.cp = 0
  p : Sl w t.Ap t.np t.cp s.prods
  susp : t.susp = s.susp
  fam : t.fam = s.fam
theorem SR.on {w w' : World} {t : Sv} {s : Sb} (h : SR w t s) (hb : Below w.heap.size w w') : SR w' t s := ⟨h.id, h.acc, h.since, h.plan, h.n0, h.n.below hb, h.p0, h.p.below hb, h.susp, h.fam⟩
def SRP (w : World) (p : Nat → Prop) (t : Sv) (s : Sb) : Prop := SR w t s ∧ OkA p t.An t.nn ∧ OkA p t.Ap t.np
theorem famS : Fam SRP where
  mono h k := ⟨h.1, h.2.1.mono k, h.2.2.mono k⟩
  keep h k := ⟨⟨h.1.id, h.1.acc, h.1.since, h.1.plan, h.1.n0, h.1.n.keepP h.2.1 k, h.1.p0, h.1.p.keepP h.2.2 k, h.1.susp, h.1.fam⟩, h.2⟩
  lt h := ⟨h.1, h.1.n.okLt h.2.1, h.1.p.okLt h.2.2⟩
theorem SR.all {w : World} {t : Sv} {s : Sb} (h : SR w t s) : SRP w (fun _ => True) t s := ⟨h, fun _ _ _ _ => trivial, fun _ _ _ _ => trivial⟩
def sv0 : Sv := ⟨0, 0, 0, ⟨#[]⟩, none, 0, 0, none, 0, 0, false, false⟩
theorem sv0_sr (w : World) (p : Nat → Prop) : SRP w p sv0 sb0 := ⟨⟨rfl, rfl, rfl, rfl, fun _ => rfl, Sl.nil_ _, fun _ => rfl, Sl.nil_ _, rfl, rfl⟩, OkA.nil_, OkA.nil_⟩
structure Av where
  id : Int
  since : Int
  anchor : Int
  prepaid : Bool
  closed : Bool
  A : Option Addr
  n : Nat
  c : Nat
instance : Flat Av where
  sz := 6
  pos := by decide
  cells t := [.int .i64 t.id, .int .i64 t.since, .int .i64 t.anchor, .bool t.prepaid, .bool t.closed, .slice t.A t.n t.c]
  len _ := rfl
  one _ := by simp [Value.oneCell']
def Av.val (t : Av) : Value := .agg #[.int .i64 t.id, .int .i64 t.since, .int .i64 t.anchor, .bool t.prepaid, .bool t.closed, .slice t.A t.n t.c]
structure AR (w : World) (t : Av) (s : Ac × List Int) : Prop where
  id : t.id = s.1.id
  since : t.since = s.1.since
  anchor : t.anchor = s.1.anchor
  prepaid : t.prepaid = s.1.prepaid
  closed : t.closed = s.1.closed
  n0 : t.A = none → t.c = 0
  n : Sl w t.A t.n t.c s.2
theorem AR.on {w w' : World} {t : Av} {s : Ac × List Int} (h : AR w t s) (hb : Below w.heap.size w w') : AR w' t s := ⟨h.id, h.since, h.anchor, h.prepaid, h.closed, h.n0, h.n.below hb⟩
def acV (a : Ac) : Value := .agg #[.int .i64 a.id, .int .i64 a.since, .int .i64 a.anchor, .bool a.prepaid, .bool a.closed, .slice none 0 0]
abbrev LSb (w : World) (A : Option Addr) (n c : Nat) (ds : List Sb) : Prop := LS SR w A n c ds
abbrev LAc (w : World) (A : Option Addr) (n c : Nat) (ds : List (Ac × List Int)) : Prop := LS AR w A n c ds
abbrev MI (w : World) (b n : Nat) (f : Lit → Option Value) : Prop := Mf Try.prog 3 w b n f
abbrev MS (w : World) (b n : Nat) (f : Lit → Option Value) : Prop := Mf Try.prog 9 w b n f
theorem keyI : Keyed Try.prog 3 := int_keyed Try.underlying3
theorem keyS : Keyed Try.prog 9 := string_keyed Try.underlying9
theorem kI {a : Int} (h : (Lit.int .i64 a).wf = true) : keyOf Try.prog 3 (.int .i64 a) = some (.int .i64 a) := keyOf_int_mk Try.underlying3 h
theorem kS {s : ByteArray} (h : s.size ≤ maxLen) : keyOf Try.prog 9 (.string s) = some (.string s.data.toList) := Go.WideMaps.keyOf_string_mk Try.underlying9 h
structure Bl where
  p : Nat
  ba : Nat
  bs : Nat
  be : Nat
  bo : Nat
  bl : Nat
def fA (f : Lit → Option Value) (s : St) : Prop := ∀ x : Int, f (.int .i64 x) = (s.acc x).map acV
def fS (w : World) (q : Nat → Prop) (N : Nat) (f : Lit → Option Value) (s : St) : Prop := ∀ x : Int, match s.sub x with
  | none => f (.int .i64 x) = none
  | some sb => ∃ v : Sv, f (.int .i64 x) = some v.val ∧ SRP w q v sb ∧ sb.nums.length ≤ N ∧ sb.prods.length ≤ N ∧ (∀ u ∈ sb.nums, u.size ≤ maxLen) ∧ (Lit.int .i64 sb.acc).wf = true
def fE (f : Lit → Option Value) (s : St) : Prop := ∀ x : Int, (f (.int .i64 x)).getD (.bool false) = .bool (s.ever x)
def fO (f : Lit → Option Value) (s : St) : Prop := ∀ u : ByteArray, f (.string u.data.toList) = (s.own u.toList).map (Value.int .i64 ·)
def fL (N : Nat) (f : Lit → Option Value) (s : St) : Prop := ∀ x : Int, (f (.int .i64 x)).getD (.int .i64 0) = .int .i64 (s.live x) ∧ -(N : Int) ≤ s.live x ∧ s.live x ≤ N
structure RepQ (w : World) (q : Nat → Prop) (B M N : Nat) (k : Bl) (s : St) : Prop where
  nq : ∀ b, q b → b ≠ k.p
  lo : B ≤ k.p ∧ B ≤ k.ba ∧ B ≤ k.bs ∧ B ≤ k.be ∧ B ≤ k.bo ∧ B ≤ k.bl
  hi : k.p < M ∧ k.ba < M ∧ k.bs < M ∧ k.be < M ∧ k.bo < M ∧ k.bl < M
  m : M ≤ w.heap.size
  ne : k.ba ≠ k.bs ∧ k.ba ≠ k.be ∧ k.ba ≠ k.bo ∧ k.ba ≠ k.bl ∧ k.bs ≠ k.be ∧ k.bs ≠ k.bo ∧ k.bs ≠ k.bl ∧ k.be ≠ k.bo ∧ k.be ≠ k.bl ∧ k.bo ≠ k.bl
  np : k.p ≠ k.ba ∧ k.p ≠ k.bs ∧ k.p ≠ k.be ∧ k.p ≠ k.bo ∧ k.p ≠ k.bl
  fz : ∀ j, w.frozen? ⟨k.p, j, none⟩ = false
  c0 : w.cell? ⟨k.p, 0, none⟩ = some (.map (some k.ba))
  c1 : w.cell? ⟨k.p, 1, none⟩ = some (.map (some k.bs))
  c2 : w.cell? ⟨k.p, 2, none⟩ = some (.map (some k.be))
  c3 : w.cell? ⟨k.p, 3, none⟩ = some (.map (some k.bo))
  c4 : w.cell? ⟨k.p, 4, none⟩ = some (.map (some k.bl))
  acc : ∃ f, MI w k.ba N f ∧ fA f s
  sub : ∃ f, MI w k.bs N f ∧ fS w q N f s
  ever : ∃ f, MI w k.be N f ∧ fE f s
  own : ∃ f, MS w k.bo N f ∧ fO f s
  live : ∃ f, MI w k.bl N f ∧ fL N f s
  opened : ∃ A n c, w.cell? ⟨k.p, 5, none⟩ = some (.slice A n c) ∧ Sl w A n c s.opened ∧ (A = none → c = 0) ∧ OkA q A n ∧ n ≤ N
  added : ∃ A n c, w.cell? ⟨k.p, 6, none⟩ = some (.slice A n c) ∧ Sl w A n c s.added ∧ (A = none → c = 0) ∧ OkA q A n ∧ n ≤ N
abbrev Rep (w : World) (B M N : Nat) (k : Bl) (s : St) : Prop := RepQ w (fun b => b ≠ k.p) B M N k s
theorem fS.keep {w w' : World} {q : Nat → Prop} {N : Nat} {f : Lit → Option Value} {s : St} (h : fS w q N f s) (hk : Keeps q w w') : fS w' q N f s := fun x => by
  have := h x
  cases hs : s.sub x with
  | none => rw [hs] at this; exact this
  | some sb =>
    rw [hs] at this
    obtain ⟨v, h1, h2, h3⟩ := this
    exact ⟨v, h1, famS.keep h2 hk, h3⟩
theorem RepQ.below {w w' : World} {q : Nat → Prop} {B M N : Nat} {k : Bl} {s : St} (h : RepQ w q B M N k s) (hb : Below w.heap.size w w') : RepQ w' q B M N k s := by
  have hm := h.m
  have hi := h.hi
  have hk := Keeps.ofBelow (p := q) hb
  have cell : ∀ j, w'.cell? ⟨k.p, j, none⟩ = w.cell? ⟨k.p, j, none⟩ := fun j => hb.cell (p := ⟨k.p, j, none⟩) (by show k.p < w.heap.size; omega)
  refine ⟨h.nq, h.lo, h.hi, Nat.le_trans hm hb.size, h.ne, h.np, fun j => (hb.frozen (p := ⟨k.p, j, none⟩) (by show k.p < w.heap.size; omega)).trans (h.fz j), (cell 0).trans h.c0, (cell 1).trans h.c1, (cell 2).trans h.c2, (cell 3).trans h.c3, (cell 4).trans h.c4, ?_, ?_, ?_, ?_, ?_, ?_, ?_⟩
  · obtain ⟨f, h1, h2⟩ := h.acc; exact ⟨f, h1.below hb, h2⟩
  · obtain ⟨f, h1, h2⟩ := h.sub; exact ⟨f, h1.below hb, h2.keep hk⟩
  · obtain ⟨f, h1, h2⟩ := h.ever; exact ⟨f, h1.below hb, h2⟩
  · obtain ⟨f, h1, h2⟩ := h.own; exact ⟨f, h1.below hb, h2⟩
  · obtain ⟨f, h1, h2⟩ := h.live; exact ⟨f, h1.below hb, h2⟩
  · obtain ⟨A, n, c, h1, h2, h3, h4, h5⟩ := h.opened; exact ⟨A, n, c, (cell 5).trans h1, h2.below hb, h3, h4, h5⟩
  · obtain ⟨A, n, c, h1, h2, h3, h4, h5⟩ := h.added; exact ⟨A, n, c, (cell 6).trans h1, h2.below hb, h3, h4, h5⟩
theorem fS.monoQ {w : World} {q q' : Nat → Prop} {N : Nat} {f : Lit → Option Value} {s : St} (h : fS w q N f s) (hq : ∀ b, q b → q' b) : fS w q' N f s := fun x => by
  have := h x
  cases hs : s.sub x with
  | none => rw [hs] at this; exact this
  | some sb =>
    rw [hs] at this
    obtain ⟨v, h1, h2, h3⟩ := this
    exact ⟨v, h1, famS.mono h2 hq, h3⟩
theorem fS.lt {w : World} {q : Nat → Prop} {N : Nat} {f : Lit → Option Value} {s : St} (h : fS w q N f s) : fS w (fun b => q b ∧ b < w.heap.size) N f s := fun x => by
  have := h x
  cases hs : s.sub x with
  | none => rw [hs] at this; exact this
  | some sb =>
    rw [hs] at this
    obtain ⟨v, h1, h2, h3⟩ := this
    exact ⟨v, h1, famS.lt h2, h3⟩
theorem RepQ.monoQ {w : World} {q q' : Nat → Prop} {B M N : Nat} {k : Bl} {s : St} (h : RepQ w q B M N k s) (hq : ∀ b, q b → q' b) (hn : ∀ b, q' b → b ≠ k.p) : RepQ w q' B M N k s := by
  refine ⟨hn, h.lo, h.hi, h.m, h.ne, h.np, h.fz, h.c0, h.c1, h.c2, h.c3, h.c4, h.acc, ?_, h.ever, h.own, h.live, ?_, ?_⟩
  · obtain ⟨f, h1, h2⟩ := h.sub; exact ⟨f, h1, h2.monoQ hq⟩
  · obtain ⟨A, n, c, h1, h2, h3, h4, h5⟩ := h.opened; exact ⟨A, n, c, h1, h2, h3, h4.mono hq, h5⟩
  · obtain ⟨A, n, c, h1, h2, h3, h4, h5⟩ := h.added; exact ⟨A, n, c, h1, h2, h3, h4.mono hq, h5⟩
theorem RepQ.lt {w : World} {q : Nat → Prop} {B M N : Nat} {k : Bl} {s : St} (h : RepQ w q B M N k s) : RepQ w (fun b => q b ∧ b < w.heap.size) B M N k s := by
  refine ⟨fun b hb => h.nq b hb.1, h.lo, h.hi, h.m, h.ne, h.np, h.fz, h.c0, h.c1, h.c2, h.c3, h.c4, h.acc, ?_, h.ever, h.own, h.live, ?_, ?_⟩
  · obtain ⟨f, h1, h2⟩ := h.sub; exact ⟨f, h1, h2.lt⟩
  · obtain ⟨A, n, c, h1, h2, h3, h4, h5⟩ := h.opened; exact ⟨A, n, c, h1, h2, h3, h2.okLt h4, h5⟩
  · obtain ⟨A, n, c, h1, h2, h3, h4, h5⟩ := h.added; exact ⟨A, n, c, h1, h2, h3, h2.okLt h4, h5⟩
theorem RepQ.setFar {w : World} {q : Nat → Prop} {B M N g o : Nat} {u : Value} {k : Bl} {s : St} (h : RepQ w q B M N k s) (hg : M ≤ g) (hq : ∀ b, q b → b ≠ g) : RepQ (w.setCell ⟨g, o, none⟩ u) q B M N k s := by
  have hi := h.hi
  have hk : Keeps q w (w.setCell ⟨g, o, none⟩ u) := Keeps.ofSet hq
  have cell : ∀ i, (w.setCell ⟨g, o, none⟩ u).cell? ⟨k.p, i, none⟩ = w.cell? ⟨k.p, i, none⟩ := fun i => World.cell?_setCell_other _ _ _ _ (fun e => by injection e with e1 e2; omega)
  have me : ∀ {ty : TypeId} {b m : Nat} {f : Lit → Option Value}, Mf Try.prog ty w b m f → b < M → Mf Try.prog ty (w.setCell ⟨g, o, none⟩ u) b m f := fun hm hb => hm.setCell (a := ⟨g, o, none⟩) (fun e => by have e' : _ = g := e; omega) _
  refine ⟨h.nq, h.lo, h.hi, by rw [World.size_setCell]; exact h.m, h.ne, h.np, fun j => by rw [World.frozen?_setCell]; exact h.fz j, (cell 0).trans h.c0, (cell 1).trans h.c1, (cell 2).trans h.c2, (cell 3).trans h.c3, (cell 4).trans h.c4, ?_, ?_, ?_, ?_, ?_, ?_, ?_⟩
  · obtain ⟨f, h1, h2⟩ := h.acc; exact ⟨f, me h1 hi.2.1, h2⟩
  · obtain ⟨f, h1, h2⟩ := h.sub; exact ⟨f, me h1 hi.2.2.1, h2.keep hk⟩
  · obtain ⟨f, h1, h2⟩ := h.ever; exact ⟨f, me h1 hi.2.2.2.1, h2⟩
  · obtain ⟨f, h1, h2⟩ := h.own; exact ⟨f, me h1 hi.2.2.2.2.1, h2⟩
  · obtain ⟨f, h1, h2⟩ := h.live; exact ⟨f, me h1 hi.2.2.2.2.2, h2⟩
  · obtain ⟨A, n, c, h1, h2, h3, h4, h5⟩ := h.opened; exact ⟨A, n, c, (cell 5).trans h1, h2.keepP h4 hk, h3, h4, h5⟩
  · obtain ⟨A, n, c, h1, h2, h3, h4, h5⟩ := h.added; exact ⟨A, n, c, (cell 6).trans h1, h2.keepP h4 hk, h3, h4, h5⟩
end Cu
end Go.Proofs.Yteaanngagcflhaa
namespace Go.Proofs.Yteaanngagcflhaa
open Go.RowKit
namespace Cu
open Go.Maps
section
variable {P : Program} {k e t : TypeId} {w : World} {b n : Nat} {f : Lit → Option Value}
theorem Mf.run (h : Mf P k w b n f) (K : Keyed P k) (ht : P.underlying t = some (.map k e)) {z : Value} (hz : (zeroValue e).run P w = .ok z w) {key : Value} {l : Lit} (hkey : keyOf P k key = some l) {v : Value} (hv : (f l).getD z = v) :
    (Instr.lookup t (.map (some b)) key false).run P w = .ok v w := by
  obtain ⟨D, hD, hf⟩ := h
  obtain ⟨v', ps, hrun, hv'⟩ := hD.lookup K ht hz (zd := .held z) (zp := []) rfl hkey
  have e1 : v' = v := by
    unfold Rid at hv'
    injection hv' with hv'
    injection hv' with h1 _
    rw [(hf l ⟨key, hkey⟩).2 z, hv] at h1
    injection h1
  rw [← e1]; exact hrun
theorem Mf.run_ok (h : Mf P k w b n f) (K : Keyed P k) (ht : P.underlying t = some (.map k e)) {z : Value} (hz : (zeroValue e).run P w = .ok z w) {key : Value} {l : Lit} (hkey : keyOf P k key = some l) {v : Value} {c : Bool} (hv : (f l).getD z = v) (hc : (f l).isSome = c) :
    (Instr.lookup t (.map (some b)) key true).run P w = .ok (.tuple #[v, .bool c]) w := by
  obtain ⟨D, hD, hf⟩ := h
  obtain ⟨v', ps, hrun, hv'⟩ := hD.look_ok K ht hz (zd := .held z) (zp := []) rfl hkey
  have e1 : v' = v := by
    unfold Rid at hv'
    injection hv' with hv'
    injection hv' with h1 _
    rw [(hf l ⟨key, hkey⟩).2 z, hv] at h1
    injection h1
  rw [← e1, ← hc, ← (hf l ⟨key, hkey⟩).1]; exact hrun
end
theorem zeroA (w : World) : (zeroValue 46).run Try.prog w = .ok (.agg #[.int .i64 0, .int .i64 0, .int .i64 0, .bool false, .bool false, .slice none 0 0]) w := by kernel_rfl
theorem zeroSb (w : World) : (zeroValue 51).run Try.prog w = .ok (.agg #[.int .i64 0, .int .i64 0, .int .i64 0, .string ⟨#[]⟩, .slice none 0 0, .slice none 0 0, .bool false, .bool false]) w := by kernel_rfl
theorem zeroB (w : World) : (zeroValue 4).run Try.prog w = .ok (.bool false) w := by kernel_rfl
theorem zeroI (w : World) : (zeroValue 3).run Try.prog w = .ok (.int .i64 0) w := by kernel_rfl
theorem made1 (w : World) (k : TypeId) (n : Nat) (h : w.heap.size = n) : Mf Try.prog k (w.alloc (.map #[] 0)) n 0 (fun _ => none) := by
  subst h
  exact Mf.made w Try.prog k
theorem rep0 (w W : World) (e : TypeId) (n : Nat) (hn : w.heap.size = n) (hW : W = (((((w.alloc (.map #[] 0)).alloc (.map #[] 0)).alloc (.map #[] 0)).alloc (.map #[] 0)).alloc (.map #[] 0)).alloc (.cells #[.map (some n), .map (some (n + 1)), .map (some (n + 1 + 1)), .map (some (n + 1 + 1 + 1)), .map (some (n + 1 + 1 + 1 + 1)), .slice none 0 0, .slice none 0 0] e)) :
    Rep W n W.heap.size 0 ⟨n + 1 + 1 + 1 + 1 + 1, n, n + 1, n + 1 + 1, n + 1 + 1 + 1, n + 1 + 1 + 1 + 1⟩ st0 ∧ Below n w W := by
  have hsz : W.heap.size = n + 6 := by rw [hW]; simp [hn]
  obtain ⟨V, hV⟩ : ∃ V, V = ((((w.alloc (.map #[] 0)).alloc (.map #[] 0)).alloc (.map #[] 0)).alloc (.map #[] 0)).alloc (.map #[] 0) := ⟨_, rfl⟩
  have hVs : V.heap.size = n + 1 + 1 + 1 + 1 + 1 := by rw [hV]; simp [hn]
  obtain ⟨X, hX, hbX, hzX, hc, hf⟩ := box1 V #[.map (some n), .map (some (n + 1)), .map (some (n + 1 + 1)), .map (some (n + 1 + 1 + 1)), .map (some (n + 1 + 1 + 1 + 1)), .slice none 0 0, .slice none 0 0] e
  obtain rfl : W = X := by rw [hW, hX, hV]
  rw [hVs] at hc hf
  have hbV : Below n w V := by
    rw [hV, ← hn]
    exact (((((Below.refl _ _).alloc (Nat.le_refl _) _).alloc (by simp) _).alloc (by simp; omega) _).alloc (by simp; omega) _).alloc (by simp; omega) _
  have m1 : Mf Try.prog 3 V n 0 (fun _ => none) := by rw [hV]; exact ((((made1 w _ n hn).alloc _).alloc _).alloc _).alloc _
  have m2 : Mf Try.prog 3 V (n + 1) 0 (fun _ => none) := by rw [hV]; exact (((made1 _ _ (n + 1) (by simp [hn])).alloc _).alloc _).alloc _
  have m3 : Mf Try.prog 3 V (n + 1 + 1) 0 (fun _ => none) := by rw [hV]; exact ((made1 _ _ (n + 1 + 1) (by simp [hn])).alloc _).alloc _
  have m4 : Mf Try.prog 9 V (n + 1 + 1 + 1) 0 (fun _ => none) := by rw [hV]; exact (made1 _ _ (n + 1 + 1 + 1) (by simp [hn])).alloc _
  have m5 : Mf Try.prog 3 V (n + 1 + 1 + 1 + 1) 0 (fun _ => none) := by rw [hV]; exact made1 _ _ (n + 1 + 1 + 1 + 1) (by simp [hn])
  refine ⟨⟨fun _ h => h, by dsimp only; omega, by dsimp only; omega, Nat.le_refl _, by dsimp only; omega, by dsimp only; omega, hf, hc 0 _ rfl, hc 1 _ rfl, hc 2 _ rfl, hc 3 _ rfl, hc 4 _ rfl, ⟨_, m1.below hbX, fun x => rfl⟩, ⟨_, m2.below hbX, fun x => rfl⟩, ⟨_, m3.below hbX, fun x => rfl⟩, ⟨_, m4.below hbX, fun x => rfl⟩, ⟨_, m5.below hbX, fun x => ⟨rfl, Int.le_refl _, Int.le_refl _⟩⟩, ⟨none, 0, 0, hc 5 _ rfl, Sl.nil_ _, fun _ => rfl, OkA.nil_, Nat.le_refl _⟩, ⟨none, 0, 0, hc 6 _ rfl, Sl.nil_ _, fun _ => rfl, OkA.nil_, Nat.le_refl _⟩⟩, hbV.trans (hbX.mono (by omega))⟩
set_option maxHeartbeats 4000000 in
theorem begin_any (w : World) : Calls Try.prog 68 #[] w fun e w' => ∃ k : Bl, e = .returned (.pointer (some ⟨k.p, 0, none⟩)) ∧ Rep w' w.heap.size w'.heap.size 0 k st0 ∧ Below w.heap.size w w' := by
  have hmm := @run_makeMap Try.prog
  go_enter Try.func68, Try.ntmps68
  go_wp2_with fail
  go_ret
  have h := rep0 w _ 128 w.heap.size rfl rfl
  exact ⟨⟨w.heap.size + 1 + 1 + 1 + 1 + 1, w.heap.size, w.heap.size + 1, w.heap.size + 1 + 1, w.heap.size + 1 + 1 + 1, w.heap.size + 1 + 1 + 1 + 1⟩, rfl, h.1, h.2⟩
end Cu
end Go.Proofs.Yteaanngagcflhaa
