/-
  Customers in plain words: lists of events, what they say of an instant. No condition.
-/
import Derived.Test.YteaanngagcflhaaCuS
set_option maxRecDepth 100000
set_option linter.unusedVariables false
set_option linter.unusedSimpArgs false
namespace Go.Proofs.Yteaanngagcflhaa
open Go Go.RowKit
namespace Cu
/-! ### customers -/
def rngK (k : Nat) : List Int := (List.range k).map fun i : Nat => (i : Int) + 1
theorem rngK_succ (k : Nat) : rngK (k + 1) = rngK k ++ [(k : Int) + 1] := by unfold rngK; rw [List.range_succ, List.map_append]; rfl
theorem rngK_asc (k : Nat) : (rngK k).Pairwise (· < ·) := by
  unfold rngK
  rw [List.pairwise_map]
  exact List.Pairwise.imp (fun h => by omega) List.pairwise_lt_range
theorem rngK_mem {k : Nat} {x : Int} : x ∈ rngK k ↔ 1 ≤ x ∧ x ≤ k := by
  unfold rngK
  rw [List.mem_map]
  constructor
  · rintro ⟨i, hi, rfl⟩; rw [List.mem_range] at hi; omega
  · rintro ⟨h1, h2⟩; exact ⟨(x - 1).toNat, List.mem_range.2 (by omega), by omega⟩
theorem rngK_prefix {k m : Nat} (h : k ≤ m) : rngK k <+: rngK m := by
  obtain ⟨d, rfl⟩ := Nat.exists_eq_add_of_le h
  clear h
  induction d with
  | zero => exact List.prefix_refl _
  | succ d ih => rw [← Nat.add_assoc, rngK_succ]; exact ih.trans (List.prefix_append _ _)
theorem fm_asc {β : Type} (f : Int → Option β) : ∀ (r l : List Int), r.Pairwise (· < ·) → l.Pairwise (· < ·) → (∀ x ∈ l, x ∈ r) → (∀ x ∈ r, x ∉ l → f x = none) → l.filterMap f = r.filterMap f
  | [], l, _, _, hm, _ => by
    cases l with
    | nil => rfl
    | cons y l => cases hm y (List.mem_cons_self ..)
  | x :: r, [], _, _, _, hn => by
    symm
    rw [List.filterMap_nil, List.filterMap_eq_nil_iff]
    exact fun y hy => hn y hy (by simp)
  | x :: r, y :: l, hr, hl, hm, hn => by
    obtain ⟨r1, r2⟩ := List.pairwise_cons.1 hr
    obtain ⟨l1, l2⟩ := List.pairwise_cons.1 hl
    by_cases hxy : y = x
    · subst hxy
      rw [List.filterMap_cons, List.filterMap_cons, fm_asc f r l r2 l2]
      · intro z hz
        have := l1 z hz
        rcases List.mem_cons.1 (hm z (List.mem_cons_of_mem _ hz)) with rfl | h
        · omega
        · exact h
      · intro z hz hzl
        refine hn z (List.mem_cons_of_mem _ hz) fun h => ?_
        rcases List.mem_cons.1 h with rfl | h
        · have := r1 z hz; omega
        · exact hzl h
    · have hyr : y ∈ r := by
        rcases List.mem_cons.1 (hm y (List.mem_cons_self ..)) with h | h
        · exact absurd h hxy
        · exact h
      have hxl : x ∉ y :: l := fun h => by
        have := r1 y hyr
        rcases List.mem_cons.1 h with h | h
        · omega
        · have := l1 x h; omega
      rw [List.filterMap_cons (a := x), hn x (List.mem_cons_self ..) hxl]
      refine fm_asc f r (y :: l) r2 hl (fun z hz => ?_) (fun z hz hzl => hn z (List.mem_cons_of_mem _ hz) hzl)
      rcases List.mem_cons.1 (hm z hz) with rfl | h
      · exact absurd hz hxl
      · exact h
def liveS (b : Bk) (n : Int) : Option Sb := if endedB b n = true then none else findS b n
def cSubs (b : Bk) : List Sb := (rngK 9999).filterMap (liveS b)
def cOf (subs : List Sb) (n : Int) : List Int := (subs.filter fun t => t.acc == n).map (·.id)
def cAcc (b : Bk) (n : Int) : Option (Ac × List Int) := (findA b n).map fun a => (a, cOf (cSubs b) n)
def cAccs (b : Bk) : List (Ac × List Int) := (rngK 9999).filterMap (cAcc b)
def pSubs (s : St) (l : List Int) : List Sb := l.filterMap s.sub
def pOf (s : St) (l : List Int) (n : Int) : List Int := l.filter fun i => match s.sub i with
  | some t => t.acc == n
  | none => false
def pAccs (s : St) (l : List Int) : List (Ac × List Int) := l.map fun n => ((s.acc n).getD ac0, pOf s s.added n)
theorem liveS_id {b : Bk} {n : Int} {t : Sb} (h : liveS b n = some t) : t.id = n := by
  unfold liveS at h
  split at h
  · cases h
  · exact (findS_id h).2
theorem of_filterMap (f : Int → Option Sb) (hf : ∀ i t, f i = some t → t.id = i) (n : Int) : ∀ l : List Int, cOf (l.filterMap f) n = l.filter fun i => match f i with
    | some t => t.acc == n
    | none => false
  | [] => rfl
  | x :: l => by
    have ih := of_filterMap f hf n l
    rw [List.filterMap_cons]
    cases hx : f x with
    | none =>
      rw [List.filter_cons_of_neg (by rw [hx]; simp)]
      exact ih
    | some t =>
      unfold cOf at ih ⊢
      by_cases ht : (t.acc == n) = true
      · rw [List.filter_cons_of_pos (by simpa using ht), List.filter_cons_of_pos (by rw [hx]; exact ht), List.map_cons, ih, hf x t hx]
      · rw [List.filter_cons_of_neg (by simpa using ht), List.filter_cons_of_neg (by rw [hx]; exact ht)]
        exact ih
theorem cust_subs {s : St} {b : Bk} (hi : Inv s b) (hb : Bok b) : pSubs s s.added = cSubs b := by
  unfold pSubs cSubs
  have hf : s.sub = liveS b := funext fun n => hi.sub n
  rw [hf]
  refine fm_asc _ _ _ (rngK_asc _) hi.added.1 (fun x hx => ?_) (fun x _ hx => ?_)
  · have := (hi.added.2 x).1 hx
    cases h : findS b x with
    | none => rw [h] at this; cases this
    | some t =>
      have h2 := findS_id h
      have := hb.sr t h2.1
      rw [h2.2] at this
      exact rngK_mem.2 (by omega)
  · unfold liveS
    split
    · rfl
    · cases h : findS b x with
      | none => rfl
      | some t => exact absurd ((hi.added.2 x).2 (by rw [h]; rfl)) hx
theorem cust_of {s : St} {b : Bk} (hi : Inv s b) (hb : Bok b) (n : Int) : pOf s s.added n = cOf (cSubs b) n := by
  rw [← cust_subs hi hb]
  unfold pSubs pOf
  have hf : s.sub = liveS b := funext fun n => hi.sub n
  rw [hf]
  exact (of_filterMap (liveS b) (fun i t h => liveS_id h) n s.added).symm
theorem map_filterMap {α β : Type} (f : α → Option β) (g : α → β) : ∀ l : List α, (∀ x ∈ l, f x = some (g x)) → l.map g = l.filterMap f
  | [], _ => rfl
  | x :: l, h => by rw [List.map_cons, List.filterMap_cons, h x (List.mem_cons_self ..), map_filterMap f g l fun y hy => h y (List.mem_cons_of_mem _ hy)]
theorem cust_accs {s : St} {b : Bk} (hi : Inv s b) (hb : Bok b) : pAccs s s.opened = cAccs b := by
  unfold pAccs cAccs
  rw [map_filterMap (cAcc b)]
  · refine fm_asc _ _ _ (rngK_asc _) hi.opened.1 (fun x hx => ?_) (fun x _ hx => ?_)
    · have := (hi.opened.2 x).1 hx
      cases h : findA b x with
      | none => rw [h] at this; cases this
      | some t =>
        have h2 := findA_id h
        have := hb.ar t h2.1
        rw [h2.2] at this
        exact rngK_mem.2 (by omega)
    · unfold cAcc
      cases h : findA b x with
      | none => rfl
      | some t => exact absurd ((hi.opened.2 x).2 (by rw [h]; rfl)) hx
  · intro n hn
    have := (hi.opened.2 n).1 hn
    unfold cAcc
    rw [hi.acc, cust_of hi hb]
    cases h : findA b n with
    | none => rw [h] at this; cases this
    | some a => rfl
/-! the reference's loops may stop early -/
theorem fm_len {α : Type} (g : α → Int) (f : Int → Option α) (hf : ∀ i t, f i = some t → g t = i) : ∀ (r : List Int) (L : List α), r.Pairwise (· < ·) → (∀ i ∈ r, ∀ t, f i = some t → t ∈ L) → (r.filterMap f).length ≤ L.length
  | [], L, _, _ => Nat.zero_le _
  | x :: r, L, hr, hm => by
    obtain ⟨r1, r2⟩ := List.pairwise_cons.1 hr
    rw [List.filterMap_cons]
    cases hx : f x with
    | none => exact fm_len g f hf r L r2 fun i hi t ht => hm i (List.mem_cons_of_mem _ hi) t ht
    | some t =>
      have ht := hm x (List.mem_cons_self ..) t hx
      have h1 := fm_len g f hf r (L.filter fun u => g u != x) r2 fun i hi u hu => by
        refine List.mem_filter.2 ⟨hm i (List.mem_cons_of_mem _ hi) u hu, ?_⟩
        have := hf i u hu
        have := r1 i hi
        simp; omega
      have h2 : (L.filter fun u => g u != x).length < L.length := by
        refine List.length_filter_lt_length_iff_exists.2 ⟨t, ht, ?_⟩
        have := hf x t hx
        simp [this]
      rw [List.length_cons]
      omega
theorem subs_len {b : Bk} (hb : Bok b) : ((rngK 9999).filterMap (liveS b)).length + b.ended.length ≤ b.subs.length := by
  have := fm_len Sb.id (liveS b) (fun i t h => liveS_id h) (rngK 9999) (b.subs.filter (liveB b)) (rngK_asc _) (fun i _ t ht => by
    have hid := liveS_id ht
    unfold liveS at ht
    split at ht
    · cases ht
    · rename_i he
      refine List.mem_filter.2 ⟨(findS_id ht).1, ?_⟩
      unfold liveB
      rw [hid]
      simpa using he)
  have := hb.cnt
  omega
theorem accs_len {b : Bk} (hb : Bok b) : ((rngK 9999).filterMap (cAcc b)).length ≤ b.accs.length := by
  have h1 := fm_len (α := Ac) Ac.id (findA b) (fun i t h => (findA_id h).2) (rngK 9999) b.accs (rngK_asc _) (fun i _ t ht => (findA_id ht).1)
  have h2 : (rngK 9999).filterMap (cAcc b) = ((rngK 9999).filterMap (findA b)).map fun a => (a, cOf (cSubs b) a.id) := by
    rw [List.map_filterMap]
    refine congrArg (fun f => List.filterMap f _) (funext fun n => ?_)
    unfold cAcc
    cases h : findA b n with
    | none => rfl
    | some a => simp [(findA_id h).2]
  rw [h2, List.length_map]
  exact h1
theorem stop_early {β : Type} (f : Int → Option β) (k N : Nat) (hk : k ≤ 9999) (h1 : ((rngK 9999).filterMap f).length ≤ N) (h2 : N ≤ ((rngK k).filterMap f).length) : (rngK k).filterMap f = (rngK 9999).filterMap f := by
  refine List.IsPrefix.eq_of_length ((rngK_prefix hk).filterMap f) ?_
  have := ((rngK_prefix hk).filterMap f).length_le
  omega
/-! ### lists of events -/
def bkN (l : List Ev) (k : Nat) : Bk := (l.take k).foldl applyR bk0
def stN (l : List Ev) (k : Nat) : St := (l.take k).foldl applyP st0
def lastN (l : List Ev) (k : Nat) : Int := match k with
  | 0 => 0
  | k + 1 => match l[k]? with
    | some e => e.at_
    | none => 0
def fltN (l : List Ev) (k : Nat) : Int := match l[k]? with
  | some e => faultR (bkN l k) e (lastN l k)
  | none => 0
/-- the first fault, and where -/
def chkGo (l : List Ev) : Nat → Nat → Int × Int
  | 0, _ => (0, 0)
  | f + 1, k => if fltN l k ≠ 0 then ((k : Int), fltN l k) else chkGo l f (k + 1)
def chkL (l : List Ev) : Int × Int := if 4096 < l.length then (0, 5) else chkGo l l.length 0
theorem bkN_succ {l : List Ev} {k : Nat} {e : Ev} (h : l[k]? = some e) : bkN l (k + 1) = applyR (bkN l k) e := by
  unfold bkN
  rw [List.take_add_one, h, Option.toList_some, List.foldl_append]; rfl
theorem stN_succ {l : List Ev} {k : Nat} {e : Ev} (h : l[k]? = some e) : stN l (k + 1) = applyP (stN l k) e := by
  unfold stN
  rw [List.take_add_one, h, Option.toList_some, List.foldl_append]; rfl
theorem chkGo_ok (l : List Ev) : ∀ (f k : Nat), (∀ j, k ≤ j → j < k + f → fltN l j = 0) → chkGo l f k = (0, 0)
  | 0, _, _ => rfl
  | f + 1, k, h => by
    unfold chkGo
    rw [if_neg (by rw [h k (Nat.le_refl _) (by omega)]; simp)]
    exact chkGo_ok l f (k + 1) fun j h1 h2 => h j (by omega) (by omega)
theorem chkGo_bad (l : List Ev) : ∀ (f k m : Nat), k ≤ m → m < k + f → (∀ j, k ≤ j → j < m → fltN l j = 0) → fltN l m ≠ 0 → chkGo l f k = ((m : Int), fltN l m)
  | 0, k, m, h1, h2, _, _ => absurd h2 (by omega)
  | f + 1, k, m, h1, h2, h, hm => by
    unfold chkGo
    by_cases hk : k = m
    · subst hk; rw [if_pos hm]
    · rw [if_neg (by rw [h k (Nat.le_refl _) (by omega)]; simp)]
      exact chkGo_bad l f (k + 1) m (by omega) (by omega) (fun j a b => h j (by omega) b) hm
theorem chkGo_zero (l : List Ev) : ∀ (f k : Nat), (chkGo l f k).2 = 0 → ∀ j, k ≤ j → j < k + f → fltN l j = 0
  | 0, k, _, j, h1, h2 => absurd h2 (by omega)
  | f + 1, k, h, j, h1, h2 => by
    unfold chkGo at h
    by_cases hz : fltN l k = 0
    · rw [if_neg (by rw [hz]; simp)] at h
      by_cases hj : j = k
      · rw [hj]; exact hz
      · exact chkGo_zero l f (k + 1) h j (by omega) (by omega)
    · rw [if_pos hz] at h; exact absurd h hz
theorem chkL_long {l : List Ev} (h : 4096 < l.length) : chkL l = (0, 5) := by unfold chkL; rw [if_pos h]
theorem chkL_ok {l : List Ev} (h : ¬ 4096 < l.length) (ha : ∀ j, j < l.length → fltN l j = 0) : chkL l = (0, 0) := by unfold chkL; rw [if_neg h]; exact chkGo_ok l _ _ fun j _ h2 => ha j (by omega)
theorem chkL_bad {l : List Ev} (h : ¬ 4096 < l.length) {m : Nat} (hm : m < l.length) (ha : ∀ j, j < m → fltN l j = 0) (hf : fltN l m ≠ 0) : chkL l = ((m : Int), fltN l m) := by unfold chkL; rw [if_neg h]; exact chkGo_bad l _ _ m (Nat.zero_le _) (by omega) (fun j _ h2 => ha j h2) hf
theorem chkL_zero {l : List Ev} (h : (chkL l).2 = 0) : l.length ≤ 4096 ∧ ∀ j, j < l.length → fltN l j = 0 := by
  unfold chkL at h
  split at h
  · cases h
  · exact ⟨by omega, fun j hj => chkGo_zero l _ _ h j (Nat.zero_le _) (by omega)⟩
theorem inv_upto {l : List Ev} : ∀ k, k ≤ l.length → (∀ j, j < k → fltN l j = 0) → Inv (stN l k) (bkN l k) ∧ Bok (bkN l k)
  | 0, _, _ => ⟨inv0, bok0⟩
  | k + 1, hk, h => by
    obtain ⟨i1, b1⟩ := inv_upto k (by omega) fun j hj => h j (by omega)
    have he : l[k]? = some (l[k]'(by omega)) := List.getElem?_eq_getElem _
    rw [bkN_succ he, stN_succ he]
    have hf := h k (by omega)
    unfold fltN at hf
    rw [he] at hf
    exact apply_inv i1 b1 _ _ hf
/-- a valid list of events -/
def Vl (l : List Ev) : Prop := l.length ≤ 40 ∧ ∀ j, j < l.length → fltN l j = 0
theorem flt_last {l : List Ev} {k : Nat} {e : Ev} (he : l[k]? = some e) (h : fltN l k = 0) : 0 ≤ e.at_ ∧ e.at_ < 12622780800 ∧ lastN l k ≤ e.at_ := by
  unfold fltN at h
  rw [he] at h
  simp only [faultR] at h
  by_cases h1 : formR e (lastN l k) = 0
  · unfold formR at h1
    by_cases hk : e.kind < 1 ∨ 15 < e.kind
    · rw [if_pos hk] at h1; cases h1
    rw [if_neg hk] at h1
    by_cases ht : e.at_ < 0 ∨ 12622780800 ≤ e.at_
    · rw [if_pos ht] at h1; cases h1
    rw [if_neg ht] at h1
    by_cases hl : e.at_ < lastN l k
    · rw [if_pos hl] at h1; cases h1
    · omega
  · rw [if_pos h1] at h; exact absurd h h1
theorem Vl.asc {l : List Ev} (h : Vl l) : ∀ (i j : Nat) (a b : Ev), i ≤ j → l[i]? = some a → l[j]? = some b → a.at_ ≤ b.at_ := by
  intro i j a b hij ha hb
  obtain ⟨d, rfl⟩ := Nat.exists_eq_add_of_le hij
  clear hij
  induction d generalizing b with
  | zero => rw [Nat.add_zero, ha] at hb; cases hb; exact Int.le_refl _
  | succ d ih =>
    have hlt := (List.getElem?_eq_some_iff.1 hb).1
    have hc : l[i + d]? = some (l[i + d]'(by omega)) := List.getElem?_eq_getElem _
    have h1 := ih _ hc
    have h2 := (flt_last (k := i + d + 1) hb (h.2 _ (by omega))).2.2
    unfold lastN at h2
    simp only [hc] at h2
    omega
theorem Vl.bnd {l : List Ev} (h : Vl l) {i : Nat} {a : Ev} (ha : l[i]? = some a) : 0 ≤ a.at_ ∧ a.at_ < 12622780800 := by
  have := flt_last ha (h.2 i (List.getElem?_eq_some_iff.1 ha).1)
  omega
theorem flt_take (l : List Ev) (k j : Nat) (hj : j < k) : fltN (l.take k) j = fltN l j := by
  unfold fltN
  rw [List.getElem?_take_of_lt hj]
  cases h : l[j]? with
  | none => rfl
  | some e =>
    have e1 : bkN (l.take k) j = bkN l j := by unfold bkN; rw [List.take_take, Nat.min_eq_left (by omega)]
    have e2 : lastN (l.take k) j = lastN l j := by
      cases j with
      | zero => rfl
      | succ j => simp only [lastN]; rw [List.getElem?_take_of_lt (by omega)]
    simp only [e1, e2]
theorem Vl.take {l : List Ev} (h : Vl l) (k : Nat) : Vl (l.take k) := by
  refine ⟨by rw [List.length_take]; have := h.1; omega, fun j hj => ?_⟩
  rw [List.length_take] at hj
  rw [flt_take l k j (by omega)]
  exact h.2 j (by omega)
/-- how many events have taken effect -/
def cutN (l : List Ev) (t : Int) : Nat := (l.takeWhile fun e => decide (e.at_ ≤ t)).length
def atB (t : Int) (e : Ev) : Bool := decide (e.at_ ≤ t)
theorem filter_asc (t : Int) : ∀ l : List Ev, l.Pairwise (fun a b => a.at_ ≤ b.at_) → l.filter (atB t) = l.take (cutN l t)
  | [], _ => rfl
  | x :: l, h => by
    obtain ⟨h1, h2⟩ := List.pairwise_cons.1 h
    unfold cutN
    by_cases hx : x.at_ ≤ t
    · rw [List.filter_cons_of_pos (by simpa [atB] using hx), List.takeWhile_cons_of_pos (by simpa using hx), List.length_cons, List.take_succ_cons, filter_asc t l h2]
      rfl
    · rw [List.filter_cons_of_neg (by simpa [atB] using hx), List.takeWhile_cons_of_neg (by simpa using hx), List.length_nil, List.take_zero, List.filter_eq_nil_iff]
      intro y hy
      have := h1 y hy
      simp [atB]; omega
theorem Vl.pw {l : List Ev} (h : Vl l) : l.Pairwise (fun a b => a.at_ ≤ b.at_) := by
  rw [List.pairwise_iff_getElem]
  intro i j hi hj hij
  exact h.asc i j _ _ (by omega) (List.getElem?_eq_getElem hi) (List.getElem?_eq_getElem hj)
def bkAt (l : List Ev) (t : Int) : Bk := (l.filter (atB t)).foldl applyR bk0
def stAt (l : List Ev) (t : Int) : St := (l.filter (atB t)).foldl applyP st0
theorem at_inv {l : List Ev} (h : Vl l) (t : Int) : Inv (stAt l t) (bkAt l t) ∧ Bok (bkAt l t) := by
  unfold stAt bkAt
  rw [filter_asc t l h.pw]
  have hv := h.take (cutN l t)
  have := inv_upto (l := l.take (cutN l t)) (l.take (cutN l t)).length (Nat.le_refl _) hv.2
  unfold stN bkN at this
  rw [List.take_length] at this
  exact this
end Cu
end Go.Proofs.Yteaanngagcflhaa
