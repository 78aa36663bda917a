/-
  Numbers, in plain words: to whom they belong, and when; Numbers: next, Same of spells, the reference's Owner, both Numbers; Numbers: owners and Owner. No condition.
-/
import Derived.Test.YteaanngagcflhaaKa19
import Derived.Test.YteaanngagcflhaaKa21
import Derived.BigQuiet
import Derived.StillTailTactics
import Derived.Lib.Overlaps
import Derived.Deep.DeepCutAuto
import Derived.Deep.RegionWith
import Derived.Laws.RangeAny
import Derived.RangeFuncNested
set_option maxRecDepth 100000
set_option linter.unusedVariables false
set_option linter.unusedSimpArgs false
namespace Go.Proofs.Yteaanngagcflhaa
open Go.RowKit
namespace Nb
open Cu
structure Od where
  sub : Int
  from_ : Int
  to_ : Int
instance : Flat Od where
  sz := 3
  pos := by decide
  cells d := [.int .i64 d.sub, .int .i64 d.from_, .int .i64 d.to_]
  len _ := rfl
  one _ := by simp [Value.oneCell']
def ownB (b : Bk) (x : ByteArray) : Option Int := ((cSubs b).find? fun s => hasS s.nums x).map (·.id)
theorem mem_cSubs {b : Bk} (hb : Bok b) {s : Sb} : s ∈ cSubs b ↔ findS b s.id = some s ∧ endedB b s.id = false := by
  unfold cSubs
  rw [List.mem_filterMap]
  constructor
  · rintro ⟨i, _, hi⟩
    have h1 := liveS_id hi
    subst h1
    unfold liveS at hi
    split at hi
    · cases hi
    · rename_i he; exact ⟨hi, by simpa using he⟩
  · rintro ⟨h1, h2⟩
    refine ⟨s.id, rngK_mem.2 (hb.sr s (findS_id h1).1), ?_⟩
    unfold liveS
    rw [if_neg (by simp [h2]), h1]
theorem ended_nums {b : Bk} (hb : Bok b) {n : Int} {s : Sb} {x : ByteArray} (h : findS b n = some s) (hx : hasS s.nums x = true) : endedB b n = false := by
  cases he : endedB b n
  · rfl
  · obtain ⟨t, h1, h2, _⟩ := hb.en n he
    rw [h] at h1; cases h1
    rw [h2] at hx; cases hx
theorem ownB_some {b : Bk} (hb : Bok b) {x : ByteArray} {n : Int} : ownB b x = some n ↔ ∃ s, findS b n = some s ∧ hasS s.nums x = true := by
  unfold ownB
  rw [Option.map_eq_some_iff]
  constructor
  · rintro ⟨s, h1, rfl⟩
    exact ⟨s, ((mem_cSubs hb).1 (List.mem_of_find?_eq_some h1)).1, by simpa using List.find?_some h1⟩
  · rintro ⟨s, h1, h2⟩
    have hid := (findS_id h1).2
    subst hid
    have hm : s ∈ cSubs b := (mem_cSubs hb).2 ⟨h1, ended_nums hb h1 h2⟩
    cases hf : (cSubs b).find? fun s => hasS s.nums x with
    | none => exact absurd h2 (by have := List.find?_eq_none.1 hf s hm; simpa using this)
    | some t =>
      refine ⟨t, rfl, ?_⟩
      have h3 := ((mem_cSubs hb).1 (List.mem_of_find?_eq_some hf)).1
      have h4 : hasS t.nums x = true := by simpa using List.find?_some hf
      exact hb.dj _ _ _ _ x.toList h3 h1 h4 h2
theorem own_st {s : St} {b : Bk} (hi : Inv s b) (hb : Bok b) (x : ByteArray) : s.own x.toList = ownB b x := by
  refine Option.ext fun n => ?_
  rw [hi.own, ownB_some hb]
  rfl
def nxt (owner : Int) (x : ByteArray) (e : Ev) : Int := if e.kind = 5 ∧ seq_ e.num x = true then e.sub else if (e.kind = 6 ∧ seq_ e.num x = true) ∨ (e.kind = 4 ∧ e.sub = owner) then 0 else owner
def nowN (l : List Ev) (x : ByteArray) (k : Nat) : Int := (l.take k).foldl (fun o e => nxt o x e) 0
theorem nowN_succ {l : List Ev} {x : ByteArray} {k : Nat} {e : Ev} (h : l[k]? = some e) : nowN l x (k + 1) = nxt (nowN l x k) x e := by
  unfold nowN
  rw [List.take_add_one, h, Option.toList_some, List.foldl_append]; rfl
theorem ofSub_live {b : Bk} {e : Ev} (h : ofSub b e = 0) : ∃ s, findS b e.sub = some s ∧ endedB b e.sub = false := by
  unfold ofSub at h
  cases hf : findS b e.sub with
  | none => rw [hf] at h; cases h
  | some s =>
    rw [hf] at h
    dsimp only at h
    by_cases he : endedB b e.sub = true
    · rw [if_pos he] at h; cases h
    · exact ⟨s, rfl, by simpa using he⟩
theorem own_apply {s : St} {e : Ev} {t : Sb} (x : ByteArray) (h4 : 4 ≤ e.kind) (h13 : e.kind ≤ 13) (hs : s.sub e.sub = some t) :
    (applyP s e).own x.toList = if e.kind = 5 ∧ seq_ e.num x = true then some e.sub else if (e.kind = 6 ∧ seq_ e.num x = true) ∨ (e.kind = 4 ∧ hasS t.nums x = true) then none else s.own x.toList := by
  have hx : (x.toList = e.num.toList) = (seq_ e.num x = true) := by rw [seq_iff]; exact propext ⟨fun h => h.symm, fun h => h.symm⟩
  unfold applyP
  rw [if_neg (by omega), if_neg (by omega), if_neg (by omega)]
  by_cases k4 : e.kind = 4
  · rw [if_pos k4, hs]
    show delAll s.own t.nums x.toList = _
    unfold delAll
    have e5 : ¬ (e.kind = 5 ∧ seq_ e.num x = true) := by omega
    rw [if_neg e5]
    by_cases hh : hasS t.nums x = true
    · rw [if_pos (show t.nums.any (fun y => y.toList == x.toList) = true from hh), if_pos (.inr ⟨k4, hh⟩)]
    · rw [if_neg (show ¬ t.nums.any (fun y => y.toList == x.toList) = true from hh), if_neg (by rintro (⟨h, _⟩ | ⟨_, h⟩); omega; exact hh h)]
  · rw [if_neg k4, if_neg (by omega), hs]
    dsimp only
    by_cases k5 : e.kind = 5
    · rw [if_pos k5]
      unfold upd
      by_cases hq : seq_ e.num x = true
      · rw [if_pos (by rw [hx]; exact hq), if_pos ⟨k5, hq⟩]
      · rw [if_neg (by rw [hx]; exact hq), if_neg (fun h => hq h.2), if_neg (by rintro (⟨h, _⟩ | ⟨h, _⟩) <;> omega)]
    · have e5 : ¬ (e.kind = 5 ∧ seq_ e.num x = true) := fun h => k5 h.1
      rw [if_neg k5, if_neg e5]
      by_cases k6 : e.kind = 6
      · rw [if_pos k6]
        unfold upd
        by_cases hq : seq_ e.num x = true
        · rw [if_pos (by rw [hx]; exact hq), if_pos (.inl ⟨k6, hq⟩)]
        · rw [if_neg (by rw [hx]; exact hq), if_neg (by rintro (⟨_, h⟩ | ⟨h, _⟩); exact hq h; exact k4 h)]
      · rw [if_neg k6, if_neg (by rintro (⟨h, _⟩ | ⟨h, _⟩); exact k6 h; exact k4 h)]
theorem own_other {s : St} {e : Ev} (h : ¬ (4 ≤ e.kind ∧ e.kind ≤ 13)) (h15 : 1 ≤ e.kind ∧ e.kind ≤ 15) : (applyP s e).own = s.own := by
  unfold applyP
  by_cases k1 : e.kind = 1
  · rw [if_pos k1]
  rw [if_neg k1]
  by_cases k2 : e.kind = 2
  · rw [if_pos k2]
  rw [if_neg k2]
  by_cases k3 : e.kind = 3
  · rw [if_pos k3]
  rw [if_neg k3, if_neg (by omega), if_pos (by omega)]
theorem sub_pos {b : Bk} (hb : Bok b) {n : Int} {s : Sb} (h : findS b n = some s) : 1 ≤ n := by
  have h1 := findS_id h
  have := hb.sr s h1.1
  omega
theorem ownB_0 (x : ByteArray) : ownB bk0 x = none := by
  cases h : ownB bk0 x with
  | none => rfl
  | some n => obtain ⟨s, hs, _⟩ := (ownB_some bok0).1 h; cases hs
theorem now_own {l : List Ev} (hv : Vl l) (x : ByteArray) : ∀ k, k ≤ l.length → nowN l x k = (ownB (bkN l k) x).getD 0
  | 0, _ => by rw [show bkN l 0 = bk0 from rfl, ownB_0]; rfl
  | k + 1, hk => by
    have ih := now_own hv x k (by omega)
    obtain ⟨e, he⟩ : ∃ e, l[k]? = some e := ⟨_, List.getElem?_eq_getElem (by omega)⟩
    obtain ⟨i0, b0⟩ := inv_upto (l := l) k (by omega) (fun j hj => hv.2 j (by omega))
    obtain ⟨i1, b1⟩ := inv_upto (l := l) (k + 1) hk (fun j hj => hv.2 j (by omega))
    have hf : faultR (bkN l k) e (lastN l k) = 0 := by have := hv.2 k (by omega); unfold fltN at this; rw [he] at this; exact this
    obtain ⟨h15, _, _, _, _⟩ := fault_parts hf
    rw [nowN_succ he, ih, ← own_st i1 b1, stN_succ he, ← own_st i0 b0]
    by_cases hm : 4 ≤ e.kind ∧ e.kind ≤ 13
    · have hu : uA e.kind = false := by
        unfold uA
        have h1 : (e.kind == 1) = false := by rw [beq_eq_false_iff_ne]; omega
        have h2 : (e.kind == 2) = false := by rw [beq_eq_false_iff_ne]; omega
        have h3 : (e.kind == 3) = false := by rw [beq_eq_false_iff_ne]; omega
        have h4 : (e.kind == 14) = false := by rw [beq_eq_false_iff_ne]; omega
        have h5 : (e.kind == 15) = false := by rw [beq_eq_false_iff_ne]; omega
        rw [h1, h2, h3, h4, h5]; rfl
      obtain ⟨_, ho⟩ := of_sub hf hu
      obtain ⟨t, ht, hen⟩ := ofSub_live ho
      have hst : (stN l k).sub e.sub = some t := by rw [i0.sub, hen]; exact ht
      have hp := sub_pos b0 ht
      rw [own_apply x hm.1 hm.2 hst]
      unfold nxt
      by_cases h5 : e.kind = 5 ∧ seq_ e.num x = true
      · rw [if_pos h5, if_pos h5]; rfl
      rw [if_neg h5, if_neg h5]
      by_cases h6 : e.kind = 6 ∧ seq_ e.num x = true
      · rw [if_pos (.inl h6), if_pos (.inl h6)]; rfl
      have hiff : e.sub = ((stN l k).own x.toList).getD 0 ↔ hasS t.nums x = true := by
        constructor
        · intro h
          cases ho2 : (stN l k).own x.toList with
          | none => rw [ho2] at h; simp at h; omega
          | some n =>
            rw [ho2] at h
            simp at h
            subst h
            obtain ⟨t', h1, h2⟩ := (i0.own _ _).1 ho2
            rw [ht] at h1; cases h1
            exact h2
        · intro h
          rw [(i0.own x.toList e.sub).2 ⟨t, ht, h⟩]; rfl
      by_cases h4 : e.kind = 4 ∧ hasS t.nums x = true
      · rw [if_pos (.inr ⟨h4.1, hiff.2 h4.2⟩), if_pos (.inr h4)]; rfl
      · rw [if_neg (by rintro (h | ⟨h, h'⟩); exact h6 h; exact h4 ⟨h, hiff.1 h'⟩), if_neg (by rintro (h | h); exact h6 h; exact h4 h)]
    · rw [own_other hm h15]
      unfold nxt
      rw [if_neg (fun h => hm (by omega)), if_neg (by rintro (h | h) <;> exact hm (by omega))]
def toN (l : List Ev) (k : Nat) : Int := match l[k]? with
  | some e => e.at_
  | none => 12622780800
def addR (out : List Od) (n f t : Int) : List Od := match out.getLast? with
  | some d => if d.sub = n ∧ d.to_ = f then out.dropLast ++ [⟨d.sub, d.from_, t⟩] else out ++ [⟨n, f, t⟩]
  | none => out ++ [⟨n, f, t⟩]
def stepR (l : List Ev) (x : ByteArray) (k : Nat) (e : Ev) (out : List Od) : List Od :=
  if e.at_ = toN l (k + 1) then out else match ownB (bkAt l e.at_) x with
  | none => out
  | some n => addR out n e.at_ (toN l (k + 1))
def spR (l : List Ev) (x : ByteArray) : Nat → List Od
  | 0 => []
  | k + 1 => match l[k]? with
    | some e => stepR l x k e (spR l x k)
    | none => spR l x k
structure Sp where
  out : List Od
  since : Int
  owner : Int
  now : Int
def pend (s : Sp) (t : Int) : List Od := if s.owner = 0 then [] else [⟨s.owner, s.since, t⟩]
def stepP (l : List Ev) (x : ByteArray) (k : Nat) (e : Ev) (s : Sp) : Sp :=
  if (k + 1 < l.length ∧ toN l (k + 1) = e.at_) ∨ nxt s.now x e = s.owner then { s with now := nxt s.now x e }
  else ⟨s.out ++ pend s e.at_, e.at_, nxt s.now x e, nxt s.now x e⟩
def spP (l : List Ev) (x : ByteArray) : Nat → Sp
  | 0 => ⟨[], 0, 0, 0⟩
  | k + 1 => match l[k]? with
    | some e => stepP l x k e (spP l x k)
    | none => spP l x k
def spE (l : List Ev) (x : ByteArray) : List Od := (spP l x l.length).out ++ pend (spP l x l.length) 12622780800
theorem spP_succ {l : List Ev} {x : ByteArray} {k : Nat} {e : Ev} (h : l[k]? = some e) : spP l x (k + 1) = stepP l x k e (spP l x k) := by
  show (match l[k]? with | some e => stepP l x k e (spP l x k) | none => spP l x k) = _
  rw [h]
theorem spR_succ {l : List Ev} {x : ByteArray} {k : Nat} {e : Ev} (h : l[k]? = some e) : spR l x (k + 1) = stepR l x k e (spR l x k) := by
  show (match l[k]? with | some e => stepR l x k e (spR l x k) | none => spR l x k) = _
  rw [h]
theorem spP_now {l : List Ev} {x : ByteArray} : ∀ k, k ≤ l.length → (spP l x k).now = nowN l x k
  | 0, _ => rfl
  | k + 1, hk => by
    obtain ⟨e, he⟩ : ∃ e, l[k]? = some e := ⟨_, List.getElem?_eq_getElem (by omega)⟩
    rw [spP_succ he, nowN_succ he, ← spP_now k (by omega)]
    unfold stepP
    split <;> rfl
theorem toN_at {l : List Ev} {k : Nat} {e : Ev} (h : l[k]? = some e) : toN l k = e.at_ := by unfold toN; rw [h]
theorem toN_end {l : List Ev} {k : Nat} (h : l.length ≤ k) : toN l k = 12622780800 := by unfold toN; rw [List.getElem?_eq_none h]
theorem toN_mono {l : List Ev} (hv : Vl l) {k : Nat} {e : Ev} (h : l[k]? = some e) : e.at_ ≤ toN l (k + 1) := by
  unfold toN
  cases h2 : l[k + 1]? with
  | none => have := (hv.bnd h).2; dsimp only; omega
  | some f => exact hv.asc k (k + 1) e f (by omega) h h2
theorem bk_settled {l : List Ev} (hv : Vl l) {k : Nat} {e : Ev} (h : l[k]? = some e) (hne : e.at_ ≠ toN l (k + 1)) : bkAt l e.at_ = bkN l (k + 1) := by
  have hk := (List.getElem?_eq_some_iff.1 h).1
  have hm := toN_mono hv h
  rw [(bkAt_N hv e.at_).1]
  congr 1
  refine cutN_eq (by omega) (fun m y hm hy => ?_) (fun y hy => ?_)
  · exact hv.asc m k y e (by omega) hy h
  · rw [toN_at hy] at hm hne; omega
structure PI (l : List Ev) (x : ByteArray) (k : Nat) (s : Sp) : Prop where
  eq : spR l x k = s.out ++ pend s (toN l k)
  set : (k = l.length ∨ ∀ e, l[k - 1]? = some e → e.at_ ≠ toN l k) → s.owner = s.now
  le : ∀ d ∈ s.out, d.to_ ≤ s.since ∧ s.since < toN l k
  zero : k = 0 → s = ⟨[], 0, 0, 0⟩
  own : s.owner ≠ 0 → s.since < toN l k
theorem last_app {out : List Od} {d : Od} : (out ++ [d]).getLast? = some d := by simp
theorem addR_same {out : List Od} {n f t : Int} {since : Int} : addR (out ++ [⟨n, since, f⟩]) n f t = out ++ [⟨n, since, t⟩] := by
  unfold addR
  rw [last_app]
  dsimp only
  rw [if_pos ⟨rfl, rfl⟩, List.dropLast_concat]
theorem addR_new {out : List Od} {n f t : Int} (h : ∀ d, out.getLast? = some d → ¬ (d.sub = n ∧ d.to_ = f)) : addR out n f t = out ++ [⟨n, f, t⟩] := by
  unfold addR
  cases hl : out.getLast? with
  | none => rfl
  | some d => dsimp only; rw [if_neg (h d hl)]
theorem own_ne {l : List Ev} (hv : Vl l) {x : ByteArray} {k : Nat} (hk : k ≤ l.length) {n : Int} (h : ownB (bkN l k) x = some n) : n ≠ 0 ∧ nowN l x k = n := by
  obtain ⟨_, b0⟩ := inv_upto (l := l) k hk (fun j hj => hv.2 j (by omega))
  obtain ⟨s, hs, _⟩ := (ownB_some b0).1 h
  have := sub_pos b0 hs
  refine ⟨by omega, ?_⟩
  rw [now_own hv x k hk, h]; rfl
theorem own_none {l : List Ev} (hv : Vl l) {x : ByteArray} {k : Nat} (hk : k ≤ l.length) (h : ownB (bkN l k) x = none) : nowN l x k = 0 := by
  rw [now_own hv x k hk, h]; rfl
theorem pi_all {l : List Ev} (hv : Vl l) (x : ByteArray) : ∀ k, k ≤ l.length → PI l x k (spP l x k)
  | 0, _ => ⟨rfl, fun _ => rfl, fun d hd => (by cases hd), fun _ => rfl, fun h => absurd rfl h⟩
  | k + 1, hk => by
    have ih := pi_all hv x k (by omega)
    obtain ⟨e, he⟩ : ∃ e, l[k]? = some e := ⟨_, List.getElem?_eq_getElem (by omega)⟩
    have hT : toN l k = e.at_ := toN_at he
    have hmono := toN_mono hv he
    have hnow := spP_now (l := l) (x := x) k (by omega)
    have hn1 : nxt (spP l x k).now x e = nowN l x (k + 1) := by rw [nowN_succ he, hnow]
    have hne0 : e.at_ = toN l (k + 1) → k + 1 < l.length := fun h => by
      by_cases hl : k + 1 < l.length
      · exact hl
      · rw [toN_end (by omega)] at h; have := (hv.bnd he).2; omega
    rw [spP_succ he]
    obtain ⟨s, hs⟩ : ∃ s, spP l x k = s := ⟨_, rfl⟩
    rw [hs] at ih hn1 ⊢
    unfold stepP
    by_cases hsame : e.at_ = toN l (k + 1)
    · rw [if_pos (.inl ⟨hne0 hsame, hsame.symm⟩)]
      have hR : spR l x (k + 1) = spR l x k := by rw [spR_succ he]; unfold stepR; rw [if_pos hsame]
      refine ⟨?_, fun h => ?_, fun d hd => ?_, fun h => absurd h (Nat.succ_ne_zero k), fun h => ?_⟩
      · rw [hR, ih.eq, hT, hsame]; rfl
      · rcases h with h | h
        · have := hne0 hsame; omega
        · exact absurd hsame (h e he)
      · have := ih.le d hd; rw [hT, hsame] at this; exact this
      · have := ih.own h; rw [hT, hsame] at this; exact this
    · have hlt : e.at_ < toN l (k + 1) := by omega
      have hbk := bk_settled hv he hsame
      have hR : spR l x (k + 1) = (match ownB (bkN l (k + 1)) x with | none => spR l x k | some n => addR (spR l x k) n e.at_ (toN l (k + 1))) := by
        rw [spR_succ he]; unfold stepR; rw [if_neg hsame, hbk]
      by_cases hno : nxt s.now x e = s.owner
      · rw [if_pos (.inr hno)]
        refine ⟨?_, fun _ => hno.symm, fun d hd => ?_, fun h => absurd h (Nat.succ_ne_zero k), fun h => ?_⟩
        · rw [hR]
          cases ho : ownB (bkN l (k + 1)) x with
          | none =>
            have h0 := own_none hv hk ho
            rw [← hn1, hno] at h0
            dsimp only
            rw [ih.eq]
            unfold pend
            dsimp only
            rw [if_pos h0, if_pos h0]
          | some n =>
            obtain ⟨h0, h1⟩ := own_ne hv hk ho
            rw [← hn1, hno] at h1
            dsimp only
            rw [ih.eq]
            unfold pend
            dsimp only
            rw [if_neg (by omega), if_neg (by omega), hT, h1, addR_same]
        · have := ih.le d hd; rw [hT] at this; exact ⟨this.1, by show s.since < _; omega⟩
        · have := ih.own h; rw [hT] at this; show s.since < _; omega
      · rw [if_neg (by rintro (h | h); exact hsame h.2.symm; exact hno h)]
        have hout : spR l x k = s.out ++ pend s e.at_ := by rw [ih.eq, hT]
        have hle : ∀ d ∈ s.out ++ pend s e.at_, d.to_ ≤ e.at_ := fun d hd => by
          rcases List.mem_append.1 hd with hd | hd
          · have := ih.le d hd; omega
          · unfold pend at hd
            split at hd
            · cases hd
            · rw [List.mem_singleton] at hd; subst hd; exact Int.le_refl _
        refine ⟨?_, fun _ => rfl, fun d hd => ⟨hle d hd, hlt⟩, fun h => absurd h (Nat.succ_ne_zero k), fun _ => hlt⟩
        rw [hR]
        cases ho : ownB (bkN l (k + 1)) x with
        | none =>
          have h0 := own_none hv hk ho
          rw [← hn1] at h0
          dsimp only
          rw [hout, show pend ⟨s.out ++ pend s e.at_, e.at_, nxt s.now x e, nxt s.now x e⟩ (toN l (k + 1)) = [] from if_pos h0, List.append_nil]
        | some n =>
          obtain ⟨h0, h1⟩ := own_ne hv hk ho
          rw [← hn1] at h1
          dsimp only
          rw [hout, show pend ⟨s.out ++ pend s e.at_, e.at_, nxt s.now x e, nxt s.now x e⟩ (toN l (k + 1)) = [⟨n, e.at_, toN l (k + 1)⟩] from by unfold pend; dsimp only; rw [if_neg (by omega), h1]]
          refine addR_new fun d hd => ?_
          rintro ⟨g1, g2⟩
          by_cases hz : s.owner = 0
          · have hp : pend s e.at_ = [] := if_pos hz
            rw [hp, List.append_nil] at hd
            have hm := ih.le d (List.mem_of_getLast? hd)
            omega
          · have hp : pend s e.at_ = [⟨s.owner, s.since, e.at_⟩] := if_neg hz
            rw [hp, last_app] at hd
            cases hd
            exact hno (h1.trans g1.symm)
theorem sp_eq {l : List Ev} (hv : Vl l) (x : ByteArray) : spE l x = spR l x l.length := by
  have h := (pi_all hv x l.length (Nat.le_refl _)).eq
  rw [toN_end (Nat.le_refl _)] at h
  exact h.symm
end Nb
namespace Nb
open Cu
set_option maxHeartbeats 4000000 in
theorem next_any (owner : Int) (x : ByteArray) (e : Ev) (w : World) :
    Calls Try.prog 109 #[.int .i64 owner, .string x, e.v] w fun r w' => r = .returned (.int .i64 (nxt owner x e)) ∧ Below w.heap.size w w' := by
  obtain ⟨at_, k, acc, sub, num, name, val⟩ := e
  unfold Ev.v
  dsimp only
  have HN : Hid (nxt owner x ⟨at_, k, acc, sub, num, name, val⟩ = if k = 5 ∧ seq_ num x = true then sub else if (k = 6 ∧ seq_ num x = true) ∨ (k = 4 ∧ sub = owner) then 0 else owner) := Lib.hid rfl
  go_enter Try.func109, Try.ntmps109
  go_upto_region 1 with (fail)
  (obtain ⟨W, hWW, hbW, hzW, f1W, qfa⟩ := box1 w #[.int .i64 at_, .int .i64 k, .int .i64 acc, .int .i64 sub, .string num, .string name, .int .i64 val] 36; rw [← hWW]; have qa0 : W.cell? ⟨w.heap.size, 0, none⟩ = some (.int .i64 at_) := f1W 0 _ rfl; have qa1 : W.cell? ⟨w.heap.size, 1, none⟩ = some (.int .i64 k) := f1W 1 _ rfl; have qa2 : W.cell? ⟨w.heap.size, 2, none⟩ = some (.int .i64 acc) := f1W 2 _ rfl; have qa3 : W.cell? ⟨w.heap.size, 3, none⟩ = some (.int .i64 sub) := f1W 3 _ rfl; have qa4 : W.cell? ⟨w.heap.size, 4, none⟩ = some (.string num) := f1W 4 _ rfl; have qa5 : W.cell? ⟨w.heap.size, 5, none⟩ = some (.string name) := f1W 5 _ rfl; have qa6 : W.cell? ⟨w.heap.size, 6, none⟩ = some (.int .i64 val) := f1W 6 _ rfl; clear hWW f1W)
  obtain ⟨d5, c5⟩ | ⟨d5, c5⟩ : ((k == 5) = true ∧ k = 5) ∨ ((k == 5) = false ∧ ¬ k = 5) := by by_cases h : k = 5 <;> simp [h]
  all_goals obtain ⟨d6, c6⟩ | ⟨d6, c6⟩ : ((k == 6) = true ∧ k = 6) ∨ ((k == 6) = false ∧ ¬ k = 6) := by by_cases h : k = 6 <;> simp [h]
  all_goals obtain ⟨d4, c4⟩ | ⟨d4, c4⟩ : ((k == 4) = true ∧ k = 4) ∨ ((k == 4) = false ∧ ¬ k = 4) := by by_cases h : k = 4 <;> simp [h]
  all_goals (try omega)
  all_goals obtain ⟨ds, cs⟩ | ⟨ds, cs⟩ : ((num.toList == x.toList) = true ∧ seq_ num x = true) ∨ ((num.toList == x.toList) = false ∧ ¬ seq_ num x = true) := by cases h : (num.toList == x.toList) <;> simp [seq_, h]
  all_goals obtain ⟨dz, cz⟩ | ⟨dz, cz⟩ : ((sub == owner) = true ∧ sub = owner) ∨ ((sub == owner) = false ∧ ¬ sub = owner) := by by_cases h : sub = owner <;> simp [h]
  all_goals
    have HC := Lib.hid (And.intro c5 (And.intro c6 (And.intro c4 (And.intro cs cz))))
    clear c5 c6 c4 cs cz
    go_wp2_with fail
    go_ret
    exact ⟨ret_int (by obtain ⟨c5, c6, c4, cs, cz⟩ := HC.out; rw [HN.out]; simp [c5, c6, c4, cs, cz]), hbW⟩
set_option maxHeartbeats 4000000 in
theorem Numbers_any (A : Option Addr) (n c : Nat) (l : List Ev) (x t : Int) (w : World) (hs : Sl w A n c l) (hv : Vl l) (hz : SzOk l) :
    Calls Try.prog 49 #[.slice A n c, .int .i64 x, .int .i64 t] w fun r w' => (∃ A' n' c', r = .returned (.slice A' n' c') ∧ Sl w' A' n' c' (((cSubs (bkAt l t)).find? (fun y => y.id == x)).getD sb0).nums) ∧ Below w.heap.size w w' := by
  have HS := Lib.hid hs
  have HV := Lib.hid hv
  have HZ := Lib.hid hz
  clear hs hv hz
  go_enter Try.func49, Try.ntmps49
  go_upto_region 2 with (go_at_call 34; go_must (refine (Sub_any A n c l x t _ (HS.out) HV.out HZ.out).mono ?_; rintro r w5 ⟨⟨v, rfl, hr⟩, hb5⟩; dsimp only [Sv.val]))
  have HR := Lib.hid hr
  clear hr
  (obtain ⟨W, hWW, hbW, hzW, f1W, qfa⟩ := box1 w5 #[.int .i64 v.id, .int .i64 v.acc, .int .i64 v.since, .string v.plan, .slice v.An v.nn v.cn, .slice v.Ap v.np v.cp, .bool v.susp, .bool v.fam] 51; rw [← hWW]; have qa0 : W.cell? ⟨w5.heap.size, 0, none⟩ = some (.int .i64 v.id) := f1W 0 _ rfl; have qa1 : W.cell? ⟨w5.heap.size, 1, none⟩ = some (.int .i64 v.acc) := f1W 1 _ rfl; have qa2 : W.cell? ⟨w5.heap.size, 2, none⟩ = some (.int .i64 v.since) := f1W 2 _ rfl; have qa3 : W.cell? ⟨w5.heap.size, 3, none⟩ = some (.string v.plan) := f1W 3 _ rfl; have qa4 : W.cell? ⟨w5.heap.size, 4, none⟩ = some (.slice v.An v.nn v.cn) := f1W 4 _ rfl; have qa5 : W.cell? ⟨w5.heap.size, 5, none⟩ = some (.slice v.Ap v.np v.cp) := f1W 5 _ rfl; have qa6 : W.cell? ⟨w5.heap.size, 6, none⟩ = some (.bool v.susp) := f1W 6 _ rfl; have qa7 : W.cell? ⟨w5.heap.size, 7, none⟩ = some (.bool v.fam) := f1W 7 _ rfl; clear hWW f1W)
  go_wp2_with fail
  go_ret
  exact ⟨⟨v.An, v.nn, v.cn, rfl, (HR.out.on hbW).n⟩, hb5.trans (hbW.mono hb5.size)⟩
end Nb
namespace Nb
open Cu
def putN (id : Int) (g : List UInt8 → Option Int) (n : ByteArray) : List UInt8 → Option Int := upd g n.toList (some id)
def subF (g : List UInt8 → Option Int) (s : Sb) (k : Nat) : List UInt8 → Option Int := (s.nums.take k).foldl (putN s.id) g
def ownF (l : List Sb) (j : Nat) : List UInt8 → Option Int := (l.take j).foldl (fun g s => subF g s s.nums.length) (fun _ => none)
theorem subF_succ {g : List UInt8 → Option Int} {s : Sb} {k : Nat} {n : ByteArray} (h : s.nums[k]? = some n) : subF g s (k + 1) = upd (subF g s k) n.toList (some s.id) := by
  unfold subF
  rw [List.take_add_one, h, Option.toList_some, List.foldl_append]; rfl
theorem ownF_succ {l : List Sb} {j : Nat} {s : Sb} (h : l[j]? = some s) : ownF l (j + 1) = subF (ownF l j) s s.nums.length := by
  unfold ownF
  rw [List.take_add_one, h, Option.toList_some, List.foldl_append]; rfl
theorem putN_fold (id : Int) (y : List UInt8) : ∀ (ns : List ByteArray) (g : List UInt8 → Option Int), (ns.foldl (putN id) g) y = if hasL ns y = true then some id else g y
  | [], g => by simp [hasL]
  | n :: ns, g => by
    rw [List.foldl_cons, putN_fold id y ns]
    unfold putN upd hasL
    rw [List.any_cons]
    by_cases h : n.toList = y
    · rw [if_pos h.symm, show (n.toList == y) = true from by simp [h], Bool.true_or, if_pos rfl]; split <;> rfl
    · have h' : ¬ y = n.toList := fun e => h e.symm
      rw [if_neg h', show (n.toList == y) = false from by simp [h], Bool.false_or]
theorem fold_find (y : List UInt8) : ∀ (l : List Sb) (g : List UInt8 → Option Int), (∀ s ∈ l, ∀ t ∈ l, hasL s.nums y = true → hasL t.nums y = true → s.id = t.id) →
    (l.foldl (fun g s => subF g s s.nums.length) g) y = match l.find? (fun s => hasL s.nums y) with | some s => some s.id | none => g y
  | [], g, _ => rfl
  | s :: l, g, h => by
    rw [List.foldl_cons, fold_find y l _ (fun a ha b hb => h a (List.mem_cons_of_mem _ ha) b (List.mem_cons_of_mem _ hb))]
    have e1 : subF g s s.nums.length y = if hasL s.nums y = true then some s.id else g y := by unfold subF; rw [List.take_length, putN_fold]
    by_cases hs : hasL s.nums y = true
    · rw [List.find?_cons_of_pos (p := fun s : Sb => hasL s.nums y) hs]
      cases hf : l.find? (fun s => hasL s.nums y) with
      | none => dsimp only; rw [e1, if_pos hs]
      | some t =>
        dsimp only
        rw [h s List.mem_cons_self t (List.mem_cons_of_mem _ (List.mem_of_find?_eq_some hf)) hs (by simpa using List.find?_some hf)]
    · rw [List.find?_cons_of_neg (p := fun s : Sb => hasL s.nums y) hs]
      cases hf : l.find? (fun s => hasL s.nums y) with
      | none => dsimp only; rw [e1, if_neg hs]
      | some t => rfl
theorem ownF_all {b : Bk} (hb : Bok b) (x : ByteArray) : ownF (cSubs b) (cSubs b).length x.toList = ownB b x := by
  unfold ownF ownB
  rw [List.take_length, fold_find]
  · show (match (cSubs b).find? (fun s => hasS s.nums x) with | some s => some s.id | none => none) = _
    cases (cSubs b).find? (fun s => hasS s.nums x) <;> rfl
  · intro s hs t ht h1 h2
    exact hb.dj _ _ _ _ _ ((mem_cSubs hb).1 hs).1 ((mem_cSubs hb).1 ht).1 h1 h2
theorem nums_sz {P : ByteArray → Prop} {b : Bk} {e : Ev} (h : ∀ t ∈ b.subs, ∀ u ∈ t.nums, P u) (he : P e.num) : ∀ t ∈ (applyR b e).subs, ∀ u ∈ t.nums, P u := by
  have hc : ∀ s : Sb, (∀ u ∈ s.nums, P u) → ∀ u ∈ (chgR s e).nums, P u := fun s hs u hu => by
    unfold chgR at hu
    repeat' split at hu
    all_goals first
      | exact hs u hu
      | (cases hu; done)
      | (rcases insS_mem_ hu with rfl | hu; exact he; exact hs u hu)
      | exact hs u (List.mem_filter.1 hu).1
  intro t ht
  unfold applyR at ht
  split at ht
  · exact h t ht
  split at ht
  · exact h t ht
  split at ht
  · rcases List.mem_append.1 ht with ht | ht
    · exact h t ht
    · rw [List.mem_singleton] at ht; subst ht; intro u hu; cases hu
  split at ht
  · exact h t ht
  · rcases mapFirst_mem ht with ht | ⟨s, hs, rfl⟩
    · exact h t ht
    · exact hc s (h s hs)
theorem nums_fold {P : ByteArray → Prop} : ∀ (l : List Ev) (b : Bk), (∀ t ∈ b.subs, ∀ u ∈ t.nums, P u) → (∀ e ∈ l, P e.num) → ∀ t ∈ (l.foldl applyR b).subs, ∀ u ∈ t.nums, P u
  | [], b, h, _ => h
  | e :: l, b, h, hl => nums_fold l _ (nums_sz h (hl e List.mem_cons_self)) fun e he => hl e (List.mem_cons_of_mem _ he)
theorem cSubs_mem {b : Bk} {s : Sb} (h : s ∈ cSubs b) : s ∈ b.subs := by
  unfold cSubs at h
  obtain ⟨i, _, hi⟩ := List.mem_filterMap.1 h
  unfold liveS at hi
  split at hi
  · cases hi
  · exact List.mem_of_find?_eq_some hi
theorem nums_at {l : List Ev} (hz : SzOk l) (t : Int) : ∀ s ∈ cSubs (bkAt l t), ∀ u ∈ s.nums, u.size ≤ maxLen := fun s hs =>
  nums_fold (P := fun u => u.size ≤ maxLen) (l.filter (atB t)) bk0 (fun t ht => by cases ht) (fun e he => (hz e (List.mem_filter.1 he).1).1) s (cSubs_mem hs)
def fN (f : Lit → Option Value) (g : List UInt8 → Option Int) : Prop := ∀ u : ByteArray, f (.string u.data.toList) = (g u.toList).map (Value.int .i64 ·)
theorem fN.put {f : Lit → Option Value} {g : List UInt8 → Option Int} (h : fN f g) (n : ByteArray) (i : Int) : fN (setM f (.string n.data.toList) (some (.int .i64 i))) (upd g n.toList (some i)) := fun u => by
  unfold upd
  by_cases hu : u.toList = n.toList
  · rw [if_pos hu]
    rw [Lib.toList_data, Lib.toList_data] at hu
    rw [hu, setM_same]; rfl
  · rw [if_neg hu, setM_other]
    · exact h u
    · intro e
      injection e with e
      exact hu (by rw [Lib.toList_data, Lib.toList_data]; exact e)
theorem zeroI (w : World) : (zeroValue 3).run Try.prog w = .ok (.int .i64 0) w := by kernel_rfl
def O1 (w w5 : World) (l : List Sb) (j : Nat) (wr : World) : Prop := ∃ N f, MS wr w.heap.size N f ∧ N ≤ 40 * j ∧ fN f (ownF l j) ∧ Below w.heap.size w wr ∧ Keeps (fun _ => True) w5 wr
def O2 (w V : World) (l : List Sb) (s : Sb) (j k : Nat) (wr : World) : Prop := ∃ N f, MS wr w.heap.size N f ∧ N ≤ 40 * j + k ∧ fN f (subF (ownF l j) s k) ∧ Below w.heap.size w wr ∧ Keeps (fun _ => True) V wr
theorem slK {α : Type} [Flat α] {w w' : World} {A : Option Addr} {n c : Nat} {xs : List α} (h : Sl w A n c xs) (k : Keeps (fun _ => True) w w') : Sl w' A n c xs := h.keepP (fun _ _ _ _ => trivial) k
theorem ck {w w' : World} (k : Keeps (fun _ => True) w w') {b o : Nat} {v : Value} (h : w.cell? ⟨b, o, none⟩ = some v) (hb : b < w.heap.size) : w'.cell? ⟨b, o, none⟩ = some v := (k.2 b o trivial hb).trans h
set_option maxHeartbeats 16000000 in
theorem owners_any (A : Option Addr) (n c : Nat) (l : List Ev) (t : Int) (w : World) (hs : Sl w A n c l) (hv : Vl l) (hz : SzOk l) :
    Calls Try.prog 80 #[.slice A n c, .int .i64 t] w fun r w' => r = .returned (.map (some w.heap.size)) ∧ (∃ N f, MS w' w.heap.size N f ∧ fN f (fun y => ownF (cSubs (bkAt l t)) (cSubs (bkAt l t)).length y)) ∧ Below w.heap.size w w' := by
  have HS := Lib.hid hs
  have HV := Lib.hid hv
  have HZ := Lib.hid hz
  have HNZ := Lib.hid (nums_at hz t)
  have HSZ := Lib.hid (bkAt_sz hv t)
  have hfl1 := fld1
  have hmm := @run_makeMap Try.prog
  clear hs hv hz
  go_enter Try.func80, Try.ntmps80
  go_upto_region 2 with (fail)
  obtain ⟨X, hX⟩ : ∃ X, X = w.alloc (.map #[] 0) := ⟨_, rfl⟩
  rw [← hX]
  have hbX : Below w.heap.size w X := by rw [hX]; exact (Below.refl _ _).alloc (Nat.le_refl _) _
  have hszX : X.heap.size = w.heap.size + 1 := by rw [hX]; simp
  have hMX : MS X w.heap.size 0 (fun _ => none) := by rw [hX]; exact Mf.made w Try.prog _
  have HMX := Lib.hid hMX
  clear hMX hX hmm
  go_wp2_with (go_at_call 27; go_must (refine (State_vl A n c l t _ (HS.out.below hbX) HV.out HZ.out).mono ?_; rintro r w5 ⟨Aa, na, ca, As, ns, cs, rfl, hla, hls, hb5⟩; have HLS := Lib.hid hls; (have hbw5 := hbX.trans (hb5.mono hbX.size)); (have hsz5 := hb5.size); clear hla hls))
  obtain ⟨hN0, xs, hxs, hall⟩ := HLS.out
  have HXS := Lib.hid hxs
  have HALL := Lib.hid hall
  have hln : (cSubs (bkAt l t)).length = ns := HLS.out.len
  have hnm := hxs.nmax
  have HLN := Lib.hid hln
  have hns : ns ≤ 40 := by
    rw [← hln]
    have := subs_len (at_inv HV.out t).2
    have := HSZ.out.s
    unfold cSubs
    omega
  have HO0 : Hid (O1 w w5 (cSubs (bkAt l t)) 0 w5) := Lib.hid ⟨0, _, HMX.out.below hb5, by omega, fun u => rfl, hbw5, Keeps.refl_⟩
  clear hN0 hxs hall hln hb5
  go_loopw [16] (fun i wr => ∃ j : Nat, j ≤ ns ∧ i = .int .i64 j ∧ O1 w w5 (cSubs (bkAt l t)) j wr) (fun i _ => ns - (intOf i).toNat)
  case atStart => exact ⟨0, Nat.zero_le _, rfl, HO0.out⟩
  case round =>
    obtain ⟨j, hj, rfl, N, f, hm, hN, hf, hbr, hkr⟩ := hrel
    have HM := Lib.hid hm
    have HF := Lib.hid hf
    have HK := Lib.hid hkr
    have hszr := hkr.1
    clear hm hf hkr HO0
    by_cases hlt : j < ns
    · obtain ⟨b0, off, hAe, hbl, hcells⟩ := (slK HXS.out HK.out).base (by omega)
      obtain ⟨v, hv⟩ := HXS.out.get hlt
      obtain ⟨y, hy, hsr⟩ := HALL.out.at_ hv
      obtain ⟨vi, va, vs, vp, An, nn, cn, Ap, np, cp, vu, vf⟩ := v
      have hsn : Sl w5 An nn cn y.nums := hsr.n
      have hvi : vi = y.id := hsr.id
      have e0 : wr.cell? ⟨b0, off + j * 8, none⟩ = some (.int .i64 vi) := Sl.at_ hcells hv 0 rfl
      have e1 : wr.cell? ⟨b0, off + j * 8 + 1, none⟩ = some (.int .i64 va) := Sl.at_ hcells hv 1 rfl
      have e2 : wr.cell? ⟨b0, off + j * 8 + 2, none⟩ = some (.int .i64 vs) := Sl.at_ hcells hv 2 rfl
      have e3 : wr.cell? ⟨b0, off + j * 8 + 3, none⟩ = some (.string vp) := Sl.at_ hcells hv 3 rfl
      have e4 : wr.cell? ⟨b0, off + j * 8 + 4, none⟩ = some (.slice An nn cn) := Sl.at_ hcells hv 4 rfl
      have e5 : wr.cell? ⟨b0, off + j * 8 + 5, none⟩ = some (.slice Ap np cp) := Sl.at_ hcells hv 5 rfl
      have e6 : wr.cell? ⟨b0, off + j * 8 + 6, none⟩ = some (.bool vu) := Sl.at_ hcells hv 6 rfl
      have e7 : wr.cell? ⟨b0, off + j * 8 + 7, none⟩ = some (.bool vf) := Sl.at_ hcells hv 7 rfl
      have HY := Lib.hid hy
      have HSN := Lib.hid (slK hsn HK.out)
      have HID := Lib.hid hvi
      have hnn : nn ≤ 40 := by
        have h1 := hsn.len
        have h2 := (HSZ.out.t y (cSubs_mem (List.mem_of_getElem? hy))).1
        omega
      have HNZY := Lib.hid (HNZ.out y (List.mem_of_getElem? hy))
      subst hAe
      clear hcells hv hsr hy hsn hvi
      go_upto_region 5 with (fail)
      (obtain ⟨V, hWV, hbV, hzV, f1V, qfa⟩ := box1 wr #[.int .i64 vi, .int .i64 va, .int .i64 vs, .string vp, .slice An nn cn, .slice Ap np cp, .bool vu, .bool vf] 51; rw [← hWV]; have qa0 : V.cell? ⟨wr.heap.size, 0, none⟩ = some (.int .i64 vi) := f1V 0 _ rfl; have qa1 : V.cell? ⟨wr.heap.size, 1, none⟩ = some (.int .i64 va) := f1V 1 _ rfl; have qa2 : V.cell? ⟨wr.heap.size, 2, none⟩ = some (.int .i64 vs) := f1V 2 _ rfl; have qa3 : V.cell? ⟨wr.heap.size, 3, none⟩ = some (.string vp) := f1V 3 _ rfl; have qa4 : V.cell? ⟨wr.heap.size, 4, none⟩ = some (.slice An nn cn) := f1V 4 _ rfl; have qa5 : V.cell? ⟨wr.heap.size, 5, none⟩ = some (.slice Ap np cp) := f1V 5 _ rfl; have qa6 : V.cell? ⟨wr.heap.size, 6, none⟩ = some (.bool vu) := f1V 6 _ rfl; have qa7 : V.cell? ⟨wr.heap.size, 7, none⟩ = some (.bool vf) := f1V 7 _ rfl; clear hWV f1V)
      replace HSN := Lib.hid (HSN.out.below hbV)
      have HMV := Lib.hid (HM.out.below hbV)
      have hbwV := hbr.trans (hbV.mono hbr.size)
      have HKV : Hid (Keeps (fun _ => True) w5 V) := Lib.hid (HK.out.trans (Keeps.ofBelow hbV))
      have HP0 : Hid (O2 w V (cSubs (bkAt l t)) y j 0 V) := Lib.hid ⟨N, f, HMV.out, by omega, HF.out, hbwV, Keeps.refl_⟩
      have HLY := Lib.hid HSN.out.len
      clear e0 e1 e2 e3 e4 e5 e6 e7 qa1 qa2 qa3 qa5 qa6 qa7 qfa hbV
      go_wp2_with fail
      go_loopw [23] (fun i wx => ∃ k : Nat, k ≤ nn ∧ i = .int .i64 k ∧ O2 w V (cSubs (bkAt l t)) y j k wx) (fun i _ => nn - (intOf i).toNat)
      case atStart => exact ⟨0, Nat.zero_le _, rfl, HP0.out⟩
      case round =>
        obtain ⟨k, hk, rfl, N2, f2, hm2, hN2, hf2, hb2, hk2⟩ := hrel
        have HM2 := Lib.hid hm2
        have HF2 := Lib.hid hf2
        have HK2 := Lib.hid hk2
        have hsz2 := hk2.1
        have c0 := ck hk2 qa0 (by omega)
        clear hm2 hf2 hk2 HP0
        by_cases hlk : k < nn
        · obtain ⟨b1, off1, hAe, hbl1, hcells⟩ := (slK HSN.out HK2.out).base (by omega)
          obtain ⟨u, hu⟩ := HSN.out.get hlk
          subst hAe
          have g0 : wr.cell? ⟨b1, off1 + k * 1, none⟩ = some (.string u) := Sl.at_ hcells hu 0 rfl
          rw [Nat.mul_one] at g0
          have hus := HNZY.out u (List.mem_of_getElem? hu)
          have HU := Lib.hid hu
          have HUS := Lib.hid hus
          have hmx : N2 < maxLen := by unfold maxLen; omega
          have hk1w : IntKind.i64.wrap ((k : Int) + 1) = (k : Int) + 1 := IntWalk.i64_in _ (by omega)
          clear hcells hu hus
          go_wp2_with (at_mapUpdate; go_must (refine wpl_put rfl (.tmp 27) (.tmp 28) (.tmp 30) rfl keyS Try.underlying108 rfl HM2.out hmx (.string u) (.int .i64 vi) (.string u.data.toList) rfl rfl (kS HUS.out) ?_; intro w7 hm7 ht7; have HM7 := Lib.hid hm7; have HT7 := Lib.hid ht7; clear hm7 ht7))
          go_roundw
          case rel =>
            refine ⟨k + 1, by omega, by go_num, N2 + 1, _, HM7.out, by omega, ?_, turned_below HT7.out hb2 (Nat.le_refl _), HK2.out.trans (turned_keeps HT7.out)⟩
            rw [subF_succ HU.out, HID.out]
            exact HF2.out.put u y.id
          case measure => simp [intOf]; omega
        · obtain rfl : nn = k := by omega
          have hkn : ¬ ((nn : Int) < (nn : Int)) := by omega
          have hjw : IntKind.i64.wrap ((j : Int) + 1) = (j : Int) + 1 := IntWalk.i64_in _ (by omega)
          go_wp2_with fail
          go_roundw
          case rel =>
            refine ⟨j + 1, by omega, by go_num, N2, f2, HM2.out, by omega, ?_, hb2, HKV.out.trans HK2.out⟩
            rw [ownF_succ HY.out, HLY.out]
            exact HF2.out
          case measure => simp [intOf]; omega
    · obtain rfl : ns = j := by omega
      have hkn : ¬ ((ns : Int) < (ns : Int)) := by omega
      go_wp2_with fail
      go_ret
      exact ⟨rfl, ⟨N, f, HM.out, by rw [HLN.out]; exact HF.out⟩, hbr⟩
set_option maxHeartbeats 4000000 in
theorem Owner_any (A : Option Addr) (n c : Nat) (l : List Ev) (x : ByteArray) (t : Int) (w : World) (hs : Sl w A n c l) (hv : Vl l) (hz : SzOk l) (hx : x.size ≤ maxLen) :
    Calls Try.prog 41 #[.slice A n c, .string x, .int .i64 t] w fun r w' => r = .returned (.tuple #[.int .i64 ((ownB (bkAt l t) x).getD 0), .bool (ownB (bkAt l t) x).isSome]) ∧ Below w.heap.size w w' := by
  have HS := Lib.hid hs
  have HV := Lib.hid hv
  have HZ := Lib.hid hz
  have HX := Lib.hid hx
  have HO := Lib.hid (ownF_all (at_inv hv t).2 x)
  obtain ⟨ow, how⟩ : ∃ o, ownB (bkAt l t) x = o := ⟨_, rfl⟩
  rw [how] at HO ⊢
  clear hs hv hz hx how
  go_enter Try.func41, Try.ntmps41
  go_wp2_with fail
  refine (owners_any A n c l t _ HS.out HV.out HZ.out).mono ?_
  rintro r w5 ⟨rfl, ⟨N, f, hm, hf⟩, hb5⟩
  have hfx := hf x
  dsimp only at hfx
  rw [HO.out] at hfx
  have hl := hm.run_ok keyS Try.underlying108 (zeroI _) (kS HX.out) (v := .int .i64 (ow.getD 0)) (c := ow.isSome) (by rw [hfx]; cases ow <;> rfl) (by rw [hfx]; cases ow <;> rfl)
  clear hm hf hfx
  go_wp2_with fail
  go_ret2
  exact ⟨rfl, hb5⟩
end Nb
end Go.Proofs.Yteaanngagcflhaa
