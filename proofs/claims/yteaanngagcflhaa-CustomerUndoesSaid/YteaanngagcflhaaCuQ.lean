/-
  Customers in plain words: the program's world and the reference's book agree, and a faultless event keeps it so. No condition.
-/
import Derived.Test.YteaanngagcflhaaCuP
set_option maxRecDepth 100000
set_option linter.unusedVariables false
set_option linter.unusedSimpArgs false
namespace Go.Proofs.Yteaanngagcflhaa
open Go Go.RowKit
namespace Cu
/-! ### lists -/
theorem find_mapFirst {α : Type} (g : α → Int) (f : α → α) (hf : ∀ x, g (f x) = g x) (m n : Int) : ∀ l : List α,
    (mapFirst (fun x => g x == m) f l).find? (fun x => g x == n) = if n = m then (l.find? (fun x => g x == m)).map f else l.find? (fun x => g x == n)
  | [] => by simp [mapFirst]
  | x :: l => by
    have ih := find_mapFirst g f hf m n l
    unfold mapFirst
    by_cases hx : g x = m
    · rw [if_pos (by simpa using hx)]
      by_cases hn : n = m
      · rw [if_pos hn, List.find?_cons_of_pos (by simp [hf, hx, hn]), List.find?_cons_of_pos (by simp [hx])]; rfl
      · rw [if_neg hn, List.find?_cons_of_neg (by simp [hf, hx]; omega), List.find?_cons_of_neg (by simp [hx]; omega)]
    · rw [if_neg (by simpa using hx)]
      by_cases hn : n = m
      · rw [if_pos hn] at ih ⊢
        rw [List.find?_cons_of_neg (by simp [hn]; exact hx), ih, List.find?_cons_of_neg (by simp; exact hx)]
      · rw [if_neg hn] at ih ⊢
        by_cases hxn : g x = n
        · rw [List.find?_cons_of_pos (by simpa using hxn), List.find?_cons_of_pos (by simpa using hxn)]
        · rw [List.find?_cons_of_neg (by simpa using hxn), List.find?_cons_of_neg (by simpa using hxn), ih]
theorem map_mapFirst {α β : Type} (p : α → Bool) (f : α → α) (h : α → β) (hf : ∀ x, h (f x) = h x) : ∀ l : List α, (mapFirst p f l).map h = l.map h
  | [] => rfl
  | x :: l => by
    unfold mapFirst
    split
    · simp [hf]
    · simp [map_mapFirst p f h hf l]
theorem find_of_mem {α : Type} {g : α → Int} : ∀ {l : List α}, (l.map g).Nodup → ∀ {x : α}, x ∈ l → l.find? (fun y => g y == g x) = some x
  | [], _, _, h => by cases h
  | y :: l, hn, x, h => by
    rw [List.map_cons, List.nodup_cons] at hn
    rcases List.mem_cons.1 h with rfl | h
    · exact List.find?_cons_of_pos (by simp)
    · rw [List.find?_cons_of_neg]
      · exact find_of_mem hn.2 h
      · simp
        intro e
        exact hn.1 (by rw [e]; exact List.mem_map_of_mem h)
theorem mem_of_find {α : Type} {g : α → Int} {l : List α} {n : Int} {x : α} (h : l.find? (fun y => g y == n) = some x) : x ∈ l ∧ g x = n :=
  ⟨List.mem_of_find?_eq_some h, by simpa using List.find?_some h⟩
theorem find_none {α : Type} {g : α → Int} {l : List α} {n : Int} : l.find? (fun y => g y == n) = none ↔ n ∉ l.map g := by
  rw [List.find?_eq_none]
  simp only [List.mem_map, not_exists, not_and, beq_iff_eq]
/-- ascending, by insertion -/
theorem insI_mem {l : List Int} {x y : Int} : y ∈ insI l x ↔ y = x ∨ y ∈ l := by
  induction l with
  | nil => simp [insI]
  | cons a l ih =>
    unfold insI
    split
    · simp only [List.mem_cons, ih]; constructor <;> (rintro (h | h | h) <;> simp [h])
    · simp
theorem insI_asc {l : List Int} {x : Int} (h : l.Pairwise (· < ·)) (hx : x ∉ l) : (insI l x).Pairwise (· < ·) := by
  induction l with
  | nil => simp [insI]
  | cons a l ih =>
    obtain ⟨h1, h2⟩ := List.pairwise_cons.1 h
    have hxa : x ≠ a := fun e => hx (by simp [e])
    have hxl : x ∉ l := fun e => hx (by simp [e])
    unfold insI
    split
    · rename_i hlt
      refine List.pairwise_cons.2 ⟨fun y hy => ?_, ih h2 hxl⟩
      rcases insI_mem.1 hy with rfl | hy
      · exact hlt
      · exact h1 y hy
    · rename_i hge
      refine List.pairwise_cons.2 ⟨fun y hy => ?_, h⟩
      rcases List.mem_cons.1 hy with rfl | hy
      · omega
      · have := h1 y hy; omega
theorem seq_iff {a b : ByteArray} : seq_ a b = true ↔ a.toList = b.toList := by unfold seq_; rw [beq_iff_eq]
def hasL (l : List ByteArray) (x : List UInt8) : Bool := l.any fun y => y.toList == x
theorem hasL_eq (l : List ByteArray) (x : ByteArray) : hasL l x.toList = hasS l x := rfl
theorem hasL_ins {l : List ByteArray} {x : ByteArray} {k : List UInt8} : hasL (insS l x) k = (hasL l k || x.toList == k) := by
  induction l with
  | nil => simp [insS, hasL]
  | cons a l ih =>
    unfold insS
    split
    · unfold hasL at ih ⊢
      rw [List.any_cons, List.any_cons, ih, Bool.or_assoc]
    · unfold hasL
      rw [List.any_cons, List.any_cons, Bool.or_comm]
theorem hasL_rem {l : List ByteArray} {x : ByteArray} {k : List UInt8} : hasL (remS l x) k = (hasL l k && !(x.toList == k)) := by
  induction l with
  | nil => simp [remS, hasL]
  | cons a l ih =>
    unfold remS hasL at ih ⊢
    by_cases ha : seq_ a x = true
    · rw [List.filter_cons_of_neg (by simp [ha]), ih, List.any_cons, seq_iff.1 ha]
      cases hk : (x.toList == k) <;> simp [hk]
    · rw [List.filter_cons_of_pos (by simpa using ha), List.any_cons, ih, List.any_cons]
      cases hk : (a.toList == k)
      · simp
      · have : (x.toList == k) = false := by
          rw [beq_eq_false_iff_ne]
          intro e
          exact ha (seq_iff.2 ((beq_iff_eq.1 hk).trans e.symm))
        simp [this]

/-! ### what holds of a book -/
def liveB (b : Bk) (s : Sb) : Bool := !endedB b s.id
structure Bok (b : Bk) : Prop where
  aid : (b.accs.map (·.id)).Nodup
  sid : (b.subs.map (·.id)).Nodup
  ar : ∀ a ∈ b.accs, 1 ≤ a.id ∧ a.id ≤ 9999
  sr : ∀ s ∈ b.subs, 1 ≤ s.id ∧ s.id ≤ 9999
  en : ∀ n, endedB b n = true → ∃ s, findS b n = some s ∧ s.nums = [] ∧ s.prods = []
  dj : ∀ m n s t x, findS b m = some s → findS b n = some t → hasL s.nums x = true → hasL t.nums x = true → m = n
  oa : ∀ s ∈ b.subs, liveB b s = true → ∃ a, findA b s.acc = some a ∧ a.closed = false
  cnt : (b.subs.filter (liveB b)).length + b.ended.length = b.subs.length
structure Inv (s : St) (b : Bk) : Prop where
  acc : ∀ n, s.acc n = findA b n
  sub : ∀ n, s.sub n = if endedB b n = true then none else findS b n
  ever : ∀ n, s.ever n = (findS b n).isSome
  own : ∀ x n, s.own x = some n ↔ ∃ t, findS b n = some t ∧ hasL t.nums x = true
  live : ∀ n, s.live n = ((b.subs.filter fun t => t.acc == n && liveB b t).length : Int)
  opened : s.opened.Pairwise (· < ·) ∧ ∀ n, n ∈ s.opened ↔ (findA b n).isSome = true
  added : s.added.Pairwise (· < ·) ∧ ∀ n, n ∈ s.added ↔ (findS b n).isSome = true
def bk0 : Bk := ⟨[], [], []⟩
theorem bok0 : Bok bk0 := ⟨List.nodup_nil, List.nodup_nil, by simp [bk0], by simp [bk0], by simp [endedB, bk0], by simp [findS, bk0], by simp [bk0], rfl⟩
theorem inv0 : Inv st0 bk0 := ⟨fun _ => rfl, fun _ => rfl, fun _ => rfl, by simp [st0, findS, bk0], fun _ => rfl, ⟨List.Pairwise.nil, by simp [st0, findA, bk0]⟩, ⟨List.Pairwise.nil, by simp [st0, findS, bk0]⟩⟩
theorem findS_id {b : Bk} {n : Int} {s : Sb} (h : findS b n = some s) : s ∈ b.subs ∧ s.id = n := mem_of_find (g := Sb.id) h
theorem findA_id {b : Bk} {n : Int} {a : Ac} (h : findA b n = some a) : a ∈ b.accs ∧ a.id = n := mem_of_find (g := Ac.id) h
theorem findS_mem {b : Bk} (hb : Bok b) {s : Sb} (h : s ∈ b.subs) : findS b s.id = some s := find_of_mem (g := Sb.id) hb.sid h
theorem findA_mem {b : Bk} (hb : Bok b) {a : Ac} (h : a ∈ b.accs) : findA b a.id = some a := find_of_mem (g := Ac.id) hb.aid h
theorem taken_iff {b : Bk} (hb : Bok b) (x : ByteArray) : takenB b x = true ↔ ∃ n t, findS b n = some t ∧ hasL t.nums x.toList = true := by
  unfold takenB
  rw [List.any_eq_true]
  constructor
  · rintro ⟨s, hs, hx⟩; exact ⟨s.id, s, findS_mem hb hs, hx⟩
  · rintro ⟨n, t, ht, hx⟩; exact ⟨t, (findS_id ht).1, hx⟩
theorem busy_iff (b : Bk) (n : Int) : busyB b n = true ↔ 0 < (b.subs.filter fun t => t.acc == n && liveB b t).length := by
  unfold busyB
  rw [List.any_eq_true, List.length_pos_iff_exists_mem]
  constructor
  · rintro ⟨s, hs, hx⟩; exact ⟨s, List.mem_filter.2 ⟨hs, hx⟩⟩
  · rintro ⟨s, hs⟩; exact ⟨s, (List.mem_filter.1 hs).1, (List.mem_filter.1 hs).2⟩
/-- what the program says of an event is the reference's fault -/
theorem check_eq {s : St} {b : Bk} (hi : Inv s b) (hb : Bok b) (e : Ev) (h1 : 1 ≤ e.kind) (h15 : e.kind ≤ 15) : checkP s e = if uA e.kind = true then ofAcc b e else ofSub b e := by
  unfold checkP
  by_cases k1 : e.kind = 1
  · have hu : uA e.kind = true := by simp [uA, k1]
    rw [if_pos k1, if_pos hu]
    unfold ofAcc
    rw [hi.acc]
    cases findA b e.acc <;> simp [k1]
  rw [if_neg k1]
  by_cases k2 : e.kind = 2 ∨ e.kind = 14 ∨ e.kind = 15 ∨ e.kind = 3
  · have hu : uA e.kind = true := by unfold uA; simp; omega
    rw [if_pos k2, if_pos hu]
    unfold accP ofAcc
    rw [hi.acc]
    cases hf : findA b e.acc with
    | none => simp [k1]
    | some a =>
      simp only [if_neg k1]
      by_cases hc : a.closed = true
      · rw [if_pos hc, if_pos hc]
      · rw [if_neg hc, if_neg hc, hi.live, hi.ever]
        have hbz := busy_iff b e.acc
        rcases k2 with k | k | k | k
        · by_cases hl : 0 < (b.subs.filter fun t => t.acc == e.acc && liveB b t).length
          · rw [if_pos ⟨k, by omega⟩, if_neg (by omega), if_pos (.inl ⟨k, hbz.2 hl⟩)]
          · rw [if_neg (by omega), if_neg (by omega), if_neg (by omega), if_neg (by omega), if_neg (fun h => by rcases h with h | h; exact hl (hbz.1 h.2); omega)]
        · by_cases hp : a.prepaid = false
          · rw [if_neg (by omega), if_pos ⟨.inl k, hp⟩, if_neg (by omega), if_pos (.inr ⟨by omega, hp⟩)]
          · rw [if_neg (by omega), if_neg (fun h => hp h.2), if_neg (by omega), if_neg (by omega), if_neg (fun h => by rcases h with h | h; omega; exact hp h.2)]
        · by_cases hp : a.prepaid = false
          · rw [if_neg (by omega), if_pos ⟨.inr k, hp⟩, if_neg (by omega), if_pos (.inr ⟨by omega, hp⟩)]
          · rw [if_neg (by omega), if_neg (fun h => hp h.2), if_neg (by omega), if_neg (by omega), if_neg (fun h => by rcases h with h | h; omega; exact hp h.2)]
        · by_cases hp : (findS b e.sub).isSome = true
          · rw [if_neg (by omega), if_neg (by omega), if_pos ⟨k, hp⟩, if_pos ⟨k, hp⟩]
          · rw [if_neg (by omega), if_neg (by omega), if_neg (fun h => hp h.2), if_neg (fun h => hp h.2), if_neg (by omega)]
  · have hu : ¬ uA e.kind = true := by unfold uA; simp; omega
    rw [if_neg k2, if_neg hu]
    unfold ofSub
    rw [hi.sub, hi.ever]
    cases hf : findS b e.sub with
    | none => simp
    | some t =>
      by_cases he : endedB b e.sub = true
      · simp [he]
      · rw [if_neg he]
        simp only [if_neg he]
        by_cases k5 : e.kind = 5
        · rw [if_pos k5, if_pos k5]
          have ht := taken_iff hb e.num
          cases ho : s.own e.num.toList with
          | none =>
            rw [if_neg (by simp), if_neg]
            intro h
            obtain ⟨n, t', h1, h2⟩ := ht.1 h
            have := (hi.own _ _).2 ⟨t', h1, h2⟩
            rw [ho] at this; cases this
          | some n => rw [if_pos (show (some n).isSome = true from rfl), if_pos (ht.2 (by obtain ⟨t', h⟩ := (hi.own _ _).1 ho; exact ⟨n, t', h⟩))]
        · rw [if_neg k5, if_neg k5]
          by_cases k6 : e.kind = 6
          · rw [if_pos k6, if_pos k6]
            by_cases hh : hasS t.nums e.num = true
            · rw [if_pos hh, if_pos ((hi.own _ _).2 ⟨t, hf, hh⟩)]
            · rw [if_neg hh, if_neg]
              intro h
              obtain ⟨t', h1, h2⟩ := (hi.own _ _).1 h
              rw [hf] at h1
              cases h1
              exact hh h2
          · rw [if_neg k6, if_neg k6]
            by_cases k8 : e.kind = 8
            · rw [if_pos k8, if_pos k8]
            · rw [if_neg k8, if_neg k8]
              by_cases k9 : e.kind = 9
              · rw [if_pos k9, if_pos k9]
              · rw [if_neg k9, if_neg k9]
                unfold chgE
                by_cases k10 : e.kind = 10
                · cases hs : t.susp <;> simp [k10]
                · by_cases k11 : e.kind = 11
                  · cases hs : t.susp <;> simp [k11]
                  · by_cases k12 : e.kind = 12
                    · cases hs : t.fam <;> simp [k12]
                    · by_cases k13 : e.kind = 13
                      · cases hs : t.fam <;> simp [k13]
                      · simp [k10, k11, k12, k13]
end Cu
end Go.Proofs.Yteaanngagcflhaa
