/-
  Customers in plain words: a faultless event keeps the world and the book alike. No condition.
-/
import Derived.Test.YteaanngagcflhaaCuQ
set_option maxRecDepth 100000
set_option linter.unusedVariables false
set_option linter.unusedSimpArgs false
namespace Go.Proofs.Yteaanngagcflhaa
open Go Go.RowKit
namespace Cu
/-! ### how many -/
def prs (b : Bk) : List (Int × Int) := b.subs.map fun t => (t.id, t.acc)
def cntQ (ps : List (Int × Int)) (en : List Int) (q : Int → Bool) : Nat := (ps.filter fun p => q p.2 && !en.any (fun x => x == p.1)).length
theorem cnt_acc (b : Bk) (n : Int) : (b.subs.filter fun t => t.acc == n && liveB b t).length = cntQ (prs b) b.ended (fun a => a == n) := by
  unfold cntQ prs
  rw [List.filter_map, List.length_map]
  rfl
theorem cnt_all (b : Bk) : (b.subs.filter (liveB b)).length = cntQ (prs b) b.ended (fun _ => true) := by
  unfold cntQ prs
  rw [List.filter_map, List.length_map]
  rfl
theorem cnt_add (ps : List (Int × Int)) (en : List Int) (q : Int → Bool) (i a : Int) (h : en.any (fun x => x == i) = false) : cntQ (ps ++ [(i, a)]) en q = cntQ ps en q + (if q a = true then 1 else 0) := by
  unfold cntQ
  rw [List.filter_append, List.length_append]
  congr 1
  by_cases hq : q a = true
  · rw [if_pos hq, List.filter_cons_of_pos (by simp only [h, hq]; rfl)]; rfl
  · rw [if_neg hq, List.filter_cons_of_neg (by simp only [h]; simpa using hq)]; rfl
theorem cnt_same (ps : List (Int × Int)) (en : List Int) (q : Int → Bool) (i : Int) (h : i ∉ ps.map (·.1)) : cntQ ps (en ++ [i]) q = cntQ ps en q := by
  unfold cntQ
  congr 1
  refine List.filter_congr fun p hp => ?_
  rw [List.any_append]
  have : (([i] : List Int).any fun x => x == p.1) = false := by
    simp
    intro e
    exact h (by rw [e]; exact List.mem_map_of_mem hp)
  rw [this, Bool.or_false]
theorem cnt_end : ∀ (ps : List (Int × Int)) (en : List Int) (q : Int → Bool) (i a : Int), (ps.map (·.1)).Nodup → (i, a) ∈ ps → en.any (fun x => x == i) = false → cntQ ps en q = cntQ ps (en ++ [i]) q + (if q a = true then 1 else 0)
  | [], _, _, _, _, _, h, _ => by cases h
  | p :: ps, en, q, i, a, hn, h, he => by
    rw [List.map_cons, List.nodup_cons] at hn
    have hc : ∀ en', cntQ (p :: ps) en' q = (if (q p.2 && !en'.any (fun x => x == p.1)) = true then 1 else 0) + cntQ ps en' q := fun en' => by
      unfold cntQ
      by_cases hp : (q p.2 && !en'.any (fun x => x == p.1)) = true
      · rw [if_pos hp, List.filter_cons_of_pos (by simpa using hp), List.length_cons, Nat.add_comm]
      · rw [if_neg hp, List.filter_cons_of_neg (by simpa using hp), Nat.zero_add]
    rw [hc, hc]
    rcases List.mem_cons.1 h with rfl | h
    · rw [cnt_same ps en q i hn.1]
      have e1 : (en ++ [i]).any (fun x => x == i) = true := by simp
      simp only [he, e1, Bool.not_false, Bool.not_true, Bool.and_true, Bool.and_false, Bool.false_eq_true, if_false]
      omega
    · have hpi : p.1 ≠ i := fun e => hn.1 (by rw [e]; exact List.mem_map_of_mem h)
      rw [cnt_end ps en q i a hn.2 h he]
      have e1 : (en ++ [i]).any (fun x => x == p.1) = en.any (fun x => x == p.1) := by
        rw [List.any_append]
        have : (([i] : List Int).any fun x => x == p.1) = false := by simp; exact fun e => hpi e.symm
        rw [this, Bool.or_false]
      rw [e1]
      omega
/-! ### what an event does to the book -/
theorem chgR_id (s : Sb) (e : Ev) : (chgR s e).id = s.id := by unfold chgR; (repeat' split) <;> rfl
theorem chgR_acc (s : Sb) (e : Ev) : (chgR s e).acc = s.acc := by unfold chgR; (repeat' split) <;> rfl
theorem ended_none {b : Bk} (hb : Bok b) {n : Int} (h : findS b n = none) : endedB b n = false := by
  cases he : endedB b n
  · rfl
  · obtain ⟨s, hs, _⟩ := hb.en n he
    rw [h] at hs; cases hs
theorem nodup_add {l : List Int} {x : Int} (h : l.Nodup) (hx : x ∉ l) : (l ++ [x]).Nodup := by
  rw [List.nodup_append]
  exact ⟨h, by simp, fun a ha b hb => by rw [List.mem_singleton] at hb; subst hb; intro e; exact hx (by rw [← e]; exact ha)⟩
section
variable {s : St} {b : Bk}
theorem app_open (hi : Inv s b) (hb : Bok b) (e : Ev) (k : e.kind = 1) (hid : 1 ≤ e.acc ∧ e.acc ≤ 9999) (h0 : findA b e.acc = none) : Inv (applyP s e) (applyR b e) ∧ Bok (applyR b e) := by
  have eb : applyR b e = { b with accs := b.accs ++ [⟨e.acc, e.at_, e.val, seq_ e.name nPre, false⟩] } := by unfold applyR; rw [if_pos k]
  have es : applyP s e = { s with acc := upd s.acc e.acc (some ⟨e.acc, e.at_, e.val, seq_ e.name nPre, false⟩), opened := insI s.opened e.acc } := by
    unfold applyP
    rw [if_pos k, if_neg (by rw [hi.acc, h0]; simp)]
  have hF : ∀ n, findA (applyR b e) n = if n = e.acc then some ⟨e.acc, e.at_, e.val, seq_ e.name nPre, false⟩ else findA b n := fun n => by
    rw [eb]
    unfold findA
    rw [List.find?_append]
    by_cases hn : n = e.acc
    · subst hn
      rw [if_pos rfl, show b.accs.find? (fun a => a.id == e.acc) = none from h0]
      simp
    · rw [if_neg hn, List.find?_cons_of_neg (by simp; omega), List.find?_nil, Option.or_none]
  have hS : ∀ n, findS (applyR b e) n = findS b n := fun n => by rw [eb]; rfl
  have hE : ∀ n, endedB (applyR b e) n = endedB b n := fun n => by rw [eb]; rfl
  have hsub : (applyR b e).subs = b.subs := by rw [eb]
  have hend : (applyR b e).ended = b.ended := by rw [eb]
  have hacc : (applyR b e).accs = b.accs ++ [⟨e.acc, e.at_, e.val, seq_ e.name nPre, false⟩] := by rw [eb]
  have hL : ∀ t, liveB (applyR b e) t = liveB b t := fun t => by unfold liveB; rw [hE]
  have hnm : e.acc ∉ s.opened := fun h => by have := (hi.opened.2 _).1 h; rw [h0] at this; cases this
  refine ⟨⟨fun n => ?_, fun n => ?_, fun n => ?_, fun x n => ?_, fun n => ?_, ?_, ?_⟩, ⟨?_, ?_, ?_, ?_, ?_, ?_, ?_, ?_⟩⟩
  · rw [es, hF]; show upd _ _ _ n = _; unfold upd; rw [hi.acc]
  · rw [es, hE, hS]; exact hi.sub n
  · rw [es, hS]; exact hi.ever n
  · rw [es]; simp only [hS]; exact hi.own x n
  · rw [es, hsub]; simp only [hL]; exact hi.live n
  · rw [es]
    refine ⟨insI_asc hi.opened.1 hnm, fun n => ?_⟩
    rw [hF]
    show n ∈ insI _ _ ↔ _
    rw [insI_mem, hi.opened.2]
    by_cases hn : n = e.acc
    · simp [hn]
    · simp [hn]
  · rw [es]; simp only [hS]; exact hi.added
  · rw [hacc, List.map_append]; exact nodup_add hb.aid (find_none.1 h0)
  · rw [hsub]; exact hb.sid
  · rw [hacc]
    intro a ha
    rcases List.mem_append.1 ha with ha | ha
    · exact hb.ar a ha
    · rw [List.mem_singleton] at ha; subst ha; exact hid
  · rw [hsub]; exact hb.sr
  · simp only [hE, hS]; exact hb.en
  · simp only [hS]; exact hb.dj
  · rw [hsub]
    simp only [hL]
    intro t ht hl
    obtain ⟨a, ha, hc⟩ := hb.oa t ht hl
    refine ⟨a, ?_, hc⟩
    rw [hF, if_neg]
    · exact ha
    · intro e1; rw [e1, h0] at ha; cases ha
  · rw [hsub, hend, show liveB (applyR b e) = liveB b from funext hL]; exact hb.cnt
theorem app_close (hi : Inv s b) (hb : Bok b) (e : Ev) (k : e.kind = 2) (a : Ac) (h0 : findA b e.acc = some a) (hz : busyB b e.acc = false) : Inv (applyP s e) (applyR b e) ∧ Bok (applyR b e) := by
  have eb : applyR b e = { b with accs := mapFirst (fun a => a.id == e.acc) (fun a => { a with closed := true }) b.accs } := by unfold applyR; rw [if_neg (by omega), if_pos k]
  have es : applyP s e = { s with acc := upd s.acc e.acc (some { a with closed := true }) } := by
    unfold applyP
    rw [if_neg (by omega), if_pos k, hi.acc, h0]; rfl
  have hF : ∀ n, findA (applyR b e) n = if n = e.acc then some { a with closed := true } else findA b n := fun n => by
    rw [eb]
    have := find_mapFirst Ac.id (fun a => { a with closed := true }) (fun _ => rfl) e.acc n b.accs
    refine this.trans ?_
    rw [show b.accs.find? (fun x => x.id == e.acc) = some a from h0]
    rfl
  have hS : ∀ n, findS (applyR b e) n = findS b n := fun n => by rw [eb]; rfl
  have hE : ∀ n, endedB (applyR b e) n = endedB b n := fun n => by rw [eb]; rfl
  have hsub : (applyR b e).subs = b.subs := by rw [eb]
  have hend : (applyR b e).ended = b.ended := by rw [eb]
  have hids : (applyR b e).accs.map (·.id) = b.accs.map (·.id) := by rw [eb]; exact map_mapFirst _ (fun a : Ac => { a with closed := true }) Ac.id (fun _ => rfl) _
  have hL : ∀ t, liveB (applyR b e) t = liveB b t := fun t => by unfold liveB; rw [hE]
  refine ⟨⟨fun n => ?_, fun n => ?_, fun n => ?_, fun x n => ?_, fun n => ?_, ?_, ?_⟩, ⟨?_, ?_, ?_, ?_, ?_, ?_, ?_, ?_⟩⟩
  · rw [es, hF]; show upd _ _ _ n = _; unfold upd; rw [hi.acc]
  · rw [es, hE, hS]; exact hi.sub n
  · rw [es, hS]; exact hi.ever n
  · rw [es]; simp only [hS]; exact hi.own x n
  · rw [es, hsub]; simp only [hL]; exact hi.live n
  · rw [es]
    refine ⟨hi.opened.1, fun n => ?_⟩
    rw [hF]
    show n ∈ s.opened ↔ _
    rw [hi.opened.2]
    by_cases hn : n = e.acc
    · subst hn; simp [h0]
    · simp [hn]
  · rw [es]; simp only [hS]; exact hi.added
  · rw [hids]; exact hb.aid
  · rw [hsub]; exact hb.sid
  · intro x hx
    have h1 : x.id ∈ (applyR b e).accs.map (·.id) := List.mem_map_of_mem hx
    rw [hids] at h1
    obtain ⟨y, hy, e1⟩ := List.mem_map.1 h1
    rw [← e1]; exact hb.ar y hy
  · rw [hsub]; exact hb.sr
  · simp only [hE, hS]; exact hb.en
  · simp only [hS]; exact hb.dj
  · rw [hsub]
    simp only [hL]
    intro t ht hl
    obtain ⟨a', ha, hc⟩ := hb.oa t ht hl
    refine ⟨a', ?_, hc⟩
    rw [hF, if_neg]
    · exact ha
    · intro e1
      have : busyB b e.acc = true := by
        unfold busyB
        rw [List.any_eq_true]
        refine ⟨t, ht, ?_⟩
        rw [e1]
        unfold liveB at hl
        simpa using hl
      rw [hz] at this; cases this
  · rw [hsub, hend, show liveB (applyR b e) = liveB b from funext hL]; exact hb.cnt
theorem app_add (hi : Inv s b) (hb : Bok b) (e : Ev) (k : e.kind = 3) (hid : 1 ≤ e.sub ∧ e.sub ≤ 9999) (h0 : findS b e.sub = none) (a : Ac) (ha : findA b e.acc = some a) (hac : a.closed = false) : Inv (applyP s e) (applyR b e) ∧ Bok (applyR b e) := by
  have eb : applyR b e = { b with subs := b.subs ++ [⟨e.sub, e.acc, e.at_, e.name, [], [], false, false⟩] } := by unfold applyR; rw [if_neg (by omega), if_neg (by omega), if_pos k]
  have es : applyP s e = { s with added := insI s.added e.sub, ever := upd s.ever e.sub true, live := upd s.live e.acc (s.live e.acc + 1), sub := upd s.sub e.sub (some ⟨e.sub, e.acc, e.at_, e.name, [], [], false, false⟩) } := by
    unfold applyP
    rw [if_neg (by omega), if_neg (by omega), if_pos k, if_neg (by rw [hi.ever, h0]; simp)]
  have hF : ∀ n, findS (applyR b e) n = if n = e.sub then some ⟨e.sub, e.acc, e.at_, e.name, [], [], false, false⟩ else findS b n := fun n => by
    rw [eb]
    unfold findS
    rw [List.find?_append]
    by_cases hn : n = e.sub
    · subst hn
      rw [if_pos rfl, show b.subs.find? (fun a => a.id == e.sub) = none from h0]
      simp
    · rw [if_neg hn, List.find?_cons_of_neg (by simp; omega), List.find?_nil, Option.or_none]
  have hA : ∀ n, findA (applyR b e) n = findA b n := fun n => by rw [eb]; rfl
  have hE : ∀ n, endedB (applyR b e) n = endedB b n := fun n => by rw [eb]; rfl
  have hsub : (applyR b e).subs = b.subs ++ [⟨e.sub, e.acc, e.at_, e.name, [], [], false, false⟩] := by rw [eb]
  have hend : (applyR b e).ended = b.ended := by rw [eb]
  have hacc : (applyR b e).accs = b.accs := by rw [eb]
  have hL : ∀ t, liveB (applyR b e) t = liveB b t := fun t => by unfold liveB; rw [hE]
  have he0 : endedB b e.sub = false := ended_none hb h0
  have hnm : e.sub ∉ s.added := fun h => by have := (hi.added.2 _).1 h; rw [h0] at this; cases this
  have hp : prs (applyR b e) = prs b ++ [(e.sub, e.acc)] := by unfold prs; rw [hsub, List.map_append]; rfl
  refine ⟨⟨fun n => ?_, fun n => ?_, fun n => ?_, fun x n => ?_, fun n => ?_, ?_, ?_⟩, ⟨?_, ?_, ?_, ?_, ?_, ?_, ?_, ?_⟩⟩
  · rw [es, hA]; exact hi.acc n
  · rw [es, hE, hF]
    show upd _ _ _ n = _
    unfold upd
    by_cases hn : n = e.sub
    · rw [if_pos hn, if_pos hn, hn, he0]; simp
    · rw [if_neg hn, if_neg hn]; exact hi.sub n
  · rw [es, hF]
    show upd _ _ _ n = _
    unfold upd
    by_cases hn : n = e.sub
    · rw [if_pos hn, if_pos hn]; rfl
    · rw [if_neg hn, if_neg hn]; exact hi.ever n
  · rw [es]
    show s.own x = some n ↔ _
    rw [hi.own]
    simp only [hF]
    constructor
    · rintro ⟨t, h1, h2⟩
      exact ⟨t, by rw [if_neg (fun e1 => by rw [e1, h0] at h1; cases h1)]; exact h1, h2⟩
    · rintro ⟨t, h1, h2⟩
      split at h1
      · cases h1; cases h2
      · exact ⟨t, h1, h2⟩
  · rw [cnt_acc, hp, hend, es, cnt_add _ _ _ _ _ he0]
    show upd s.live e.acc (s.live e.acc + 1) n = _
    unfold upd
    rw [hi.live, hi.live, cnt_acc, cnt_acc]
    by_cases hn : n = e.acc
    · subst hn; simp
    · have : ((e.acc == n) = true) = False := by simp; omega
      simp [hn, this]
  · rw [es]; simp only [hA]; exact hi.opened
  · rw [es]
    refine ⟨insI_asc hi.added.1 hnm, fun n => ?_⟩
    rw [hF]
    show n ∈ insI _ _ ↔ _
    rw [insI_mem, hi.added.2]
    by_cases hn : n = e.sub
    · simp [hn]
    · simp [hn]
  · rw [hacc]; exact hb.aid
  · rw [hsub, List.map_append]; exact nodup_add hb.sid (find_none.1 h0)
  · rw [hacc]; exact hb.ar
  · rw [hsub]
    intro a ha
    rcases List.mem_append.1 ha with ha | ha
    · exact hb.sr a ha
    · rw [List.mem_singleton] at ha; subst ha; exact hid
  · intro n hn
    rw [hE] at hn
    obtain ⟨t, h1, h2⟩ := hb.en n hn
    exact ⟨t, by rw [hF, if_neg (fun e1 => by rw [e1, h0] at h1; cases h1)]; exact h1, h2⟩
  · intro m n t u x h1 h2 h3 h4
    rw [hF] at h1 h2
    split at h1
    · cases h1; cases h3
    · split at h2
      · cases h2; cases h4
      · exact hb.dj m n t u x h1 h2 h3 h4
  · rw [hsub]
    simp only [hL, hA]
    intro t ht hl
    rcases List.mem_append.1 ht with ht | ht
    · exact hb.oa t ht hl
    · rw [List.mem_singleton] at ht; subst ht; exact ⟨a, ha, hac⟩
  · rw [cnt_all, hp, hend, hsub, cnt_add _ _ _ _ _ he0, List.length_append]
    have := hb.cnt
    rw [cnt_all] at this
    simp
    omega
end
end Cu
end Go.Proofs.Yteaanngagcflhaa
