/-
  Customers in plain words: an event about a subscription. No condition.
-/
import Derived.Test.YteaanngagcflhaaCuR
set_option maxRecDepth 100000
set_option linter.unusedVariables false
set_option linter.unusedSimpArgs false
namespace Go.Proofs.Yteaanngagcflhaa
open Go Go.RowKit
namespace Cu
theorem chgS_eq (t : Sb) (e : Ev) (k : e.kind ≠ 4) : chgS t e = chgR t e := by unfold chgS chgR; rw [if_neg k]
theorem chgR_nums (t : Sb) (e : Ev) (k : e.kind ≠ 4) (k5 : e.kind ≠ 5) (k6 : e.kind ≠ 6) : (chgR t e).nums = t.nums := by
  unfold chgR
  rw [if_neg k, if_neg k5, if_neg k6]
  (repeat' split) <;> rfl
theorem dj_of {s : St} {b : Bk} (ho : ∀ x n, s.own x = some n ↔ ∃ t, findS b n = some t ∧ hasL t.nums x = true) : ∀ m n s t x, findS b m = some s → findS b n = some t → hasL s.nums x = true → hasL t.nums x = true → m = n :=
  fun m n u t x h1 h2 h3 h4 => by
    have a1 := (ho x m).2 ⟨u, h1, h3⟩
    have a2 := (ho x n).2 ⟨t, h2, h4⟩
    rw [a1] at a2
    injection a2
section
variable {s : St} {b : Bk}
theorem app_end (hi : Inv s b) (hb : Bok b) (e : Ev) (k : e.kind = 4) (t : Sb) (h0 : findS b e.sub = some t) (hl0 : endedB b e.sub = false) : Inv (applyP s e) (applyR b e) ∧ Bok (applyR b e) := by
  have eb : applyR b e = { b with subs := mapFirst (fun s => s.id == e.sub) (fun s => chgR s e) b.subs, ended := b.ended ++ [e.sub] } := by
    unfold applyR; rw [if_neg (by omega), if_neg (by omega), if_neg (by omega), if_neg (by omega), if_pos k]
  have hst : s.sub e.sub = some t := by rw [hi.sub, hl0, h0]; rfl
  have es : applyP s e = { s with own := delAll s.own t.nums, live := upd s.live t.acc (s.live t.acc - 1), sub := upd s.sub e.sub none } := by
    unfold applyP
    rw [if_neg (by omega), if_neg (by omega), if_neg (by omega), if_pos k, hst]; rfl
  have hF : ∀ n, findS (applyR b e) n = if n = e.sub then some (chgR t e) else findS b n := fun n => by
    rw [eb]
    have := find_mapFirst Sb.id (fun s => chgR s e) (fun x => chgR_id x e) e.sub n b.subs
    refine this.trans ?_
    rw [show b.subs.find? (fun x => x.id == e.sub) = some t from h0]
    rfl
  have hA : ∀ n, findA (applyR b e) n = findA b n := fun n => by rw [eb]; rfl
  have hE : ∀ n, endedB (applyR b e) n = (endedB b n || e.sub == n) := fun n => by rw [eb]; unfold endedB; simp
  have hacc : (applyR b e).accs = b.accs := by rw [eb]
  have hend : (applyR b e).ended = b.ended ++ [e.sub] := by rw [eb]
  have hids : (applyR b e).subs.map (·.id) = b.subs.map (·.id) := by rw [eb]; exact map_mapFirst _ _ _ (fun x => chgR_id x e) _
  have hp : prs (applyR b e) = prs b := by unfold prs; rw [eb]; exact map_mapFirst _ _ (fun t : Sb => (t.id, t.acc)) (fun x => by rw [chgR_id, chgR_acc]) _
  have hn0 : (chgR t e).nums = [] := by unfold chgR; rw [if_pos k]
  have hp0 : (chgR t e).prods = [] := by unfold chgR; rw [if_pos k]
  have htm := findS_id h0
  have hpm : (e.sub, t.acc) ∈ prs b := by rw [← htm.2]; exact List.mem_map_of_mem (f := fun t : Sb => (t.id, t.acc)) htm.1
  have hpn : ((prs b).map (·.1)).Nodup := by unfold prs; rw [List.map_map]; exact hb.sid
  have hown : ∀ x n, (applyP s e).own x = some n ↔ ∃ u, findS (applyR b e) n = some u ∧ hasL u.nums x = true := fun x n => by
    rw [es]
    show delAll s.own t.nums x = some n ↔ _
    unfold delAll
    simp only [hF]
    by_cases hx : (t.nums.any fun y => y.toList == x) = true
    · rw [if_pos hx]
      refine ⟨fun h => (by cases h), fun ⟨u, h1, h2⟩ => ?_⟩
      split at h1
      · cases h1; rw [hn0] at h2; cases h2
      · rename_i hne
        exact absurd (hb.dj n e.sub u t x h1 h0 h2 hx) hne
    · rw [if_neg hx, hi.own]
      constructor
      · rintro ⟨u, h1, h2⟩
        refine ⟨u, ?_, h2⟩
        rw [if_neg]
        · exact h1
        · intro hn; subst hn; rw [h0] at h1; cases h1; exact hx h2
      · rintro ⟨u, h1, h2⟩
        split at h1
        · cases h1; rw [hn0] at h2; cases h2
        · exact ⟨u, h1, h2⟩
  have hsid : ((applyR b e).subs.map (·.id)).Nodup := by rw [hids]; exact hb.sid
  refine ⟨⟨fun n => ?_, fun n => ?_, fun n => ?_, hown, fun n => ?_, ?_, ?_⟩, ⟨?_, ?_, ?_, ?_, ?_, dj_of hown, ?_, ?_⟩⟩
  · rw [es, hA]; exact hi.acc n
  · rw [es, hE, hF]
    show upd _ _ _ n = _
    unfold upd
    by_cases hn : n = e.sub
    · rw [if_pos hn]; simp [hn]
    · rw [if_neg hn, if_neg hn, hi.sub]
      have : (e.sub == n) = false := by simp; omega
      rw [this, Bool.or_false]
  · rw [es, hF]
    show s.ever n = _
    rw [hi.ever]
    by_cases hn : n = e.sub
    · rw [if_pos hn, hn, h0]; rfl
    · rw [if_neg hn]
  · rw [cnt_acc, hp, hend, es]
    show upd s.live t.acc (s.live t.acc - 1) n = _
    unfold upd
    have h1 := cnt_end (prs b) b.ended (fun a => a == n) e.sub t.acc hpn hpm hl0
    rw [hi.live, hi.live, cnt_acc, cnt_acc]
    by_cases hn : n = t.acc
    · subst hn
      rw [if_pos rfl]
      rw [if_pos (by simp)] at h1
      omega
    · rw [if_neg hn]
      rw [if_neg (by simp; omega)] at h1
      omega
  · rw [es]; simp only [hA]; exact hi.opened
  · rw [es]
    refine ⟨hi.added.1, fun n => ?_⟩
    rw [hF]
    show n ∈ s.added ↔ _
    rw [hi.added.2]
    by_cases hn : n = e.sub
    · simp [hn, h0]
    · simp [hn]
  · rw [hacc]; exact hb.aid
  · exact hsid
  · rw [hacc]; exact hb.ar
  · intro x hx
    have h1 : x.id ∈ (applyR b e).subs.map (·.id) := List.mem_map_of_mem hx
    rw [hids] at h1
    obtain ⟨y, hy, e1⟩ := List.mem_map.1 h1
    rw [← e1]; exact hb.sr y hy
  · intro n hn
    rw [hE] at hn
    rw [hF]
    by_cases h1 : n = e.sub
    · rw [if_pos h1]; exact ⟨_, rfl, hn0, hp0⟩
    · rw [if_neg h1]
      have : (e.sub == n) = false := by simp; omega
      rw [this, Bool.or_false] at hn
      exact hb.en n hn
  · intro u hu hl
    have h1 := find_of_mem (g := Sb.id) hsid hu
    have h2 : findS (applyR b e) u.id = some u := h1
    rw [hF] at h2
    unfold liveB at hl
    rw [hE] at hl
    by_cases hn : u.id = e.sub
    · rw [hn] at hl; simp at hl
    · rw [if_neg hn] at h2
      obtain ⟨a, ha, hc⟩ := hb.oa u (findS_id h2).1 (by
        unfold liveB
        have : (e.sub == u.id) = false := by simp; omega
        rw [this, Bool.or_false] at hl
        exact hl)
      exact ⟨a, by rw [hA]; exact ha, hc⟩
  · rw [cnt_all, hp, hend, List.length_append]
    have h1 := cnt_end (prs b) b.ended (fun _ => true) e.sub t.acc hpn hpm hl0
    have h2 := hb.cnt
    rw [cnt_all] at h2
    have h3 := congrArg List.length hids
    simp only [List.length_map, List.length_singleton, if_true] at h1 h3 ⊢
    omega
theorem app_chg (hi : Inv s b) (hb : Bok b) (e : Ev) (k4 : 4 < e.kind) (k13 : e.kind ≤ 13) (t : Sb) (h0 : findS b e.sub = some t) (hl0 : endedB b e.sub = false) (hc : ofSub b e = 0) : Inv (applyP s e) (applyR b e) ∧ Bok (applyR b e) := by
  have eb : applyR b e = { b with subs := mapFirst (fun s => s.id == e.sub) (fun s => chgR s e) b.subs } := by
    unfold applyR; rw [if_neg (by omega), if_neg (by omega), if_neg (by omega), if_neg (by omega), if_neg (by omega)]
  have hst : s.sub e.sub = some t := by rw [hi.sub, hl0, h0]; rfl
  have es : applyP s e = { s with sub := upd s.sub e.sub (some (chgR t e)), own := if e.kind = 5 then upd s.own e.num.toList (some e.sub) else if e.kind = 6 then upd s.own e.num.toList none else s.own } := by
    unfold applyP
    rw [if_neg (by omega), if_neg (by omega), if_neg (by omega), if_neg (by omega), if_neg (by omega), hst, ← chgS_eq t e (by omega)]
  have hF : ∀ n, findS (applyR b e) n = if n = e.sub then some (chgR t e) else findS b n := fun n => by
    rw [eb]
    have := find_mapFirst Sb.id (fun s => chgR s e) (fun x => chgR_id x e) e.sub n b.subs
    refine this.trans ?_
    rw [show b.subs.find? (fun x => x.id == e.sub) = some t from h0]
    rfl
  have hA : ∀ n, findA (applyR b e) n = findA b n := fun n => by rw [eb]; rfl
  have hE : ∀ n, endedB (applyR b e) n = endedB b n := fun n => by rw [eb]; rfl
  have hacc : (applyR b e).accs = b.accs := by rw [eb]
  have hend : (applyR b e).ended = b.ended := by rw [eb]
  have hL : ∀ t, liveB (applyR b e) t = liveB b t := fun t => by unfold liveB; rw [hE]
  have hids : (applyR b e).subs.map (·.id) = b.subs.map (·.id) := by rw [eb]; exact map_mapFirst _ _ _ (fun x => chgR_id x e) _
  have hp : prs (applyR b e) = prs b := by unfold prs; rw [eb]; exact map_mapFirst _ _ (fun t : Sb => (t.id, t.acc)) (fun x => by rw [chgR_id, chgR_acc]) _
  have htm := findS_id h0
  have hown : ∀ x n, (applyP s e).own x = some n ↔ ∃ u, findS (applyR b e) n = some u ∧ hasL u.nums x = true := fun x n => by
    rw [es]
    show (if e.kind = 5 then upd s.own e.num.toList (some e.sub) else if e.kind = 6 then upd s.own e.num.toList none else s.own) x = some n ↔ _
    simp only [hF]
    unfold ofSub at hc
    rw [h0] at hc
    simp only [hl0, Bool.false_eq_true, if_false] at hc
    by_cases k5 : e.kind = 5
    · rw [if_pos k5] at hc ⊢
      have hnt : takenB b e.num = false := by
        cases h : takenB b e.num
        · rfl
        · rw [h] at hc; simp at hc
      have hno : ∀ n u, findS b n = some u → hasL u.nums e.num.toList = true → False := fun n u h1 h2 => by
        rw [(taken_iff hb e.num).2 ⟨n, u, h1, h2⟩] at hnt; cases hnt
      have hnn : (chgR t e).nums = insS t.nums e.num := by unfold chgR; rw [if_neg (by omega), if_pos k5]
      unfold upd
      by_cases hx : x = e.num.toList
      · rw [if_pos hx]
        constructor
        · intro h
          injection h with h
          refine ⟨_, if_pos h.symm, ?_⟩
          rw [hnn, hasL_ins, hx]; simp
        · rintro ⟨u, h1, h2⟩
          split at h1
          · rename_i hn; rw [hn]
          · rw [hx] at h2; exact (hno n u h1 h2).elim
      · rw [if_neg hx, hi.own]
        have hxb : (e.num.toList == x) = false := by simp; exact fun h => hx h.symm
        constructor
        · rintro ⟨u, h1, h2⟩
          by_cases hn : n = e.sub
          · subst hn
            rw [h0] at h1; cases h1
            exact ⟨_, if_pos rfl, by rw [hnn, hasL_ins, h2]; rfl⟩
          · exact ⟨u, by rw [if_neg hn]; exact h1, h2⟩
        · rintro ⟨u, h1, h2⟩
          split at h1
          · rename_i hn
            cases h1
            rw [hnn, hasL_ins, hxb, Bool.or_false] at h2
            exact ⟨t, by rw [hn]; exact h0, h2⟩
          · exact ⟨u, h1, h2⟩
    · rw [if_neg k5] at hc ⊢
      by_cases k6 : e.kind = 6
      · rw [if_pos k6] at hc ⊢
        have hhas : hasL t.nums e.num.toList = true := by
          cases h : hasS t.nums e.num
          · rw [h] at hc; simp at hc
          · exact h
        have hnn : (chgR t e).nums = remS t.nums e.num := by unfold chgR; rw [if_neg (by omega), if_neg k5, if_pos k6]
        unfold upd
        by_cases hx : x = e.num.toList
        · rw [if_pos hx]
          refine ⟨fun h => (by cases h), fun ⟨u, h1, h2⟩ => ?_⟩
          split at h1
          · cases h1
            rw [hnn, hasL_rem, hx] at h2
            simp at h2
          · rename_i hn
            rw [hx] at h2
            exact absurd (hb.dj n e.sub u t _ h1 h0 h2 hhas) hn
        · rw [if_neg hx, hi.own]
          have hxb : (e.num.toList == x) = false := by simp; exact fun h => hx h.symm
          constructor
          · rintro ⟨u, h1, h2⟩
            by_cases hn : n = e.sub
            · subst hn
              rw [h0] at h1; cases h1
              exact ⟨_, if_pos rfl, by rw [hnn, hasL_rem, h2, hxb]; rfl⟩
            · exact ⟨u, by rw [if_neg hn]; exact h1, h2⟩
          · rintro ⟨u, h1, h2⟩
            split at h1
            · rename_i hn
              cases h1
              rw [hnn, hasL_rem, hxb] at h2
              exact ⟨t, by rw [hn]; exact h0, by simpa using h2⟩
            · exact ⟨u, h1, h2⟩
      · rw [if_neg k6, hi.own]
        have hnn := chgR_nums t e (by omega) k5 k6
        constructor
        · rintro ⟨u, h1, h2⟩
          by_cases hn : n = e.sub
          · subst hn
            rw [h0] at h1; cases h1
            exact ⟨_, if_pos rfl, by rw [hnn]; exact h2⟩
          · exact ⟨u, by rw [if_neg hn]; exact h1, h2⟩
        · rintro ⟨u, h1, h2⟩
          split at h1
          · rename_i hn
            cases h1
            rw [hnn] at h2
            exact ⟨t, by rw [hn]; exact h0, h2⟩
          · exact ⟨u, h1, h2⟩
  have hsid : ((applyR b e).subs.map (·.id)).Nodup := by rw [hids]; exact hb.sid
  refine ⟨⟨fun n => ?_, fun n => ?_, fun n => ?_, hown, fun n => ?_, ?_, ?_⟩, ⟨?_, ?_, ?_, ?_, ?_, dj_of hown, ?_, ?_⟩⟩
  · rw [es, hA]; exact hi.acc n
  · rw [es, hE, hF]
    show upd _ _ _ n = _
    unfold upd
    by_cases hn : n = e.sub
    · rw [if_pos hn, if_pos hn, hn, hl0]; simp
    · rw [if_neg hn, if_neg hn, hi.sub]
  · rw [es, hF]
    show s.ever n = _
    rw [hi.ever]
    by_cases hn : n = e.sub
    · rw [if_pos hn, hn, h0]; rfl
    · rw [if_neg hn]
  · rw [cnt_acc, hp, hend, es]
    show s.live n = _
    rw [hi.live, cnt_acc]
  · rw [es]; simp only [hA]; exact hi.opened
  · rw [es]
    refine ⟨hi.added.1, fun n => ?_⟩
    rw [hF]
    show n ∈ s.added ↔ _
    rw [hi.added.2]
    by_cases hn : n = e.sub
    · simp [hn, h0]
    · simp [hn]
  · rw [hacc]; exact hb.aid
  · exact hsid
  · rw [hacc]; exact hb.ar
  · intro x hx
    have h1 : x.id ∈ (applyR b e).subs.map (·.id) := List.mem_map_of_mem hx
    rw [hids] at h1
    obtain ⟨y, hy, e1⟩ := List.mem_map.1 h1
    rw [← e1]; exact hb.sr y hy
  · intro n hn
    rw [hE] at hn
    rw [hF, if_neg (fun e1 => by rw [e1, hl0] at hn; cases hn)]
    exact hb.en n hn
  · intro u hu hl
    have h2 : findS (applyR b e) u.id = some u := find_of_mem (g := Sb.id) hsid hu
    rw [hF] at h2
    rw [hL] at hl
    by_cases hn : u.id = e.sub
    · rw [if_pos hn] at h2
      cases h2
      rw [chgR_acc]
      obtain ⟨a, ha, hc⟩ := hb.oa t htm.1 (by unfold liveB; rw [htm.2, hl0]; rfl)
      exact ⟨a, by rw [hA]; exact ha, hc⟩
    · rw [if_neg hn] at h2
      obtain ⟨a, ha, hc⟩ := hb.oa u (findS_id h2).1 hl
      exact ⟨a, by rw [hA]; exact ha, hc⟩
  · rw [cnt_all, hp, hend]
    have h2 := hb.cnt
    rw [cnt_all] at h2
    have h3 := congrArg List.length hids
    simp only [List.length_map] at h3
    omega
/-- a faultless event -/
theorem app_ok (hi : Inv s b) (hb : Bok b) (e : Ev) (h : ∀ last, faultR b e last = 0 → Inv (applyP s e) (applyR b e) ∧ Bok (applyR b e)) (last : Int) (hf : faultR b e last = 0) : Inv (applyP s e) (applyR b e) ∧ Bok (applyR b e) := h last hf
end
theorem apply_inv {s : St} {b : Bk} (hi : Inv s b) (hb : Bok b) (e : Ev) (last : Int) (hf : faultR b e last = 0) : Inv (applyP s e) (applyR b e) ∧ Bok (applyR b e) := by
  unfold faultR at hf
  by_cases h1 : formR e last = 0
  · rw [if_neg (by rw [h1]; simp)] at hf
    unfold formR at h1
    by_cases hk : e.kind < 1 ∨ 15 < e.kind
    · rw [if_pos hk] at h1; cases h1
    rw [if_neg hk] at h1
    by_cases ht : e.at_ < 0 ∨ 12622780800 ≤ e.at_
    · rw [if_pos ht] at h1; cases h1
    rw [if_neg ht] at h1
    by_cases hl : e.at_ < last
    · rw [if_pos hl] at h1; cases h1
    rw [if_neg hl] at h1
    have hid : idBad e = false := by
      unfold formT at h1
      by_cases hb1 : fldBad e = true
      · rw [if_pos hb1] at h1; cases h1
      · rw [if_neg hb1] at h1
        cases hb2 : idBad e
        · rfl
        · rw [hb2, if_pos rfl] at h1; cases h1
    have hida : uA e.kind = true → 1 ≤ e.acc ∧ e.acc ≤ 9999 := fun h => by
      unfold idBad idB at hid
      rw [h] at hid
      simp at hid
      omega
    have hids : uS e.kind = true → 1 ≤ e.sub ∧ e.sub ≤ 9999 := fun h => by
      unfold idBad idB at hid
      rw [h] at hid
      simp at hid
      omega
    by_cases hA : uA e.kind = true
    · rw [if_pos hA] at hf
      unfold ofAcc at hf
      by_cases k1 : e.kind = 1
      · cases ha : findA b e.acc with
        | none => exact app_open hi hb e k1 (hida hA) ha
        | some a => rw [ha] at hf; simp [k1] at hf
      · cases ha : findA b e.acc with
        | none => rw [ha] at hf; simp [k1] at hf
        | some a =>
          rw [ha] at hf
          simp only [if_neg k1] at hf
          by_cases hc : a.closed = true
          · rw [if_pos hc] at hf; cases hf
          rw [if_neg hc] at hf
          by_cases k3 : e.kind = 3
          · by_cases hs : (findS b e.sub).isSome = true
            · rw [if_pos ⟨k3, hs⟩] at hf; cases hf
            · exact app_add hi hb e k3 (hids (by simp [uS, k3])) (by cases h : findS b e.sub; rfl; rw [h] at hs; simp at hs) a ha (by simpa using hc)
          · rw [if_neg (fun h => k3 h.1)] at hf
            by_cases k2 : e.kind = 2
            · refine app_close hi hb e k2 a ha ?_
              cases hz : busyB b e.acc
              · rfl
              · rw [if_pos (.inl ⟨k2, hz⟩)] at hf; cases hf
            · have k45 : e.kind = 14 ∨ e.kind = 15 := by unfold uA at hA; simp at hA; omega
              have e1 : applyP s e = s := by unfold applyP; rw [if_neg k1, if_neg k2, if_neg k3, if_neg (by omega), if_pos k45]
              have e2 : applyR b e = b := by unfold applyR; rw [if_neg k1, if_neg k2, if_neg k3, if_pos k45]
              rw [e1, e2]
              exact ⟨hi, hb⟩
    · rw [if_neg hA] at hf
      have hk4 : 4 ≤ e.kind ∧ e.kind ≤ 13 := by unfold uA at hA; simp at hA; omega
      have hf2 := hf
      unfold ofSub at hf2
      cases hs : findS b e.sub with
      | none => rw [hs] at hf2; cases hf2
      | some t =>
        rw [hs] at hf2
        cases he : endedB b e.sub
        · by_cases k4 : e.kind = 4
          · exact app_end hi hb e k4 t hs he
          · exact app_chg hi hb e (by omega) hk4.2 t hs he hf
        · rw [he] at hf2; cases hf2
  · rw [if_pos h1] at hf; exact absurd hf h1
end Cu
end Go.Proofs.Yteaanngagcflhaa
