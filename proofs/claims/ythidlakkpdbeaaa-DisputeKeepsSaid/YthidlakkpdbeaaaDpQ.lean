/-
  Disputes: lists stay valid. No condition.
-/
import Derived.Test.YthidlakkpdbeaaaDpO
import Derived.BigQuiet
import Derived.StillTailTactics
import Derived.Lib.Overlaps
import Derived.Deep.DeepCutAuto
import Derived.Deep.RegionWith
import Derived.Laws.Rows
set_option maxRecDepth 100000
set_option linter.unusedVariables false
set_option linter.unusedSimpArgs false
namespace Go.Proofs.Ythidlakkpdbeaaa
open Go.RowKit

namespace Dp
def Rv (a b : Dsp) : Prop := a.id < b.id ∧ (a.st = 1 → b.st = 1 → a.use ≠ b.use)
theorem Vd.iff {ds : List Dsp} : Vd ds ↔ ds.Pairwise Rv ∧ ∀ d ∈ ds, propB d = true := by
  constructor
  · intro h
    refine ⟨?_, fun d hd => ?_⟩
    · rw [List.pairwise_iff_getElem]
      intro i j hi hj hij
      refine ⟨Vd.srt h i j _ _ hij (List.getElem?_eq_getElem hi) (List.getElem?_eq_getElem hj), fun h1 h2 hu => ?_⟩
      have h3 := (h j _ (List.getElem?_eq_getElem hj)).2.2 h2
      unfold dispB at h3
      rw [List.any_eq_false] at h3
      have hm : ds[i] ∈ ds.take j := List.mem_of_getElem? (i := i) (by rw [List.getElem?_take, if_pos hij]; exact List.getElem?_eq_getElem hi)
      have h4 := h3 _ hm
      simp [h1, hu] at h4
    · obtain ⟨i, hi⟩ := List.getElem?_of_mem hd
      exact (h i d hi).1
  · rintro ⟨hp, hq⟩ i d hd
    rw [List.pairwise_iff_getElem] at hp
    obtain ⟨hi, rfl⟩ := List.getElem?_eq_some_iff.1 hd
    refine ⟨hq _ (List.getElem_mem hi), fun p h0 hpd => ?_, fun h1 => ?_⟩
    · obtain ⟨hj, rfl⟩ := List.getElem?_eq_some_iff.1 hpd
      exact (hp (i - 1) i hj hi (by omega)).1
    · unfold dispB
      rw [List.any_eq_false]
      intro e he
      obtain ⟨k, hk⟩ := List.getElem?_of_mem he
      rw [List.getElem?_take] at hk
      split at hk
      · rename_i hki
        obtain ⟨hk2, rfl⟩ := List.getElem?_eq_some_iff.1 hk
        have := (hp k i hk2 hi hki).2
        simp only [Bool.and_eq_true, decide_eq_true_eq]
        rintro ⟨h2, h3⟩
        exact this h2 h1 h3
      · cases hk
/-- what a call that went well leaves -/
structure Good (ds xs : List Dsp) : Prop where
  vd : Vd xs
  lo : ds.length ≤ xs.length
  hi : xs.length ≤ ds.length + 1
  kept : ∀ e ∈ ds, e.st ≠ 1 → e ∈ xs
theorem dw_high {x : Int} : ∀ {l : List Dsp}, l.Pairwise Rv → ∀ e ∈ l.dropWhile (fun e => decide (e.id < x)), x ≤ e.id
  | [], _, e, he => by simp at he
  | a :: l, hp, e, he => by
    rw [List.pairwise_cons] at hp
    by_cases ha : a.id < x
    · rw [List.dropWhile_cons, if_pos (by simpa using ha)] at he
      exact dw_high hp.2 e he
    · rw [List.dropWhile_cons, if_neg (by simpa using ha)] at he
      rcases List.mem_cons.1 he with rfl | h
      · omega
      · have := (hp.1 e h).1
        omega
theorem open_good {ds : List Dsp} {d : Dsp} (h : Vd ds) : (openP ds d).2 ≠ 0 ∧ (openP ds d).1 = [] ∨ (openP ds d).2 = 0 ∧ Good ds (openP ds d).1 := by
  unfold openP
  by_cases h1 : numB d = false
  · rw [if_pos h1]; exact .inl ⟨by decide, rfl⟩
  · rw [if_neg h1]
    by_cases h2 : d.st ≠ 1 ∨ d.cr ≠ 0
    · rw [if_pos h2]; exact .inl ⟨by decide, rfl⟩
    · rw [if_neg h2]
      by_cases h3 : insB d.at_ = false
      · rw [if_pos h3]; exact .inl ⟨by decide, rfl⟩
      · rw [if_neg h3]
        by_cases h4 : hasB ds d.id = true
        · rw [if_pos h4]; exact .inl ⟨by decide, rfl⟩
        · rw [if_neg h4]
          by_cases h5 : ds.any (pendB d.use) = true
          · rw [if_pos h5]; exact .inl ⟨by decide, rfl⟩
          · rw [if_neg h5]
            by_cases h6 : 4096 ≤ ds.length
            · rw [if_pos h6]; exact .inl ⟨by decide, rfl⟩
            · rw [if_neg h6]
              refine .inr ⟨rfl, ?_⟩
              obtain ⟨hp, hq⟩ := Vd.iff.1 h
              have hpd : propB d = true := by
                unfold propB
                have n1 : numB d = true := by simpa using h1
                have n2 : insB d.at_ = true := by simpa using h3
                rw [n1, n2, if_pos (.inl (by omega))]
                simp
                omega
              have htd : ds.takeWhile (fun e => decide (e.id < d.id)) ++ ds.dropWhile (fun e => decide (e.id < d.id)) = ds := List.takeWhile_append_dropWhile
              have hpen : ∀ e ∈ ds, e.st = 1 → e.use ≠ d.use := by
                intro e he h1 h2
                apply h5
                rw [List.any_eq_true]
                exact ⟨e, he, by simp [pendB, h1, h2]⟩
              have hid : ∀ e ∈ ds, e.id ≠ d.id := by
                intro e he h1
                apply h4
                unfold hasB
                rw [List.any_eq_true]
                exact ⟨e, he, by simpa using h1⟩
              have hlow : ∀ e ∈ ds.takeWhile (fun e => decide (e.id < d.id)), e.id < d.id := fun e he => by
                have := List.all_eq_true.1 (List.all_takeWhile (p := fun e : Dsp => decide (e.id < d.id)) (l := ds)) e he
                simpa using this
              have hhigh : ∀ e ∈ ds.dropWhile (fun e => decide (e.id < d.id)), d.id < e.id := by
                intro e he
                have h1 := dw_high hp e he
                have h2 := hid e (by rw [← htd]; exact List.mem_append_right _ he)
                omega
              have hp2 := hp
              rw [← htd, List.pairwise_append] at hp2
              obtain ⟨pa, pb, pc⟩ := hp2
              have hin1 : ∀ e ∈ ds.takeWhile (fun e => decide (e.id < d.id)), e ∈ ds := fun e he => by rw [← htd]; exact List.mem_append_left _ he
              have hin2 : ∀ e ∈ ds.dropWhile (fun e => decide (e.id < d.id)), e ∈ ds := fun e he => by rw [← htd]; exact List.mem_append_right _ he
              have hlen : (insP ds d).length = ds.length + 1 := by
                have := congrArg List.length htd
                rw [List.length_append] at this
                unfold insP
                rw [List.length_append, List.length_cons]
                omega
              refine ⟨Vd.iff.2 ⟨?_, ?_⟩, by show ds.length ≤ (insP ds d).length; omega, by show (insP ds d).length ≤ _; omega, ?_⟩
              · unfold insP
                rw [List.pairwise_append]
                refine ⟨pa, List.pairwise_cons.2 ⟨fun e he => ⟨hhigh e he, fun _ h2 h3 => hpen e (hin2 e he) h2 h3.symm⟩, pb⟩, fun a ha b hb => ?_⟩
                rcases List.mem_cons.1 hb with rfl | hb
                · exact ⟨hlow a ha, fun h1 _ h3 => hpen a (hin1 a ha) h1 h3⟩
                · exact pc a ha b hb
              · intro e he
                unfold insP at he
                rcases List.mem_append.1 he with h | h
                · exact hq e (hin1 e h)
                · rcases List.mem_cons.1 h with rfl | h
                  · exact hpd
                  · exact hq e (hin2 e h)
              · intro e he _
                rw [← htd] at he
                unfold insP
                rcases List.mem_append.1 he with h | h
                · exact List.mem_append_left _ h
                · exact List.mem_append_right _ (List.mem_cons_of_mem _ h)
theorem dec_good {ds : List Dsp} {x s c t : Int} (h : Vd ds) (hs : s = 2 ∨ (s = 3 ∧ c = 0)) : (decP ds x s c t).2 ≠ 0 ∧ (decP ds x s c t).1 = [] ∨ (decP ds x s c t).2 = 0 ∧ Good ds (decP ds x s c t).1 := by
  unfold decP
  cases hd : ds[posP ds x]? with
  | none => exact .inl ⟨(by decide : (11 : Int) ≠ 0), rfl⟩
  | some d =>
    dsimp only
    by_cases h1 : d.st ≠ 1
    · rw [if_pos h1]; exact .inl ⟨by decide, rfl⟩
    · rw [if_neg h1]
      by_cases h2 : s = 2 ∧ (c < 1 ∨ d.amt < c)
      · rw [if_pos h2]; exact .inl ⟨by decide, rfl⟩
      · rw [if_neg h2]
        by_cases h3 : t < 0 ∨ 12622780800 ≤ t ∨ t < d.at_
        · rw [if_pos h3]; exact .inl ⟨by decide, rfl⟩
        · rw [if_neg h3]
          refine .inr ⟨rfl, ?_⟩
          obtain ⟨hp, hq⟩ := Vd.iff.1 h
          obtain ⟨hi, he⟩ := List.getElem?_eq_some_iff.1 hd
          have hmem : d ∈ ds := List.mem_of_getElem? hd
          have hpd := hq d hmem
          have hnew : propB ⟨d.id, d.acc, d.use, d.amt, s, c, t⟩ = true := by
            unfold propB at hpd ⊢
            rw [Bool.and_eq_true, Bool.and_eq_true] at hpd
            have n1 : numB ⟨d.id, d.acc, d.use, d.amt, s, c, t⟩ = true := hpd.1.1
            have n2 : insB t = true := insB_iff.2 (by omega)
            rw [n1]
            show (true && insB t && _) = true
            rw [n2]
            rcases hs with rfl | ⟨rfl, rfl⟩
            · rw [if_neg (fun h : (2 : Int) = 1 ∨ (2 : Int) = 3 => by omega), if_pos rfl]
              simp
              omega
            · rw [if_pos (.inr rfl)]
              simp
          refine ⟨Vd.iff.2 ⟨?_, ?_⟩, by rw [List.length_set]; omega, by rw [List.length_set]; omega, ?_⟩
          · rw [List.pairwise_iff_getElem] at hp ⊢
            intro i j hi2 hj2 hij
            rw [List.length_set] at hi2 hj2
            have hb := hp i j hi2 hj2 hij
            rw [List.getElem_set, List.getElem_set]
            split
            · rename_i hpi
              subst hpi
              rw [if_neg (by omega)]
              rw [he] at hb
              refine ⟨hb.1, fun h4 => ?_⟩
              exfalso
              have h4 : s = 1 := h4
              omega
            · split
              · rename_i hpj
                subst hpj
                rw [he] at hb
                refine ⟨hb.1, fun _ h4 => ?_⟩
                exfalso
                have h4 : s = 1 := h4
                omega
              · exact hb
          · intro e he2
            rcases List.mem_or_eq_of_mem_set he2 with h4 | h4
            · exact hq e h4
            · rw [h4]; exact hnew
          · intro e he2 h4
            obtain ⟨k, hk⟩ := List.getElem?_of_mem he2
            have hkp : posP ds x ≠ k := by
              intro e2
              rw [← e2, hd] at hk
              injection hk with hk
              subst hk
              exact h4 (by omega)
            exact List.mem_of_getElem? (i := k) (by rw [List.getElem?_set_ne hkp]; exact hk)
end Dp
end Go.Proofs.Ythidlakkpdbeaaa
