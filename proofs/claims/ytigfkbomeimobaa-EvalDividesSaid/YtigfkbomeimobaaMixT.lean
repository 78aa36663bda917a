/-
  Drawn regions in which trees are made. No condition.
-/
import Derived.Test.YtigfkbomeimobaaMix
import Derived.Test.YtigfkbomeimobaaExV
import Derived.BigQuiet
import Derived.StillTailTactics
import Derived.Lib.Overlaps
import Derived.Deep.DeepCutAuto
import Derived.Deep.RegionWith
set_option maxRecDepth 100000
set_option linter.unusedVariables false
set_option linter.unusedSimpArgs false
namespace Go.Proofs.Ytigfkbomeimobaa
open Go.RowKit

namespace Xp

abbrev Rl : World → World → Prop := fun w w' => Below w.heap.size w w'
abbrev Nt (L : List (Tmp × Ex)) : List Tmp := L.map (·.1)
abbrev Ft (L : List (Tmp × Ex)) : Tmp → Value → World → Prop := fun t v w => ∀ e, L.lookup t = some e → ∃ x, v = It.val x ∧ Rp w e x
theorem Nt_lookup : ∀ {L : List (Tmp × Ex)} {t : Tmp} {e : Ex}, L.lookup t = some e → (Nt L).contains t = true
  | [], _, _, h => by simp [List.lookup] at h
  | (t', e') :: L, t, e, h => by
    simp only [List.lookup] at h
    simp only [Nt, List.map_cons, List.contains_cons, Bool.or_eq_true]
    split at h
    · rename_i hb; exact .inl hb
    · exact .inr (Nt_lookup h)

section
variable {P : Program} {ops : Array Oper} {L : List (Tmp × Ex)} {W : World} {Q : Act → Prop} {o : Oper} {rest : List Oper} {a a' : Act} {f : FuncId} {fn : Func} {c : Code} {args : Array Operand} {ts : Array TypeId}

theorem region_trees {id : Nat} {Q : Exit → Act → World → Prop} {l : List Oper} (L : List (Tmp × Ex)) (hm : P.follows .mixedOrders = true) (hB : Region.lexB .any l.toArray = true) (hX : mixB (Nt L) .any l.toArray = true) (hs : ((Nt L).all fun t => decide (t < a.tmps.size)) = true)
    (h : Nonempty (Wd (Below W.heap.size W)) → (∀ z : Wd (Below W.heap.size W), ∀ b o, b < W.heap.size → z.w.cell? ⟨b, o, none⟩ = W.cell? ⟨b, o, none⟩) → wpMix P l.toArray (fun w' => ∃ x : Wd (Below W.heap.size W), w' = x.w) Rl (Nt L) (Ft L) (fun a' => ∀ w' vals, Below W.heap.size W w' → Q .normal (over (Nt L) vals a') w') l a) : (Code.region id l.toArray true).wp P Q a W := by
  refine wp_region_mix (fun w' => ∃ x : Wd (Below W.heap.size W), w' = x.w) Rl (Nt L) (Ft L) hm hB hX hs (fun w => Below.refl _ _) (fun w w' ⟨x, e⟩ hb => ?_) (fun t v w w' hb hf e he => ?_) ⟨⟨W.drew, (Below.refl _ _).drew⟩, rfl⟩ ?_
  · subst e
    exact ⟨⟨w', below_wd _ hb⟩, rfl⟩
  · obtain ⟨x, h1, h2⟩ := hf e he
    exact ⟨x, h1, h2.on hb⟩
  · have key : (fun a' => ∀ w' vals, (∃ x : Wd (Below W.heap.size W), w' = x.w) → Q .normal (over (Nt L) vals a') w') = (fun a' => ∀ w' vals, Below W.heap.size W w' → Q .normal (over (Nt L) vals a') w') := by
      funext a'
      refine propext ⟨fun h w' vals hw' => h w' vals ⟨⟨w', hw'⟩, rfl⟩, fun h w' vals hw' => ?_⟩
      obtain ⟨x, rfl⟩ := hw'
      exact h _ _ x.h
    rw [key]
    exact h ⟨⟨W.drew, (Below.refl _ _).drew⟩⟩ (fun z => z.cells)

/-- a call that answers one value -/
theorem call_one (v : Value) (hfn : P.funcs[f]? = some fn) (hname : (fn.name == "runtime.NumGoroutine") = false) (hb : fn.body = some c) (hw : Region.wanted o (yielded ops a.tmps) = true) (ho : o.op = .call ⟨.value (.func f), args, ts⟩) (hd : isN (Nt L) o = false) (ha : a.put o.dst v = a')
    (hc : ∀ z : Wd (Below W.heap.size W), ∀ vals, (∀ t e, L.lookup t = some e → .tmp t ∈ args → ∃ x, vals t = It.val x ∧ Rp z.w e x) → ∃ av, args.map (ev (Nt L) vals a) = av ∧ Calls P f av z.w fun e w' => e = .returned v ∧ Below z.w.heap.size z.w w')
    (h : wpMix P ops (fun w' => ∃ x : Wd (Below W.heap.size W), w' = x.w) Rl (Nt L) (Ft L) Q rest a') : wpMix P ops (fun w' => ∃ x : Wd (Below W.heap.size W), w' = x.w) Rl (Nt L) (Ft L) Q (o :: rest) a := by
  subst ha
  refine mix_one v hfn hname hb hw ho hd (fun w hC vals hv => ?_) h
  obtain ⟨z, rfl⟩ := hC
  obtain ⟨av, e, h1⟩ := hc z vals fun t e he ht => hv t (Nt_lookup he) ht e he
  rw [e]
  exact h1
/-- a call that answers a tree -/
theorem call_tree (d : Tmp) (e : Ex) (he : L.lookup d = some e) (hfn : P.funcs[f]? = some fn) (hname : (fn.name == "runtime.NumGoroutine") = false) (hb : fn.body = some c) (hw : Region.wanted o (yielded ops a.tmps) = true) (ho : o.op = .call ⟨.value (.func f), args, ts⟩) (hd : o.dst = some d) (ha : a.put o.dst undef = a')
    (hc : ∀ z : Wd (Below W.heap.size W), ∀ vals, (∀ t e, L.lookup t = some e → .tmp t ∈ args → ∃ x, vals t = It.val x ∧ Rp z.w e x) → ∃ av, args.map (ev (Nt L) vals a) = av ∧ Calls P f av z.w fun r w' => ∃ x, r = .returned (It.val x) ∧ Below z.w.heap.size z.w w' ∧ Rp w' e x)
    (h : wpMix P ops (fun w' => ∃ x : Wd (Below W.heap.size W), w' = x.w) Rl (Nt L) (Ft L) Q rest a') : wpMix P ops (fun w' => ∃ x : Wd (Below W.heap.size W), w' = x.w) Rl (Nt L) (Ft L) Q (o :: rest) a := by
  subst ha
  refine mix_fact d hfn hname hb hw ho hd (Nt_lookup he) (fun w hC vals hv => ?_) h
  obtain ⟨z, rfl⟩ := hC
  obtain ⟨av, e1, h1⟩ := hc z vals fun t e he ht => hv t (Nt_lookup he) ht e he
  rw [e1]
  refine h1.mono ?_
  rintro r w' ⟨x, rfl, hb, hx⟩
  refine ⟨_, rfl, hb, fun e2 he2 => ?_⟩
  rw [he] at he2
  injection he2 with he2
  subst he2
  exact ⟨x, rfl, hx⟩
theorem call_skip (hw : Region.wanted o (yielded ops a.tmps) = false) (hd : isN (Nt L) o = false) (ha : a.put o.dst undef = a') (h : wpMix P ops (fun w' => ∃ x : Wd (Below W.heap.size W), w' = x.w) Rl (Nt L) (Ft L) Q rest a') : wpMix P ops (fun w' => ∃ x : Wd (Below W.heap.size W), w' = x.w) Rl (Nt L) (Ft L) Q (o :: rest) a := by
  subst ha
  exact mix_skip hw hd h
/-- which operation it is -/
theorem call_at (d : Tmp) (hd : o.dst = some d) (h : wpMix P ops (fun w' => ∃ x : Wd (Below W.heap.size W), w' = x.w) Rl (Nt L) (Ft L) Q (o :: rest) a) : wpMix P ops (fun w' => ∃ x : Wd (Below W.heap.size W), w' = x.w) Rl (Nt L) (Ft L) Q (o :: rest) a := h
end

end Xp
end Go.Proofs.Ytigfkbomeimobaa
