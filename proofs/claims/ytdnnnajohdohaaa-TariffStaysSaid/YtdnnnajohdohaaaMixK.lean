/-
  Regions that draw their order, some of whose values hang on the world: of such a temporary a fact is kept, which is known behind the region too. No condition.
-/
import Derived.Test.YtdnnnajohdohaaaMix
import Derived.Test.YtdnnnajohdohaaaComB
set_option maxRecDepth 100000
set_option linter.unusedVariables false
set_option linter.unusedSimpArgs false
namespace Go.Proofs.Ytdnnnajohdohaaa
open Go Go.RowKit

section
variable {P : Program} {ops : Array Oper} {md : Region.Mode} {C : World → Prop} {R : World → World → Prop} {N : List Tmp} {F : Tmp → Value → World → Prop}

def allL (ops : Array Oper) (listed : Array Bool) : Prop := ∀ k, k < ops.size → listed.getD k false = true
theorem allL.ready {listed : Array Bool} (h : allL ops listed) : Region.ready md ops listed = [] := by
  refine List.eq_nil_iff_forall_not_mem.2 fun i hi => ?_
  obtain ⟨h0, o, ho, _⟩ := mem_ready.1 hi
  have h1 := h i (Array.getElem?_eq_some_iff.1 ho).1
  rcases Nat.lt_or_ge i listed.size with h' | h'
  · simp [h'] at h0 h1
    rw [h0] at h1
    cases h1
  · simp [Array.getElem?_eq_none h'] at h1
def wpAnyK (P : Program) (md : Region.Mode) (ops : Array Oper) (C : World → Prop) (R : World → World → Prop) (N : List Tmp) (F : Tmp → Value → World → Prop) (Q : Act → Prop) : Nat → Array Bool → Act → Prop
  | 0, listed, a => allL ops listed ∧ Q a
  | fuel + 1, listed, a => Region.ready md ops listed ≠ [] ∧ ∀ i ∈ Region.ready md ops listed, mOp P ops C R N F i (wpAnyK P md ops C R N F Q fuel (listed.setIfInBounds i true)) a
theorem wpAnyK_first {Q : Act → Prop} {i : Nat} {oi : Oper} {v : Value} (hi : ops[i]? = some oi) (hsel : ∀ (j : Nat) (o : Oper) cs b, ops[j]? = some o → o.op ≠ .select cs b) :
    ∀ (fuel : Nat) (listed : Array Bool) (a : Act),
      (∀ j oj, ops[j]? = some oj → j ≠ i → listed.getD j true = false → (∀ e ∈ oj.after, Region.binds md e = true → e.on ≠ i) → oi.apart ops oj = true) →
      i ∈ Region.ready md ops listed → MixIn P ops C R N F oi v a →
      wpAnyK P md ops C R N F Q fuel (listed.setIfInBounds i true) (a.put oi.dst v) → wpAnyK P md ops C R N F Q (fuel + 1) listed a := by
  intro fuel
  have now : ∀ (K : Act → Prop) (a : Act), MixIn P ops C R N F oi v a → K (a.put oi.dst v) → mOp P ops C R N F i K a := fun K a hy H => by
    unfold mOp
    simp only [hi]
    exact ⟨v, hy, H⟩
  induction fuel with
  | zero =>
    intro listed a _ hr hy H
    refine ⟨fun h => (by rw [h] at hr; cases hr), fun j hj => ?_⟩
    by_cases hji : j = i
    · subst hji; exact now _ _ hy H
    · have := ready_mono hj hji
      rw [H.1.ready] at this
      cases this
  | succ fuel ih =>
    intro listed a hfree hr hy H
    refine ⟨fun h => (by rw [h] at hr; cases hr), fun j hj => ?_⟩
    by_cases hji : j = i
    · subst hji; exact now _ _ hy H
    · have h1 := H.2 j (ready_mono hj hji)
      obtain ⟨hjun, oj, hoj, hall⟩ := mem_ready.1 hj
      have hnot : ∀ e ∈ oj.after, Region.binds md e = true → e.on ≠ i := fun e he hb heq => by
        have h1 := hall e he hb
        have h0 := (mem_ready.1 hr).1
        rw [heq] at h1
        rcases Nat.lt_or_ge i listed.size with h' | h'
        · simp [h'] at h0 h1; rw [h0] at h1; cases h1
        · simp [Array.getElem?_eq_none h'] at h1
      have h2 := mOp_put hoj (hfree j oj hoj hji hjun hnot) (fun cs b => hsel i oi cs b hi) (fun cs b => hsel j oj cs b hoj) hy h1
      have hfree' : ∀ k ok, ops[k]? = some ok → k ≠ i → (listed.setIfInBounds j true).getD k true = false →
          (∀ e ∈ ok.after, Region.binds md e = true → e.on ≠ i) → oi.apart ops ok = true := fun k ok hk hki hun hno => by
        refine hfree k ok hk hki ?_ hno
        by_cases hjk : j = k
        · subst hjk; exact hjun
        · rw [getD_set_ne true hjk] at hun; exact hun
      refine mOp_mono (fun a' h3 => ih (listed.setIfInBounds j true) a' hfree' (ready_mono hr (Ne.symm hji)) h3.1 ?_) h2
      rw [Array.setIfInBounds_comm _ _ hji]
      exact h3.2
theorem wpAnyK_lex {Q : Act → Prop} (hs : Region.noSelect ops = true) : ∀ (l : List Oper) (k : Nat) (listed : Array Bool) (a : Act), (∀ j, l[j]? = ops[k + j]?) → k + l.length = ops.size → listed.size = ops.size → (∀ j, j < k → listed.getD j false = true) →
    Region.lexFrom md ops l.length k listed = true → wpMix P ops C R N F Q l a → wpAnyK P md ops C R N F Q l.length listed a
  | [], k, _, _, _, hk, _, hd, _, h => ⟨fun j hj => hd j (by simp at hk; omega), h⟩
  | o :: l, k, listed, a, hl, hk, hz, hd, hB, h => by
    have h0 : ops[k]? = some o := by simpa using (hl 0).symm
    simp only [List.length_cons, Region.lexFrom, Bool.and_eq_true] at hB
    obtain ⟨⟨hr, hf⟩, hB'⟩ := hB
    obtain ⟨v, hy, hK⟩ := h
    have hks : k < listed.size := by simp at hk; omega
    exact wpAnyK_first h0 (Region.noSelect_spec hs) l.length listed a (Region.free_spec h0 hf) (by simpa using hr) hy
      (wpAnyK_lex hs l (k + 1) _ _ (fun j => by have := hl (j + 1); simpa [Nat.add_assoc, Nat.add_comm 1 j] using this) (by simp at hk; omega) (by simpa using hz) (fun j hj => by
        by_cases hjk : j = k
        · subst hjk
          simp [hks]
        · rw [getD_set_ne false (Ne.symm hjk)]
          exact hd j (by omega)) hB' hK)
theorem wpAny_of_mixK {Q : Act → Prop} {Q' : Exit → Act → World → Prop} (hmix : mixB N md ops = true) (hR0 : ∀ w, R w w) (hCR : ∀ w w', C w → R w w' → C w') (hF : ∀ t v w w', R w w' → F t v w → F t v w')
    (hQ : ∀ a a' w, C w → Ag N a a' → (∀ (k : Nat) (o : Oper) (t : Tmp), ops[k]? = some o → o.dst = some t → N.contains t = true → F t (val a' t) w) → Q a → Q' .normal a' w) : ∀ (fuel : Nat) (listed : Array Bool) (a a' : Act) (w : World), C w → Ag N a a' → (∀ t, N.contains t = true → t < a'.tmps.size) → Known ops N F listed a' w →
    wpAnyK P md ops C R N F Q fuel listed a → wpAny P md ops Q' fuel listed a' w
  | 0, listed, _, _, _, hw, ha, _, hk, h => ⟨h.1.ready, hQ _ _ _ hw ha (fun k o t ho hd hN => hk k o t (h.1 k (Array.getElem?_eq_some_iff.1 ho).1) ho hd hN) h.2⟩
  | fuel + 1, listed, a, a', w, hw, ha, hs, hk, h => by
    refine ⟨fun h0 => absurd h0 h.1, fun i hi => ?_⟩
    have h1 := h.2 i hi
    obtain ⟨-, o, ho, hall⟩ := mem_ready.1 hi
    unfold mOp at h1
    unfold wpOp
    simp only [ho] at h1 ⊢
    obtain ⟨v, hm, hK⟩ := h1
    have hmo := List.all_eq_true.1 hmix o (Array.mem_toList_iff.2 (Array.mem_of_getElem? ho))
    simp only [Bool.and_eq_true] at hmo
    obtain ⟨hg, hl⟩ := hmo
    rw [ha.wanted hg]
    have hsz : ∀ u, ∀ t, N.contains t = true → t < (a'.put o.dst u).tmps.size := fun u t ht => by
      cases hd : o.dst with
      | none => exact hs t ht
      | some d => simpa [Act.put] using hs t ht
    rcases hm with ⟨hw1, hat, hun⟩ | ⟨hw0, rfl, hN⟩
    · rw [if_pos hw1]
      refine .inl ?_
      have hx := hat w hw (val a') (fun t hNt hop => by
        have h2 := List.all_eq_true.1 hl _ (Array.mem_toList_iff.2 hop)
        simp only [hNt, Bool.not_true, Bool.false_or, List.any_eq_true, Bool.and_eq_true, beq_iff_eq] at h2
        obtain ⟨e, he, hb, hd⟩ := h2
        cases hoe : ops[e.on]? with
        | none => rw [hoe] at hd; cases hd
        | some oe =>
          rw [hoe] at hd
          exact hk e.on oe t (hall e (Array.mem_toList_iff.1 he) hb) hoe hd hNt)
      rw [ha.ev] at hx
      unfold Oper.wp
      generalize (execOp a'.eval o).run P w = r at *
      cases r with
      | ok n w' =>
        cases n <;> simp only [mixUpon] at hx <;> simp only [Oper.upon]
        case value u =>
          obtain ⟨rfl, hy⟩ := hx
          exact wpAny_of_mixK hmix hR0 hCR hF hQ fuel _ _ _ _ hw (ha.put (yld_same hy)) (hsz u) (hk.next hF hs (hR0 _) ho hy) hK
        case skip =>
          obtain ⟨rfl, hy⟩ := hx
          exact wpAny_of_mixK hmix hR0 hCR hF hQ fuel _ _ _ _ hw (ha.put (yld_same hy)) (hsz _) (hk.next hF hs (hR0 _) ho hy) hK
        case enter f args =>
          obtain ⟨rfl, hc⟩ := hx
          refine hc.mono fun e w'' ⟨u, he, hR, hy⟩ => ?_
          subst he
          exact wpAny_of_mixK hmix hR0 hCR hF hQ fuel _ _ _ _ (hCR _ _ hw hR) (ha.put (yld_same hy)) (hsz u) (hk.next hF hs hR ho hy) hK
      | halt x w' => simp only [mixUpon] at hx
    · rw [if_neg (by rw [hw0]; decide)]
      exact wpAny_of_mixK hmix hR0 hCR hF hQ fuel _ _ _ _ hw (ha.put fun _ _ _ => rfl) (hsz _) (hk.skip ho hN) hK
/-- what stands behind: the temporaries of N hold values of which the facts are known -/
theorem wp_region_known {id : Nat} {Q : Exit → Act → World → Prop} {a : Act} {w : World} {l : List Oper} (C : World → Prop) (R : World → World → Prop) (N : List Tmp) (F : Tmp → Value → World → Prop) (hm : P.follows .mixedOrders = true) (hB : Region.lexB .any l.toArray = true) (hX : mixB N .any l.toArray = true)
    (hs : (N.all fun t => decide (t < a.tmps.size)) = true) (hR0 : ∀ w, R w w) (hCR : ∀ w w', C w → R w w' → C w') (hF : ∀ t v w w', R w w' → F t v w → F t v w') (h0 : C w.drew)
    (h : wpMix P l.toArray C R N F (fun a' => ∀ w' vals, C w' → (∀ (k : Nat) (o : Oper) (t : Tmp), l[k]? = some o → o.dst = some t → N.contains t = true → F t (vals t) w') → Q .normal (over N vals a') w') l a) : (Code.region id l.toArray true).wp P Q a w := by
  simp only [Region.lexB, Bool.and_eq_true] at hB
  have h1 := wpAnyK_lex (P := P) (C := C) (R := R) (N := N) (F := F) (md := .any) hB.1 l 0 (Array.replicate l.toArray.size false) a (by simp) (by simp) (by simp) (fun j hj => by omega) (by simpa using hB.2) h
  have h2 : ∀ t, N.contains t = true → t < a.tmps.size := fun t ht => by
    have := List.all_eq_true.1 hs t (by simpa using ht)
    simpa using this
  have h3 : Known l.toArray N F (Array.replicate l.toArray.size false) a w.drew := by
    intro k o t hk
    simp [Array.getD_eq_getD_getElem?, Array.getElem?_replicate] at hk
    split at hk <;> simp at hk
  refine wp_region_any hm (wpAny_of_mixK (Q := fun a' => ∀ w' vals, C w' → (∀ (k : Nat) (o : Oper) (t : Tmp), l[k]? = some o → o.dst = some t → N.contains t = true → F t (vals t) w') → Q .normal (over N vals a') w') hX hR0 hCR hF (fun a a' w' hw' ha hkn h => by rw [ha.eq_over]; exact h w' _ hw' (fun k o t ho hd hN => hkn k o t (by simpa using ho) hd hN)) _ _ a _ _ h0 ⟨rfl, fun _ _ => rfl, rfl⟩ h2 h3 ?_)
  simpa using h1
end

/-! ### with a list of facts -/
abbrev Lk := List (Tmp × (Value → World → Prop))
abbrev Nk (L : Lk) : List Tmp := L.map (·.1)
abbrev Fk (L : Lk) : Tmp → Value → World → Prop := fun t v w => ∀ p, L.lookup t = some p → p v w
abbrev Rk : World → World → Prop := fun w w' => Below w.heap.size w w'
theorem Nk_lookup : ∀ {L : Lk} {t : Tmp} {p : Value → World → Prop}, L.lookup t = some p → (Nk L).contains t = true
  | [], _, _, h => by simp [List.lookup] at h
  | (t', e') :: L, t, e, h => by
    simp only [List.lookup] at h
    simp only [Nk, List.map_cons, List.contains_cons, Bool.or_eq_true]
    split at h
    · rename_i hb; exact .inl hb
    · exact .inr (Nk_lookup h)
def stays (p : Value → World → Prop) : Prop := ∀ v w w', Below w.heap.size w w' → p v w → p v w'
section
variable {P : Program} {ops : Array Oper} {L : Lk} {W : World} {Q : Act → Prop} {o : Oper} {rest : List Oper} {a a' : Act} {f : FuncId} {fn : Func} {c : Code} {args : Array Operand} {ts : Array TypeId}
abbrev Ck_ (W : World) : World → Prop := fun w' => ∃ x : Wd (Below W.heap.size W), w' = x.w
theorem region_known {id : Nat} {Q : Exit → Act → World → Prop} {l : List Oper} (L : Lk) (hm : P.follows .mixedOrders = true) (hB : Region.lexB .any l.toArray = true) (hX : mixB (Nk L) .any l.toArray = true) (hs : ((Nk L).all fun t => decide (t < a.tmps.size)) = true) (hst : ∀ t p, L.lookup t = some p → stays p)
    (h : Nonempty (Wd (Below W.heap.size W)) → (∀ z : Wd (Below W.heap.size W), ∀ b o, b < W.heap.size → z.w.cell? ⟨b, o, none⟩ = W.cell? ⟨b, o, none⟩) → wpMix P l.toArray (Ck_ W) Rk (Nk L) (Fk L) (fun a' => ∀ w' vals, Below W.heap.size W w' → (∀ (k : Nat) (o : Oper) (t : Tmp), l[k]? = some o → o.dst = some t → ∀ p, L.lookup t = some p → p (vals t) w') → Q .normal (over (Nk L) vals a') w') l a) : (Code.region id l.toArray true).wp P Q a W := by
  refine wp_region_known (Ck_ W) Rk (Nk L) (Fk L) hm hB hX hs (fun w => Below.refl _ _) (fun w w' ⟨x, e⟩ hb => ?_) (fun t v w w' hb hf p hp => hst t p hp v w w' hb (hf p hp)) ⟨⟨W.drew, (Below.refl _ _).drew⟩, rfl⟩ ?_
  · subst e
    exact ⟨⟨w', below_wd _ hb⟩, rfl⟩
  · have key : (fun a' => ∀ w' vals, Ck_ W w' → (∀ (k : Nat) (o : Oper) (t : Tmp), l[k]? = some o → o.dst = some t → (Nk L).contains t = true → Fk L t (vals t) w') → Q .normal (over (Nk L) vals a') w') = (fun a' => ∀ w' vals, Below W.heap.size W w' → (∀ (k : Nat) (o : Oper) (t : Tmp), l[k]? = some o → o.dst = some t → ∀ p, L.lookup t = some p → p (vals t) w') → Q .normal (over (Nk L) vals a') w') := by
      funext a'
      refine propext ⟨fun h w' vals hw' hk => h w' vals ⟨⟨w', hw'⟩, rfl⟩ (fun k o t h1 h2 _ p hp => hk k o t h1 h2 p hp), fun h w' vals hw' hk => ?_⟩
      obtain ⟨x, rfl⟩ := hw'
      exact h _ _ x.h (fun k o t h1 h2 p hp => hk k o t h1 h2 (Nk_lookup hp) p hp)
    rw [key]
    exact h ⟨⟨W.drew, (Below.refl _ _).drew⟩⟩ (fun z => z.cells)
/-- a call that answers one value -/
theorem kn_one (v : Value) (hfn : P.funcs[f]? = some fn) (hname : (fn.name == "runtime.NumGoroutine") = false) (hb : fn.body = some c) (hw : Region.wanted o (yielded ops a.tmps) = true) (ho : o.op = .call ⟨.value (.func f), args, ts⟩) (hd : isN (Nk L) o = false) (ha : a.put o.dst v = a')
    (hc : ∀ z : Wd (Below W.heap.size W), ∀ vals, (∀ t p, L.lookup t = some p → .tmp t ∈ args → p (vals t) z.w) → ∃ av, args.map (ev (Nk L) vals a) = av ∧ Calls P f av z.w fun e w' => e = .returned v ∧ Below z.w.heap.size z.w w')
    (h : wpMix P ops (Ck_ W) Rk (Nk L) (Fk L) Q rest a') : wpMix P ops (Ck_ W) Rk (Nk L) (Fk L) Q (o :: rest) a := by
  subst ha
  refine mix_one v hfn hname hb hw ho hd (fun w hC vals hv => ?_) h
  obtain ⟨z, rfl⟩ := hC
  obtain ⟨av, e, h1⟩ := hc z vals fun t p hp ht => hv t (Nk_lookup hp) ht p hp
  rw [e]
  exact h1
/-- a call of whose answer the fact is kept -/
theorem kn_call (d : Tmp) (p : Value → World → Prop) (hp : L.lookup d = some p) (hfn : P.funcs[f]? = some fn) (hname : (fn.name == "runtime.NumGoroutine") = false) (hb : fn.body = some c) (hw : Region.wanted o (yielded ops a.tmps) = true) (ho : o.op = .call ⟨.value (.func f), args, ts⟩) (hd : o.dst = some d) (ha : a.put o.dst undef = a')
    (hc : ∀ z : Wd (Below W.heap.size W), ∀ vals, (∀ t p, L.lookup t = some p → .tmp t ∈ args → p (vals t) z.w) → ∃ av, args.map (ev (Nk L) vals a) = av ∧ Calls P f av z.w fun r w' => ∃ u, r = .returned u ∧ Below z.w.heap.size z.w w' ∧ p u w')
    (h : wpMix P ops (Ck_ W) Rk (Nk L) (Fk L) Q rest a') : wpMix P ops (Ck_ W) Rk (Nk L) (Fk L) Q (o :: rest) a := by
  subst ha
  refine mix_fact d hfn hname hb hw ho hd (Nk_lookup hp) (fun w hC vals hv => ?_) h
  obtain ⟨z, rfl⟩ := hC
  obtain ⟨av, e1, h1⟩ := hc z vals fun t p hp ht => hv t (Nk_lookup hp) ht p hp
  rw [e1]
  refine h1.mono ?_
  rintro r w' ⟨x, rfl, hb, hx⟩
  refine ⟨_, rfl, hb, fun p2 hp2 => ?_⟩
  rw [hp] at hp2
  injection hp2 with hp2
  subst hp2
  exact hx
/-- an operation that reads such values, and of whose yield a fact is kept -/
theorem kn_flow (d : Tmp) (p : Value → World → Prop) (hp : L.lookup d = some p) (hw : Region.wanted o (yielded ops a.tmps) = true) (hd : o.dst = some d) (ha : a.put o.dst undef = a')
    (hc : ∀ z : Wd (Below W.heap.size W), ∀ vals, (∀ t p, L.lookup t = some p → .tmp t ∈ o.op.operands → p (vals t) z.w) → ∃ u, (execOp (ev (Nk L) vals a) o).run P z.w = .ok (.value u) z.w ∧ p u z.w)
    (h : wpMix P ops (Ck_ W) Rk (Nk L) (Fk L) Q rest a') : wpMix P ops (Ck_ W) Rk (Nk L) (Fk L) Q (o :: rest) a := by
  subst ha
  refine ⟨undef, .inl ⟨hw, fun w hC vals hv => ?_, fun _ => rfl⟩, h⟩
  obtain ⟨z, rfl⟩ := hC
  obtain ⟨u, e1, h1⟩ := hc z vals fun t p hp ht => hv t (Nk_lookup hp) ht p hp
  rw [e1]
  refine ⟨rfl, ?_⟩
  unfold yld
  rw [hd]
  dsimp only
  rw [if_pos (Nk_lookup hp)]
  intro p2 hp2
  rw [hp] at hp2
  injection hp2 with hp2
  subst hp2
  exact h1
/-- an operation that reads such values, and yields one value -/
theorem kn_exact (v : Value) (hw : Region.wanted o (yielded ops a.tmps) = true) (hd : isN (Nk L) o = false) (ha : a.put o.dst v = a')
    (hc : ∀ z : Wd (Below W.heap.size W), ∀ vals, (∀ t p, L.lookup t = some p → .tmp t ∈ o.op.operands → p (vals t) z.w) → (execOp (ev (Nk L) vals a) o).run P z.w = .ok (.value v) z.w)
    (h : wpMix P ops (Ck_ W) Rk (Nk L) (Fk L) Q rest a') : wpMix P ops (Ck_ W) Rk (Nk L) (Fk L) Q (o :: rest) a := by
  subst ha
  refine ⟨v, .inl ⟨hw, fun w hC vals hv => ?_, fun h => by rw [hd] at h; cases h⟩, h⟩
  obtain ⟨z, rfl⟩ := hC
  rw [hc z vals fun t p hp ht => hv t (Nk_lookup hp) ht p hp]
  refine ⟨rfl, ?_⟩
  unfold yld
  unfold isN at hd
  split
  · rename_i d hdd
    rw [hdd] at hd
    dsimp only at hd
    rw [if_neg (by rw [hd]; decide)]
  · rfl
theorem kn_skip (hw : Region.wanted o (yielded ops a.tmps) = false) (hd : isN (Nk L) o = false) (ha : a.put o.dst undef = a') (h : wpMix P ops (Ck_ W) Rk (Nk L) (Fk L) Q rest a') : wpMix P ops (Ck_ W) Rk (Nk L) (Fk L) Q (o :: rest) a := by
  subst ha
  exact mix_skip hw hd h
/-- a value that is handed on -/
theorem kn_copy {d s : Tmp} {p : Value → World → Prop} (ho : o.op = .move (.tmp s) ∨ o.op = .assign (.tmp s)) (hd : o.dst = some d) (hs : L.lookup s = some p) (hp : L.lookup d = some p) (hw : Region.wanted o (yielded ops a.tmps) = true) (ha : a.put o.dst undef = a')
    (h : wpMix P ops (Ck_ W) Rk (Nk L) (Fk L) Q rest a') : wpMix P ops (Ck_ W) Rk (Nk L) (Fk L) Q (o :: rest) a := by
  refine kn_flow d p hp hw hd ha (fun z vals hv => ⟨vals s, ?_, hv s p hs ?_⟩) h
  · have e : ev (Nk L) vals a (.tmp s) = vals s := by simp only [ev, Nk_lookup hs, if_true]
    rcases ho with ho | ho
    · rw [BigFrame.run_move _ ho, e]
    · rw [BigFrame.run_assign _ ho, e]
  · rcases ho with ho | ho <;> (rw [ho]; simp [Op.operands])
/-- a tuple, one of whose parts hangs on the world -/
def tupF (f : Value → Value) (p : Value → World → Prop) : Value → World → Prop := fun v w => ∃ u, v = f u ∧ p u w
theorem stays_tup {f : Value → Value} {p : Value → World → Prop} (h : stays p) : stays (tupF f p) := fun v w w' hb ⟨u, e, hu⟩ => ⟨u, e, h u w w' hb hu⟩
theorem run_extract {ρ : Operand → Value} {o : Oper} {x : Operand} {i : Nat} (h : o.op = .extract x i) (w : World) {v : Value} (hx : (Instr.extract (ρ x) i).run P w = .ok v w) : (execOp ρ o).run P w = .ok (.value v) w := by
  unfold execOp
  rw [h]
  simp [hx, Result.andThen]
theorem kn_part {d s : Tmp} {i : Nat} {f : Value → Value} {p : Value → World → Prop} (ho : o.op = .extract (.tmp s) i) (hd : o.dst = some d) (hs : L.lookup s = some (tupF f p)) (hp : L.lookup d = some p) (hw : Region.wanted o (yielded ops a.tmps) = true) (ha : a.put o.dst undef = a') (hf : ∀ u w, (Instr.extract (f u) i).run P w = .ok u w)
    (h : wpMix P ops (Ck_ W) Rk (Nk L) (Fk L) Q rest a') : wpMix P ops (Ck_ W) Rk (Nk L) (Fk L) Q (o :: rest) a := by
  refine kn_flow d p hp hw hd ha (fun z vals hv => ?_) h
  obtain ⟨u, e, hu⟩ := hv s _ hs (by rw [ho]; simp [Op.operands])
  refine ⟨u, run_extract ho _ ?_, hu⟩
  have e2 : ev (Nk L) vals a (.tmp s) = vals s := by simp only [ev, Nk_lookup hs, if_true]
  rw [e2, e]
  exact hf u _
theorem kn_partV {s : Tmp} {i : Nat} {f : Value → Value} {p : Value → World → Prop} (v : Value) (ho : o.op = .extract (.tmp s) i) (hd : isN (Nk L) o = false) (hs : L.lookup s = some (tupF f p)) (hw : Region.wanted o (yielded ops a.tmps) = true) (ha : a.put o.dst v = a') (hf : ∀ u w, (Instr.extract (f u) i).run P w = .ok v w)
    (h : wpMix P ops (Ck_ W) Rk (Nk L) (Fk L) Q rest a') : wpMix P ops (Ck_ W) Rk (Nk L) (Fk L) Q (o :: rest) a := by
  refine kn_exact v hw hd ha (fun z vals hv => ?_) h
  obtain ⟨u, e, hu⟩ := hv s _ hs (by rw [ho]; simp [Op.operands])
  refine run_extract ho _ ?_
  have e2 : ev (Nk L) vals a (.tmp s) = vals s := by simp only [ev, Nk_lookup hs, if_true]
  rw [e2, e]
  exact hf u _
theorem stays_nil : ∀ t p, ([] : Lk).lookup t = some p → stays p := fun t p h => by simp [List.lookup] at h
theorem stays_cons {t0 : Tmp} {p0 : Value → World → Prop} {L : Lk} (h0 : stays p0) (h : ∀ t p, L.lookup t = some p → stays p) : ∀ t p, ((t0, p0) :: L).lookup t = some p → stays p := fun t p hp => by
  simp only [List.lookup] at hp
  split at hp
  · injection hp with hp
    subst hp
    exact h0
  · exact h t p hp
end
end Go.Proofs.Ytdnnnajohdohaaa
