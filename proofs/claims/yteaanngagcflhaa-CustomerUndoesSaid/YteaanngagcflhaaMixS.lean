/-
  Regions that draw their order, some of whose calls answer values that hang on the world: of such a temporary a fact is kept, of all others the one value; Regions that draw their order, some of whose values hang on the world: of such a temporary a fact is kept, which is known behind the region too; Regions that draw their order, whose operations make memory (and whose last operation, behind all others, may do anything): of such a temporary a fact is kept. No condition.
-/
import Derived.Deep.QuietTactic
import Derived.BigQuiet
import Derived.Test.YteaanngagcflhaaComB
import Derived.Test.YteaanngagcflhaaSlc
import Derived.Deep.Upon
import Derived.RangeFuncRecord
set_option linter.unusedVariables false
set_option linter.unusedSimpArgs false
set_option maxRecDepth 100000
namespace Go.Proofs.Yteaanngagcflhaa
open Go

section
variable {P : Program} {ops : Array Oper} {md : Region.Mode} {C : World → Prop} {R : World → World → Prop} {N : List Tmp} {F : Tmp → Value → World → Prop}

/-- the operands, where the temporaries of N hold any values -/
def ev (N : List Tmp) (vals : Tmp → Value) (a : Act) : Operand → Value
  | .tmp t => if N.contains t = true then vals t else a.eval (.tmp t)
  | x => a.eval x
def isN (N : List Tmp) (o : Oper) : Bool := match o.dst with | some d => N.contains d | none => false
/-- what is asked of an operation's yield -/
def yld (N : List Tmp) (F : Tmp → Value → World → Prop) (o : Oper) (v u : Value) (w : World) : Prop :=
  match o.dst with
  | some d => if N.contains d = true then F d u w else u = v
  | none => u = v
def mixUpon (P : Program) (R : World → World → Prop) (G : Value → World → Prop) (w : World) : Result Next → Prop
  | .ok (.value u) w' => w' = w ∧ G u w
  | .ok .skip w' => w' = w ∧ G undef w
  | .ok (.enter f args) w' => w' = w ∧ Calls P f args w (fun e w'' => ∃ u, e = .returned u ∧ R w w'' ∧ G u w'')
  | _ => False
def MixAt (P : Program) (C : World → Prop) (R : World → World → Prop) (N : List Tmp) (F : Tmp → Value → World → Prop) (o : Oper) (v : Value) (a : Act) : Prop :=
  ∀ w, C w → ∀ vals, (∀ t, N.contains t = true → .tmp t ∈ o.op.operands → F t (vals t) w) → mixUpon P R (yld N F o v) w ((execOp (ev N vals a) o).run P w)
def MixIn (P : Program) (ops : Array Oper) (C : World → Prop) (R : World → World → Prop) (N : List Tmp) (F : Tmp → Value → World → Prop) (o : Oper) (v : Value) (a : Act) : Prop :=
  (Region.wanted o (yielded ops a.tmps) = true ∧ MixAt P C R N F o v a ∧ (isN N o = true → v = undef)) ∨
  (Region.wanted o (yielded ops a.tmps) = false ∧ v = undef ∧ isN N o = false)
def wpMix (P : Program) (ops : Array Oper) (C : World → Prop) (R : World → World → Prop) (N : List Tmp) (F : Tmp → Value → World → Prop) (Q : Act → Prop) : List Oper → Act → Prop
  | [], a => Q a
  | o :: rest, a => ∃ v, MixIn P ops C R N F o v a ∧ wpMix P ops C R N F Q rest (a.put o.dst v)
def mOp (P : Program) (ops : Array Oper) (C : World → Prop) (R : World → World → Prop) (N : List Tmp) (F : Tmp → Value → World → Prop) (i : Nat) (K : Act → Prop) (a : Act) : Prop :=
  match ops[i]? with
  | none => K a
  | some o => ∃ v, MixIn P ops C R N F o v a ∧ K (a.put o.dst v)
def wpAnyM (P : Program) (md : Region.Mode) (ops : Array Oper) (C : World → Prop) (R : World → World → Prop) (N : List Tmp) (F : Tmp → Value → World → Prop) (Q : Act → Prop) : Nat → Array Bool → Act → Prop
  | 0, listed, a => Region.ready md ops listed = [] ∧ Q a
  | fuel + 1, listed, a =>
    (Region.ready md ops listed = [] → Q a) ∧
    ∀ i ∈ Region.ready md ops listed, mOp P ops C R N F i (wpAnyM P md ops C R N F Q fuel (listed.setIfInBounds i true)) a

theorem ev_put {vals : Tmp → Value} {a : Act} {dst : Option Tmp} {v : Value} {x : Operand} (h : ∀ d, dst = some d → x ≠ .tmp d) : ev N vals (a.put dst v) x = ev N vals a x := by
  have := Act.eval_put (a := a) (v := v) h
  cases x <;> simp only [ev] <;> (try split) <;> first | rfl | exact this
theorem exec_put (o : Oper) (hs : ∀ cs b, o.op ≠ .select cs b) (vals : Tmp → Value) (a : Act) (dst : Option Tmp) (v : Value) (h : ∀ d, dst = some d → d ∉ o.looksAt ops) :
    execOp (ev N vals (a.put dst v)) o = execOp (ev N vals a) o :=
  execOp_congr o hs fun x hx => ev_put fun d hd hxd => h d hd (by
    subst hxd
    exact List.mem_append_left _ (List.mem_filterMap.2 ⟨.tmp d, by simpa using hx, rfl⟩))
theorem mixIn_put {o : Oper} (hs : ∀ cs b, o.op ≠ .select cs b) {v : Value} {a : Act} {dst : Option Tmp} {u : Value} (h : ∀ d, dst = some d → d ∉ o.looksAt ops) :
    MixIn P ops C R N F o v (a.put dst u) ↔ MixIn P ops C R N F o v a := by
  unfold MixIn MixAt
  rw [wanted_put o a dst u h]
  simp only [exec_put o hs _ a dst u h]
theorem mOp_mono {i : Nat} {a : Act} {K K' : Act → Prop} (h : ∀ a, K a → K' a) (hh : mOp P ops C R N F i K a) : mOp P ops C R N F i K' a := by
  unfold mOp at *
  split
  · exact h _ (by simpa [*] using hh)
  · rename_i o ho
    simp only [ho] at hh
    obtain ⟨v, h1, h2⟩ := hh
    exact ⟨v, h1, h _ h2⟩
theorem mOp_put {j : Nat} {oi oj : Oper} {v : Value} (hj : ops[j]? = some oj) (hap : oi.apart ops oj = true)
    (hsi : ∀ cs b, oi.op ≠ .select cs b) (hsj : ∀ cs b, oj.op ≠ .select cs b) {K : Act → Prop} {a : Act}
    (hy : MixIn P ops C R N F oi v a) (h : mOp P ops C R N F j K (a.put oi.dst v)) :
    mOp P ops C R N F j (fun a' => MixIn P ops C R N F oi v a' ∧ K (a'.put oi.dst v)) a := by
  obtain ⟨h1, h2, h3⟩ := Oper.apart_spec hap
  unfold mOp at *
  simp only [hj] at *
  obtain ⟨u, hu, hK⟩ := h
  exact ⟨u, (mixIn_put hsj h1).1 hu, (mixIn_put hsi h3).2 hy, by rw [← Act.put_comm a v u h2]; exact hK⟩
theorem wpAnyM_first {Q : Act → Prop} {i : Nat} {oi : Oper} {v : Value} (hi : ops[i]? = some oi) (hsel : ∀ (j : Nat) (o : Oper) cs b, ops[j]? = some o → o.op ≠ .select cs b) :
    ∀ (fuel : Nat) (listed : Array Bool) (a : Act),
      (∀ j oj, ops[j]? = some oj → j ≠ i → listed.getD j true = false → (∀ e ∈ oj.after, Region.binds md e = true → e.on ≠ i) → oi.apart ops oj = true) →
      i ∈ Region.ready md ops listed → MixIn P ops C R N F oi v a →
      wpAnyM P md ops C R N F Q fuel (listed.setIfInBounds i true) (a.put oi.dst v) → wpAnyM P md ops C R N F Q (fuel + 1) listed a := by
  intro fuel
  have now : ∀ (K : Act → Prop) (a : Act), MixIn P ops C R N F oi v a → K (a.put oi.dst v) → mOp P ops C R N F i K a := fun K a hy H => by
    unfold mOp
    simp only [hi]
    exact ⟨v, hy, H⟩
  induction fuel with
  | zero =>
    intro listed a _ hr hy H
    refine ⟨fun h => (by rw [h] at hr; cases hr), fun j hj => ?_⟩
    by_cases hji : j = i
    · subst hji; exact now _ _ hy H
    · have := ready_mono hj hji
      rw [H.1] at this
      cases this
  | succ fuel ih =>
    intro listed a hfree hr hy H
    refine ⟨fun h => (by rw [h] at hr; cases hr), fun j hj => ?_⟩
    by_cases hji : j = i
    · subst hji; exact now _ _ hy H
    · have h1 := H.2 j (ready_mono hj hji)
      obtain ⟨hjun, oj, hoj, hall⟩ := mem_ready.1 hj
      have hnot : ∀ e ∈ oj.after, Region.binds md e = true → e.on ≠ i := fun e he hb heq => by
        have h1 := hall e he hb
        have h0 := (mem_ready.1 hr).1
        rw [heq] at h1
        rcases Nat.lt_or_ge i listed.size with h' | h'
        · simp [h'] at h0 h1; rw [h0] at h1; cases h1
        · simp [Array.getElem?_eq_none h'] at h1
      have h2 := mOp_put hoj (hfree j oj hoj hji hjun hnot) (fun cs b => hsel i oi cs b hi) (fun cs b => hsel j oj cs b hoj) hy h1
      have hfree' : ∀ k ok, ops[k]? = some ok → k ≠ i → (listed.setIfInBounds j true).getD k true = false →
          (∀ e ∈ ok.after, Region.binds md e = true → e.on ≠ i) → oi.apart ops ok = true := fun k ok hk hki hun hno => by
        refine hfree k ok hk hki ?_ hno
        by_cases hjk : j = k
        · subst hjk; exact hjun
        · rw [getD_set_ne true hjk] at hun; exact hun
      refine mOp_mono (fun a' h3 => ih (listed.setIfInBounds j true) a' hfree' (ready_mono hr (Ne.symm hji)) h3.1 ?_) h2
      rw [Array.setIfInBounds_comm _ _ hji]
      exact h3.2
theorem wpAnyM_lex {Q : Act → Prop} (hs : Region.noSelect ops = true) : ∀ (l : List Oper) (k : Nat) (listed : Array Bool) (a : Act), (∀ j, l[j]? = ops[k + j]?) →
    Region.lexFrom md ops l.length k listed = true → wpMix P ops C R N F Q l a → wpAnyM P md ops C R N F Q l.length listed a
  | [], _, _, _, _, hB, h => ⟨by simpa [Region.lexFrom] using hB, h⟩
  | o :: l, k, listed, a, hl, hB, h => by
    have h0 : ops[k]? = some o := by simpa using (hl 0).symm
    simp only [List.length_cons, Region.lexFrom, Bool.and_eq_true] at hB
    obtain ⟨⟨hr, hf⟩, hB'⟩ := hB
    obtain ⟨v, hy, hK⟩ := h
    exact wpAnyM_first h0 (Region.noSelect_spec hs) l.length listed a (Region.free_spec h0 hf) (by simpa using hr) hy
      (wpAnyM_lex hs l (k + 1) _ _ (fun j => by have := hl (j + 1); simpa [Nat.add_assoc, Nat.add_comm 1 j] using this) hB' hK)

/-! ### what the walk says of a real run -/
/-- guards are never of N; who looks at one of N waits for its writer -/
def mixB (N : List Tmp) (md : Region.Mode) (ops : Array Oper) : Bool :=
  ops.toList.all fun o =>
    (match o.guard with | some (g, _) => (match (ops[g]?).bind (·.dst) with | some t => !N.contains t | none => true) | none => true) &&
    o.op.operands.toList.all fun x => match x with
      | .tmp t => !N.contains t || o.after.toList.any fun e => Region.binds md e && ((ops[e.on]?).bind (·.dst) == some t)
      | _ => true
def val (a : Act) (t : Tmp) : Value := a.tmps.getD t undef
structure Ag (N : List Tmp) (a a' : Act) : Prop where
  size : a'.tmps.size = a.tmps.size
  same : ∀ t, N.contains t = false → a'.tmps[t]? = a.tmps[t]?
  rest : a'.defers = a.defers
def over (N : List Tmp) (vals : Tmp → Value) (a : Act) : Act := N.foldl (fun a t => a.put (some t) (vals t)) a
theorem over_spec (vals : Tmp → Value) : ∀ (N : List Tmp) (a : Act), (over N vals a).tmps.size = a.tmps.size ∧ (over N vals a).defers = a.defers ∧ ∀ t, (over N vals a).tmps[t]? = if N.contains t = true then (a.tmps[t]?).map fun _ => vals t else a.tmps[t]?
  | [], a => ⟨rfl, rfl, fun t => by simp [over]⟩
  | n :: N, a => by
    obtain ⟨h1, h2, h3⟩ := over_spec vals N (a.put (some n) (vals n))
    have e : over (n :: N) vals a = over N vals (a.put (some n) (vals n)) := rfl
    rw [e]
    refine ⟨h1.trans (by simp [Act.put]), h2.trans rfl, fun t => ?_⟩
    rw [h3 t]
    simp only [Act.put, List.contains_cons]
    by_cases hn : n = t
    · subst hn
      simp only [beq_self_eq_true, Bool.true_or, if_true]
      by_cases hs : n < a.tmps.size
      · split <;> simp [hs]
      · split <;> simp [hs]
    · have hb : (t == n) = false := by simpa using fun h => hn h.symm
      rw [Array.getElem?_setIfInBounds_ne hn, hb, Bool.false_or]
theorem Ag.eq_over {a a' : Act} (h : Ag N a a') : a' = over N (val a') a := by
  obtain ⟨h1, h2, h3⟩ := over_spec (val a') N a
  have ht : a'.tmps = (over N (val a') a).tmps := by
    refine Array.ext (h.size.trans h1.symm) fun i hi hi' => ?_
    have e : a'.tmps[i]? = (over N (val a') a).tmps[i]? := by
      rw [h3 i]
      cases hN : N.contains i
      · simp [h.same i hN]
      · have : i < a.tmps.size := by rw [← h.size]; exact hi
        simp [val, this, hi]
    simpa [hi, hi'] using e
  have hd := h.rest.trans h2.symm
  cases a'; cases hov : over N (val _) a
  rw [hov] at ht hd
  simp only at ht hd
  rw [ht, hd]
theorem Ag.ev {a a' : Act} (h : Ag N a a') : ev N (val a') a = a'.eval := by
  funext x
  cases x <;> try rfl
  rename_i t
  simp only [Proofs.Yteaanngagcflhaa.ev, Act.eval]
  split
  · rfl
  · rename_i hN
    have := h.same t (by simpa using hN)
    simp [Array.getD_eq_getD_getElem?, this]
theorem Ag.wanted {a a' : Act} (h : Ag N a a') {o : Oper} (hg : (match o.guard with | some (g, _) => (match (ops[g]?).bind (·.dst) with | some t => !N.contains t | none => true) | none => true) = true) :
    Region.wanted o (yielded ops a'.tmps) = Region.wanted o (yielded ops a.tmps) := by
  unfold Region.wanted
  cases hgu : o.guard with
  | none => rfl
  | some gw =>
    obtain ⟨g, want⟩ := gw
    have hy : yielded ops a'.tmps g = yielded ops a.tmps g := by
      unfold yielded
      cases ht : (ops[g]?).bind (·.dst) with
      | none => rfl
      | some t =>
        simp only [hgu, ht] at hg
        have := h.same t (by simpa using hg)
        simp [Array.getD_eq_getD_getElem?, this]
    simp only [hy]
theorem Ag.put {a a' : Act} (h : Ag N a a') {dst : Option Tmp} {v u : Value} (hv : ∀ d, dst = some d → N.contains d = false → u = v) : Ag N (a.put dst v) (a'.put dst u) := by
  cases dst with
  | none => exact h
  | some d =>
    refine ⟨by simp [Act.put, h.size], fun t ht => ?_, h.rest⟩
    simp only [Act.put]
    by_cases hd : d = t
    · subst hd
      rw [hv d rfl ht, Array.getElem?_setIfInBounds, Array.getElem?_setIfInBounds, h.size]
      simp
    · rw [Array.getElem?_setIfInBounds_ne hd, Array.getElem?_setIfInBounds_ne hd]
      exact h.same t ht
theorem val_put_same {a : Act} {t : Tmp} {u : Value} (h : t < a.tmps.size) : val (a.put (some t) u) t = u := by simp [val, Act.put, Array.getD_eq_getD_getElem?, h]
theorem val_put_ne {a : Act} {dst : Option Tmp} {t : Tmp} {u : Value} (h : dst ≠ some t) : val (a.put dst u) t = val a t := by
  cases dst with
  | none => rfl
  | some d => simp [val, Act.put, Array.getD_eq_getD_getElem?, Array.getElem?_setIfInBounds_ne (show d ≠ t from fun e => h (by rw [e]))]
/-- what is known of the temporaries of N whose writers have come up -/
def Known (ops : Array Oper) (N : List Tmp) (F : Tmp → Value → World → Prop) (listed : Array Bool) (a' : Act) (w : World) : Prop :=
  ∀ k o t, listed.getD k false = true → ops[k]? = some o → o.dst = some t → N.contains t = true → F t (val a' t) w
theorem Known.next {listed : Array Bool} {a' : Act} {w w' : World} {i : Nat} {o : Oper} {u v : Value} (hF : ∀ t v w w', R w w' → F t v w → F t v w') (h : Known ops N F listed a' w) (hs : ∀ t, N.contains t = true → t < a'.tmps.size) (hR : R w w') (ho : ops[i]? = some o) (hy : yld N F o v u w') :
    Known ops N F (listed.setIfInBounds i true) (a'.put o.dst u) w' := by
  intro k o' t hk ho' hd hN
  by_cases hdt : o.dst = some t
  · unfold yld at hy
    rw [hdt] at hy ⊢
    simp only [hN, if_true] at hy
    rw [val_put_same (hs t hN)]
    exact hy
  · rw [val_put_ne hdt]
    have hki : i ≠ k := by
      rintro rfl
      rw [ho] at ho'
      injection ho' with e
      subst e
      exact hdt hd
    rw [getD_set_ne false hki] at hk
    exact hF _ _ _ _ hR (h k o' t hk ho' hd hN)
theorem Known.skip {listed : Array Bool} {a' : Act} {w : World} {i : Nat} {o : Oper} {u : Value} (h : Known ops N F listed a' w) (ho : ops[i]? = some o) (hN : isN N o = false) :
    Known ops N F (listed.setIfInBounds i true) (a'.put o.dst u) w := by
  intro k o' t hk ho' hd hNt
  have hdt : o.dst ≠ some t := fun e => by unfold isN at hN; rw [e] at hN; dsimp only at hN; rw [hNt] at hN; cases hN
  rw [val_put_ne hdt]
  have hki : i ≠ k := by
    rintro rfl
    rw [ho] at ho'
    injection ho' with e
    subst e
    exact hdt hd
  rw [getD_set_ne false hki] at hk
  exact h k o' t hk ho' hd hNt
theorem yld_same {o : Oper} {v u : Value} {w : World} (h : yld N F o v u w) : ∀ d, o.dst = some d → N.contains d = false → u = v := by
  intro d hd hN
  unfold yld at h
  rw [hd] at h
  simp only [hN, Bool.false_eq_true, if_false] at h
  exact h
theorem wpAny_of_mix {Q : Act → Prop} {Q' : Exit → Act → World → Prop} (hmix : mixB N md ops = true) (hR0 : ∀ w, R w w) (hCR : ∀ w w', C w → R w w' → C w') (hF : ∀ t v w w', R w w' → F t v w → F t v w')
    (hQ : ∀ a a' w, C w → Ag N a a' → Q a → Q' .normal a' w) : ∀ (fuel : Nat) (listed : Array Bool) (a a' : Act) (w : World), C w → Ag N a a' → (∀ t, N.contains t = true → t < a'.tmps.size) → Known ops N F listed a' w →
    wpAnyM P md ops C R N F Q fuel listed a → wpAny P md ops Q' fuel listed a' w
  | 0, _, _, _, _, hw, ha, _, _, h => ⟨h.1, hQ _ _ _ hw ha h.2⟩
  | fuel + 1, listed, a, a', w, hw, ha, hs, hk, h => by
    refine ⟨fun h0 => hQ _ _ _ hw ha (h.1 h0), fun i hi => ?_⟩
    have h1 := h.2 i hi
    obtain ⟨-, o, ho, hall⟩ := mem_ready.1 hi
    unfold mOp at h1
    unfold wpOp
    simp only [ho] at h1 ⊢
    obtain ⟨v, hm, hK⟩ := h1
    have hmo := List.all_eq_true.1 hmix o (Array.mem_toList_iff.2 (Array.mem_of_getElem? ho))
    simp only [Bool.and_eq_true] at hmo
    obtain ⟨hg, hl⟩ := hmo
    rw [ha.wanted hg]
    have hsz : ∀ u, ∀ t, N.contains t = true → t < (a'.put o.dst u).tmps.size := fun u t ht => by
      cases hd : o.dst with
      | none => exact hs t ht
      | some d => simpa [Act.put] using hs t ht
    rcases hm with ⟨hw1, hat, hun⟩ | ⟨hw0, rfl, hN⟩
    · rw [if_pos hw1]
      refine .inl ?_
      have hx := hat w hw (val a') (fun t hNt hop => by
        have h2 := List.all_eq_true.1 hl _ (Array.mem_toList_iff.2 hop)
        simp only [hNt, Bool.not_true, Bool.false_or, List.any_eq_true, Bool.and_eq_true, beq_iff_eq] at h2
        obtain ⟨e, he, hb, hd⟩ := h2
        cases hoe : ops[e.on]? with
        | none => rw [hoe] at hd; cases hd
        | some oe =>
          rw [hoe] at hd
          exact hk e.on oe t (hall e (Array.mem_toList_iff.1 he) hb) hoe hd hNt)
      rw [ha.ev] at hx
      unfold Oper.wp
      generalize (execOp a'.eval o).run P w = r at *
      cases r with
      | ok n w' =>
        cases n <;> simp only [mixUpon] at hx <;> simp only [Oper.upon]
        case value u =>
          obtain ⟨rfl, hy⟩ := hx
          exact wpAny_of_mix hmix hR0 hCR hF hQ fuel _ _ _ _ hw (ha.put (yld_same hy)) (hsz u) (hk.next hF hs (hR0 _) ho hy) hK
        case skip =>
          obtain ⟨rfl, hy⟩ := hx
          exact wpAny_of_mix hmix hR0 hCR hF hQ fuel _ _ _ _ hw (ha.put (yld_same hy)) (hsz _) (hk.next hF hs (hR0 _) ho hy) hK
        case enter f args =>
          obtain ⟨rfl, hc⟩ := hx
          refine hc.mono fun e w'' ⟨u, he, hR, hy⟩ => ?_
          subst he
          exact wpAny_of_mix hmix hR0 hCR hF hQ fuel _ _ _ _ (hCR _ _ hw hR) (ha.put (yld_same hy)) (hsz u) (hk.next hF hs hR ho hy) hK
      | halt x w' => simp only [mixUpon] at hx
    · rw [if_neg (by rw [hw0]; decide)]
      exact wpAny_of_mix hmix hR0 hCR hF hQ fuel _ _ _ _ hw (ha.put fun _ _ _ => rfl) (hsz _) (hk.skip ho hN) hK

/-- what stands behind: the temporaries of N hold some values -/
theorem wp_region_mix {id : Nat} {Q : Exit → Act → World → Prop} {a : Act} {w : World} {l : List Oper} (C : World → Prop) (R : World → World → Prop) (N : List Tmp) (F : Tmp → Value → World → Prop) (hm : P.follows .mixedOrders = true) (hB : Region.lexB .any l.toArray = true) (hX : mixB N .any l.toArray = true)
    (hs : (N.all fun t => decide (t < a.tmps.size)) = true) (hR0 : ∀ w, R w w) (hCR : ∀ w w', C w → R w w' → C w') (hF : ∀ t v w w', R w w' → F t v w → F t v w') (h0 : C w.drew)
    (h : wpMix P l.toArray C R N F (fun a' => ∀ w' vals, C w' → Q .normal (over N vals a') w') l a) : (Code.region id l.toArray true).wp P Q a w := by
  simp only [Region.lexB, Bool.and_eq_true] at hB
  have h1 := wpAnyM_lex (P := P) (C := C) (R := R) (N := N) (F := F) (md := .any) hB.1 l 0 (Array.replicate l.toArray.size false) a (by simp) (by simpa using hB.2) h
  have h2 : ∀ t, N.contains t = true → t < a.tmps.size := fun t ht => by
    have := List.all_eq_true.1 hs t (by simpa using ht)
    simpa using this
  have h3 : Known l.toArray N F (Array.replicate l.toArray.size false) a w.drew := by
    intro k o t hk
    simp [Array.getD_eq_getD_getElem?, Array.getElem?_replicate] at hk
    split at hk <;> simp at hk
  refine wp_region_any hm (wpAny_of_mix (Q := fun a' => ∀ w' vals, C w' → Q .normal (over N vals a') w') hX hR0 hCR hF (fun a a' w' hw' ha h => by rw [ha.eq_over]; exact h w' _ hw') _ _ a _ _ h0 ⟨rfl, fun _ _ => rfl, rfl⟩ h2 h3 ?_)
  simpa using h1

/-! ### the steps of the walk -/
def plainOp : Op → Bool
  | .move _ | .assign _ | .pick .. | .build .. | .load .. | .binOp .. | .unOp .. | .fieldAddr .. | .field .. | .indexAddr .. | .index .. | .extract .. | .convert .. | .slice .. => true
  | _ => false
theorem v_form {s : Sem Value} {w w' : World} {n : Next} (h : ((do pure (.value (← s))) : Sem Next).run P w = .ok n w') : ∃ u, n = .value u := by
  rw [Sem.run_bind] at h
  cases hs : s.run P w with
  | ok u w1 => rw [hs] at h; simp only [Result.andThen, Sem.run_pure] at h; injection h with h1 h2; exact ⟨u, h1.symm⟩
  | halt x w1 => rw [hs] at h; simp [Result.andThen] at h
theorem plain_run {o : Oper} {ρ : Operand → Value} (h : plainOp o.op = true) {n : Next} {w w' : World} (hr : (execOp ρ o).run P w = .ok n w') : ∃ u, n = .value u := by
  obtain ⟨dst, op, type, pos, after, guard⟩ := o
  cases op <;> simp only [plainOp, Bool.false_eq_true] at h <;> simp only [execOp] at hr
  case pick => exact v_form (s := do pure (if ← asBool _ then _ else _)) (by simpa using hr)
  all_goals first | exact v_form hr | (rw [Sem.run_pure] at hr; injection hr with h1 h2; exact ⟨_, h1.symm⟩)
theorem plain_noSelect {o : Oper} (h : plainOp o.op = true) : ∀ cs b, o.op ≠ .select cs b := by
  intro cs b e
  rw [e] at h
  cases h
theorem mix_plain {o : Oper} {rest : List Oper} {a : Act} {Q : Act → Prop} (hp : plainOp o.op = true) (hl : (o.op.operands.toList.all fun x => match x with | .tmp t => !N.contains t | _ => true) = true) (hd : isN N o = false)
    (h : wpQuiet P ops C (wpMix P ops C R N F Q rest) [o] a) : wpMix P ops C R N F Q (o :: rest) a := by
  unfold wpQuiet at h
  by_cases hw : Region.wanted o (yielded ops a.tmps) = true
  · rw [if_pos hw] at h
    obtain ⟨v, h1, h2⟩ := h
    refine ⟨v, .inl ⟨hw, fun w hC vals _ => ?_, fun h => by rw [hd] at h; cases h⟩, h2⟩
    have e : execOp (ev N vals a) o = execOp a.eval o := execOp_congr o (plain_noSelect hp) fun x hx => by
      have h3 := List.all_eq_true.1 hl x (Array.mem_toList_iff.2 hx)
      cases x <;> try rfl
      rename_i t
      simp only [Bool.not_eq_true'] at h3
      simp only [ev, h3, Bool.false_eq_true, if_false]
    rw [e]
    have h4 := h1 w hC
    unfold Oper.quietAt at h4
    have h5 : ∀ n w', (execOp a.eval o).run P w = .ok n w' → ∃ u, n = .value u := fun n w' hr => plain_run hp hr
    generalize (execOp a.eval o).run P w = r at *
    cases r with
    | ok n w' =>
      obtain ⟨u, rfl⟩ := h5 _ _ rfl
      simp only [Oper.quietUpon] at h4
      obtain ⟨rfl, rfl⟩ := h4
      refine ⟨rfl, ?_⟩
      unfold yld
      unfold isN at hd
      split
      · rename_i d hdd
        rw [hdd] at hd
        dsimp only at hd
        rw [if_neg (by rw [hd]; decide)]
      · rfl
    | halt x w' => simp only [Oper.quietUpon] at h4
  · rw [if_neg hw] at h
    exact ⟨undef, .inr ⟨by simpa using hw, rfl, hd⟩, h⟩
theorem mix_skip {o : Oper} {rest : List Oper} {a : Act} {Q : Act → Prop} (hw : Region.wanted o (yielded ops a.tmps) = false) (hd : isN N o = false) (h : wpMix P ops C R N F Q rest (a.put o.dst undef)) : wpMix P ops C R N F Q (o :: rest) a :=
  ⟨undef, .inr ⟨hw, rfl, hd⟩, h⟩
theorem run_callF {o : Oper} {f : FuncId} {args : Array Operand} {ts : Array TypeId} {fn : Func} {c : Code} {ρ : Operand → Value} {w : World} (hfn : P.funcs[f]? = some fn) (hname : (fn.name == "runtime.NumGoroutine") = false) (hb : fn.body = some c) (ho : o.op = .call ⟨.value (.func f), args, ts⟩) (hf : ρ (.func f) = .func (.func f) #[] #[]) : (execOp ρ o).run P w = .ok (.enter f (args.map ρ)) w := by
  obtain ⟨dst, op, type, pos, after, guard⟩ := o
  simp only at ho
  subst ho
  have e : (execOp ρ { dst := dst, op := .call ⟨.value (.func f), args, ts⟩, type := type, pos := pos, after := after, guard := guard } : Sem Next).run P w = (callFunc f (args.map ρ)).run P w := by
    simp [execOp, resolve, hf, invoke, Deferred.ofValue, Result.andThen]
  rw [e]
  have h1 : fn.name ≠ "runtime.NumGoroutine" := by simpa using hname
  simp [callFunc, hfn, h1, hb]
/-- a call whose answer is one value -/
theorem mix_one {o : Oper} {rest : List Oper} {a : Act} {Q : Act → Prop} {f : FuncId} {args : Array Operand} {ts : Array TypeId} {fn : Func} {c : Code} (v : Value) (hfn : P.funcs[f]? = some fn) (hname : (fn.name == "runtime.NumGoroutine") = false) (hb : fn.body = some c) (hw : Region.wanted o (yielded ops a.tmps) = true) (ho : o.op = .call ⟨.value (.func f), args, ts⟩) (hd : isN N o = false)
    (hc : ∀ w, C w → ∀ vals, (∀ t, N.contains t = true → .tmp t ∈ args → F t (vals t) w) → Calls P f (args.map (ev N vals a)) w fun e w' => e = .returned v ∧ R w w')
    (h : wpMix P ops C R N F Q rest (a.put o.dst v)) : wpMix P ops C R N F Q (o :: rest) a := by
  refine ⟨v, .inl ⟨hw, fun w hC vals hv => ?_, fun h => by rw [hd] at h; cases h⟩, h⟩
  rw [run_callF hfn hname hb ho rfl]
  refine ⟨rfl, (hc w hC vals (fun t h1 h2 => hv t h1 (by rw [ho]; simpa [Op.operands, Call.operands] using h2))).mono ?_⟩
  rintro e w' ⟨rfl, hR⟩
  refine ⟨v, rfl, hR, ?_⟩
  unfold yld
  unfold isN at hd
  split
  · rename_i d hdd
    rw [hdd] at hd
    dsimp only at hd
    rw [if_neg (by rw [hd]; decide)]
  · rfl
/-- a call of whose answer a fact is kept -/
theorem mix_fact {o : Oper} {rest : List Oper} {a : Act} {Q : Act → Prop} {f : FuncId} {args : Array Operand} {ts : Array TypeId} {fn : Func} {c : Code} (d : Tmp) (hfn : P.funcs[f]? = some fn) (hname : (fn.name == "runtime.NumGoroutine") = false) (hb : fn.body = some c) (hw : Region.wanted o (yielded ops a.tmps) = true) (ho : o.op = .call ⟨.value (.func f), args, ts⟩) (hdd : o.dst = some d) (hd : N.contains d = true)
    (hc : ∀ w, C w → ∀ vals, (∀ t, N.contains t = true → .tmp t ∈ args → F t (vals t) w) → Calls P f (args.map (ev N vals a)) w fun e w' => ∃ u, e = .returned u ∧ R w w' ∧ F d u w')
    (h : wpMix P ops C R N F Q rest (a.put o.dst undef)) : wpMix P ops C R N F Q (o :: rest) a := by
  refine ⟨undef, .inl ⟨hw, fun w hC vals hv => ?_, fun _ => rfl⟩, h⟩
  rw [run_callF hfn hname hb ho rfl]
  refine ⟨rfl, (hc w hC vals (fun t h1 h2 => hv t h1 (by rw [ho]; simpa [Op.operands, Call.operands] using h2))).mono ?_⟩
  rintro e w' ⟨u, rfl, hR, hu⟩
  refine ⟨u, rfl, hR, ?_⟩
  unfold yld
  rw [hdd]
  dsimp only
  rw [if_pos hd]
  exact hu
end
end Go.Proofs.Yteaanngagcflhaa
namespace Go.Proofs.Yteaanngagcflhaa
open Go Go.RowKit

section
variable {P : Program} {ops : Array Oper} {md : Region.Mode} {C : World → Prop} {R : World → World → Prop} {N : List Tmp} {F : Tmp → Value → World → Prop}

def allL (ops : Array Oper) (listed : Array Bool) : Prop := ∀ k, k < ops.size → listed.getD k false = true
theorem allL.ready {listed : Array Bool} (h : allL ops listed) : Region.ready md ops listed = [] := by
  refine List.eq_nil_iff_forall_not_mem.2 fun i hi => ?_
  obtain ⟨h0, o, ho, _⟩ := mem_ready.1 hi
  have h1 := h i (Array.getElem?_eq_some_iff.1 ho).1
  rcases Nat.lt_or_ge i listed.size with h' | h'
  · simp [h'] at h0 h1
    rw [h0] at h1
    cases h1
  · simp [Array.getElem?_eq_none h'] at h1
def wpAnyK (P : Program) (md : Region.Mode) (ops : Array Oper) (C : World → Prop) (R : World → World → Prop) (N : List Tmp) (F : Tmp → Value → World → Prop) (Q : Act → Prop) : Nat → Array Bool → Act → Prop
  | 0, listed, a => allL ops listed ∧ Q a
  | fuel + 1, listed, a => Region.ready md ops listed ≠ [] ∧ ∀ i ∈ Region.ready md ops listed, mOp P ops C R N F i (wpAnyK P md ops C R N F Q fuel (listed.setIfInBounds i true)) a
theorem wpAnyK_first {Q : Act → Prop} {i : Nat} {oi : Oper} {v : Value} (hi : ops[i]? = some oi) (hsel : ∀ (j : Nat) (o : Oper) cs b, ops[j]? = some o → o.op ≠ .select cs b) :
    ∀ (fuel : Nat) (listed : Array Bool) (a : Act),
      (∀ j oj, ops[j]? = some oj → j ≠ i → listed.getD j true = false → (∀ e ∈ oj.after, Region.binds md e = true → e.on ≠ i) → oi.apart ops oj = true) →
      i ∈ Region.ready md ops listed → MixIn P ops C R N F oi v a →
      wpAnyK P md ops C R N F Q fuel (listed.setIfInBounds i true) (a.put oi.dst v) → wpAnyK P md ops C R N F Q (fuel + 1) listed a := by
  intro fuel
  have now : ∀ (K : Act → Prop) (a : Act), MixIn P ops C R N F oi v a → K (a.put oi.dst v) → mOp P ops C R N F i K a := fun K a hy H => by
    unfold mOp
    simp only [hi]
    exact ⟨v, hy, H⟩
  induction fuel with
  | zero =>
    intro listed a _ hr hy H
    refine ⟨fun h => (by rw [h] at hr; cases hr), fun j hj => ?_⟩
    by_cases hji : j = i
    · subst hji; exact now _ _ hy H
    · have := ready_mono hj hji
      rw [H.1.ready] at this
      cases this
  | succ fuel ih =>
    intro listed a hfree hr hy H
    refine ⟨fun h => (by rw [h] at hr; cases hr), fun j hj => ?_⟩
    by_cases hji : j = i
    · subst hji; exact now _ _ hy H
    · have h1 := H.2 j (ready_mono hj hji)
      obtain ⟨hjun, oj, hoj, hall⟩ := mem_ready.1 hj
      have hnot : ∀ e ∈ oj.after, Region.binds md e = true → e.on ≠ i := fun e he hb heq => by
        have h1 := hall e he hb
        have h0 := (mem_ready.1 hr).1
        rw [heq] at h1
        rcases Nat.lt_or_ge i listed.size with h' | h'
        · simp [h'] at h0 h1; rw [h0] at h1; cases h1
        · simp [Array.getElem?_eq_none h'] at h1
      have h2 := mOp_put hoj (hfree j oj hoj hji hjun hnot) (fun cs b => hsel i oi cs b hi) (fun cs b => hsel j oj cs b hoj) hy h1
      have hfree' : ∀ k ok, ops[k]? = some ok → k ≠ i → (listed.setIfInBounds j true).getD k true = false →
          (∀ e ∈ ok.after, Region.binds md e = true → e.on ≠ i) → oi.apart ops ok = true := fun k ok hk hki hun hno => by
        refine hfree k ok hk hki ?_ hno
        by_cases hjk : j = k
        · subst hjk; exact hjun
        · rw [getD_set_ne true hjk] at hun; exact hun
      refine mOp_mono (fun a' h3 => ih (listed.setIfInBounds j true) a' hfree' (ready_mono hr (Ne.symm hji)) h3.1 ?_) h2
      rw [Array.setIfInBounds_comm _ _ hji]
      exact h3.2
theorem wpAnyK_lex {Q : Act → Prop} (hs : Region.noSelect ops = true) : ∀ (l : List Oper) (k : Nat) (listed : Array Bool) (a : Act), (∀ j, l[j]? = ops[k + j]?) → k + l.length = ops.size → listed.size = ops.size → (∀ j, j < k → listed.getD j false = true) →
    Region.lexFrom md ops l.length k listed = true → wpMix P ops C R N F Q l a → wpAnyK P md ops C R N F Q l.length listed a
  | [], k, _, _, _, hk, _, hd, _, h => ⟨fun j hj => hd j (by simp at hk; omega), h⟩
  | o :: l, k, listed, a, hl, hk, hz, hd, hB, h => by
    have h0 : ops[k]? = some o := by simpa using (hl 0).symm
    simp only [List.length_cons, Region.lexFrom, Bool.and_eq_true] at hB
    obtain ⟨⟨hr, hf⟩, hB'⟩ := hB
    obtain ⟨v, hy, hK⟩ := h
    have hks : k < listed.size := by simp at hk; omega
    exact wpAnyK_first h0 (Region.noSelect_spec hs) l.length listed a (Region.free_spec h0 hf) (by simpa using hr) hy
      (wpAnyK_lex hs l (k + 1) _ _ (fun j => by have := hl (j + 1); simpa [Nat.add_assoc, Nat.add_comm 1 j] using this) (by simp at hk; omega) (by simpa using hz) (fun j hj => by
        by_cases hjk : j = k
        · subst hjk
          simp [hks]
        · rw [getD_set_ne false (Ne.symm hjk)]
          exact hd j (by omega)) hB' hK)
theorem wpAny_of_mixK {Q : Act → Prop} {Q' : Exit → Act → World → Prop} (hmix : mixB N md ops = true) (hR0 : ∀ w, R w w) (hCR : ∀ w w', C w → R w w' → C w') (hF : ∀ t v w w', R w w' → F t v w → F t v w')
    (hQ : ∀ a a' w, C w → Ag N a a' → (∀ (k : Nat) (o : Oper) (t : Tmp), ops[k]? = some o → o.dst = some t → N.contains t = true → F t (val a' t) w) → Q a → Q' .normal a' w) : ∀ (fuel : Nat) (listed : Array Bool) (a a' : Act) (w : World), C w → Ag N a a' → (∀ t, N.contains t = true → t < a'.tmps.size) → Known ops N F listed a' w →
    wpAnyK P md ops C R N F Q fuel listed a → wpAny P md ops Q' fuel listed a' w
  | 0, listed, _, _, _, hw, ha, _, hk, h => ⟨h.1.ready, hQ _ _ _ hw ha (fun k o t ho hd hN => hk k o t (h.1 k (Array.getElem?_eq_some_iff.1 ho).1) ho hd hN) h.2⟩
  | fuel + 1, listed, a, a', w, hw, ha, hs, hk, h => by
    refine ⟨fun h0 => absurd h0 h.1, fun i hi => ?_⟩
    have h1 := h.2 i hi
    obtain ⟨-, o, ho, hall⟩ := mem_ready.1 hi
    unfold mOp at h1
    unfold wpOp
    simp only [ho] at h1 ⊢
    obtain ⟨v, hm, hK⟩ := h1
    have hmo := List.all_eq_true.1 hmix o (Array.mem_toList_iff.2 (Array.mem_of_getElem? ho))
    simp only [Bool.and_eq_true] at hmo
    obtain ⟨hg, hl⟩ := hmo
    rw [ha.wanted hg]
    have hsz : ∀ u, ∀ t, N.contains t = true → t < (a'.put o.dst u).tmps.size := fun u t ht => by
      cases hd : o.dst with
      | none => exact hs t ht
      | some d => simpa [Act.put] using hs t ht
    rcases hm with ⟨hw1, hat, hun⟩ | ⟨hw0, rfl, hN⟩
    · rw [if_pos hw1]
      refine .inl ?_
      have hx := hat w hw (val a') (fun t hNt hop => by
        have h2 := List.all_eq_true.1 hl _ (Array.mem_toList_iff.2 hop)
        simp only [hNt, Bool.not_true, Bool.false_or, List.any_eq_true, Bool.and_eq_true, beq_iff_eq] at h2
        obtain ⟨e, he, hb, hd⟩ := h2
        cases hoe : ops[e.on]? with
        | none => rw [hoe] at hd; cases hd
        | some oe =>
          rw [hoe] at hd
          exact hk e.on oe t (hall e (Array.mem_toList_iff.1 he) hb) hoe hd hNt)
      rw [ha.ev] at hx
      unfold Oper.wp
      generalize (execOp a'.eval o).run P w = r at *
      cases r with
      | ok n w' =>
        cases n <;> simp only [mixUpon] at hx <;> simp only [Oper.upon]
        case value u =>
          obtain ⟨rfl, hy⟩ := hx
          exact wpAny_of_mixK hmix hR0 hCR hF hQ fuel _ _ _ _ hw (ha.put (yld_same hy)) (hsz u) (hk.next hF hs (hR0 _) ho hy) hK
        case skip =>
          obtain ⟨rfl, hy⟩ := hx
          exact wpAny_of_mixK hmix hR0 hCR hF hQ fuel _ _ _ _ hw (ha.put (yld_same hy)) (hsz _) (hk.next hF hs (hR0 _) ho hy) hK
        case enter f args =>
          obtain ⟨rfl, hc⟩ := hx
          refine hc.mono fun e w'' ⟨u, he, hR, hy⟩ => ?_
          subst he
          exact wpAny_of_mixK hmix hR0 hCR hF hQ fuel _ _ _ _ (hCR _ _ hw hR) (ha.put (yld_same hy)) (hsz u) (hk.next hF hs hR ho hy) hK
      | halt x w' => simp only [mixUpon] at hx
    · rw [if_neg (by rw [hw0]; decide)]
      exact wpAny_of_mixK hmix hR0 hCR hF hQ fuel _ _ _ _ hw (ha.put fun _ _ _ => rfl) (hsz _) (hk.skip ho hN) hK
/-- what stands behind: the temporaries of N hold values of which the facts are known -/
theorem wp_region_known {id : Nat} {Q : Exit → Act → World → Prop} {a : Act} {w : World} {l : List Oper} (C : World → Prop) (R : World → World → Prop) (N : List Tmp) (F : Tmp → Value → World → Prop) (hm : P.follows .mixedOrders = true) (hB : Region.lexB .any l.toArray = true) (hX : mixB N .any l.toArray = true)
    (hs : (N.all fun t => decide (t < a.tmps.size)) = true) (hR0 : ∀ w, R w w) (hCR : ∀ w w', C w → R w w' → C w') (hF : ∀ t v w w', R w w' → F t v w → F t v w') (h0 : C w.drew)
    (h : wpMix P l.toArray C R N F (fun a' => ∀ w' vals, C w' → (∀ (k : Nat) (o : Oper) (t : Tmp), l[k]? = some o → o.dst = some t → N.contains t = true → F t (vals t) w') → Q .normal (over N vals a') w') l a) : (Code.region id l.toArray true).wp P Q a w := by
  simp only [Region.lexB, Bool.and_eq_true] at hB
  have h1 := wpAnyK_lex (P := P) (C := C) (R := R) (N := N) (F := F) (md := .any) hB.1 l 0 (Array.replicate l.toArray.size false) a (by simp) (by simp) (by simp) (fun j hj => by omega) (by simpa using hB.2) h
  have h2 : ∀ t, N.contains t = true → t < a.tmps.size := fun t ht => by
    have := List.all_eq_true.1 hs t (by simpa using ht)
    simpa using this
  have h3 : Known l.toArray N F (Array.replicate l.toArray.size false) a w.drew := by
    intro k o t hk
    simp [Array.getD_eq_getD_getElem?, Array.getElem?_replicate] at hk
    split at hk <;> simp at hk
  refine wp_region_any hm (wpAny_of_mixK (Q := fun a' => ∀ w' vals, C w' → (∀ (k : Nat) (o : Oper) (t : Tmp), l[k]? = some o → o.dst = some t → N.contains t = true → F t (vals t) w') → Q .normal (over N vals a') w') hX hR0 hCR hF (fun a a' w' hw' ha hkn h => by rw [ha.eq_over]; exact h w' _ hw' (fun k o t ho hd hN => hkn k o t (by simpa using ho) hd hN)) _ _ a _ _ h0 ⟨rfl, fun _ _ => rfl, rfl⟩ h2 h3 ?_)
  simpa using h1
end

/-! ### with a list of facts -/
abbrev Lk := List (Tmp × (Value → World → Prop))
abbrev Nk (L : Lk) : List Tmp := L.map (·.1)
abbrev Fk (L : Lk) : Tmp → Value → World → Prop := fun t v w => ∀ p, L.lookup t = some p → p v w
abbrev Rk : World → World → Prop := fun w w' => Below w.heap.size w w'
theorem Nk_lookup : ∀ {L : Lk} {t : Tmp} {p : Value → World → Prop}, L.lookup t = some p → (Nk L).contains t = true
  | [], _, _, h => by simp [List.lookup] at h
  | (t', e') :: L, t, e, h => by
    simp only [List.lookup] at h
    simp only [Nk, List.map_cons, List.contains_cons, Bool.or_eq_true]
    split at h
    · rename_i hb; exact .inl hb
    · exact .inr (Nk_lookup h)
def stays (p : Value → World → Prop) : Prop := ∀ v w w', Below w.heap.size w w' → p v w → p v w'
section
variable {P : Program} {ops : Array Oper} {L : Lk} {W : World} {Q : Act → Prop} {o : Oper} {rest : List Oper} {a a' : Act} {f : FuncId} {fn : Func} {c : Code} {args : Array Operand} {ts : Array TypeId}
abbrev Ck_ (W : World) : World → Prop := fun w' => ∃ x : Wd (Below W.heap.size W), w' = x.w
theorem region_known {id : Nat} {Q : Exit → Act → World → Prop} {l : List Oper} (L : Lk) (hm : P.follows .mixedOrders = true) (hB : Region.lexB .any l.toArray = true) (hX : mixB (Nk L) .any l.toArray = true) (hs : ((Nk L).all fun t => decide (t < a.tmps.size)) = true) (hst : ∀ t p, L.lookup t = some p → stays p)
    (h : Nonempty (Wd (Below W.heap.size W)) → (∀ z : Wd (Below W.heap.size W), ∀ b o, b < W.heap.size → z.w.cell? ⟨b, o, none⟩ = W.cell? ⟨b, o, none⟩) → wpMix P l.toArray (Ck_ W) Rk (Nk L) (Fk L) (fun a' => ∀ w' vals, Below W.heap.size W w' → (∀ (k : Nat) (o : Oper) (t : Tmp), l[k]? = some o → o.dst = some t → ∀ p, L.lookup t = some p → p (vals t) w') → Q .normal (over (Nk L) vals a') w') l a) : (Code.region id l.toArray true).wp P Q a W := by
  refine wp_region_known (Ck_ W) Rk (Nk L) (Fk L) hm hB hX hs (fun w => Below.refl _ _) (fun w w' ⟨x, e⟩ hb => ?_) (fun t v w w' hb hf p hp => hst t p hp v w w' hb (hf p hp)) ⟨⟨W.drew, (Below.refl _ _).drew⟩, rfl⟩ ?_
  · subst e
    exact ⟨⟨w', below_wd _ hb⟩, rfl⟩
  · have key : (fun a' => ∀ w' vals, Ck_ W w' → (∀ (k : Nat) (o : Oper) (t : Tmp), l[k]? = some o → o.dst = some t → (Nk L).contains t = true → Fk L t (vals t) w') → Q .normal (over (Nk L) vals a') w') = (fun a' => ∀ w' vals, Below W.heap.size W w' → (∀ (k : Nat) (o : Oper) (t : Tmp), l[k]? = some o → o.dst = some t → ∀ p, L.lookup t = some p → p (vals t) w') → Q .normal (over (Nk L) vals a') w') := by
      funext a'
      refine propext ⟨fun h w' vals hw' hk => h w' vals ⟨⟨w', hw'⟩, rfl⟩ (fun k o t h1 h2 _ p hp => hk k o t h1 h2 p hp), fun h w' vals hw' hk => ?_⟩
      obtain ⟨x, rfl⟩ := hw'
      exact h _ _ x.h (fun k o t h1 h2 p hp => hk k o t h1 h2 (Nk_lookup hp) p hp)
    rw [key]
    exact h ⟨⟨W.drew, (Below.refl _ _).drew⟩⟩ (fun z => z.cells)
/-- a call that answers one value -/
theorem kn_one (v : Value) (hfn : P.funcs[f]? = some fn) (hname : (fn.name == "runtime.NumGoroutine") = false) (hb : fn.body = some c) (hw : Region.wanted o (yielded ops a.tmps) = true) (ho : o.op = .call ⟨.value (.func f), args, ts⟩) (hd : isN (Nk L) o = false) (ha : a.put o.dst v = a')
    (hc : ∀ z : Wd (Below W.heap.size W), ∀ vals, (∀ t p, L.lookup t = some p → .tmp t ∈ args → p (vals t) z.w) → ∃ av, args.map (ev (Nk L) vals a) = av ∧ Calls P f av z.w fun e w' => e = .returned v ∧ Below z.w.heap.size z.w w')
    (h : wpMix P ops (Ck_ W) Rk (Nk L) (Fk L) Q rest a') : wpMix P ops (Ck_ W) Rk (Nk L) (Fk L) Q (o :: rest) a := by
  subst ha
  refine mix_one v hfn hname hb hw ho hd (fun w hC vals hv => ?_) h
  obtain ⟨z, rfl⟩ := hC
  obtain ⟨av, e, h1⟩ := hc z vals fun t p hp ht => hv t (Nk_lookup hp) ht p hp
  rw [e]
  exact h1
/-- a call of whose answer the fact is kept -/
theorem kn_call (d : Tmp) (p : Value → World → Prop) (hp : L.lookup d = some p) (hfn : P.funcs[f]? = some fn) (hname : (fn.name == "runtime.NumGoroutine") = false) (hb : fn.body = some c) (hw : Region.wanted o (yielded ops a.tmps) = true) (ho : o.op = .call ⟨.value (.func f), args, ts⟩) (hd : o.dst = some d) (ha : a.put o.dst undef = a')
    (hc : ∀ z : Wd (Below W.heap.size W), ∀ vals, (∀ t p, L.lookup t = some p → .tmp t ∈ args → p (vals t) z.w) → ∃ av, args.map (ev (Nk L) vals a) = av ∧ Calls P f av z.w fun r w' => ∃ u, r = .returned u ∧ Below z.w.heap.size z.w w' ∧ p u w')
    (h : wpMix P ops (Ck_ W) Rk (Nk L) (Fk L) Q rest a') : wpMix P ops (Ck_ W) Rk (Nk L) (Fk L) Q (o :: rest) a := by
  subst ha
  refine mix_fact d hfn hname hb hw ho hd (Nk_lookup hp) (fun w hC vals hv => ?_) h
  obtain ⟨z, rfl⟩ := hC
  obtain ⟨av, e1, h1⟩ := hc z vals fun t p hp ht => hv t (Nk_lookup hp) ht p hp
  rw [e1]
  refine h1.mono ?_
  rintro r w' ⟨x, rfl, hb, hx⟩
  refine ⟨_, rfl, hb, fun p2 hp2 => ?_⟩
  rw [hp] at hp2
  injection hp2 with hp2
  subst hp2
  exact hx
/-- an operation that reads such values, and of whose yield a fact is kept -/
theorem kn_flow (d : Tmp) (p : Value → World → Prop) (hp : L.lookup d = some p) (hw : Region.wanted o (yielded ops a.tmps) = true) (hd : o.dst = some d) (ha : a.put o.dst undef = a')
    (hc : ∀ z : Wd (Below W.heap.size W), ∀ vals, (∀ t p, L.lookup t = some p → .tmp t ∈ o.op.operands → p (vals t) z.w) → ∃ u, (execOp (ev (Nk L) vals a) o).run P z.w = .ok (.value u) z.w ∧ p u z.w)
    (h : wpMix P ops (Ck_ W) Rk (Nk L) (Fk L) Q rest a') : wpMix P ops (Ck_ W) Rk (Nk L) (Fk L) Q (o :: rest) a := by
  subst ha
  refine ⟨undef, .inl ⟨hw, fun w hC vals hv => ?_, fun _ => rfl⟩, h⟩
  obtain ⟨z, rfl⟩ := hC
  obtain ⟨u, e1, h1⟩ := hc z vals fun t p hp ht => hv t (Nk_lookup hp) ht p hp
  rw [e1]
  refine ⟨rfl, ?_⟩
  unfold yld
  rw [hd]
  dsimp only
  rw [if_pos (Nk_lookup hp)]
  intro p2 hp2
  rw [hp] at hp2
  injection hp2 with hp2
  subst hp2
  exact h1
/-- an operation that reads such values, and yields one value -/
theorem kn_exact (v : Value) (hw : Region.wanted o (yielded ops a.tmps) = true) (hd : isN (Nk L) o = false) (ha : a.put o.dst v = a')
    (hc : ∀ z : Wd (Below W.heap.size W), ∀ vals, (∀ t p, L.lookup t = some p → .tmp t ∈ o.op.operands → p (vals t) z.w) → (execOp (ev (Nk L) vals a) o).run P z.w = .ok (.value v) z.w)
    (h : wpMix P ops (Ck_ W) Rk (Nk L) (Fk L) Q rest a') : wpMix P ops (Ck_ W) Rk (Nk L) (Fk L) Q (o :: rest) a := by
  subst ha
  refine ⟨v, .inl ⟨hw, fun w hC vals hv => ?_, fun h => by rw [hd] at h; cases h⟩, h⟩
  obtain ⟨z, rfl⟩ := hC
  rw [hc z vals fun t p hp ht => hv t (Nk_lookup hp) ht p hp]
  refine ⟨rfl, ?_⟩
  unfold yld
  unfold isN at hd
  split
  · rename_i d hdd
    rw [hdd] at hd
    dsimp only at hd
    rw [if_neg (by rw [hd]; decide)]
  · rfl
theorem kn_skip (hw : Region.wanted o (yielded ops a.tmps) = false) (hd : isN (Nk L) o = false) (ha : a.put o.dst undef = a') (h : wpMix P ops (Ck_ W) Rk (Nk L) (Fk L) Q rest a') : wpMix P ops (Ck_ W) Rk (Nk L) (Fk L) Q (o :: rest) a := by
  subst ha
  exact mix_skip hw hd h
/-- a value that is handed on -/
theorem kn_copy {d s : Tmp} {p : Value → World → Prop} (ho : o.op = .move (.tmp s) ∨ o.op = .assign (.tmp s)) (hd : o.dst = some d) (hs : L.lookup s = some p) (hp : L.lookup d = some p) (hw : Region.wanted o (yielded ops a.tmps) = true) (ha : a.put o.dst undef = a')
    (h : wpMix P ops (Ck_ W) Rk (Nk L) (Fk L) Q rest a') : wpMix P ops (Ck_ W) Rk (Nk L) (Fk L) Q (o :: rest) a := by
  refine kn_flow d p hp hw hd ha (fun z vals hv => ⟨vals s, ?_, hv s p hs ?_⟩) h
  · have e : ev (Nk L) vals a (.tmp s) = vals s := by simp only [ev, Nk_lookup hs, if_true]
    rcases ho with ho | ho
    · rw [BigFrame.run_move _ ho, e]
    · rw [BigFrame.run_assign _ ho, e]
  · rcases ho with ho | ho <;> (rw [ho]; simp [Op.operands])
/-- a tuple, one of whose parts hangs on the world -/
def tupF (f : Value → Value) (p : Value → World → Prop) : Value → World → Prop := fun v w => ∃ u, v = f u ∧ p u w
theorem stays_tup {f : Value → Value} {p : Value → World → Prop} (h : stays p) : stays (tupF f p) := fun v w w' hb ⟨u, e, hu⟩ => ⟨u, e, h u w w' hb hu⟩
theorem run_extract {ρ : Operand → Value} {o : Oper} {x : Operand} {i : Nat} (h : o.op = .extract x i) (w : World) {v : Value} (hx : (Instr.extract (ρ x) i).run P w = .ok v w) : (execOp ρ o).run P w = .ok (.value v) w := by
  unfold execOp
  rw [h]
  simp [hx, Result.andThen]
theorem kn_part {d s : Tmp} {i : Nat} {f : Value → Value} {p : Value → World → Prop} (ho : o.op = .extract (.tmp s) i) (hd : o.dst = some d) (hs : L.lookup s = some (tupF f p)) (hp : L.lookup d = some p) (hw : Region.wanted o (yielded ops a.tmps) = true) (ha : a.put o.dst undef = a') (hf : ∀ u w, (Instr.extract (f u) i).run P w = .ok u w)
    (h : wpMix P ops (Ck_ W) Rk (Nk L) (Fk L) Q rest a') : wpMix P ops (Ck_ W) Rk (Nk L) (Fk L) Q (o :: rest) a := by
  refine kn_flow d p hp hw hd ha (fun z vals hv => ?_) h
  obtain ⟨u, e, hu⟩ := hv s _ hs (by rw [ho]; simp [Op.operands])
  refine ⟨u, run_extract ho _ ?_, hu⟩
  have e2 : ev (Nk L) vals a (.tmp s) = vals s := by simp only [ev, Nk_lookup hs, if_true]
  rw [e2, e]
  exact hf u _
theorem kn_partV {s : Tmp} {i : Nat} {f : Value → Value} {p : Value → World → Prop} (v : Value) (ho : o.op = .extract (.tmp s) i) (hd : isN (Nk L) o = false) (hs : L.lookup s = some (tupF f p)) (hw : Region.wanted o (yielded ops a.tmps) = true) (ha : a.put o.dst v = a') (hf : ∀ u w, (Instr.extract (f u) i).run P w = .ok v w)
    (h : wpMix P ops (Ck_ W) Rk (Nk L) (Fk L) Q rest a') : wpMix P ops (Ck_ W) Rk (Nk L) (Fk L) Q (o :: rest) a := by
  refine kn_exact v hw hd ha (fun z vals hv => ?_) h
  obtain ⟨u, e, hu⟩ := hv s _ hs (by rw [ho]; simp [Op.operands])
  refine run_extract ho _ ?_
  have e2 : ev (Nk L) vals a (.tmp s) = vals s := by simp only [ev, Nk_lookup hs, if_true]
  rw [e2, e]
  exact hf u _
theorem stays_nil : ∀ t p, ([] : Lk).lookup t = some p → stays p := fun t p h => by simp [List.lookup] at h
theorem stays_cons {t0 : Tmp} {p0 : Value → World → Prop} {L : Lk} (h0 : stays p0) (h : ∀ t p, L.lookup t = some p → stays p) : ∀ t p, ((t0, p0) :: L).lookup t = some p → stays p := fun t p hp => by
  simp only [List.lookup] at hp
  split at hp
  · injection hp with hp
    subst hp
    exact h0
  · exact h t p hp
end
end Go.Proofs.Yteaanngagcflhaa
namespace Go.Proofs.Yteaanngagcflhaa
open Go Go.RowKit
namespace Gr
section
variable {P : Program} {ops : Array Oper} {md : Region.Mode} {C : World → Prop} {R : World → World → Prop} {N : List Tmp} {F : Tmp → Value → World → Prop}
def mixUpon (P : Program) (R : World → World → Prop) (G : Value → World → Prop) (w : World) : Result Next → Prop
  | .ok (.value u) w' => R w w' ∧ G u w'
  | .ok .skip w' => R w w' ∧ G undef w'
  | .ok (.enter f args) w' => w' = w ∧ Calls P f args w (fun e w'' => ∃ u, e = .returned u ∧ R w w'' ∧ G u w'')
  | _ => False
def MixAt (P : Program) (C : World → Prop) (R : World → World → Prop) (N : List Tmp) (F : Tmp → Value → World → Prop) (o : Oper) (v : Value) (a : Act) : Prop :=
  ∀ w, C w → ∀ vals, (∀ t, N.contains t = true → .tmp t ∈ o.op.operands → F t (vals t) w) → mixUpon P R (yld N F o v) w ((execOp (ev N vals a) o).run P w)
def MixIn (P : Program) (ops : Array Oper) (C : World → Prop) (R : World → World → Prop) (N : List Tmp) (F : Tmp → Value → World → Prop) (o : Oper) (v : Value) (a : Act) : Prop :=
  (Region.wanted o (yielded ops a.tmps) = true ∧ MixAt P C R N F o v a ∧ (isN N o = true → v = undef)) ∨
  (Region.wanted o (yielded ops a.tmps) = false ∧ v = undef ∧ isN N o = false)
def wpMix (P : Program) (ops : Array Oper) (C : World → Prop) (R : World → World → Prop) (N : List Tmp) (F : Tmp → Value → World → Prop) (Q : Act → Prop) : List Oper → Act → Prop
  | [], a => Q a
  | o :: rest, a => ∃ v, MixIn P ops C R N F o v a ∧ wpMix P ops C R N F Q rest (a.put o.dst v)
def mOp (P : Program) (ops : Array Oper) (C : World → Prop) (R : World → World → Prop) (N : List Tmp) (F : Tmp → Value → World → Prop) (i : Nat) (K : Act → Prop) (a : Act) : Prop :=
  match ops[i]? with
  | none => K a
  | some o => ∃ v, MixIn P ops C R N F o v a ∧ K (a.put o.dst v)
def wpAnyM (P : Program) (md : Region.Mode) (ops : Array Oper) (C : World → Prop) (R : World → World → Prop) (N : List Tmp) (F : Tmp → Value → World → Prop) (Q : Act → Prop) : Nat → Array Bool → Act → Prop
  | 0, listed, a => Region.ready md ops listed = [] ∧ Q a
  | fuel + 1, listed, a =>
    (Region.ready md ops listed = [] → Q a) ∧
    ∀ i ∈ Region.ready md ops listed, mOp P ops C R N F i (wpAnyM P md ops C R N F Q fuel (listed.setIfInBounds i true)) a

theorem mixIn_put {o : Oper} (hs : ∀ cs b, o.op ≠ .select cs b) {v : Value} {a : Act} {dst : Option Tmp} {u : Value} (h : ∀ d, dst = some d → d ∉ o.looksAt ops) :
    MixIn P ops C R N F o v (a.put dst u) ↔ MixIn P ops C R N F o v a := by
  unfold MixIn MixAt
  rw [wanted_put o a dst u h]
  simp only [exec_put o hs _ a dst u h]
theorem mOp_mono {i : Nat} {a : Act} {K K' : Act → Prop} (h : ∀ a, K a → K' a) (hh : mOp P ops C R N F i K a) : mOp P ops C R N F i K' a := by
  unfold mOp at *
  split
  · exact h _ (by simpa [*] using hh)
  · rename_i o ho
    simp only [ho] at hh
    obtain ⟨v, h1, h2⟩ := hh
    exact ⟨v, h1, h _ h2⟩
theorem mOp_put {j : Nat} {oi oj : Oper} {v : Value} (hj : ops[j]? = some oj) (hap : oi.apart ops oj = true)
    (hsi : ∀ cs b, oi.op ≠ .select cs b) (hsj : ∀ cs b, oj.op ≠ .select cs b) {K : Act → Prop} {a : Act}
    (hy : MixIn P ops C R N F oi v a) (h : mOp P ops C R N F j K (a.put oi.dst v)) :
    mOp P ops C R N F j (fun a' => MixIn P ops C R N F oi v a' ∧ K (a'.put oi.dst v)) a := by
  obtain ⟨h1, h2, h3⟩ := Oper.apart_spec hap
  unfold mOp at *
  simp only [hj] at *
  obtain ⟨u, hu, hK⟩ := h
  exact ⟨u, (mixIn_put hsj h1).1 hu, (mixIn_put hsi h3).2 hy, by rw [← Act.put_comm a v u h2]; exact hK⟩
/-- the last operation waits for all others -/
def lastB (md : Region.Mode) (ops : Array Oper) (m : Nat) : Bool := match ops[m]? with
  | some o => (List.range m).all (fun i => (o.after.toList.any fun e => Region.binds md e && e.on == i) || (List.range m).any fun j => decide (i < j) && match ops[j]? with
      | some oj => oj.after.toList.any fun e => Region.binds md e && e.on == i
      | none => false) && o.after.toList.all fun e => decide (e.on < m)
  | none => false
/-- what is listed waits for nothing that is not -/
def closedS (md : Region.Mode) (ops : Array Oper) (listed : Array Bool) : Prop := ∀ j o, listed.getD j false = true → ops[j]? = some o → ∀ e ∈ o.after, Region.binds md e = true → listed.getD e.on false = true
theorem closedS.next {listed : Array Bool} {i : Nat} (h : closedS md ops listed) (hi : i ∈ Region.ready md ops listed) : closedS md ops (listed.setIfInBounds i true) := fun j o hj ho e he hb => by
  by_cases hji : j = i
  · subst hji
    obtain ⟨_, o', ho', hall⟩ := mem_ready.1 hi
    rw [ho] at ho'
    injection ho' with ho'
    subst ho'
    exact getD_set_true (hall e he hb)
  · rw [getD_set_ne false (Ne.symm hji)] at hj
    exact getD_set_true (h j o hj ho e he hb)
def allS (m : Nat) (listed : Array Bool) : Prop := (∀ k, k < m → listed.getD k false = true) ∧ listed.getD m true = false
theorem last_ready {m : Nat} {listed : Array Bool} (hz : ops.size = m + 1) (hl : lastB md ops m = true) (h : allS m listed) : Region.ready md ops listed = [m] := by
  unfold lastB at hl
  cases ho : ops[m]? with
  | none => rw [ho] at hl; cases hl
  | some o =>
    rw [ho] at hl
    rw [Bool.and_eq_true] at hl
    have hl2 : ∀ e ∈ o.after.toList, e.on < m := fun e he => of_decide_eq_true (List.all_eq_true.1 hl.2 e he)
    have hmem : m ∈ Region.ready md ops listed := mem_ready.2 ⟨h.2, o, ho, fun e he _ => h.1 _ (hl2 e (Array.mem_toList_iff.2 he))⟩
    have honly : ∀ i ∈ Region.ready md ops listed, i = m := fun i hi => by
      obtain ⟨h0, o', ho', _⟩ := mem_ready.1 hi
      have hlt := (Array.getElem?_eq_some_iff.1 ho').1
      by_cases hi2 : i < m
      · have h1 := h.1 i hi2
        rcases Nat.lt_or_ge i listed.size with h' | h'
        · simp [h'] at h0 h1; rw [h0] at h1; cases h1
        · simp [Array.getElem?_eq_none h'] at h1
      · omega
    have hnd : (Region.ready md ops listed).Nodup := by unfold Region.ready; exact List.Nodup.sublist List.filter_sublist List.nodup_range
    cases hr : Region.ready md ops listed with
    | nil => rw [hr] at hmem; cases hmem
    | cons x l =>
      rw [hr] at hmem honly hnd
      obtain rfl := honly x (List.mem_cons_self ..)
      cases l with
      | nil => rfl
      | cons y l =>
        obtain rfl := honly y (List.mem_cons_of_mem _ (List.mem_cons_self ..))
        exact absurd (List.mem_cons_self ..) (List.nodup_cons.1 hnd).1
def wpAnyS (P : Program) (md : Region.Mode) (ops : Array Oper) (m : Nat) (C : World → Prop) (R : World → World → Prop) (N : List Tmp) (F : Tmp → Value → World → Prop) (Q : Act → Prop) : Nat → Array Bool → Act → Prop
  | 0, listed, a => allS m listed ∧ Q a
  | fuel + 1, listed, a => Region.ready md ops listed ≠ [] ∧ ∀ i ∈ Region.ready md ops listed, mOp P ops C R N F i (wpAnyS P md ops m C R N F Q fuel (listed.setIfInBounds i true)) a
theorem wpAnyS_first {Q : Act → Prop} {m : Nat} (hz : ops.size = m + 1) (hl : lastB md ops m = true) {i : Nat} (him : i < m) {oi : Oper} {v : Value} (hi : ops[i]? = some oi) (hsel : ∀ (j : Nat) (o : Oper) cs b, ops[j]? = some o → o.op ≠ .select cs b) :
    ∀ (fuel : Nat) (listed : Array Bool) (a : Act), closedS md ops listed →
      (∀ j oj, ops[j]? = some oj → j ≠ i → listed.getD j true = false → (∀ e ∈ oj.after, Region.binds md e = true → e.on ≠ i) → oi.apart ops oj = true) →
      i ∈ Region.ready md ops listed → MixIn P ops C R N F oi v a →
      wpAnyS P md ops m C R N F Q fuel (listed.setIfInBounds i true) (a.put oi.dst v) → wpAnyS P md ops m C R N F Q (fuel + 1) listed a := by
  intro fuel
  have now : ∀ (K : Act → Prop) (a : Act), MixIn P ops C R N F oi v a → K (a.put oi.dst v) → mOp P ops C R N F i K a := fun K a hy H => by
    unfold mOp
    simp only [hi]
    exact ⟨v, hy, H⟩
  induction fuel with
  | zero =>
    intro listed a hcl _ hr hy H
    refine ⟨fun h => (by rw [h] at hr; cases hr), fun j hj => ?_⟩
    by_cases hji : j = i
    · subst hji; exact now _ _ hy H
    · have h2 := ready_mono hj hji
      rw [last_ready hz hl H.1] at h2
      obtain rfl : j = m := by simpa using h2
      exfalso
      obtain ⟨_, o, ho, hall⟩ := mem_ready.1 hj
      unfold lastB at hl
      rw [ho] at hl
      simp only [Bool.and_eq_true, Bool.or_eq_true, List.all_eq_true, List.any_eq_true, decide_eq_true_eq, List.mem_range, beq_iff_eq] at hl
      have h1 : listed.getD i false = true := by
        rcases hl.1 i him with ⟨e, he, hb, hon⟩ | ⟨j', hj', hij, hq⟩
        · have h1 := hall e (Array.mem_toList_iff.1 he) hb
          rw [hon] at h1
          exact h1
        · cases hoj : ops[j']? with
          | none => rw [hoj] at hq; cases hq
          | some oj =>
            rw [hoj] at hq
            simp only [List.any_eq_true, Bool.and_eq_true, beq_iff_eq] at hq
            obtain ⟨e, he, hb, hon⟩ := hq
            have h3 := H.1.1 j' hj'
            rw [getD_set_ne false (by omega)] at h3
            have h4 := hcl j' oj h3 hoj e (Array.mem_toList_iff.1 he) hb
            rw [hon] at h4
            exact h4
      have h0 := (mem_ready.1 hr).1
      rcases Nat.lt_or_ge i listed.size with h' | h'
      · simp [h'] at h0 h1; rw [h0] at h1; cases h1
      · simp [Array.getElem?_eq_none h'] at h1
  | succ fuel ih =>
    intro listed a hcl hfree hr hy H
    refine ⟨fun h => (by rw [h] at hr; cases hr), fun j hj => ?_⟩
    by_cases hji : j = i
    · subst hji; exact now _ _ hy H
    · have h1 := H.2 j (ready_mono hj hji)
      obtain ⟨hjun, oj, hoj, hall⟩ := mem_ready.1 hj
      have hnot : ∀ e ∈ oj.after, Region.binds md e = true → e.on ≠ i := fun e he hb heq => by
        have h1 := hall e he hb
        have h0 := (mem_ready.1 hr).1
        rw [heq] at h1
        rcases Nat.lt_or_ge i listed.size with h' | h'
        · simp [h'] at h0 h1; rw [h0] at h1; cases h1
        · simp [Array.getElem?_eq_none h'] at h1
      have h2 := mOp_put hoj (hfree j oj hoj hji hjun hnot) (fun cs b => hsel i oi cs b hi) (fun cs b => hsel j oj cs b hoj) hy h1
      have hfree' : ∀ k ok, ops[k]? = some ok → k ≠ i → (listed.setIfInBounds j true).getD k true = false →
          (∀ e ∈ ok.after, Region.binds md e = true → e.on ≠ i) → oi.apart ops ok = true := fun k ok hk hki hun hno => by
        refine hfree k ok hk hki ?_ hno
        by_cases hjk : j = k
        · subst hjk; exact hjun
        · rw [getD_set_ne true hjk] at hun; exact hun
      refine mOp_mono (fun a' h3 => ih (listed.setIfInBounds j true) a' (hcl.next hj) hfree' (ready_mono hr (Ne.symm hji)) h3.1 ?_) h2
      rw [Array.setIfInBounds_comm _ _ hji]
      exact h3.2
theorem wpAnyS_lex {Q : Act → Prop} {m : Nat} (hz : ops.size = m + 1) (hlast : lastB md ops m = true) (hs : Region.noSelect ops = true) : ∀ (l : List Oper) (k : Nat) (listed : Array Bool) (a : Act), (∀ j, j < l.length → l[j]? = ops[k + j]?) → k + l.length = m → listed.size = ops.size → (∀ j, j < k → listed.getD j false = true) → listed.getD m true = false → closedS md ops listed →
    Region.lexFrom md ops (l.length + 1) k listed = true → wpMix P ops C R N F Q l a → wpAnyS P md ops m C R N F Q l.length listed a
  | [], k, _, _, _, hk, _, hd, hm, _, _, h => ⟨⟨fun j hj => hd j (by simp at hk; omega), hm⟩, h⟩
  | o :: l, k, listed, a, hl, hk, hzz, hd, hm, hcl, hB, h => by
    have h0 : ops[k]? = some o := by simpa using (hl 0 (by simp)).symm
    simp only [List.length_cons, Region.lexFrom, Bool.and_eq_true] at hB
    obtain ⟨⟨hr, hf⟩, hB'⟩ := hB
    obtain ⟨v, hy, hK⟩ := h
    have hkm : k < m := by simp at hk; omega
    have hks : k < listed.size := by omega
    exact wpAnyS_first hz hlast hkm h0 (Region.noSelect_spec hs) l.length listed a hcl (Region.free_spec h0 hf) (by simpa using hr) hy
      (wpAnyS_lex hz hlast hs l (k + 1) _ _ (fun j hj => by have := hl (j + 1) (by simpa using hj); simpa [Nat.add_assoc, Nat.add_comm 1 j] using this) (by simp at hk; omega) (by simpa using hzz) (fun j hj => by
        by_cases hjk : j = k
        · subst hjk
          simp [hks]
        · rw [getD_set_ne false (Ne.symm hjk)]
          exact hd j (by omega)) (by rw [getD_set_ne true (by omega)]; exact hm) (hcl.next (by simpa using hr)) (by simpa [Region.lexFrom] using hB') hK)
theorem wpAny_of_mixS {Q : Act → Prop} {Q' : Exit → Act → World → Prop} {m : Nat} {ol : Oper} (hz : ops.size = m + 1) (hlast : lastB md ops m = true) (hol : ops[m]? = some ol) (hmix : mixB N md ops = true) (hR0 : ∀ w, R w w) (hCR : ∀ w w', C w → R w w' → C w') (hF : ∀ t v w w', R w w' → F t v w → F t v w')
    (hQ : ∀ a a' w, C w → Ag N a a' → (∀ (k : Nat) (o : Oper) (t : Tmp), k < m → ops[k]? = some o → o.dst = some t → N.contains t = true → F t (val a' t) w) → Q a → wpList P ops Q' [ol] a' w) : ∀ (fuel : Nat) (listed : Array Bool) (a a' : Act) (w : World), C w → Ag N a a' → (∀ t, N.contains t = true → t < a'.tmps.size) → Known ops N F listed a' w →
    wpAnyS P md ops m C R N F Q fuel listed a → wpAny P md ops Q' (fuel + 1) listed a' w
  | 0, listed, _, _, _, hw, ha, _, hk, h => by
    have hr := last_ready hz hlast h.1
    have hq := hQ _ _ _ hw ha (fun k o t hkm ho hd hN => hk k o t (h.1.1 k hkm) ho hd hN) h.2
    refine ⟨fun h0 => (by rw [hr] at h0; cases h0), fun i hi => ?_⟩
    rw [hr] at hi
    obtain rfl : i = m := by simpa using hi
    have hdone : Region.ready md ops (listed.setIfInBounds i true) = [] := by
      refine List.eq_nil_iff_forall_not_mem.2 fun j hj => ?_
      obtain ⟨h0, o, ho, _⟩ := mem_ready.1 hj
      have hlt := (Array.getElem?_eq_some_iff.1 ho).1
      by_cases hji : j = i
      · subst hji
        rcases Nat.lt_or_ge j listed.size with h' | h'
        · simp [h'] at h0
        · have := h.1.2; simp [Array.getElem?_eq_none h'] at this
      · rw [getD_set_ne true (Ne.symm hji)] at h0
        have h1 := h.1.1 j (by omega)
        rcases Nat.lt_or_ge j listed.size with h' | h'
        · simp [h'] at h0 h1; rw [h0] at h1; cases h1
        · simp [Array.getElem?_eq_none h'] at h1
    have key : ∀ a w, wpList P ops Q' [] a w → wpAny P md ops Q' 0 (listed.setIfInBounds i true) a w := fun a w h => ⟨hdone, h⟩
    unfold wpOp
    simp only [hol]
    unfold wpList at hq
    split
    · rename_i hw2; rw [if_pos hw2] at hq; exact hq.imp (Oper.wp_mono key) id
    · rename_i hw2; rw [if_neg hw2] at hq; exact key _ _ hq
  | fuel + 1, listed, a, a', w, hw, ha, hs, hk, h => by
    refine ⟨fun h0 => absurd h0 h.1, fun i hi => ?_⟩
    have h1 := h.2 i hi
    obtain ⟨-, o, ho, hall⟩ := mem_ready.1 hi
    unfold mOp at h1
    unfold wpOp
    simp only [ho] at h1 ⊢
    obtain ⟨v, hm, hK⟩ := h1
    have hmo := List.all_eq_true.1 hmix o (Array.mem_toList_iff.2 (Array.mem_of_getElem? ho))
    simp only [Bool.and_eq_true] at hmo
    obtain ⟨hg, hl⟩ := hmo
    rw [ha.wanted hg]
    have hsz : ∀ u, ∀ t, N.contains t = true → t < (a'.put o.dst u).tmps.size := fun u t ht => by
      cases hd : o.dst with
      | none => exact hs t ht
      | some d => simpa [Act.put] using hs t ht
    rcases hm with ⟨hw1, hat, hun⟩ | ⟨hw0, rfl, hN⟩
    · rw [if_pos hw1]
      refine .inl ?_
      have hx := hat w hw (val a') (fun t hNt hop => by
        have h2 := List.all_eq_true.1 hl _ (Array.mem_toList_iff.2 hop)
        simp only [hNt, Bool.not_true, Bool.false_or, List.any_eq_true, Bool.and_eq_true, beq_iff_eq] at h2
        obtain ⟨e, he, hb, hd⟩ := h2
        cases hoe : ops[e.on]? with
        | none => rw [hoe] at hd; cases hd
        | some oe =>
          rw [hoe] at hd
          exact hk e.on oe t (hall e (Array.mem_toList_iff.1 he) hb) hoe hd hNt)
      rw [ha.ev] at hx
      unfold Oper.wp
      generalize (execOp a'.eval o).run P w = r at *
      cases r with
      | ok n w' =>
        cases n <;> simp only [mixUpon] at hx <;> simp only [Oper.upon]
        case value u =>
          obtain ⟨hR, hy⟩ := hx
          exact wpAny_of_mixS hz hlast hol hmix hR0 hCR hF hQ fuel _ _ _ _ (hCR _ _ hw hR) (ha.put (yld_same hy)) (hsz u) (hk.next hF hs hR ho hy) hK
        case skip =>
          obtain ⟨hR, hy⟩ := hx
          exact wpAny_of_mixS hz hlast hol hmix hR0 hCR hF hQ fuel _ _ _ _ (hCR _ _ hw hR) (ha.put (yld_same hy)) (hsz _) (hk.next hF hs hR ho hy) hK
        case enter f args =>
          obtain ⟨rfl, hc⟩ := hx
          refine hc.mono fun e w'' ⟨u, he, hR, hy⟩ => ?_
          subst he
          exact wpAny_of_mixS hz hlast hol hmix hR0 hCR hF hQ fuel _ _ _ _ (hCR _ _ hw hR) (ha.put (yld_same hy)) (hsz u) (hk.next hF hs hR ho hy) hK
      | halt x w' => simp only [mixUpon] at hx
    · rw [if_neg (by rw [hw0]; decide)]
      exact wpAny_of_mixS hz hlast hol hmix hR0 hCR hF hQ fuel _ _ _ _ hw (ha.put fun _ _ _ => rfl) (hsz _) (hk.skip ho hN) hK
/-- what stands behind all but the last operation: the temporaries of N hold values of which the facts are known -/
theorem wp_region_grow {id : Nat} {Q : Exit → Act → World → Prop} {a : Act} {w : World} {l : List Oper} {ol : Oper} {m : Nat} (C : World → Prop) (R : World → World → Prop) (N : List Tmp) (F : Tmp → Value → World → Prop) (hm : P.follows .mixedOrders = true) (hz : l.length = m + 1) (hol : l[m]? = some ol) (hlast : lastB .any l.toArray m = true) (hB : Region.lexB .any l.toArray = true) (hX : mixB N .any l.toArray = true)
    (hs : (N.all fun t => decide (t < a.tmps.size)) = true) (hR0 : ∀ w, R w w) (hCR : ∀ w w', C w → R w w' → C w') (hF : ∀ t v w w', R w w' → F t v w → F t v w') (h0 : C w.drew)
    (h : wpMix P l.toArray C R N F (fun a' => ∀ w' vals, C w' → (∀ (k : Nat) (o : Oper) (t : Tmp), k < m → l[k]? = some o → o.dst = some t → N.contains t = true → F t (vals t) w') → wpList P l.toArray Q [ol] (over N vals a') w') (l.take m) a) : (Code.region id l.toArray true).wp P Q a w := by
  simp only [Region.lexB, Bool.and_eq_true] at hB
  have hlen : (l.take m).length = m := by rw [List.length_take]; omega
  have h1 := wpAnyS_lex (P := P) (C := C) (R := R) (N := N) (F := F) (md := .any) (by simpa using hz) hlast hB.1 (l.take m) 0 (Array.replicate l.toArray.size false) a (fun j hj => by rw [List.getElem?_take_of_lt (by omega)]; simp) (by omega) (by simp) (fun j hj => by omega) (by simp [hz]) (fun j o hj => by simp [Array.getD_eq_getD_getElem?, Array.getElem?_replicate] at hj; split at hj <;> simp at hj) (by rw [hlen]; have := hB.2; simp only [List.size_toArray, hz] at this; simpa [hz] using this) h
  rw [hlen] at h1
  have h2 : ∀ t, N.contains t = true → t < a.tmps.size := fun t ht => by
    have := List.all_eq_true.1 hs t (by simpa using ht)
    simpa using this
  have h3 : Known l.toArray N F (Array.replicate l.toArray.size false) a w.drew := by
    intro k o t hk
    simp [Array.getD_eq_getD_getElem?, Array.getElem?_replicate] at hk
    split at hk <;> simp at hk
  have h4 := wpAny_of_mixS (P := P) (Q := fun a' => ∀ w' vals, C w' → (∀ (k : Nat) (o : Oper) (t : Tmp), k < m → l[k]? = some o → o.dst = some t → N.contains t = true → F t (vals t) w') → wpList P l.toArray Q [ol] (over N vals a') w') (Q' := Q) (by simpa using hz) hlast (by simpa using hol) hX hR0 hCR hF (fun a a' w' hw' ha hkn h => by rw [ha.eq_over]; exact h w' _ hw' (fun k o t hkm ho hd hN => hkn k o t hkm (by simpa using ho) hd hN)) m _ a _ _ h0 ⟨rfl, fun _ _ => rfl, rfl⟩ h2 h3 h1
  refine wp_region_any hm ?_
  have h5 : l.toArray.size = m + 1 := by simpa using hz
  rw [h5] at h4 ⊢
  exact h4
theorem mix_plain (hR0 : ∀ w, R w w) {o : Oper} {rest : List Oper} {a : Act} {Q : Act → Prop} (hp : plainOp o.op = true) (hl : (o.op.operands.toList.all fun x => match x with | .tmp t => !N.contains t | _ => true) = true) (hd : isN N o = false)
    (h : wpQuiet P ops C (wpMix P ops C R N F Q rest) [o] a) : wpMix P ops C R N F Q (o :: rest) a := by
  unfold wpQuiet at h
  by_cases hw : Region.wanted o (yielded ops a.tmps) = true
  · rw [if_pos hw] at h
    obtain ⟨v, h1, h2⟩ := h
    refine ⟨v, .inl ⟨hw, fun w hC vals _ => ?_, fun h => by rw [hd] at h; cases h⟩, h2⟩
    have e : execOp (ev N vals a) o = execOp a.eval o := execOp_congr o (plain_noSelect hp) fun x hx => by
      have h3 := List.all_eq_true.1 hl x (Array.mem_toList_iff.2 hx)
      cases x <;> try rfl
      rename_i t
      simp only [Bool.not_eq_true'] at h3
      simp only [ev, h3, Bool.false_eq_true, if_false]
    rw [e]
    have h4 := h1 w hC
    unfold Oper.quietAt at h4
    have h5 : ∀ n w', (execOp a.eval o).run P w = .ok n w' → ∃ u, n = .value u := fun n w' hr => plain_run hp hr
    generalize (execOp a.eval o).run P w = r at *
    cases r with
    | ok n w' =>
      obtain ⟨u, rfl⟩ := h5 _ _ rfl
      simp only [Oper.quietUpon] at h4
      obtain ⟨rfl, rfl⟩ := h4
      refine ⟨hR0 _, ?_⟩
      unfold yld
      unfold isN at hd
      split
      · rename_i d hdd
        rw [hdd] at hd
        dsimp only at hd
        rw [if_neg (by rw [hd]; decide)]
      · rfl
    | halt x w' => simp only [Oper.quietUpon] at h4
  · rw [if_neg hw] at h
    exact ⟨undef, .inr ⟨by simpa using hw, rfl, hd⟩, h⟩
theorem mix_one {o : Oper} {rest : List Oper} {a : Act} {Q : Act → Prop} {f : FuncId} {args : Array Operand} {ts : Array TypeId} {fn : Func} {c : Code} (v : Value) (hfn : P.funcs[f]? = some fn) (hname : (fn.name == "runtime.NumGoroutine") = false) (hb : fn.body = some c) (hw : Region.wanted o (yielded ops a.tmps) = true) (ho : o.op = .call ⟨.value (.func f), args, ts⟩) (hd : isN N o = false)
    (hc : ∀ w, C w → ∀ vals, (∀ t, N.contains t = true → .tmp t ∈ args → F t (vals t) w) → Calls P f (args.map (ev N vals a)) w fun e w' => e = .returned v ∧ R w w')
    (h : wpMix P ops C R N F Q rest (a.put o.dst v)) : wpMix P ops C R N F Q (o :: rest) a := by
  refine ⟨v, .inl ⟨hw, fun w hC vals hv => ?_, fun h => by rw [hd] at h; cases h⟩, h⟩
  rw [run_callF hfn hname hb ho rfl]
  refine ⟨rfl, (hc w hC vals (fun t h1 h2 => hv t h1 (by rw [ho]; simpa [Op.operands, Call.operands] using h2))).mono ?_⟩
  rintro e w' ⟨rfl, hR⟩
  refine ⟨v, rfl, hR, ?_⟩
  unfold yld
  unfold isN at hd
  split
  · rename_i d hdd
    rw [hdd] at hd
    dsimp only at hd
    rw [if_neg (by rw [hd]; decide)]
  · rfl
/-- a call of whose answer a fact is kept -/
theorem mix_fact {o : Oper} {rest : List Oper} {a : Act} {Q : Act → Prop} {f : FuncId} {args : Array Operand} {ts : Array TypeId} {fn : Func} {c : Code} (d : Tmp) (hfn : P.funcs[f]? = some fn) (hname : (fn.name == "runtime.NumGoroutine") = false) (hb : fn.body = some c) (hw : Region.wanted o (yielded ops a.tmps) = true) (ho : o.op = .call ⟨.value (.func f), args, ts⟩) (hdd : o.dst = some d) (hd : N.contains d = true)
    (hc : ∀ w, C w → ∀ vals, (∀ t, N.contains t = true → .tmp t ∈ args → F t (vals t) w) → Calls P f (args.map (ev N vals a)) w fun e w' => ∃ u, e = .returned u ∧ R w w' ∧ F d u w')
    (h : wpMix P ops C R N F Q rest (a.put o.dst undef)) : wpMix P ops C R N F Q (o :: rest) a := by
  refine ⟨undef, .inl ⟨hw, fun w hC vals hv => ?_, fun _ => rfl⟩, h⟩
  rw [run_callF hfn hname hb ho rfl]
  refine ⟨rfl, (hc w hC vals (fun t h1 h2 => hv t h1 (by rw [ho]; simpa [Op.operands, Call.operands] using h2))).mono ?_⟩
  rintro e w' ⟨u, rfl, hR, hu⟩
  refine ⟨u, rfl, hR, ?_⟩
  unfold yld
  rw [hdd]
  dsimp only
  rw [if_pos hd]
  exact hu
end
/-! ### with a list of facts -/
section
variable {P : Program} {ops : Array Oper} {L : Lk} {W : World} {Q : Act → Prop} {o : Oper} {rest : List Oper} {a a' : Act} {f : FuncId} {fn : Func} {c : Code} {args : Array Operand} {ts : Array TypeId}
theorem region_grow {id : Nat} {Q : Exit → Act → World → Prop} {l : List Oper} {ol : Oper} (m : Nat) (L : Lk) (hm : P.follows .mixedOrders = true) (hz : l.length = m + 1) (hol : l[m]? = some ol) (hlast : lastB .any l.toArray m = true) (hB : Region.lexB .any l.toArray = true) (hX : mixB (Nk L) .any l.toArray = true) (hs : ((Nk L).all fun t => decide (t < a.tmps.size)) = true) (hst : ∀ t p, L.lookup t = some p → stays p)
    (h : Nonempty (Wd (Below W.heap.size W)) → (∀ z : Wd (Below W.heap.size W), ∀ b o, b < W.heap.size → z.w.cell? ⟨b, o, none⟩ = W.cell? ⟨b, o, none⟩) → wpMix P l.toArray (Ck_ W) Rk (Nk L) (Fk L) (fun a' => ∀ w' vals, Below W.heap.size W w' → (∀ (k : Nat) (o : Oper) (t : Tmp), k < m → l[k]? = some o → o.dst = some t → ∀ p, L.lookup t = some p → p (vals t) w') → wpList P l.toArray Q [ol] (over (Nk L) vals a') w') (l.take m) a) : (Code.region id l.toArray true).wp P Q a W := by
  refine wp_region_grow (Ck_ W) Rk (Nk L) (Fk L) hm hz hol hlast hB hX hs (fun w => Below.refl _ _) (fun w w' ⟨x, e⟩ hb => ?_) (fun t v w w' hb hf p hp => hst t p hp v w w' hb (hf p hp)) ⟨⟨W.drew, (Below.refl _ _).drew⟩, rfl⟩ ?_
  · subst e
    exact ⟨⟨w', below_wd _ hb⟩, rfl⟩
  · have key : (fun a' => ∀ w' vals, Ck_ W w' → (∀ (k : Nat) (o : Oper) (t : Tmp), k < m → l[k]? = some o → o.dst = some t → (Nk L).contains t = true → Fk L t (vals t) w') → wpList P l.toArray Q [ol] (over (Nk L) vals a') w') = (fun a' => ∀ w' vals, Below W.heap.size W w' → (∀ (k : Nat) (o : Oper) (t : Tmp), k < m → l[k]? = some o → o.dst = some t → ∀ p, L.lookup t = some p → p (vals t) w') → wpList P l.toArray Q [ol] (over (Nk L) vals a') w') := by
      funext a'
      refine propext ⟨fun h w' vals hw' hk => h w' vals ⟨⟨w', hw'⟩, rfl⟩ (fun k o t hkm h1 h2 _ p hp => hk k o t hkm h1 h2 p hp), fun h w' vals hw' hk => ?_⟩
      obtain ⟨x, rfl⟩ := hw'
      exact h _ _ x.h (fun k o t hkm h1 h2 p hp => hk k o t hkm h1 h2 (Nk_lookup hp) p hp)
    rw [key]
    exact h ⟨⟨W.drew, (Below.refl _ _).drew⟩⟩ (fun z => z.cells)
/-- an operation that may make memory, and of whose yield a fact is kept -/
theorem gr_flow (d : Tmp) (p : Value → World → Prop) (hp : L.lookup d = some p) (hw : Region.wanted o (yielded ops a.tmps) = true) (hd : o.dst = some d) (ha : a.put o.dst undef = a')
    (hc : ∀ z : Wd (Below W.heap.size W), ∀ vals, (∀ t p, L.lookup t = some p → .tmp t ∈ o.op.operands → p (vals t) z.w) → ∃ u w', (execOp (ev (Nk L) vals a) o).run P z.w = .ok (.value u) w' ∧ Below z.w.heap.size z.w w' ∧ p u w')
    (h : wpMix P ops (Ck_ W) Rk (Nk L) (Fk L) Q rest a') : wpMix P ops (Ck_ W) Rk (Nk L) (Fk L) Q (o :: rest) a := by
  subst ha
  refine ⟨undef, .inl ⟨hw, fun w hC vals hv => ?_, fun _ => rfl⟩, h⟩
  obtain ⟨z, rfl⟩ := hC
  obtain ⟨u, w', e1, hb, h1⟩ := hc z vals fun t p hp ht => hv t (Nk_lookup hp) ht p hp
  rw [e1]
  refine ⟨hb, ?_⟩
  unfold yld
  rw [hd]
  dsimp only
  rw [if_pos (Nk_lookup hp)]
  intro p2 hp2
  rw [hp] at hp2
  injection hp2 with hp2
  subst hp2
  exact h1
theorem gr_one (v : Value) (hfn : P.funcs[f]? = some fn) (hname : (fn.name == "runtime.NumGoroutine") = false) (hb : fn.body = some c) (hw : Region.wanted o (yielded ops a.tmps) = true) (ho : o.op = .call ⟨.value (.func f), args, ts⟩) (hd : isN (Nk L) o = false) (ha : a.put o.dst v = a')
    (hc : ∀ z : Wd (Below W.heap.size W), ∀ vals, (∀ t p, L.lookup t = some p → .tmp t ∈ args → p (vals t) z.w) → ∃ av, args.map (ev (Nk L) vals a) = av ∧ Calls P f av z.w fun e w' => e = .returned v ∧ Below z.w.heap.size z.w w')
    (h : wpMix P ops (Ck_ W) Rk (Nk L) (Fk L) Q rest a') : wpMix P ops (Ck_ W) Rk (Nk L) (Fk L) Q (o :: rest) a := by
  subst ha
  refine mix_one v hfn hname hb hw ho hd (fun w hC vals hv => ?_) h
  obtain ⟨z, rfl⟩ := hC
  obtain ⟨av, e, h1⟩ := hc z vals fun t p hp ht => hv t (Nk_lookup hp) ht p hp
  rw [e]
  exact h1
theorem gr_call (d : Tmp) (p : Value → World → Prop) (hp : L.lookup d = some p) (hfn : P.funcs[f]? = some fn) (hname : (fn.name == "runtime.NumGoroutine") = false) (hb : fn.body = some c) (hw : Region.wanted o (yielded ops a.tmps) = true) (ho : o.op = .call ⟨.value (.func f), args, ts⟩) (hd : o.dst = some d) (ha : a.put o.dst undef = a')
    (hc : ∀ z : Wd (Below W.heap.size W), ∀ vals, (∀ t p, L.lookup t = some p → .tmp t ∈ args → p (vals t) z.w) → ∃ av, args.map (ev (Nk L) vals a) = av ∧ Calls P f av z.w fun r w' => ∃ u, r = .returned u ∧ Below z.w.heap.size z.w w' ∧ p u w')
    (h : wpMix P ops (Ck_ W) Rk (Nk L) (Fk L) Q rest a') : wpMix P ops (Ck_ W) Rk (Nk L) (Fk L) Q (o :: rest) a := by
  subst ha
  refine mix_fact d hfn hname hb hw ho hd (Nk_lookup hp) (fun w hC vals hv => ?_) h
  obtain ⟨z, rfl⟩ := hC
  obtain ⟨av, e1, h1⟩ := hc z vals fun t p hp ht => hv t (Nk_lookup hp) ht p hp
  rw [e1]
  refine h1.mono ?_
  rintro r w' ⟨x, rfl, hb, hx⟩
  refine ⟨_, rfl, hb, fun p2 hp2 => ?_⟩
  rw [hp] at hp2
  injection hp2 with hp2
  subst hp2
  exact hx
theorem gr_plain (hp : plainOp o.op = true) (hl : (o.op.operands.toList.all fun x => match x with | .tmp t => !(Nk L).contains t | _ => true) = true) (hd : isN (Nk L) o = false)
    (h : wpQuiet P ops (Ck_ W) (wpMix P ops (Ck_ W) Rk (Nk L) (Fk L) Q rest) [o] a) : wpMix P ops (Ck_ W) Rk (Nk L) (Fk L) Q (o :: rest) a := mix_plain (fun w => Below.refl _ _) hp hl hd h
end
/-- '[]T{}' made on the way -/
def litF (e : TypeId) (B : Nat) : Value → World → Prop := fun v w => ∃ g, v = .slice (some ⟨g, 0, none⟩) 0 0 ∧ B ≤ g ∧ w.heap[g]? = some (.cells #[] e (0, 0))
theorem litF_stays (e : TypeId) (B : Nat) : stays (litF e B) := fun v w w' hb ⟨g, h1, h2, h3⟩ => ⟨g, h1, h2, (hb.block g (Array.getElem?_eq_some_iff.1 h3).1).trans h3⟩
def rowF {α : Type} [Flat α] (B : Nat) (e : TypeId) (xs : List α) : Value → World → Prop := fun v w => ∃ A n c, v = .slice A n c ∧ n = xs.length ∧ Ow w B e (.slice A n c) xs
theorem rowF_stays {α : Type} [Flat α] (B : Nat) (e : TypeId) (xs : List α) : stays (rowF B e xs) := fun v w w' hb ⟨A, n, c, h1, h2, h3⟩ => ⟨A, n, c, h1, h2, h3.below hb⟩
/-- append upon an empty literal -/
theorem append_lit {α : Type} [Flat α] {P : Program} (w : World) (t ty e : TypeId) (B : Nat) (z : Value) (bytes : Nat) (ht : P.underlying t = some (.slice e)) (hi : (P.info? e).map (fun i => (i.zero, i.size, i.bytes)) = some (some z, Flat.sz α, bytes)) (hzs : z.cells.size = Flat.sz α)
    {v : Value} (hv : litF e B v w) (A : Option Addr) (m c : Nat) (ys : List α) (hnil : A = none → c = 0) (hsl : Sl w A m c ys) (hlen : m ≤ 2000000) (hby : bytes ≤ 4096) :
    ∃ v' w', (Builtin.append_ #[t, t] ty #[v, .slice A m c]).run P w = .ok v' w' ∧ rowF B e ys v' w' ∧ Below w.heap.size w w' := by
  obtain ⟨g, rfl, hB, hg⟩ := hv
  have hgl := (Array.getElem?_eq_some_iff.1 hg).1
  have how : Ow w B e (.slice (some ⟨g, 0, none⟩) 0 0) ([] : List α) := ⟨by simp, .inr ⟨g, 0, #[], rfl, hB, hg, Nat.le_refl _, Nat.zero_le _, by simp, by simp⟩⟩
  obtain ⟨v', w', hr, h1, h2⟩ := append_run w t ty B e z bytes ht hi hzs _ _ how A m c ys hnil hsl (by simp; omega) hby (by omega)
  rw [List.nil_append] at h1
  obtain ⟨A', c', rfl, _, _⟩ := h1.val
  refine ⟨_, w', hr, ⟨A', _, c', rfl, rfl, h1⟩, ?_⟩
  obtain ⟨i, hi0, hz0, hz1, hz2⟩ := info_parts hi
  cases A with
  | none =>
    obtain ⟨rfl, rfl⟩ := hsl.none_
    obtain rfl := hnil rfl
    have hr2 := run_append_owned_none (P := P) (w := w) B t ty e i (Flat.sz α) ht hi0 _ 0 _ how
    rw [hr2] at hr
    injection hr with _ hw
    rw [← hw]
    exact Below.refl _ _
  | some ad =>
    have hm : ys.length = m := hsl.len
    cases m with
    | zero =>
      have hys : ys = [] := List.eq_nil_of_length_eq_zero hm
      have hr2 := run_append_nothing (P := P) w t t ty e i ht hi0 (some ⟨g, 0, none⟩) 0 0 (Nat.le_refl _) (.slice (some ad) 0 c) (Src.ofSlice w ht ad 0 c [] (by simp) (fun j u hu => by simp at hu) (fun u hu => by cases hu))
      rw [hr2] at hr
      injection hr with _ hw
      rw [← hw]
      exact Below.refl _ _
    | succ k =>
      have hcl := hsl.cells
      have hfl : (ys.flatMap Flat.cells).length = (k + 1) * i.size := by rw [flat_len, hm, hz1]
      have hr2 := run_append_grow (P := P) (w := w) t ty e i z ht hi0 hz0 ⟨g, 0, none⟩ 0 0 [] (by simp) (by simp) ad (k + 1) c (ys.flatMap Flat.cells) hfl hcl (by omega) (by omega) (by
        have h9 : Builtin.nextslicecap (0 + (k + 1)) 0 = k + 1 := by rw [Nat.zero_add]; exact nextslicecap_zero (by omega)
        rw [h9, hz2]
        have : (k + 1) * bytes ≤ 2000000 * 4096 := Nat.mul_le_mul hlen hby
        omega)
      rw [hr2] at hr
      injection hr with _ hw
      rw [← hw]
      exact (Below.refl _ _).drew.alloc (Nat.le_refl _) _
section
variable {P : Program} {ops : Array Oper} {L : Lk} {W : World} {Q : Act → Prop} {o : Oper} {rest : List Oper} {a a' : Act}
theorem gr_append {α : Type} [Flat α] (d s : Tmp) (x : Operand) (t e : TypeId) (B : Nat) (z : Value) (bytes : Nat) (ys : List α) (A : Option Addr) (m c : Nat) (hop : o.op = .call { callee := .builtin .append, args := #[.tmp s, x], argTypes := #[t, t] }) (hs : L.lookup s = some (litF e B)) (hp : L.lookup d = some (rowF B e ys))
    (hw : Region.wanted o (yielded ops a.tmps) = true) (hd : o.dst = some d) (ha : a.put o.dst undef = a') (hx : ∀ vals, ev (Nk L) vals a x = .slice A m c)
    (ht : P.underlying t = some (.slice e)) (hi : (P.info? e).map (fun i => (i.zero, i.size, i.bytes)) = some (some z, Flat.sz α, bytes)) (hzs : z.cells.size = Flat.sz α) (hnil : A = none → c = 0) (hsl : Sl W A m c ys) (hlen : m ≤ 2000000) (hby : bytes ≤ 4096)
    (h : wpMix P ops (Ck_ W) Rk (Nk L) (Fk L) Q rest a') : wpMix P ops (Ck_ W) Rk (Nk L) (Fk L) Q (o :: rest) a := by
  refine gr_flow d _ hp hw hd ha (fun y vals hv => ?_) h
  have hv1 := hv s _ hs (by rw [hop]; simp [Op.operands, Call.operands])
  obtain ⟨v', w', hr, h1, h2⟩ := append_lit (P := P) y.w t o.type e B z bytes ht hi hzs hv1 A m c ys hnil (hsl.below y.h) hlen hby
  refine ⟨v', w', ?_, h2, h1⟩
  have e1 : ev (Nk L) vals a (.tmp s) = vals s := by simp only [ev, Nk_lookup hs, if_true]
  unfold execOp
  simp only [hop, resolve, invoke, builtin, Sem.run_bind, Sem.run_pure, Result.andThen_ok, List.map_toArray, List.map_cons, List.map_nil, e1, hx vals, hr]
theorem gr_lit (d : Tmp) (t e : TypeId) (B : Nat) (hop : o.op = .buildSlice t 0 #[]) (hp : L.lookup d = some (litF e B)) (hw : Region.wanted o (yielded ops a.tmps) = true) (hd : o.dst = some d) (ha : a.put o.dst undef = a') (hB : B ≤ W.heap.size)
    (hrun : ∀ w : World, (Instr.buildSlice t 0 #[]).run P w = .ok (.slice (some ⟨w.heap.size, 0, none⟩) 0 0) (w.alloc (.cells #[] e)))
    (h : wpMix P ops (Ck_ W) Rk (Nk L) (Fk L) Q rest a') : wpMix P ops (Ck_ W) Rk (Nk L) (Fk L) Q (o :: rest) a := by
  refine gr_flow d _ hp hw hd ha (fun y vals hv => ⟨.slice (some ⟨y.w.heap.size, 0, none⟩) 0 0, y.w.alloc (.cells #[] e), ?_, (Below.refl _ _).alloc (Nat.le_refl _) _, ⟨y.w.heap.size, rfl, Nat.le_trans hB y.h.size, World.alloc_heap_new _ _⟩⟩) h
  unfold execOp
  simp only [hop, List.map_toArray, List.map_nil, Sem.run_bind, hrun, Result.andThen_ok, Sem.run_pure]
/-- a box that is just made -/
def boxF (ty : TypeId) (B : Nat) (zs : Array Value) : Value → World → Prop := fun v w => ∃ g, v = .pointer (some ⟨g, 0, none⟩) ∧ B ≤ g ∧ w.heap[g]? = some (.cells zs ty (0, 0))
theorem boxF_stays (ty : TypeId) (B : Nat) (zs : Array Value) : stays (boxF ty B zs) := fun v w w' hb ⟨g, h1, h2, h3⟩ => ⟨g, h1, h2, (hb.block g (Array.getElem?_eq_some_iff.1 h3).1).trans h3⟩
theorem gr_box (d : Tmp) (ty : TypeId) (B : Nat) (zs : Array Value) (hop : o.op = .alloc ty) (hp : L.lookup d = some (boxF ty B zs)) (hw : Region.wanted o (yielded ops a.tmps) = true) (hd : o.dst = some d) (ha : a.put o.dst undef = a') (hB : B ≤ W.heap.size)
    (hrun : ∀ w : World, (Instr.alloc ty true (.tuple #[])).run P w = .ok (.pointer (some ⟨w.heap.size, 0, none⟩)) (w.alloc (.cells zs ty)))
    (h : wpMix P ops (Ck_ W) Rk (Nk L) (Fk L) Q rest a') : wpMix P ops (Ck_ W) Rk (Nk L) (Fk L) Q (o :: rest) a := by
  refine gr_flow d _ hp hw hd ha (fun y vals hv => ⟨.pointer (some ⟨y.w.heap.size, 0, none⟩), y.w.alloc (.cells zs ty), ?_, (Below.refl _ _).alloc (Nat.le_refl _) _, ⟨y.w.heap.size, rfl, Nat.le_trans hB y.h.size, World.alloc_heap_new _ _⟩⟩) h
  unfold execOp
  simp only [hop, Sem.run_bind, hrun, Result.andThen_ok, Sem.run_pure]
/-- a value of three parts, each of which hangs on the world -/
def triF (p1 p2 p3 : Value → World → Prop) : Value → World → Prop := fun v w => ∃ v1 v2 v3, v = .agg #[v1, v2, v3] ∧ p1 v1 w ∧ p2 v2 w ∧ p3 v3 w
theorem triF_stays {p1 p2 p3 : Value → World → Prop} (h1 : stays p1) (h2 : stays p2) (h3 : stays p3) : stays (triF p1 p2 p3) := fun v w w' hb ⟨v1, v2, v3, e, k1, k2, k3⟩ => ⟨v1, v2, v3, e, h1 _ _ _ hb k1, h2 _ _ _ hb k2, h3 _ _ _ hb k3⟩
theorem gr_tri (d s1 s2 s3 : Tmp) (ty : TypeId) {p1 p2 p3 : Value → World → Prop} (hop : o.op = .build ty #[(0, .tmp s1), (1, .tmp s2), (2, .tmp s3)]) (h1 : L.lookup s1 = some p1) (h2 : L.lookup s2 = some p2) (h3 : L.lookup s3 = some p3) (hp : L.lookup d = some (triF p1 p2 p3)) (hw : Region.wanted o (yielded ops a.tmps) = true) (hd : o.dst = some d) (ha : a.put o.dst undef = a')
    (hq1 : ∀ v w, p1 v w → ∃ A n c, v = .slice A n c) (hq2 : ∀ v w, p2 v w → ∃ A n c, v = .slice A n c) (hq3 : ∀ v w, p3 v w → ∃ A n c, v = .slice A n c)
    (hrun : ∀ A1 n1 c1 A2 n2 c2 A3 n3 c3 (w : World), (Instr.build ty #[(0, .slice A1 n1 c1), (1, .slice A2 n2 c2), (2, .slice A3 n3 c3)]).run P w = .ok (.agg #[.slice A1 n1 c1, .slice A2 n2 c2, .slice A3 n3 c3]) w)
    (h : wpMix P ops (Ck_ W) Rk (Nk L) (Fk L) Q rest a') : wpMix P ops (Ck_ W) Rk (Nk L) (Fk L) Q (o :: rest) a := by
  have e1 : ∀ vals, ev (Nk L) vals a (.tmp s1) = vals s1 := fun vals => by simp only [ev, Nk_lookup h1, if_true]
  have e2 : ∀ vals, ev (Nk L) vals a (.tmp s2) = vals s2 := fun vals => by simp only [ev, Nk_lookup h2, if_true]
  have e3 : ∀ vals, ev (Nk L) vals a (.tmp s3) = vals s3 := fun vals => by simp only [ev, Nk_lookup h3, if_true]
  refine gr_flow d _ hp hw hd ha (fun y vals hv => ?_) h
  have k1 := hv s1 _ h1 (by rw [hop]; simp [Op.operands])
  have k2 := hv s2 _ h2 (by rw [hop]; simp [Op.operands])
  have k3 := hv s3 _ h3 (by rw [hop]; simp [Op.operands])
  refine ⟨.agg #[vals s1, vals s2, vals s3], y.w, ?_, Below.refl _ _, ⟨_, _, _, rfl, k1, k2, k3⟩⟩
  obtain ⟨A1, n1, c1, f1⟩ := hq1 _ _ k1
  obtain ⟨A2, n2, c2, f2⟩ := hq2 _ _ k2
  obtain ⟨A3, n3, c3, f3⟩ := hq3 _ _ k3
  unfold execOp
  simp only [hop, List.map_toArray, List.map_cons, List.map_nil, e1 vals, e2 vals, e3 vals, f1, f2, f3, Sem.run_bind, hrun, Result.andThen_ok, Sem.run_pure]
end
end Gr
end Go.Proofs.Yteaanngagcflhaa
