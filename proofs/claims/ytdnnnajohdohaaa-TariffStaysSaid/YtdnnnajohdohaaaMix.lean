/-
  Regions that draw their order, some of whose calls answer values that hang on the world: of such a temporary a fact is kept, of all others the one value. No condition.
-/
import Derived.Deep.QuietTactic
import Derived.BigQuiet
set_option linter.unusedVariables false
set_option linter.unusedSimpArgs false
namespace Go.Proofs.Ytdnnnajohdohaaa
open Go

section
variable {P : Program} {ops : Array Oper} {md : Region.Mode} {C : World → Prop} {R : World → World → Prop} {N : List Tmp} {F : Tmp → Value → World → Prop}

/-- the operands, where the temporaries of N hold any values -/
def ev (N : List Tmp) (vals : Tmp → Value) (a : Act) : Operand → Value
  | .tmp t => if N.contains t = true then vals t else a.eval (.tmp t)
  | x => a.eval x
def isN (N : List Tmp) (o : Oper) : Bool := match o.dst with | some d => N.contains d | none => false
/-- what is asked of an operation's yield -/
def yld (N : List Tmp) (F : Tmp → Value → World → Prop) (o : Oper) (v u : Value) (w : World) : Prop :=
  match o.dst with
  | some d => if N.contains d = true then F d u w else u = v
  | none => u = v
def mixUpon (P : Program) (R : World → World → Prop) (G : Value → World → Prop) (w : World) : Result Next → Prop
  | .ok (.value u) w' => w' = w ∧ G u w
  | .ok .skip w' => w' = w ∧ G undef w
  | .ok (.enter f args) w' => w' = w ∧ Calls P f args w (fun e w'' => ∃ u, e = .returned u ∧ R w w'' ∧ G u w'')
  | _ => False
def MixAt (P : Program) (C : World → Prop) (R : World → World → Prop) (N : List Tmp) (F : Tmp → Value → World → Prop) (o : Oper) (v : Value) (a : Act) : Prop :=
  ∀ w, C w → ∀ vals, (∀ t, N.contains t = true → .tmp t ∈ o.op.operands → F t (vals t) w) → mixUpon P R (yld N F o v) w ((execOp (ev N vals a) o).run P w)
def MixIn (P : Program) (ops : Array Oper) (C : World → Prop) (R : World → World → Prop) (N : List Tmp) (F : Tmp → Value → World → Prop) (o : Oper) (v : Value) (a : Act) : Prop :=
  (Region.wanted o (yielded ops a.tmps) = true ∧ MixAt P C R N F o v a ∧ (isN N o = true → v = undef)) ∨
  (Region.wanted o (yielded ops a.tmps) = false ∧ v = undef ∧ isN N o = false)
def wpMix (P : Program) (ops : Array Oper) (C : World → Prop) (R : World → World → Prop) (N : List Tmp) (F : Tmp → Value → World → Prop) (Q : Act → Prop) : List Oper → Act → Prop
  | [], a => Q a
  | o :: rest, a => ∃ v, MixIn P ops C R N F o v a ∧ wpMix P ops C R N F Q rest (a.put o.dst v)
def mOp (P : Program) (ops : Array Oper) (C : World → Prop) (R : World → World → Prop) (N : List Tmp) (F : Tmp → Value → World → Prop) (i : Nat) (K : Act → Prop) (a : Act) : Prop :=
  match ops[i]? with
  | none => K a
  | some o => ∃ v, MixIn P ops C R N F o v a ∧ K (a.put o.dst v)
def wpAnyM (P : Program) (md : Region.Mode) (ops : Array Oper) (C : World → Prop) (R : World → World → Prop) (N : List Tmp) (F : Tmp → Value → World → Prop) (Q : Act → Prop) : Nat → Array Bool → Act → Prop
  | 0, listed, a => Region.ready md ops listed = [] ∧ Q a
  | fuel + 1, listed, a =>
    (Region.ready md ops listed = [] → Q a) ∧
    ∀ i ∈ Region.ready md ops listed, mOp P ops C R N F i (wpAnyM P md ops C R N F Q fuel (listed.setIfInBounds i true)) a

theorem ev_put {vals : Tmp → Value} {a : Act} {dst : Option Tmp} {v : Value} {x : Operand} (h : ∀ d, dst = some d → x ≠ .tmp d) : ev N vals (a.put dst v) x = ev N vals a x := by
  have := Act.eval_put (a := a) (v := v) h
  cases x <;> simp only [ev] <;> (try split) <;> first | rfl | exact this
theorem exec_put (o : Oper) (hs : ∀ cs b, o.op ≠ .select cs b) (vals : Tmp → Value) (a : Act) (dst : Option Tmp) (v : Value) (h : ∀ d, dst = some d → d ∉ o.looksAt ops) :
    execOp (ev N vals (a.put dst v)) o = execOp (ev N vals a) o :=
  execOp_congr o hs fun x hx => ev_put fun d hd hxd => h d hd (by
    subst hxd
    exact List.mem_append_left _ (List.mem_filterMap.2 ⟨.tmp d, by simpa using hx, rfl⟩))
theorem mixIn_put {o : Oper} (hs : ∀ cs b, o.op ≠ .select cs b) {v : Value} {a : Act} {dst : Option Tmp} {u : Value} (h : ∀ d, dst = some d → d ∉ o.looksAt ops) :
    MixIn P ops C R N F o v (a.put dst u) ↔ MixIn P ops C R N F o v a := by
  unfold MixIn MixAt
  rw [wanted_put o a dst u h]
  simp only [exec_put o hs _ a dst u h]
theorem mOp_mono {i : Nat} {a : Act} {K K' : Act → Prop} (h : ∀ a, K a → K' a) (hh : mOp P ops C R N F i K a) : mOp P ops C R N F i K' a := by
  unfold mOp at *
  split
  · exact h _ (by simpa [*] using hh)
  · rename_i o ho
    simp only [ho] at hh
    obtain ⟨v, h1, h2⟩ := hh
    exact ⟨v, h1, h _ h2⟩
theorem mOp_put {j : Nat} {oi oj : Oper} {v : Value} (hj : ops[j]? = some oj) (hap : oi.apart ops oj = true)
    (hsi : ∀ cs b, oi.op ≠ .select cs b) (hsj : ∀ cs b, oj.op ≠ .select cs b) {K : Act → Prop} {a : Act}
    (hy : MixIn P ops C R N F oi v a) (h : mOp P ops C R N F j K (a.put oi.dst v)) :
    mOp P ops C R N F j (fun a' => MixIn P ops C R N F oi v a' ∧ K (a'.put oi.dst v)) a := by
  obtain ⟨h1, h2, h3⟩ := Oper.apart_spec hap
  unfold mOp at *
  simp only [hj] at *
  obtain ⟨u, hu, hK⟩ := h
  exact ⟨u, (mixIn_put hsj h1).1 hu, (mixIn_put hsi h3).2 hy, by rw [← Act.put_comm a v u h2]; exact hK⟩
theorem wpAnyM_first {Q : Act → Prop} {i : Nat} {oi : Oper} {v : Value} (hi : ops[i]? = some oi) (hsel : ∀ (j : Nat) (o : Oper) cs b, ops[j]? = some o → o.op ≠ .select cs b) :
    ∀ (fuel : Nat) (listed : Array Bool) (a : Act),
      (∀ j oj, ops[j]? = some oj → j ≠ i → listed.getD j true = false → (∀ e ∈ oj.after, Region.binds md e = true → e.on ≠ i) → oi.apart ops oj = true) →
      i ∈ Region.ready md ops listed → MixIn P ops C R N F oi v a →
      wpAnyM P md ops C R N F Q fuel (listed.setIfInBounds i true) (a.put oi.dst v) → wpAnyM P md ops C R N F Q (fuel + 1) listed a := by
  intro fuel
  have now : ∀ (K : Act → Prop) (a : Act), MixIn P ops C R N F oi v a → K (a.put oi.dst v) → mOp P ops C R N F i K a := fun K a hy H => by
    unfold mOp
    simp only [hi]
    exact ⟨v, hy, H⟩
  induction fuel with
  | zero =>
    intro listed a _ hr hy H
    refine ⟨fun h => (by rw [h] at hr; cases hr), fun j hj => ?_⟩
    by_cases hji : j = i
    · subst hji; exact now _ _ hy H
    · have := ready_mono hj hji
      rw [H.1] at this
      cases this
  | succ fuel ih =>
    intro listed a hfree hr hy H
    refine ⟨fun h => (by rw [h] at hr; cases hr), fun j hj => ?_⟩
    by_cases hji : j = i
    · subst hji; exact now _ _ hy H
    · have h1 := H.2 j (ready_mono hj hji)
      obtain ⟨hjun, oj, hoj, hall⟩ := mem_ready.1 hj
      have hnot : ∀ e ∈ oj.after, Region.binds md e = true → e.on ≠ i := fun e he hb heq => by
        have h1 := hall e he hb
        have h0 := (mem_ready.1 hr).1
        rw [heq] at h1
        rcases Nat.lt_or_ge i listed.size with h' | h'
        · simp [h'] at h0 h1; rw [h0] at h1; cases h1
        · simp [Array.getElem?_eq_none h'] at h1
      have h2 := mOp_put hoj (hfree j oj hoj hji hjun hnot) (fun cs b => hsel i oi cs b hi) (fun cs b => hsel j oj cs b hoj) hy h1
      have hfree' : ∀ k ok, ops[k]? = some ok → k ≠ i → (listed.setIfInBounds j true).getD k true = false →
          (∀ e ∈ ok.after, Region.binds md e = true → e.on ≠ i) → oi.apart ops ok = true := fun k ok hk hki hun hno => by
        refine hfree k ok hk hki ?_ hno
        by_cases hjk : j = k
        · subst hjk; exact hjun
        · rw [getD_set_ne true hjk] at hun; exact hun
      refine mOp_mono (fun a' h3 => ih (listed.setIfInBounds j true) a' hfree' (ready_mono hr (Ne.symm hji)) h3.1 ?_) h2
      rw [Array.setIfInBounds_comm _ _ hji]
      exact h3.2
theorem wpAnyM_lex {Q : Act → Prop} (hs : Region.noSelect ops = true) : ∀ (l : List Oper) (k : Nat) (listed : Array Bool) (a : Act), (∀ j, l[j]? = ops[k + j]?) →
    Region.lexFrom md ops l.length k listed = true → wpMix P ops C R N F Q l a → wpAnyM P md ops C R N F Q l.length listed a
  | [], _, _, _, _, hB, h => ⟨by simpa [Region.lexFrom] using hB, h⟩
  | o :: l, k, listed, a, hl, hB, h => by
    have h0 : ops[k]? = some o := by simpa using (hl 0).symm
    simp only [List.length_cons, Region.lexFrom, Bool.and_eq_true] at hB
    obtain ⟨⟨hr, hf⟩, hB'⟩ := hB
    obtain ⟨v, hy, hK⟩ := h
    exact wpAnyM_first h0 (Region.noSelect_spec hs) l.length listed a (Region.free_spec h0 hf) (by simpa using hr) hy
      (wpAnyM_lex hs l (k + 1) _ _ (fun j => by have := hl (j + 1); simpa [Nat.add_assoc, Nat.add_comm 1 j] using this) hB' hK)

/-! ### what the walk says of a real run -/
/-- guards are never of N; who looks at one of N waits for its writer -/
def mixB (N : List Tmp) (md : Region.Mode) (ops : Array Oper) : Bool :=
  ops.toList.all fun o =>
    (match o.guard with | some (g, _) => (match (ops[g]?).bind (·.dst) with | some t => !N.contains t | none => true) | none => true) &&
    o.op.operands.toList.all fun x => match x with
      | .tmp t => !N.contains t || o.after.toList.any fun e => Region.binds md e && ((ops[e.on]?).bind (·.dst) == some t)
      | _ => true
def val (a : Act) (t : Tmp) : Value := a.tmps.getD t undef
structure Ag (N : List Tmp) (a a' : Act) : Prop where
  size : a'.tmps.size = a.tmps.size
  same : ∀ t, N.contains t = false → a'.tmps[t]? = a.tmps[t]?
  rest : a'.defers = a.defers
def over (N : List Tmp) (vals : Tmp → Value) (a : Act) : Act := N.foldl (fun a t => a.put (some t) (vals t)) a
theorem over_spec (vals : Tmp → Value) : ∀ (N : List Tmp) (a : Act), (over N vals a).tmps.size = a.tmps.size ∧ (over N vals a).defers = a.defers ∧ ∀ t, (over N vals a).tmps[t]? = if N.contains t = true then (a.tmps[t]?).map fun _ => vals t else a.tmps[t]?
  | [], a => ⟨rfl, rfl, fun t => by simp [over]⟩
  | n :: N, a => by
    obtain ⟨h1, h2, h3⟩ := over_spec vals N (a.put (some n) (vals n))
    have e : over (n :: N) vals a = over N vals (a.put (some n) (vals n)) := rfl
    rw [e]
    refine ⟨h1.trans (by simp [Act.put]), h2.trans rfl, fun t => ?_⟩
    rw [h3 t]
    simp only [Act.put, List.contains_cons]
    by_cases hn : n = t
    · subst hn
      simp only [beq_self_eq_true, Bool.true_or, if_true]
      by_cases hs : n < a.tmps.size
      · split <;> simp [hs]
      · split <;> simp [hs]
    · have hb : (t == n) = false := by simpa using fun h => hn h.symm
      rw [Array.getElem?_setIfInBounds_ne hn, hb, Bool.false_or]
theorem Ag.eq_over {a a' : Act} (h : Ag N a a') : a' = over N (val a') a := by
  obtain ⟨h1, h2, h3⟩ := over_spec (val a') N a
  have ht : a'.tmps = (over N (val a') a).tmps := by
    refine Array.ext (h.size.trans h1.symm) fun i hi hi' => ?_
    have e : a'.tmps[i]? = (over N (val a') a).tmps[i]? := by
      rw [h3 i]
      cases hN : N.contains i
      · simp [h.same i hN]
      · have : i < a.tmps.size := by rw [← h.size]; exact hi
        simp [val, this, hi]
    simpa [hi, hi'] using e
  have hd := h.rest.trans h2.symm
  cases a'; cases hov : over N (val _) a
  rw [hov] at ht hd
  simp only at ht hd
  rw [ht, hd]
theorem Ag.ev {a a' : Act} (h : Ag N a a') : ev N (val a') a = a'.eval := by
  funext x
  cases x <;> try rfl
  rename_i t
  simp only [Proofs.Ytdnnnajohdohaaa.ev, Act.eval]
  split
  · rfl
  · rename_i hN
    have := h.same t (by simpa using hN)
    simp [Array.getD_eq_getD_getElem?, this]
theorem Ag.wanted {a a' : Act} (h : Ag N a a') {o : Oper} (hg : (match o.guard with | some (g, _) => (match (ops[g]?).bind (·.dst) with | some t => !N.contains t | none => true) | none => true) = true) :
    Region.wanted o (yielded ops a'.tmps) = Region.wanted o (yielded ops a.tmps) := by
  unfold Region.wanted
  cases hgu : o.guard with
  | none => rfl
  | some gw =>
    obtain ⟨g, want⟩ := gw
    have hy : yielded ops a'.tmps g = yielded ops a.tmps g := by
      unfold yielded
      cases ht : (ops[g]?).bind (·.dst) with
      | none => rfl
      | some t =>
        simp only [hgu, ht] at hg
        have := h.same t (by simpa using hg)
        simp [Array.getD_eq_getD_getElem?, this]
    simp only [hy]
theorem Ag.put {a a' : Act} (h : Ag N a a') {dst : Option Tmp} {v u : Value} (hv : ∀ d, dst = some d → N.contains d = false → u = v) : Ag N (a.put dst v) (a'.put dst u) := by
  cases dst with
  | none => exact h
  | some d =>
    refine ⟨by simp [Act.put, h.size], fun t ht => ?_, h.rest⟩
    simp only [Act.put]
    by_cases hd : d = t
    · subst hd
      rw [hv d rfl ht, Array.getElem?_setIfInBounds, Array.getElem?_setIfInBounds, h.size]
      simp
    · rw [Array.getElem?_setIfInBounds_ne hd, Array.getElem?_setIfInBounds_ne hd]
      exact h.same t ht
theorem val_put_same {a : Act} {t : Tmp} {u : Value} (h : t < a.tmps.size) : val (a.put (some t) u) t = u := by simp [val, Act.put, Array.getD_eq_getD_getElem?, h]
theorem val_put_ne {a : Act} {dst : Option Tmp} {t : Tmp} {u : Value} (h : dst ≠ some t) : val (a.put dst u) t = val a t := by
  cases dst with
  | none => rfl
  | some d => simp [val, Act.put, Array.getD_eq_getD_getElem?, Array.getElem?_setIfInBounds_ne (show d ≠ t from fun e => h (by rw [e]))]
/-- what is known of the temporaries of N whose writers have come up -/
def Known (ops : Array Oper) (N : List Tmp) (F : Tmp → Value → World → Prop) (listed : Array Bool) (a' : Act) (w : World) : Prop :=
  ∀ k o t, listed.getD k false = true → ops[k]? = some o → o.dst = some t → N.contains t = true → F t (val a' t) w
theorem Known.next {listed : Array Bool} {a' : Act} {w w' : World} {i : Nat} {o : Oper} {u v : Value} (hF : ∀ t v w w', R w w' → F t v w → F t v w') (h : Known ops N F listed a' w) (hs : ∀ t, N.contains t = true → t < a'.tmps.size) (hR : R w w') (ho : ops[i]? = some o) (hy : yld N F o v u w') :
    Known ops N F (listed.setIfInBounds i true) (a'.put o.dst u) w' := by
  intro k o' t hk ho' hd hN
  by_cases hdt : o.dst = some t
  · unfold yld at hy
    rw [hdt] at hy ⊢
    simp only [hN, if_true] at hy
    rw [val_put_same (hs t hN)]
    exact hy
  · rw [val_put_ne hdt]
    have hki : i ≠ k := by
      rintro rfl
      rw [ho] at ho'
      injection ho' with e
      subst e
      exact hdt hd
    rw [getD_set_ne false hki] at hk
    exact hF _ _ _ _ hR (h k o' t hk ho' hd hN)
theorem Known.skip {listed : Array Bool} {a' : Act} {w : World} {i : Nat} {o : Oper} {u : Value} (h : Known ops N F listed a' w) (ho : ops[i]? = some o) (hN : isN N o = false) :
    Known ops N F (listed.setIfInBounds i true) (a'.put o.dst u) w := by
  intro k o' t hk ho' hd hNt
  have hdt : o.dst ≠ some t := fun e => by unfold isN at hN; rw [e] at hN; dsimp only at hN; rw [hNt] at hN; cases hN
  rw [val_put_ne hdt]
  have hki : i ≠ k := by
    rintro rfl
    rw [ho] at ho'
    injection ho' with e
    subst e
    exact hdt hd
  rw [getD_set_ne false hki] at hk
  exact h k o' t hk ho' hd hNt
theorem yld_same {o : Oper} {v u : Value} {w : World} (h : yld N F o v u w) : ∀ d, o.dst = some d → N.contains d = false → u = v := by
  intro d hd hN
  unfold yld at h
  rw [hd] at h
  simp only [hN, Bool.false_eq_true, if_false] at h
  exact h
theorem wpAny_of_mix {Q : Act → Prop} {Q' : Exit → Act → World → Prop} (hmix : mixB N md ops = true) (hR0 : ∀ w, R w w) (hCR : ∀ w w', C w → R w w' → C w') (hF : ∀ t v w w', R w w' → F t v w → F t v w')
    (hQ : ∀ a a' w, C w → Ag N a a' → Q a → Q' .normal a' w) : ∀ (fuel : Nat) (listed : Array Bool) (a a' : Act) (w : World), C w → Ag N a a' → (∀ t, N.contains t = true → t < a'.tmps.size) → Known ops N F listed a' w →
    wpAnyM P md ops C R N F Q fuel listed a → wpAny P md ops Q' fuel listed a' w
  | 0, _, _, _, _, hw, ha, _, _, h => ⟨h.1, hQ _ _ _ hw ha h.2⟩
  | fuel + 1, listed, a, a', w, hw, ha, hs, hk, h => by
    refine ⟨fun h0 => hQ _ _ _ hw ha (h.1 h0), fun i hi => ?_⟩
    have h1 := h.2 i hi
    obtain ⟨-, o, ho, hall⟩ := mem_ready.1 hi
    unfold mOp at h1
    unfold wpOp
    simp only [ho] at h1 ⊢
    obtain ⟨v, hm, hK⟩ := h1
    have hmo := List.all_eq_true.1 hmix o (Array.mem_toList_iff.2 (Array.mem_of_getElem? ho))
    simp only [Bool.and_eq_true] at hmo
    obtain ⟨hg, hl⟩ := hmo
    rw [ha.wanted hg]
    have hsz : ∀ u, ∀ t, N.contains t = true → t < (a'.put o.dst u).tmps.size := fun u t ht => by
      cases hd : o.dst with
      | none => exact hs t ht
      | some d => simpa [Act.put] using hs t ht
    rcases hm with ⟨hw1, hat, hun⟩ | ⟨hw0, rfl, hN⟩
    · rw [if_pos hw1]
      refine .inl ?_
      have hx := hat w hw (val a') (fun t hNt hop => by
        have h2 := List.all_eq_true.1 hl _ (Array.mem_toList_iff.2 hop)
        simp only [hNt, Bool.not_true, Bool.false_or, List.any_eq_true, Bool.and_eq_true, beq_iff_eq] at h2
        obtain ⟨e, he, hb, hd⟩ := h2
        cases hoe : ops[e.on]? with
        | none => rw [hoe] at hd; cases hd
        | some oe =>
          rw [hoe] at hd
          exact hk e.on oe t (hall e (Array.mem_toList_iff.1 he) hb) hoe hd hNt)
      rw [ha.ev] at hx
      unfold Oper.wp
      generalize (execOp a'.eval o).run P w = r at *
      cases r with
      | ok n w' =>
        cases n <;> simp only [mixUpon] at hx <;> simp only [Oper.upon]
        case value u =>
          obtain ⟨rfl, hy⟩ := hx
          exact wpAny_of_mix hmix hR0 hCR hF hQ fuel _ _ _ _ hw (ha.put (yld_same hy)) (hsz u) (hk.next hF hs (hR0 _) ho hy) hK
        case skip =>
          obtain ⟨rfl, hy⟩ := hx
          exact wpAny_of_mix hmix hR0 hCR hF hQ fuel _ _ _ _ hw (ha.put (yld_same hy)) (hsz _) (hk.next hF hs (hR0 _) ho hy) hK
        case enter f args =>
          obtain ⟨rfl, hc⟩ := hx
          refine hc.mono fun e w'' ⟨u, he, hR, hy⟩ => ?_
          subst he
          exact wpAny_of_mix hmix hR0 hCR hF hQ fuel _ _ _ _ (hCR _ _ hw hR) (ha.put (yld_same hy)) (hsz u) (hk.next hF hs hR ho hy) hK
      | halt x w' => simp only [mixUpon] at hx
    · rw [if_neg (by rw [hw0]; decide)]
      exact wpAny_of_mix hmix hR0 hCR hF hQ fuel _ _ _ _ hw (ha.put fun _ _ _ => rfl) (hsz _) (hk.skip ho hN) hK

/-- what stands behind: the temporaries of N hold some values -/
theorem wp_region_mix {id : Nat} {Q : Exit → Act → World → Prop} {a : Act} {w : World} {l : List Oper} (C : World → Prop) (R : World → World → Prop) (N : List Tmp) (F : Tmp → Value → World → Prop) (hm : P.follows .mixedOrders = true) (hB : Region.lexB .any l.toArray = true) (hX : mixB N .any l.toArray = true)
    (hs : (N.all fun t => decide (t < a.tmps.size)) = true) (hR0 : ∀ w, R w w) (hCR : ∀ w w', C w → R w w' → C w') (hF : ∀ t v w w', R w w' → F t v w → F t v w') (h0 : C w.drew)
    (h : wpMix P l.toArray C R N F (fun a' => ∀ w' vals, C w' → Q .normal (over N vals a') w') l a) : (Code.region id l.toArray true).wp P Q a w := by
  simp only [Region.lexB, Bool.and_eq_true] at hB
  have h1 := wpAnyM_lex (P := P) (C := C) (R := R) (N := N) (F := F) (md := .any) hB.1 l 0 (Array.replicate l.toArray.size false) a (by simp) (by simpa using hB.2) h
  have h2 : ∀ t, N.contains t = true → t < a.tmps.size := fun t ht => by
    have := List.all_eq_true.1 hs t (by simpa using ht)
    simpa using this
  have h3 : Known l.toArray N F (Array.replicate l.toArray.size false) a w.drew := by
    intro k o t hk
    simp [Array.getD_eq_getD_getElem?, Array.getElem?_replicate] at hk
    split at hk <;> simp at hk
  refine wp_region_any hm (wpAny_of_mix (Q := fun a' => ∀ w' vals, C w' → Q .normal (over N vals a') w') hX hR0 hCR hF (fun a a' w' hw' ha h => by rw [ha.eq_over]; exact h w' _ hw') _ _ a _ _ h0 ⟨rfl, fun _ _ => rfl, rfl⟩ h2 h3 ?_)
  simpa using h1

/-! ### the steps of the walk -/
def plainOp : Op → Bool
  | .move _ | .assign _ | .pick .. | .build .. | .load .. | .binOp .. | .unOp .. | .fieldAddr .. | .field .. | .indexAddr .. | .index .. | .extract .. | .convert .. | .slice .. => true
  | _ => false
theorem v_form {s : Sem Value} {w w' : World} {n : Next} (h : ((do pure (.value (← s))) : Sem Next).run P w = .ok n w') : ∃ u, n = .value u := by
  rw [Sem.run_bind] at h
  cases hs : s.run P w with
  | ok u w1 => rw [hs] at h; simp only [Result.andThen, Sem.run_pure] at h; injection h with h1 h2; exact ⟨u, h1.symm⟩
  | halt x w1 => rw [hs] at h; simp [Result.andThen] at h
theorem plain_run {o : Oper} {ρ : Operand → Value} (h : plainOp o.op = true) {n : Next} {w w' : World} (hr : (execOp ρ o).run P w = .ok n w') : ∃ u, n = .value u := by
  obtain ⟨dst, op, type, pos, after, guard⟩ := o
  cases op <;> simp only [plainOp, Bool.false_eq_true] at h <;> simp only [execOp] at hr
  case pick => exact v_form (s := do pure (if ← asBool _ then _ else _)) (by simpa using hr)
  all_goals first | exact v_form hr | (rw [Sem.run_pure] at hr; injection hr with h1 h2; exact ⟨_, h1.symm⟩)
theorem plain_noSelect {o : Oper} (h : plainOp o.op = true) : ∀ cs b, o.op ≠ .select cs b := by
  intro cs b e
  rw [e] at h
  cases h
theorem mix_plain {o : Oper} {rest : List Oper} {a : Act} {Q : Act → Prop} (hp : plainOp o.op = true) (hl : (o.op.operands.toList.all fun x => match x with | .tmp t => !N.contains t | _ => true) = true) (hd : isN N o = false)
    (h : wpQuiet P ops C (wpMix P ops C R N F Q rest) [o] a) : wpMix P ops C R N F Q (o :: rest) a := by
  unfold wpQuiet at h
  by_cases hw : Region.wanted o (yielded ops a.tmps) = true
  · rw [if_pos hw] at h
    obtain ⟨v, h1, h2⟩ := h
    refine ⟨v, .inl ⟨hw, fun w hC vals _ => ?_, fun h => by rw [hd] at h; cases h⟩, h2⟩
    have e : execOp (ev N vals a) o = execOp a.eval o := execOp_congr o (plain_noSelect hp) fun x hx => by
      have h3 := List.all_eq_true.1 hl x (Array.mem_toList_iff.2 hx)
      cases x <;> try rfl
      rename_i t
      simp only [Bool.not_eq_true'] at h3
      simp only [ev, h3, Bool.false_eq_true, if_false]
    rw [e]
    have h4 := h1 w hC
    unfold Oper.quietAt at h4
    have h5 : ∀ n w', (execOp a.eval o).run P w = .ok n w' → ∃ u, n = .value u := fun n w' hr => plain_run hp hr
    generalize (execOp a.eval o).run P w = r at *
    cases r with
    | ok n w' =>
      obtain ⟨u, rfl⟩ := h5 _ _ rfl
      simp only [Oper.quietUpon] at h4
      obtain ⟨rfl, rfl⟩ := h4
      refine ⟨rfl, ?_⟩
      unfold yld
      unfold isN at hd
      split
      · rename_i d hdd
        rw [hdd] at hd
        dsimp only at hd
        rw [if_neg (by rw [hd]; decide)]
      · rfl
    | halt x w' => simp only [Oper.quietUpon] at h4
  · rw [if_neg hw] at h
    exact ⟨undef, .inr ⟨by simpa using hw, rfl, hd⟩, h⟩
theorem mix_skip {o : Oper} {rest : List Oper} {a : Act} {Q : Act → Prop} (hw : Region.wanted o (yielded ops a.tmps) = false) (hd : isN N o = false) (h : wpMix P ops C R N F Q rest (a.put o.dst undef)) : wpMix P ops C R N F Q (o :: rest) a :=
  ⟨undef, .inr ⟨hw, rfl, hd⟩, h⟩
theorem run_callF {o : Oper} {f : FuncId} {args : Array Operand} {ts : Array TypeId} {fn : Func} {c : Code} {ρ : Operand → Value} {w : World} (hfn : P.funcs[f]? = some fn) (hname : (fn.name == "runtime.NumGoroutine") = false) (hb : fn.body = some c) (ho : o.op = .call ⟨.value (.func f), args, ts⟩) (hf : ρ (.func f) = .func (.func f) #[] #[]) : (execOp ρ o).run P w = .ok (.enter f (args.map ρ)) w := by
  obtain ⟨dst, op, type, pos, after, guard⟩ := o
  simp only at ho
  subst ho
  have e : (execOp ρ { dst := dst, op := .call ⟨.value (.func f), args, ts⟩, type := type, pos := pos, after := after, guard := guard } : Sem Next).run P w = (callFunc f (args.map ρ)).run P w := by
    simp [execOp, resolve, hf, invoke, Deferred.ofValue, Result.andThen]
  rw [e]
  have h1 : fn.name ≠ "runtime.NumGoroutine" := by simpa using hname
  simp [callFunc, hfn, h1, hb]
/-- a call whose answer is one value -/
theorem mix_one {o : Oper} {rest : List Oper} {a : Act} {Q : Act → Prop} {f : FuncId} {args : Array Operand} {ts : Array TypeId} {fn : Func} {c : Code} (v : Value) (hfn : P.funcs[f]? = some fn) (hname : (fn.name == "runtime.NumGoroutine") = false) (hb : fn.body = some c) (hw : Region.wanted o (yielded ops a.tmps) = true) (ho : o.op = .call ⟨.value (.func f), args, ts⟩) (hd : isN N o = false)
    (hc : ∀ w, C w → ∀ vals, (∀ t, N.contains t = true → .tmp t ∈ args → F t (vals t) w) → Calls P f (args.map (ev N vals a)) w fun e w' => e = .returned v ∧ R w w')
    (h : wpMix P ops C R N F Q rest (a.put o.dst v)) : wpMix P ops C R N F Q (o :: rest) a := by
  refine ⟨v, .inl ⟨hw, fun w hC vals hv => ?_, fun h => by rw [hd] at h; cases h⟩, h⟩
  rw [run_callF hfn hname hb ho rfl]
  refine ⟨rfl, (hc w hC vals (fun t h1 h2 => hv t h1 (by rw [ho]; simpa [Op.operands, Call.operands] using h2))).mono ?_⟩
  rintro e w' ⟨rfl, hR⟩
  refine ⟨v, rfl, hR, ?_⟩
  unfold yld
  unfold isN at hd
  split
  · rename_i d hdd
    rw [hdd] at hd
    dsimp only at hd
    rw [if_neg (by rw [hd]; decide)]
  · rfl
/-- a call of whose answer a fact is kept -/
theorem mix_fact {o : Oper} {rest : List Oper} {a : Act} {Q : Act → Prop} {f : FuncId} {args : Array Operand} {ts : Array TypeId} {fn : Func} {c : Code} (d : Tmp) (hfn : P.funcs[f]? = some fn) (hname : (fn.name == "runtime.NumGoroutine") = false) (hb : fn.body = some c) (hw : Region.wanted o (yielded ops a.tmps) = true) (ho : o.op = .call ⟨.value (.func f), args, ts⟩) (hdd : o.dst = some d) (hd : N.contains d = true)
    (hc : ∀ w, C w → ∀ vals, (∀ t, N.contains t = true → .tmp t ∈ args → F t (vals t) w) → Calls P f (args.map (ev N vals a)) w fun e w' => ∃ u, e = .returned u ∧ R w w' ∧ F d u w')
    (h : wpMix P ops C R N F Q rest (a.put o.dst undef)) : wpMix P ops C R N F Q (o :: rest) a := by
  refine ⟨undef, .inl ⟨hw, fun w hC vals hv => ?_, fun _ => rfl⟩, h⟩
  rw [run_callF hfn hname hb ho rfl]
  refine ⟨rfl, (hc w hC vals (fun t h1 h2 => hv t h1 (by rw [ho]; simpa [Op.operands, Call.operands] using h2))).mono ?_⟩
  rintro e w' ⟨u, rfl, hR, hu⟩
  refine ⟨u, rfl, hR, ?_⟩
  unfold yld
  rw [hdd]
  dsimp only
  rw [if_pos hd]
  exact hu
end
end Go.Proofs.Ytdnnnajohdohaaa
