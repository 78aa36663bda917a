/-
  Slices of slices; append where a guard lies ahead, or in a region that draws. No condition.
-/
import Derived.Test.YteaanngagcflhaaRow
import Derived.Deep.RegionWith
set_option maxRecDepth 100000
set_option linter.unusedVariables false
set_option linter.unusedSimpArgs false
namespace Go.Proofs.Yteaanngagcflhaa
open Go.RowKit
theorem wpl_appendW {α : Type} [Flat α] {P : Program} (w : World) {ops : Array Oper} {rest : List Oper} {o : Oper} {a : Act} {Q : Exit → Act → World → Prop} (hw : Region.wanted o (yielded ops a.tmps) = true) (s x : Operand) (t : TypeId)
    (ho : o.op = .call { callee := .builtin .append, args := #[s, x], argTypes := #[t, t] })
    (base : Nat) (e : TypeId) (z : Value) (bytes : Nat) (ht : P.underlying t = some (.slice e)) (hi : (P.info? e).map (fun i => (i.zero, i.size, i.bytes)) = some (some z, Flat.sz α, bytes)) (hzs : z.cells.size = Flat.sz α)
    (v : Value) (xs : List α) (hs : a.eval s = v) (hown : Ow w base e v xs)
    (A : Option Addr) (m c : Nat) (ys : List α) (hx : a.eval x = .slice A m c) (hnil : A = none → c = 0) (hsl : Sl w A m c ys)
    (hlen : xs.length + m ≤ 2000000) (hby : bytes ≤ 4096) (hbase : base ≤ w.heap.size)
    (h : ∀ v' w', Ow w' base e v' (xs ++ ys) → Upd w w' v v' → wpList P ops Q rest (a.put o.dst v') w') : wpList P ops Q (o :: rest) a w := by
  obtain ⟨i, hi0, hz0, hz1, hz2⟩ := info_parts hi
  refine wpList_step fun K hK => ?_
  rw [if_pos hw]
  cases A with
  | none =>
    obtain ⟨rfl, rfl⟩ := hsl.none_
    obtain rfl := hnil rfl
    have hrun := run_append_owned_none (P := P) (w := w) base t o.type e i (Flat.sz α) ht hi0 v xs.length _ hown
    unfold Oper.wp
    simp [execOp, ho, resolve, invoke, builtin, hs, hx, hrun, Result.andThen]
    exact hK _ _ (h v w (by simpa using hown) (Upd.refl w v))
  | some ad =>
    have hm : ys.length = m := hsl.len
    have hbytes : (xs.length + m) * bytes ≤ 140737488355328 := by
      have : (xs.length + m) * bytes ≤ 2000000 * 4096 := Nat.mul_le_mul hlen hby
      omega
    obtain ⟨v', w', hr, h1, h2, _, h4⟩ := run_append_own_at (P := P) w base t o.type e i z (Flat.sz α) bytes ht hi0 hz0 hz1 hz2 hzs Flat.pos v xs.length _ hown ad m c (ys.flatMap Flat.cells) (by rw [flat_len, hm]) hsl.cells (flat_one ys)
      (by unfold maxLen; omega) hbytes hbase
    unfold Oper.wp execOp
    simp only [ho, resolve, invoke, builtin, Sem.run_bind, Sem.run_pure, Result.andThen_ok, List.map_toArray, List.map_cons, List.map_nil, hs, hx, hr]
    refine hK _ _ (h v' w' ?_ ⟨h2, ?_⟩)
    · unfold Ow
      rw [List.length_append, List.flatMap_append, hm]
      exact h1
    · rcases h4 with h4 | h4
      · exact .inl h4
      · exact .inr ⟨_, h4, Nat.le_refl _⟩
section
variable {α : Type} [Flat α]
theorem Sl.takeK {w : World} {A : Option Addr} {n c : Nat} {xs : List α} (h : Sl w A n c xs) {k : Nat} (hk : k ≤ n) : Sl w A k c (xs.take k) := by
  refine ⟨by rw [List.length_take, h.len]; omega, Nat.le_trans hk h.le, h.2.2.1, fun h0 => ?_⟩
  obtain ⟨b, off, e, hb, hc⟩ := h.base (by omega)
  refine ⟨b, off, e, hb, fun i x hx j u hu => ?_⟩
  rw [List.getElem?_take] at hx
  split at hx
  · exact hc i x hx j u hu
  · cases hx
end
theorem Sl.dropG {α : Type} [Flat α] {w : World} {A : Option Addr} {n c : Nat} {xs : List α} (h : Sl w A n c xs) {k : Nat} (hk : k ≤ n) : Sl w (if c = k then A else A.map (·.add (k * Flat.sz α))) (n - k) (c - k) (xs.drop k) := by
  have hle := h.le
  refine ⟨by rw [List.length_drop, h.len], by omega, by have := h.2.2.1; omega, fun h0 => ?_⟩
  obtain ⟨b, off, e, hb, hc⟩ := h.base (by omega)
  subst e
  refine ⟨b, off + k * Flat.sz α, by rw [if_neg (by omega)]; simp [Addr.add], hb, fun i x hx j u hu => ?_⟩
  rw [List.getElem?_drop] at hx
  have h1 := hc _ x hx j u hu
  rw [Nat.add_mul] at h1
  rw [Nat.add_assoc off]
  exact h1
theorem Ow.slN {α : Type} [Flat α] {w : World} {base : Nat} {e : TypeId} {v : Value} {xs : List α} (h : Ow w base e v xs) : ∃ A c, v = .slice A xs.length c ∧ (A = none → c = 0) ∧ Sl w A xs.length c xs := by
  obtain ⟨A, c, hv, hs⟩ := h.sl
  refine ⟨A, c, hv, fun hA => ?_, hs⟩
  subst hA
  rcases h.2 with ⟨h1, _⟩ | ⟨g, cap, cur, h1, _⟩
  · rw [hv] at h1
    injection h1
  · rw [hv] at h1
    injection h1 with h1
    cases h1
theorem run_size {P : Program} {e : TypeId} {sz : Nat} (hi : (P.info? e).map (·.size) = some sz) (w : World) : (sizeOf e).run P w = .ok sz w := by
  cases hq : P.info? e with
  | none => simp [hq] at hi
  | some i =>
    have : i.size = sz := by simpa [hq] using hi
    simp [sizeOf, run_typeInfo w hq, this]
theorem run_slice_to {P : Program} {A : Option Addr} {n c k : Nat} {t : TypeId} {sz : Nat} (ht : P.underlying t = some (.slice (P.elem t))) (hi : (P.info? (P.elem t)).map (·.size) = some sz) (hk : k ≤ c) (w : World) :
    (Instr.slice t (.slice A n c) none (some (.int .i64 (k : Int))) none).run P w = .ok (.slice A k c) w := by
  rw [run_slice_h w t A n c ht .i64 (k : Int) (by omega) (by omega), run_size hi]
  have hA : (if c = 0 then A else A.map (fun x => x.add (0 * sz))) = A := by
    split
    · rfl
    · cases A <;> simp [Addr.add]
  simp [Result.andThen, sliced]
  cases A <;> simp [Addr.add]
theorem run_slice_from {P : Program} {A : Option Addr} {n c k : Nat} {t : TypeId} {sz : Nat} (ht : P.underlying t = some (.slice (P.elem t))) (hi : (P.info? (P.elem t)).map (·.size) = some sz) (hk : k ≤ n) (w : World) :
    (Instr.slice t (.slice A n c) (some (.int .i64 (k : Int))) none none).run P w = .ok (.slice (if c = k then A else A.map (·.add (k * sz))) (n - k) (c - k)) w := by
  rw [run_slice_l w t A n c ht .i64 (k : Int) (by omega) (by omega), run_size hi]
  simp [Result.andThen, sliced]
theorem append_run {α : Type} [Flat α] {P : Program} (w : World) (t ty : TypeId) (base : Nat) (e : TypeId) (z : Value) (bytes : Nat) (ht : P.underlying t = some (.slice e)) (hi : (P.info? e).map (fun i => (i.zero, i.size, i.bytes)) = some (some z, Flat.sz α, bytes)) (hzs : z.cells.size = Flat.sz α)
    (v : Value) (xs : List α) (hown : Ow w base e v xs)
    (A : Option Addr) (m c : Nat) (ys : List α) (hnil : A = none → c = 0) (hsl : Sl w A m c ys)
    (hlen : xs.length + m ≤ 2000000) (hby : bytes ≤ 4096) (hbase : base ≤ w.heap.size) :
    ∃ v' w', (Builtin.append_ #[t, t] ty #[v, .slice A m c]).run P w = .ok v' w' ∧ Ow w' base e v' (xs ++ ys) ∧ Upd w w' v v' := by
  obtain ⟨i, hi0, hz0, hz1, hz2⟩ := info_parts hi
  cases A with
  | none =>
    obtain ⟨rfl, rfl⟩ := hsl.none_
    obtain rfl := hnil rfl
    exact ⟨v, w, run_append_owned_none (P := P) (w := w) base t ty e i (Flat.sz α) ht hi0 v xs.length _ hown, by simpa using hown, Upd.refl w v⟩
  | some ad =>
    have hm : ys.length = m := hsl.len
    have hbytes : (xs.length + m) * bytes ≤ 140737488355328 := by
      have : (xs.length + m) * bytes ≤ 2000000 * 4096 := Nat.mul_le_mul hlen hby
      omega
    obtain ⟨v', w', hr, h1, h2, _, h4⟩ := run_append_own_at (P := P) w base t ty e i z (Flat.sz α) bytes ht hi0 hz0 hz1 hz2 hzs Flat.pos v xs.length _ hown ad m c (ys.flatMap Flat.cells) (by rw [flat_len, hm]) hsl.cells (flat_one ys)
      (by unfold maxLen; omega) hbytes hbase
    refine ⟨v', w', hr, ?_, h2, ?_⟩
    · unfold Ow
      rw [List.length_append, List.flatMap_append, hm]
      exact h1
    · rcases h4 with h4 | h4
      · exact .inl h4
      · exact .inr ⟨_, h4, Nat.le_refl _⟩
theorem step_append {α : Type} [Flat α] {P : Program} {ops : Array Oper} {o : Oper} {a : Act} {w : World} {K : Act → World → Prop} {Q : Exit → Act → World → Prop} {E : Prop} (hgd : o.guard = none) (s x : Operand) (t : TypeId)
    (ho : o.op = .call { callee := .builtin .append, args := #[s, x], argTypes := #[t, t] })
    (base : Nat) (e : TypeId) (z : Value) (bytes : Nat) (ht : P.underlying t = some (.slice e)) (hi : (P.info? e).map (fun i => (i.zero, i.size, i.bytes)) = some (some z, Flat.sz α, bytes)) (hzs : z.cells.size = Flat.sz α)
    (v : Value) (xs : List α) (hs : a.eval s = v) (hown : Ow w base e v xs)
    (A : Option Addr) (m c : Nat) (ys : List α) (hx : a.eval x = .slice A m c) (hnil : A = none → c = 0) (hsl : Sl w A m c ys)
    (hlen : xs.length + m ≤ 2000000) (hby : bytes ≤ 4096) (hbase : base ≤ w.heap.size)
    (h : ∀ v' w', Ow w' base e v' (xs ++ ys) → Upd w w' v v' → K (a.put o.dst v') w') :
    if Region.wanted o (yielded ops a.tmps) = true then Oper.wp P o a w K Q else E := by
  have hw : Region.wanted o (yielded ops a.tmps) = true := by simp [Region.wanted, hgd]
  rw [if_pos hw]
  obtain ⟨v', w', hr, h1, h2⟩ := append_run w t o.type base e z bytes ht hi hzs v xs hown A m c ys hnil hsl hlen hby hbase
  unfold Oper.wp execOp
  simp only [ho, resolve, invoke, builtin, Sem.run_bind, Sem.run_pure, Result.andThen_ok, List.map_toArray, List.map_cons, List.map_nil, hs, hx, hr]
  exact h v' w' h1 h2
end Go.Proofs.Yteaanngagcflhaa
