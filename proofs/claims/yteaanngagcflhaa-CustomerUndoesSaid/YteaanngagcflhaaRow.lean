/-
  Operations on rows of flat items of several cells: append of a readable slice, copy, clear, append in place, append of made zeros. No condition.
-/
import Derived.Test.YteaanngagcflhaaCom
import Derived.Laws.AppendOwnNone
import Derived.Laws.CopyOwn
set_option linter.unusedVariables false
set_option linter.unusedSimpArgs false
namespace Go.Proofs.Yteaanngagcflhaa
open Go.RowKit

section
variable {α : Type} [Flat α]
theorem flat_inv (xs : List α) : ∀ (k : Nat) (u : Value), (xs.flatMap Flat.cells)[k]? = some u → ∃ i x j, xs[i]? = some x ∧ (Flat.cells x)[j]? = some u ∧ k = i * Flat.sz α + j := by
  induction xs with
  | nil => intro k u h; simp at h
  | cons y xs ih =>
    intro k u h
    rw [List.flatMap_cons] at h
    by_cases hk : k < Flat.sz α
    · rw [List.getElem?_append_left (by rw [Flat.len]; exact hk)] at h
      exact ⟨0, y, k, rfl, h, by omega⟩
    · rw [List.getElem?_append_right (by rw [Flat.len]; omega), Flat.len] at h
      obtain ⟨i, x, j, hx, hj, he⟩ := ih _ u h
      exact ⟨i + 1, x, j, by simpa using hx, hj, by rw [Nat.add_mul]; omega⟩
theorem flat_take (xs : List α) (i : Nat) : (xs.take i).flatMap Flat.cells = (xs.flatMap Flat.cells).take (i * Flat.sz α) := by
  induction xs generalizing i with
  | nil => simp
  | cons y xs ih =>
    cases i with
    | zero => simp
    | succ i =>
      rw [List.take_succ_cons, List.flatMap_cons, List.flatMap_cons, ih, List.take_append, Flat.len]
      have h1 : (i + 1) * Flat.sz α - Flat.sz α = i * Flat.sz α := by rw [Nat.add_mul]; omega
      rw [h1, List.take_of_length_le (l := Flat.cells y) (by rw [Flat.len, Nat.add_mul]; omega)]
theorem flat_drop (xs : List α) (i : Nat) : (xs.drop i).flatMap Flat.cells = (xs.flatMap Flat.cells).drop (i * Flat.sz α) := by
  induction xs generalizing i with
  | nil => simp
  | cons y xs ih =>
    cases i with
    | zero => simp
    | succ i =>
      rw [List.drop_succ_cons, List.flatMap_cons, ih, List.drop_append, Flat.len]
      have h1 : (i + 1) * Flat.sz α - Flat.sz α = i * Flat.sz α := by rw [Nat.add_mul]; omega
      rw [h1, List.drop_of_length_le (l := Flat.cells y) (by rw [Flat.len, Nat.add_mul]; omega), List.nil_append]

theorem Sl.cells {w : World} {ad : Addr} {n c : Nat} {xs : List α} (h : Sl w (some ad) n c xs) : ∀ j u, (xs.flatMap Flat.cells)[j]? = some u → w.cell? (ad.add j) = some u := by
  intro j u hu
  obtain ⟨i, x, k, hx, hk, rfl⟩ := flat_inv xs j u hu
  have hi := (List.getElem?_eq_some_iff.1 hx).1
  obtain ⟨b, off, e, _, hc⟩ := h.base (by have := h.len; omega)
  obtain rfl : ad = ⟨b, off, none⟩ := Option.some.inj e
  rw [add_mk, ← Nat.add_assoc]
  exact hc i x hx k u hk
theorem Sl.none_ {w : World} {n c : Nat} {xs : List α} (h : Sl w none n c xs) : n = 0 ∧ xs = [] := by
  have hn : n = 0 := by
    rcases Nat.eq_zero_or_pos n with h0 | h0
    · exact h0
    · obtain ⟨b, off, e, _⟩ := h.base h0
      cases e
  exact ⟨hn, List.eq_nil_of_length_eq_zero (by rw [h.len, hn])⟩
end

/-- append of a readable slice onto a row of the call's own -/
theorem wpl_appendS {α : Type} [Flat α] {P : Program} (w : World) {ops : Array Oper} {rest : List Oper} {o : Oper} {a : Act} {Q : Exit → Act → World → Prop} (hgd : o.guard = none) (s x : Operand) (t : TypeId)
    (ho : o.op = .call { callee := .builtin .append, args := #[s, x], argTypes := #[t, t] })
    (base : Nat) (e : TypeId) (z : Value) (bytes : Nat) (ht : P.underlying t = some (.slice e)) (hi : (P.info? e).map (fun i => (i.zero, i.size, i.bytes)) = some (some z, Flat.sz α, bytes)) (hzs : z.cells.size = Flat.sz α)
    (v : Value) (xs : List α) (hs : a.eval s = v) (hown : Ow w base e v xs)
    (A : Option Addr) (m c : Nat) (ys : List α) (hx : a.eval x = .slice A m c) (hnil : A = none → c = 0) (hsl : Sl w A m c ys)
    (hlen : xs.length + m ≤ 2000000) (hby : bytes ≤ 4096) (hbase : base ≤ w.heap.size)
    (h : ∀ v' w', Ow w' base e v' (xs ++ ys) → Upd w w' v v' → wpList P ops Q rest (a.put o.dst v') w') : wpList P ops Q (o :: rest) a w := by
  obtain ⟨i, hi0, hz0, hz1, hz2⟩ := info_parts hi
  cases A with
  | none =>
    obtain ⟨rfl, rfl⟩ := hsl.none_
    obtain rfl := hnil rfl
    exact wpList_append_own_none hgd s x t ho base e i (Flat.sz α) ht hi0 v xs.length _ hs hown hx (h v w (by simpa using hown) (Upd.refl w v))
  | some ad =>
    have hm : ys.length = m := hsl.len
    have hbytes : (xs.length + m) * bytes ≤ 140737488355328 := by
      have : (xs.length + m) * bytes ≤ 2000000 * 4096 := Nat.mul_le_mul hlen hby
      omega
    obtain ⟨v', w', hr, h1, h2, _, h4⟩ := run_append_own_at (P := P) w base t o.type e i z (Flat.sz α) bytes ht hi0 hz0 hz1 hz2 hzs Flat.pos v xs.length _ hown ad m c (ys.flatMap Flat.cells) (by rw [flat_len, hm]) hsl.cells (flat_one ys)
      (by unfold maxLen; omega) hbytes hbase
    · refine wpList_plain hgd fun K hK => ?_
      unfold Oper.wp execOp
      simp only [ho, resolve, invoke, builtin, Sem.run_bind, Sem.run_pure, Result.andThen_ok, List.map_toArray, List.map_cons, List.map_nil, hs, hx, hr]
      refine hK _ _ (h v' w' ?_ ⟨h2, ?_⟩)
      · unfold Ow
        rw [List.length_append, List.flatMap_append, hm]
        exact h1
      · rcases h4 with h4 | h4
        · exact .inl h4
        · exact .inr ⟨_, h4, Nat.le_refl _⟩

/-! ### a whole block -/
section
variable {P : Program}
theorem run_copyK (w : World) (dT sT ty elem : TypeId) (size : Nat) (g o dLen dCap : Nat) (a : Addr) (sLen sCap : Nat) (cur : Array Value) (t : TypeId) (cs : List Value)
    (hu : P.underlying dT = some (.slice elem)) (hs : (P.info? elem).map (·.size) = some size)
    (hg : w.heap[g]? = some (.cells cur t (0, 0))) (hn : cs.length = Nat.min sLen dLen * size)
    (hsrc : ∀ j v, cs[j]? = some v → w.cell? (a.add j) = some v) (hfit : o + cs.length ≤ cur.size) (h1 : ∀ v ∈ cs, v.oneCell' = true) :
    (Builtin.copy_ #[dT, sT] ty #[.slice (some ⟨g, o, none⟩) dLen dCap, .slice (some a) sLen sCap]).run P w =
      .ok (goInt (Nat.min sLen dLen)) (w.setRow g (splice cur.toList o cs).toArray) := by
  have hl := run_loadCells_list (P := P) w a cs hsrc
  have hst := run_storeCells_at P g o t cs 0 cur w hg (by simpa using hfit) h1
  cases hq : P.info? elem with
  | none => simp [hq] at hs
  | some i =>
    have hi : i.size = size := by simpa [hq] using hs
    simp [Builtin.copy_, run_underlying hu, Builtin.lenOf, Builtin.firstCells, sizeOf, typeInfo, hq, hi, ← hn, hl, hst, splice]

theorem wp_copy_run (w : World) {o : Oper} {a : Act} {K : Act → World → Prop} {Q : Exit → Act → World → Prop} (d s : Operand) (t t' : TypeId)
    (ho : o.op = .call { callee := .builtin .copy, args := #[d, s], argTypes := #[t, t'] }) (v u : Value) (hd : a.eval d = v) (hs : a.eval s = u) {v' : Value} {w' : World}
    (hr : (Builtin.copy_ #[t, t'] o.type #[v, u]).run P w = .ok v' w') (h : K (a.put o.dst v') w') : o.wp P a w K Q := by
  unfold Oper.wp execOp
  simp only [ho, resolve, invoke, builtin, Sem.run_bind, Sem.run_pure, Result.andThen_ok, List.map_toArray, List.map_cons, List.map_nil, hd, hs, hr]
  exact h
theorem wpList_copy_run (w : World) {ops : Array Oper} {rest : List Oper} {o : Oper} {a : Act} {Q : Exit → Act → World → Prop} (hgd : o.guard = none) (d s : Operand) (t t' : TypeId)
    (ho : o.op = .call { callee := .builtin .copy, args := #[d, s], argTypes := #[t, t'] }) (v u : Value) (hd : a.eval d = v) (hs : a.eval s = u) {v' : Value} {w' : World}
    (hr : (Builtin.copy_ #[t, t'] o.type #[v, u]).run P w = .ok v' w') (h : wpList P ops Q rest (a.put o.dst v') w') : wpList P ops Q (o :: rest) a w :=
  wpList_plain hgd fun _ hK => wp_copy_run w d s t t' ho v u hd hs hr (hK _ _ h)

theorem wpList_append_run (w : World) {ops : Array Oper} {rest : List Oper} {o : Oper} {a : Act} {Q : Exit → Act → World → Prop} (hgd : o.guard = none) (d s : Operand) (t t' : TypeId)
    (ho : o.op = .call { callee := .builtin .append, args := #[d, s], argTypes := #[t, t'] }) (v u : Value) (hd : a.eval d = v) (hs : a.eval s = u) {v' : Value} {w' : World}
    (hr : (Builtin.append_ #[t, t'] o.type #[v, u]).run P w = .ok v' w') (h : wpList P ops Q rest (a.put o.dst v') w') : wpList P ops Q (o :: rest) a w :=
  wpList_plain hgd fun K hK => by
    unfold Oper.wp execOp
    simp only [ho, resolve, invoke, builtin, Sem.run_bind, Sem.run_pure, Result.andThen_ok, List.map_toArray, List.map_cons, List.map_nil, hd, hs, hr]
    exact hK _ _ h
theorem wpList_clear_run (w : World) {ops : Array Oper} {rest : List Oper} {o : Oper} {a : Act} {Q : Exit → Act → World → Prop} (hgd : o.guard = none) (d : Operand) (t : TypeId)
    (ho : o.op = .call { callee := .builtin .clear, args := #[d], argTypes := #[t] }) (v : Value) (hd : a.eval d = v) {v' : Value} {w' : World}
    (hr : (Builtin.clear_ #[t] o.type #[v]).run P w = .ok v' w') (h : wpList P ops Q rest (a.put o.dst v') w') : wpList P ops Q (o :: rest) a w :=
  wpList_plain hgd fun K hK => by
    unfold Oper.wp execOp
    simp only [ho, resolve, invoke, builtin, Sem.run_bind, Sem.run_pure, Result.andThen_ok, List.map_toArray, List.map_cons, List.map_nil, hd, hr]
    exact hK _ _ h

theorem run_clearK (w : World) (dT ty elem : TypeId) (i : TypeInfo) (z : Value) (g o dLen dCap : Nat) (cur : Array Value) (t : TypeId)
    (hu : P.underlying dT = some (.slice elem)) (hi : P.info? elem = some i) (hz : i.zero = some z)
    (hg : w.heap[g]? = some (.cells cur t (0, 0))) (hd : 0 < dLen) (hfit : o + dLen * z.cells.size ≤ cur.size) (h1 : ∀ v ∈ (Builtin.zeroCells z.cells dLen).toList, v.oneCell' = true) :
    (Builtin.clear_ #[dT] ty #[.slice (some ⟨g, o, none⟩) dLen dCap]).run P w = .ok (.tuple #[]) (w.setRow g (splice cur.toList o (Builtin.zeroCells z.cells dLen).toList).toArray) := by
  have hlen : (Builtin.zeroCells z.cells dLen).toList.length = dLen * z.cells.size := by simp [size_zeroCells]
  have hst := run_storeCells_at P g o t (Builtin.zeroCells z.cells dLen).toList 0 cur w hg (by rw [hlen]; simpa using hfit) h1
  obtain ⟨d, rfl⟩ : ∃ d, dLen = d + 1 := ⟨dLen - 1, by omega⟩
  simp only [Nat.add_zero] at hst
  simp [Builtin.clear_, run_underlying hu, zeroValue, typeInfo, hi, hz, hst, splice]


theorem run_append_make (w : World) (t tI ty e : TypeId) (i : TypeInfo) (z : Value) (ht : P.underlying t = some (.slice e)) (hI : P.underlying tI = some (.int .i64)) (hi : P.info? e = some i) (hz : i.zero = some z) (hzs : z.cells.size = i.size)
    (b : Addr) (n cap m : Nat) (olds : List Value) (hol : olds.length = n * i.size) (hold : ∀ j u, olds[j]? = some u → w.cell? (b.add j) = some u) (hm : 0 < m) (hsz : 0 < i.size) (hg : cap < n + m)
    (h63 : n + m ≤ 9223372036854775807) (hfit : Builtin.nextslicecap (n + m) cap * i.bytes ≤ 281474976710656) (hmb : m * i.bytes ≤ 281474976710656) :
    (Builtin.append_ #[t, tI] ty #[.slice (some b) n cap, .int .i64 (m : Int)]).run P w =
      .ok (.slice (some ⟨w.heap.size, 0, none⟩) (n + m) (grownCap w (n + m) cap e))
        (w.drew.alloc (.cells (olds.toArray ++ Builtin.zeroCells z.cells m ++ Builtin.zeroCells z.cells (grownCap w (n + m) cap e - (n + m))) e)) := by
  have hn : ¬ (n + m ≤ cap) := by omega
  have h63' : ¬ (9223372036854775807 < ((n : Int) + (m : Int))) := by omega
  have h48' : ¬ (281474976710656 < Builtin.nextslicecap (n + m) cap * i.bytes) := by omega
  have hfo := run_firstCells_some (P := P) w.drew i.size n b n cap olds hol (by simpa using hold)
  have hw : IntKind.i64.wrap (m : Int) = (m : Int) := IntWalk.i64_in _ (by omega)
  have hneg : ¬ ((m : Int) < 0) := by omega
  have hbm : ¬ (281474976710656 < (m : Int) * (i.bytes : Int)) := by
    have : ((m * i.bytes : Nat) : Int) ≤ 281474976710656 := by omega
    rw [Int.natCast_mul] at this
    omega
  have hms : ¬ (m = 0 ∨ i.size = 0) := by omega
  have hm0 : ¬ m = 0 := by omega
  have hs0 : ¬ i.size = 0 := by omega
  simp [Builtin.append_, run_underlying ht, run_underlying hI, sizeOf, typeInfo, zeroValue, hi, hz, hn, h63', h48', Question.forced, hfo, newRow, grownCap, hw, hneg, hbm, hms, hm0, hs0, asInt, asIntOf]
  intro h0
  exact absurd h0 (Nat.mul_ne_zero hm0 hs0)
end

/-- an owned row that has elements, or a block: whole -/
theorem Ow.whole {α : Type} [Flat α] {w : World} {base : Nat} {e : TypeId} {v : Value} {xs : List α} (h : Ow w base e v xs) (hpos : 0 < xs.length) : ∃ g cap cur, v = .slice (some ⟨g, 0, none⟩) xs.length cap ∧ base ≤ g ∧
    w.heap[g]? = some (.cells cur e (0, 0)) ∧ xs.length ≤ cap ∧ cap ≤ maxLen ∧ cur.size = cap * Flat.sz α ∧ cur.toList.take (xs.length * Flat.sz α) = xs.flatMap Flat.cells := by
  rcases h.2 with ⟨_, hn⟩ | hw
  · omega
  · exact hw
theorem Ow.mk_ {α : Type} [Flat α] {w : World} {base : Nat} {e : TypeId} {xs : List α} {g cap : Nat} {cur : List Value} (hb : base ≤ g) (hg : w.heap[g]? = some (.cells cur.toArray e (0, 0))) (hn : xs.length ≤ cap) (hc : cap ≤ maxLen)
    (hs : cur.length = cap * Flat.sz α) (ht : cur.take (xs.length * Flat.sz α) = xs.flatMap Flat.cells) : Ow w base e (.slice (some ⟨g, 0, none⟩) xs.length cap) xs :=
  ⟨flat_len xs, .inr ⟨g, cap, cur.toArray, rfl, hb, hg, hn, hc, by simpa using hs, by simpa using ht⟩⟩
theorem grownBy_setRow {w0 w : World} {g : Nat} (h : w0.grownBy w (some g)) (cs : Array Value) : w0.grownBy (w.setRow g cs) (some g) :=
  ⟨h.os, h.tape, h.output, by simpa [World.setRow] using h.size, fun k hk hne => (setRow_other w g k cs (fun e => hne (by rw [e]))).trans (h.block k hk hne)⟩
theorem grownBy_setRow_new {w0 w : World} {g : Nat} {row : Option Nat} (h : w0.grownBy w row) (hg : w0.heap.size ≤ g) (cs : Array Value) : w0.grownBy (w.setRow g cs) row :=
  ⟨h.os, h.tape, h.output, by simpa [World.setRow] using h.size, fun k hk hne => (setRow_other w g k cs (fun e => by omega)).trans (h.block k hk hne)⟩

theorem cell_blk {w : World} {g : Nat} {cur : Array Value} {t : TypeId} {fr : Nat × Nat} (hg : w.heap[g]? = some (.cells cur t fr)) {k : Nat} {v : Value} (h : cur.toList[k]? = some v) : w.cell? ⟨g, k, none⟩ = some v := by
  simp [World.cell?, hg]; simpa using h
/-- a piece of a block's first m cells -/
theorem cells_piece {w : World} {g : Nat} {cur : Array Value} {t : TypeId} {fr : Nat × Nat} (hg : w.heap[g]? = some (.cells cur t fr)) (m a : Nat) : ∀ j v, ((cur.toList.take m).drop a)[j]? = some v → w.cell? ((⟨g, a, none⟩ : Addr).add j) = some v := by
  intro j v h
  rw [List.getElem?_drop, List.getElem?_take] at h
  split at h
  · rw [add_mk]; exact cell_blk hg h
  · cases h

section
variable {α : Type} [Flat α] {w : World} {base g n cap : Nat} {e : TypeId} {xs : List α}
theorem Ow.at_ (h : Ow w base e (.slice (some ⟨g, 0, none⟩) n cap) xs) {i : Nat} {x : α} (hx : xs[i]? = some x) (j : Nat) {v : Value} (hv : (Flat.cells x)[j]? = some v) : w.cell? ⟨g, i * Flat.sz α + j, none⟩ = some v := by
  have h1 := flat_get xs i x hx j v hv
  have h2 := World.ownsRow.cells h (g := g) rfl _ _ h1
  rw [add_mk, Nat.zero_add] at h2
  exact h2
theorem Ow.unfrozen (h : Ow w base e (.slice (some ⟨g, 0, none⟩) n cap) xs) (j : Nat) : w.frozen? ⟨g, j, none⟩ = false := by
  rcases h.2 with ⟨hv, _⟩ | ⟨g', cap', cur, hv, _, hh, _⟩
  · cases hv
  · injection hv with hv1 _ _
    injection hv1 with hv1
    injection hv1 with hv1
    subst hv1
    simp [World.frozen?, hh]
theorem Ow.ltG (h : Ow w base e (.slice (some ⟨g, 0, none⟩) n cap) xs) : base ≤ g ∧ g < w.heap.size := h.lt g rfl
theorem Ow.eqLen (h : Ow w base e (.slice (some ⟨g, 0, none⟩) n cap) xs) : xs.length = n := by
  obtain ⟨A, c, hv, _⟩ := h.val
  injection hv with _ h2 _
  exact h2.symm
theorem set_append_left {β : Type} (a b : List β) (k : Nat) (u : β) (h : k < a.length) : (a ++ b).set k u = a.set k u ++ b := by
  rw [List.set_append]; simp [h]
theorem flat_set (xs : List α) (i : Nat) (x x' : α) (hx : xs[i]? = some x) (j : Nat) (u : Value) (hj : j < Flat.sz α) (he : Flat.cells x' = (Flat.cells x).set j u) : (xs.set i x').flatMap Flat.cells = (xs.flatMap Flat.cells).set (i * Flat.sz α + j) u := by
  induction xs generalizing i with
  | nil => simp at hx
  | cons y xs ih =>
    cases i with
    | zero =>
      simp only [List.getElem?_cons_zero, Option.some.injEq] at hx
      subst hx
      rw [List.set_cons_zero, List.flatMap_cons, List.flatMap_cons, he, Nat.zero_mul, Nat.zero_add, set_append_left _ _ _ _ (by rw [Flat.len]; exact hj)]
    | succ i =>
      rw [List.set_cons_succ, List.flatMap_cons, List.flatMap_cons, ih i (by simpa using hx), List.set_append, Flat.len, if_neg (by rw [Nat.add_mul]; omega)]
      congr 2
      rw [Nat.add_mul]; omega
/-- a store into a field of an owned row's item -/
theorem Ow.stored (h : Ow w base e (.slice (some ⟨g, 0, none⟩) n cap) xs) {i : Nat} {x x' : α} (hx : xs[i]? = some x) (j : Nat) (u : Value) (hj : j < Flat.sz α) (he : Flat.cells x' = (Flat.cells x).set j u) :
    Ow (w.setCell ⟨g, i * Flat.sz α + j, none⟩ u) base e (.slice (some ⟨g, 0, none⟩) n cap) (xs.set i x') := by
  have hi := (List.getElem?_eq_some_iff.1 hx).1
  have hlen := h.eqLen
  rcases h.2 with ⟨hv, _⟩ | ⟨g', cap', cur, hv, hb, hh, hnc, hcm, hcs, htk⟩
  · cases hv
  · injection hv with hv1 _ hv3
    injection hv1 with hv1
    injection hv1 with hv1
    subst hv1 hv3
    have hlt : i * Flat.sz α + j < xs.length * Flat.sz α := by
      have : (i + 1) * Flat.sz α ≤ xs.length * Flat.sz α := Nat.mul_le_mul_right _ hi
      rw [Nat.add_mul] at this; omega
    have h1 : (w.setCell ⟨g, i * Flat.sz α + j, none⟩ u).heap[g]? = some (.cells (cur.setIfInBounds (i * Flat.sz α + j) u) e (0, 0)) := by
      simp [World.setCell, Array.getElem?_modify, hh]
    unfold Ow
    rw [List.length_set]
    refine ⟨by rw [flat_len, List.length_set], .inr ⟨g, cap, cur.setIfInBounds (i * Flat.sz α + j) u, by rw [hlen], hb, h1, hnc, hcm, by simpa using hcs, ?_⟩⟩
    rw [flat_set xs i x x' hx j u hj he, ← htk, Array.toList_setIfInBounds, List.take_set]
theorem Upd.stored {v : Value} {w0 : World} (h : Upd w0 w v (.slice (some ⟨g, 0, none⟩) n cap)) (o : Nat) (u : Value) : Upd w0 (w.setCell ⟨g, o, none⟩ u) v (.slice (some ⟨g, 0, none⟩) n cap) := by
  refine h.trans ⟨⟨rfl, rfl, rfl, by simp [World.setCell], fun k hk hne => Below.heap_setCell _ _ _ _ (fun e => hne ?_)⟩, .inl rfl⟩
  rw [e]; rfl
end

/-- a block that was just laid, as a slice -/
theorem Sl.new {α : Type} [Flat α] (w : World) (cs : Array Value) (e : TypeId) (g : Nat) (hg : g = w.heap.size) (xs : List α) (n : Nat) (hn : xs.length = n) (hm : n ≤ maxLen) (hcs : cs.toList = xs.flatMap Flat.cells) : Sl (w.alloc (.cells cs e)) (some ⟨g, 0, none⟩) n n xs := by
  refine ⟨hn, Nat.le_refl _, hm, fun _ => ⟨g, 0, rfl, by rw [hg]; simp, fun i x hx j v hv => ?_⟩⟩
  have h1 := flat_get xs i x hx j v hv
  rw [← hcs] at h1
  have := cells_new w cs e g (i * Flat.sz α + j) hg v h1
  rw [add_mk] at this
  rw [Nat.add_assoc]
  exact this
theorem blk_setCell {w : World} {g : Nat} {cs : Array Value} {t : TypeId} (h : w.heap[g]? = some (.cells cs t (0, 0))) (j : Nat) (u : Value) : (w.setCell ⟨g, j, none⟩ u).heap[g]? = some (.cells (cs.setIfInBounds j u) t (0, 0)) := by
  simp [World.setCell, Array.getElem?_modify, h]
theorem Ow.setFar {α : Type} [Flat α] {w : World} {base : Nat} {e : TypeId} {v : Value} {xs : List α} (h : Ow w base e v xs) {p : Addr} (hp : v.ownBlock ≠ some p.block) (u : Value) : Ow (w.setCell p u) base e v xs := by
  refine World.ownsRow.kept (row := some p.block) h ⟨rfl, rfl, rfl, by simp [World.setCell], fun k hk hne => Below.heap_setCell _ _ _ _ (fun e => hne (by rw [e]))⟩ (.inr hp)

/-! ### plain lists -/
/-- room made at place i of a row of n items and an item laid there: what the first n + 1 items are -/
theorem splice_insert {β : Type} (L X Y : List β) (a s b : Nat) (hX : L.take (a + b) = X) (hXl : X.length = a + b) (hY : Y.length = s) (hfit : a + s + b ≤ L.length) :
    (splice (splice L (a + s) (X.drop a)) a Y).take (a + s + b) = X.take a ++ Y ++ X.drop a := by
  have hd : (X.drop a).length = b := by simp [hXl]
  have h1 : (splice L (a + s) (X.drop a)).take a = X.take a := by
    rw [splice, List.take_append_of_le_length (by simp; omega), List.take_take, ← hX, List.take_take]
    congr 1; omega
  have h2 : (splice L (a + s) (X.drop a)).drop (a + s) = X.drop a ++ L.drop (a + s + b) := by
    rw [splice, List.drop_append, List.length_take, List.drop_of_length_le (by simp; omega), Nat.min_eq_left (by omega), Nat.sub_self, List.drop_zero, List.nil_append, hd]
  rw [splice, h1, hY, h2, ← List.append_assoc, ← List.append_assoc]
  have h3 : (X.take a ++ Y ++ X.drop a).length = a + s + b := by simp [hXl, hY]; omega
  rw [← h3, List.take_left']
  rfl

theorem splice_insert2 {β : Type} (L X Y : List β) (a s b : Nat) (hX : L.take a = X.take a) (hXl : X.length = a + b) (hY : Y.length = s) (hfit : a + s + b ≤ L.length) :
    (splice (splice L a Y) (a + s) (X.drop a)).take (a + s + b) = X.take a ++ Y ++ X.drop a := by
  have hd : (X.drop a).length = b := by simp [hXl]
  have h1 : (splice L a Y).take (a + s) = X.take a ++ Y := by
    rw [splice, ← List.append_assoc, List.take_append_of_le_length (by simp [hY]; omega), List.take_of_length_le (by simp [hY]; omega), hX]
  rw [splice, h1, ← List.append_assoc]
  have h3 : (X.take a ++ Y ++ X.drop a).length = a + s + b := by simp [hXl, hY]; omega
  rw [← h3, List.take_left']
  rfl
section
variable {α : Type} [Flat α]
theorem ins_list (cur : List Value) (xs : List α) (y : α) (i n cap : Nat) (hn : xs.length = n) (htk : cur.take (n * Flat.sz α) = xs.flatMap Flat.cells) (hcl : cur.length = cap * Flat.sz α) (hroom : n + 1 ≤ cap) (hi : i ≤ n) :
    (splice (splice cur ((i + 1) * Flat.sz α) ((xs.flatMap Flat.cells).drop (i * Flat.sz α))) (i * Flat.sz α) (Flat.cells y)).take ((n + 1) * Flat.sz α) = (xs.take i ++ y :: xs.drop i).flatMap Flat.cells := by
  have e1 : (i + 1) * Flat.sz α = i * Flat.sz α + Flat.sz α := by rw [Nat.add_mul]; omega
  have e2 : n * Flat.sz α = i * Flat.sz α + (n - i) * Flat.sz α := by rw [← Nat.add_mul]; congr 1; omega
  have e3 : (n + 1) * Flat.sz α = i * Flat.sz α + Flat.sz α + (n - i) * Flat.sz α := by rw [Nat.add_mul, e2]; omega
  have e4 : (n + 1) * Flat.sz α ≤ cap * Flat.sz α := Nat.mul_le_mul_right _ hroom
  rw [List.flatMap_append, List.flatMap_cons, flat_take, flat_drop, ← List.append_assoc, e1, e3]
  exact splice_insert cur _ _ _ _ _ (by rw [← e2]; exact htk) (by rw [flat_len, hn, e2]) (Flat.len y) (by omega)
theorem ins_list2 (cur : List Value) (xs : List α) (y : α) (i n : Nat) (hn : xs.length = n) (htk : cur.take (i * Flat.sz α) = (xs.flatMap Flat.cells).take (i * Flat.sz α)) (hcl : (n + 1) * Flat.sz α ≤ cur.length) (hi : i ≤ n) :
    (splice (splice cur (i * Flat.sz α) (Flat.cells y)) ((i + 1) * Flat.sz α) ((xs.flatMap Flat.cells).drop (i * Flat.sz α))).take ((n + 1) * Flat.sz α) = (xs.take i ++ y :: xs.drop i).flatMap Flat.cells := by
  have e1 : (i + 1) * Flat.sz α = i * Flat.sz α + Flat.sz α := by rw [Nat.add_mul]; omega
  have e2 : n * Flat.sz α = i * Flat.sz α + (n - i) * Flat.sz α := by rw [← Nat.add_mul]; congr 1; omega
  have e3 : (n + 1) * Flat.sz α = i * Flat.sz α + Flat.sz α + (n - i) * Flat.sz α := by rw [Nat.add_mul, e2]; omega
  rw [List.flatMap_append, List.flatMap_cons, flat_take, flat_drop, ← List.append_assoc, e1, e3]
  exact splice_insert2 cur _ _ _ _ _ htk (by rw [flat_len, hn, e2]) (Flat.len y) (by omega)
end

end Go.Proofs.Yteaanngagcflhaa
