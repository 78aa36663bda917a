/-
  Common lemmas, of no program: slices that read as lists of flat items, rows of the call's own, small facts on worlds. No condition.
-/
import Derived.WalkKit
import Derived.WalkSpells
import Derived.WalkLawsBesides
import Derived.Lib.Hide
import Derived.Deep.Draws
import Derived.Maps.AppendAt
import Derived.Deep.AppendLies
import Derived.Deep.DeepMust
set_option linter.unusedVariables false
set_option linter.unusedSimpArgs false
namespace Go.Proofs.Yteaanngagcflhaa
open Go.RowKit

/-- an item of a fixed number of cells, none of which leads on to memory that its reading looks at -/
class Flat (α : Type) where
  sz : Nat
  cells : α → List Value
  len : ∀ x, (cells x).length = sz
  one : ∀ x, ∀ v ∈ cells x, v.oneCell' = true
  pos : 0 < sz

theorem block_of_add (a : Addr) (n : Nat) : (a.add n).block = a.block := by unfold Addr.add; split <;> rfl
theorem add_mk (b off n : Nat) : (⟨b, off, none⟩ : Addr).add n = ⟨b, off + n, none⟩ := by
  unfold Addr.add; split
  · subst_vars; rfl
  · rfl

theorem bcell {W w1 : World} (hb : Below W.heap.size W w1) : (∀ b o, b < W.heap.size → w1.cell? ⟨b, o, none⟩ = W.cell? ⟨b, o, none⟩) ∧ (∀ b o, b < W.heap.size → w1.frozen? ⟨b, o, none⟩ = W.frozen? ⟨b, o, none⟩) :=
  ⟨fun b o h => hb.cell (p := ⟨b, o, none⟩) h, fun b o h => hb.frozen (p := ⟨b, o, none⟩) h⟩

theorem ret_int {k : IntKind} {a b : Int} (h : a = b) : Ending.returned (.int k a) = .returned (.int k b) := by rw [h]
theorem ret_bool {a b : Bool} (h : a = b) : Ending.returned (.bool a) = .returned (.bool b) := by rw [h]

section
variable {α : Type} [Flat α]
/-- a slice value that reads as a list of flat items -/
def Sl (w : World) (A : Option Addr) (n c : Nat) (xs : List α) : Prop :=
  xs.length = n ∧ n ≤ c ∧ c ≤ maxLen ∧ (0 < n → ∃ b off, A = some ⟨b, off, none⟩ ∧ b < w.heap.size ∧
    ∀ (i : Nat) (x : α), xs[i]? = some x → ∀ (j : Nat) (v : Value), (Flat.cells x)[j]? = some v → w.cell? ⟨b, off + i * Flat.sz α + j, none⟩ = some v)

variable {w w' : World} {A : Option Addr} {n c : Nat} {xs : List α}
theorem Sl.len (h : Sl w A n c xs) : xs.length = n := h.1
theorem Sl.le (h : Sl w A n c xs) : n ≤ c := h.2.1
theorem Sl.max (h : Sl w A n c xs) : n ≤ maxLen := Nat.le_trans h.2.1 h.2.2.1
theorem Sl.nmax (h : Sl w A n c xs) : n ≤ 9223372036854775807 := by have := h.max; unfold maxLen at this; omega
theorem Sl.nil_ (w : World) : Sl w none 0 0 ([] : List α) := ⟨rfl, Nat.le_refl _, Nat.zero_le _, fun h => absurd h (by omega)⟩
theorem Sl.base (h : Sl w A n c xs) (hn : 0 < n) : ∃ b off, A = some ⟨b, off, none⟩ ∧ b < w.heap.size ∧
    ∀ (i : Nat) (x : α), xs[i]? = some x → ∀ (j : Nat) (v : Value), (Flat.cells x)[j]? = some v → w.cell? ⟨b, off + i * Flat.sz α + j, none⟩ = some v := h.2.2.2 hn
theorem Sl.keep (h : Sl w A n c xs) (hs : w.heap.size ≤ w'.heap.size) (hk : ∀ b o, b < w.heap.size → w'.cell? ⟨b, o, none⟩ = w.cell? ⟨b, o, none⟩) : Sl w' A n c xs :=
  ⟨h.1, h.2.1, h.2.2.1, fun hn => by
    obtain ⟨b, off, e, hb, hc⟩ := h.2.2.2 hn
    exact ⟨b, off, e, by omega, fun i x hx j v hv => (hk _ _ hb).trans (hc i x hx j v hv)⟩⟩
theorem Sl.below (h : Sl w A n c xs) (hb : Below w.heap.size w w') : Sl w' A n c xs := h.keep hb.size fun _ _ hl => hb.cell (p := ⟨_, _, none⟩) hl
theorem Sl.baseIn (h : Sl w A n c xs) (hb : Below w.heap.size w w') (hn : 0 < n) : ∃ b off, A = some ⟨b, off, none⟩ ∧ b < w.heap.size ∧
    ∀ (i : Nat) (x : α), xs[i]? = some x → ∀ (j : Nat) (v : Value), (Flat.cells x)[j]? = some v → w'.cell? ⟨b, off + i * Flat.sz α + j, none⟩ = some v := by
  obtain ⟨b, off, e, hl, hc⟩ := h.2.2.2 hn
  exact ⟨b, off, e, hl, fun i x hx j v hv => (hb.cell (p := ⟨_, _, none⟩) hl).trans (hc i x hx j v hv)⟩
theorem Sl.get (h : Sl w A n c xs) {k : Nat} (hk : k < n) : ∃ x, xs[k]? = some x :=
  ⟨xs[k]'(by have := h.1; omega), List.getElem?_eq_getElem (by have := h.1; omega)⟩
end

/-- the item's cells, said of a list -/
theorem Sl.at_ {α : Type} [Flat α] {w : World} {b off : Nat} {xs : List α}
    (h : ∀ (i : Nat) (x : α), xs[i]? = some x → ∀ (j : Nat) (v : Value), (Flat.cells x)[j]? = some v → w.cell? ⟨b, off + i * Flat.sz α + j, none⟩ = some v)
    {i : Nat} {x : α} (hx : xs[i]? = some x) (j : Nat) {v : Value} (hv : (Flat.cells x)[j]? = some v) : w.cell? ⟨b, off + i * Flat.sz α + j, none⟩ = some v := h i x hx j v hv

theorem below_drewN {B : Nat} {a w : World} (h : Below B a w) (n : Nat) : Below B a (w.drewN n) := ⟨h.os, h.tape, h.output, h.size, h.block⟩

/-! ### rows of the call's own -/
theorem cells_new (w : World) (cs : Array Value) (e : TypeId) (g j : Nat) (hg : g = w.heap.size) (u : Value) (h : cs.toList[j]? = some u) : (w.alloc (.cells cs e)).cell? ((⟨g, 0, none⟩ : Addr).add j) = some u := by
  subst hg
  rw [add_mk]
  simp only [World.cell?, World.alloc, Array.getElem?_push_size, Nat.zero_add]
  simpa using h

section
variable {α : Type} [Flat α]
theorem flat_len (xs : List α) : (xs.flatMap Flat.cells).length = xs.length * Flat.sz α := by
  induction xs with
  | nil => simp
  | cons x xs ih => simp only [List.flatMap_cons, List.length_append, ih, Flat.len, List.length_cons, Nat.add_mul]; omega
theorem flat_get (xs : List α) (i : Nat) (x : α) (hx : xs[i]? = some x) (j : Nat) (v : Value) (hv : (Flat.cells x)[j]? = some v) : (xs.flatMap Flat.cells)[i * Flat.sz α + j]? = some v := by
  have hj : j < Flat.sz α := by rw [← Flat.len x]; exact (List.getElem?_eq_some_iff.1 hv).1
  induction xs generalizing i with
  | nil => simp at hx
  | cons y xs ih =>
    rw [List.flatMap_cons]
    cases i with
    | zero =>
      simp only [List.getElem?_cons_zero, Option.some.injEq] at hx
      subst hx
      rw [Nat.zero_mul, Nat.zero_add, List.getElem?_append_left (by rw [Flat.len]; exact hj)]
      exact hv
    | succ i =>
      rw [List.getElem?_append_right (by rw [Flat.len, Nat.add_mul]; omega), Flat.len]
      have : (i + 1) * Flat.sz α + j - Flat.sz α = i * Flat.sz α + j := by rw [Nat.add_mul]; omega
      rw [this]
      exact ih i (by simpa using hx)
theorem flat_one (xs : List α) : ∀ u ∈ xs.flatMap Flat.cells, u.oneCell' = true := by
  intro u hu
  obtain ⟨x, _, hx⟩ := List.mem_flatMap.1 hu
  exact Flat.one x u hx

/-- a row of the call's own, of flat items -/
def Ow (w : World) (base : Nat) (e : TypeId) (v : Value) (xs : List α) : Prop := w.ownsRow base e (Flat.sz α) v xs.length (xs.flatMap Flat.cells)

variable {w w' : World} {base : Nat} {e : TypeId} {v : Value} {xs ys : List α}
theorem Ow.nil_ (w : World) (base : Nat) (e : TypeId) : Ow w base e (.slice none 0 0) ([] : List α) := World.ownsRow_nil w base e _
theorem Ow.alloc (h : Ow w base e v xs) (o : Obj) : Ow (w.alloc o) base e v xs := World.ownsRow.alloc h o
theorem Ow.drew (h : Ow w base e v xs) : Ow w.drew base e v xs := h
theorem Ow.drewN (h : Ow w base e v xs) (k : Nat) : Ow (w.drewN k) base e v xs := h
theorem Ow.lt (h : Ow w base e v xs) : ∀ k, v.ownBlock = some k → base ≤ k ∧ k < w.heap.size := World.ownsRow.lt h
theorem Ow.lower (h : Ow w base e v xs) {b' : Nat} (hb : b' ≤ base) : Ow w b' e v xs := by
  refine ⟨h.1, ?_⟩
  rcases h.2 with hn | ⟨g, cap, cur, hv, hg, hr⟩
  · exact .inl hn
  · exact .inr ⟨g, cap, cur, hv, by omega, hr⟩
theorem Ow.below (h : Ow w base e v xs) (hb : Below w.heap.size w w') : Ow w' base e v xs := by
  refine World.ownsRow.kept (row := none) h ⟨hb.os, hb.tape, hb.output, hb.size, fun k hk _ => hb.block k hk⟩ ?_
  cases hv : v.ownBlock with
  | none => exact .inl rfl
  | some g => exact .inr (by simp)
theorem Ow.val (h : Ow w base e v xs) : ∃ A c, v = .slice A xs.length c ∧ xs.length ≤ c ∧ c ≤ maxLen := by
  rcases h.2 with ⟨rfl, hn⟩ | ⟨g, cap, cur, rfl, _, _, hnc, hcm, _⟩
  · exact ⟨none, 0, by rw [hn], by omega, Nat.zero_le _⟩
  · exact ⟨_, cap, rfl, hnc, hcm⟩
theorem Ow.sl (h : Ow w base e v xs) : ∃ A c, v = .slice A xs.length c ∧ Sl w A xs.length c xs := by
  rcases h.2 with ⟨rfl, hn⟩ | ⟨g, cap, cur, rfl, hg, hh, hnc, hcm, hcs, htk⟩
  · exact ⟨none, 0, by rw [hn], rfl, by omega, Nat.zero_le _, fun h0 => absurd h0 (by omega)⟩
  · refine ⟨_, cap, rfl, rfl, hnc, hcm, fun _ => ⟨g, 0, rfl, (Array.getElem?_eq_some_iff.1 hh).1, fun i x hx j u hu => ?_⟩⟩
    have h1 := flat_get xs i x hx j u hu
    have h2 := World.ownsRow.cells h (g := g) rfl _ _ h1
    rw [add_mk] at h2
    rw [Nat.add_assoc]
    exact h2
/-- below base nothing has turned -/
theorem Ow.grew {B : Nat} {w0 : World} {row : Option Nat} (hb : Below B w0 w) (hg : w.grownBy w' row) (hB : B ≤ w.heap.size) (hr : ∀ k, row = some k → B ≤ k) : Below B w0 w' := hb.grown hg hB hr
end

section
variable {α : Type} [Flat α] {w W w1 : World} {base : Nat} {e : TypeId} {v : Value} {xs : List α}
/-- behind an append: blocks laid since the row was last looked at are as they were -/
theorem grown_fresh (h : Ow w base e v xs) (hg : W.grownBy w1 v.ownBlock) {b : Nat} (hb : w.heap.size ≤ b) (hlt : b < W.heap.size) : ∀ o, w1.cell? ⟨b, o, none⟩ = W.cell? ⟨b, o, none⟩ :=
  fun o => World.cell?_of_block (a := ⟨b, o, none⟩) (hg.block b hlt (fun e => by have := (h.lt b e.symm).2; omega))
theorem grown_freshF (h : Ow w base e v xs) (hg : W.grownBy w1 v.ownBlock) {b : Nat} (hb : w.heap.size ≤ b) (hlt : b < W.heap.size) : ∀ o, w1.frozen? ⟨b, o, none⟩ = W.frozen? ⟨b, o, none⟩ :=
  fun o => World.frozen?_of_block (a := ⟨b, o, none⟩) (hg.block b hlt (fun e => by have := (h.lt b e.symm).2; omega))
/-- .. and those below the call's own -/
theorem grown_old (h : Ow w base e v xs) (hg : W.grownBy w1 v.ownBlock) (hle : base ≤ W.heap.size) : ∀ b o, b < base → w1.cell? ⟨b, o, none⟩ = W.cell? ⟨b, o, none⟩ :=
  fun b o hb => World.cell?_of_block (a := ⟨b, o, none⟩) (hg.block b (by omega) (fun e => by have := (h.lt b e.symm).1; omega))
theorem grown_below (h : Ow w base e v xs) (hg : W.grownBy w1 v.ownBlock) {w0 : World} (hb : Below base w0 W) (hle : base ≤ W.heap.size) : Below base w0 w1 :=
  hb.grown hg hle fun k hk => (h.lt k hk).1
end

/-- what an update of a row of the call's own leaves as it was: all blocks but the row's; and where the row now lies -/
structure Upd (w w' : World) (v v' : Value) : Prop where
  grew : w.grownBy w' v.ownBlock
  at_ : v'.ownBlock = v.ownBlock ∨ ∃ g, v'.ownBlock = some g ∧ w.heap.size ≤ g
section
variable {w w1 w2 : World} {v v1 v2 : Value}
theorem Upd.refl (w : World) (v : Value) : Upd w w v v := ⟨World.grownBy.refl w _, .inl rfl⟩
theorem Upd.size (h : Upd w w1 v v1) : w.heap.size ≤ w1.heap.size := h.grew.size
theorem Upd.trans (h : Upd w w1 v v1) (k : Upd w1 w2 v1 v2) : Upd w w2 v v2 := by
  refine ⟨⟨k.grew.os.trans h.grew.os, k.grew.tape.trans h.grew.tape, k.grew.output.trans h.grew.output, Nat.le_trans h.grew.size k.grew.size, fun b hb hne => ?_⟩, ?_⟩
  · refine (k.grew.block b (Nat.lt_of_lt_of_le hb h.size) (fun e => ?_)).trans (h.grew.block b hb hne)
    rcases h.at_ with h1 | ⟨g, h1, h2⟩
    · exact hne (e.trans h1)
    · rw [h1] at e; injection e with e; omega
  · rcases k.at_ with k1 | ⟨g, k1, k2⟩
    · rcases h.at_ with h1 | ⟨g, h1, h2⟩
      · exact .inl (k1.trans h1)
      · exact .inr ⟨g, k1.trans h1, h2⟩
    · exact .inr ⟨g, k1, Nat.le_trans h.size k2⟩
theorem Upd.below (h : Upd w w1 v v1) (hb : Below w1.heap.size w1 w2) : Upd w w2 v v1 :=
  ⟨⟨hb.os.trans h.grew.os, hb.tape.trans h.grew.tape, hb.output.trans h.grew.output, Nat.le_trans h.size hb.size, fun b hl hne => (hb.block b (Nat.lt_of_lt_of_le hl h.size)).trans (h.grew.block b hl hne)⟩, h.at_⟩
theorem Upd.alloc (h : Upd w w1 v v1) (o : Obj) : Upd w (w1.alloc o) v v1 := h.below ((Below.refl _ _).alloc (Nat.le_refl _) o)
theorem Upd.drew (h : Upd w w1 v v1) : Upd w w1.drew v v1 := ⟨⟨h.grew.os, h.grew.tape, h.grew.output, h.grew.size, h.grew.block⟩, h.at_⟩
theorem Upd.drewN (h : Upd w w1 v v1) (n : Nat) : Upd w (w1.drewN n) v v1 := ⟨⟨h.grew.os, h.grew.tape, h.grew.output, h.grew.size, h.grew.block⟩, h.at_⟩
theorem Upd.ofBelow {w0 : World} (hb : Below w0.heap.size w0 w) (h : Upd w w1 v v1) (hv : ∀ g, v.ownBlock = some g → g < w0.heap.size) : Upd w0 w1 v v1 :=
  ((Upd.refl w0 v).below hb).trans h
/-- a row that an update does not touch -/
theorem Upd.other {α : Type} [Flat α] {base : Nat} {e : TypeId} {u : Value} {ys : List α} (h : Upd w w1 v v1) (ho : Ow w base e u ys) (hne : u.ownBlock = none ∨ u.ownBlock ≠ v.ownBlock) : Ow w1 base e u ys := World.ownsRow.kept ho h.grew hne
theorem Upd.apart {α : Type} [Flat α] {base : Nat} {e : TypeId} {u : Value} {ys : List α} (h : Upd w w1 v v1) (ho : Ow w base e u ys) (hne : u.ownBlock = none ∨ u.ownBlock ≠ v.ownBlock) : u.ownBlock = none ∨ u.ownBlock ≠ v1.ownBlock := by
  rcases hne with hn | hn
  · exact .inl hn
  · refine .inr ?_
    rcases h.at_ with h1 | ⟨g, h1, h2⟩
    · rw [h1]; exact hn
    · rw [h1]; intro e; have := (ho.lt g e).2; omega
theorem Upd.belowBase {α : Type} [Flat α] {base : Nat} {e : TypeId} {xs : List α} (h : Upd w w1 v v1) (ho : Ow w base e v xs) {w0 : World} (hb : Below base w0 w) (hle : base ≤ w.heap.size) : Below base w0 w1 :=
  hb.grown h.grew hle fun k hk => (ho.lt k hk).1
end

/-- append of one item that was just built -/
theorem wpl_append1 {α : Type} [Flat α] {P : Program} (w : World) {ops : Array Oper} {rest : List Oper} {o : Oper} {a : Act} {Q : Exit → Act → World → Prop} (hgd : o.guard = none) (s x : Operand) (t : TypeId)
    (ho : o.op = .call { callee := .builtin .append, args := #[s, x], argTypes := #[t, t] })
    (base : Nat) (e : TypeId) (z : Value) (bytes : Nat) (ht : P.underlying t = some (.slice e)) (hi : (P.info? e).map (fun i => (i.zero, i.size, i.bytes)) = some (some z, Flat.sz α, bytes)) (hzs : z.cells.size = Flat.sz α)
    (v : Value) (xs : List α) (hs : a.eval s = v) (hown : Ow w base e v xs)
    (g : Nat) (y : α) (hx : a.eval x = .slice (some ⟨g, 0, none⟩) 1 1) (hnew : ∀ j u, (Flat.cells y)[j]? = some u → w.cell? ((⟨g, 0, none⟩ : Addr).add j) = some u)
    (hlen : xs.length ≤ 1000000) (hby : bytes ≤ 4096) (hbase : base ≤ w.heap.size)
    (h : ∀ v' w', Ow w' base e v' (xs ++ [y]) → Upd w w' v v' → wpList P ops Q rest (a.put o.dst v') w') : wpList P ops Q (o :: rest) a w := by
  obtain ⟨i, hi0, hz0, hz1, hz2⟩ := info_parts hi
  have hbytes : (xs.length + 1) * bytes ≤ 140737488355328 := by
    have : (xs.length + 1) * bytes ≤ 1000001 * 4096 := Nat.mul_le_mul (by omega) hby
    omega
  obtain ⟨v', w', hr, h1, h2, _, h4⟩ := run_append_own_at (P := P) w base t o.type e i z (Flat.sz α) bytes ht hi0 hz0 hz1 hz2 hzs Flat.pos v xs.length _ hown ⟨g, 0, none⟩ 1 1 (Flat.cells y) (by rw [Flat.len]; omega) hnew (Flat.one y)
    (by unfold maxLen; omega) hbytes hbase
  · refine wpList_plain hgd fun K hK => ?_
    unfold Oper.wp execOp
    simp only [ho, resolve, invoke, builtin, Sem.run_bind, Sem.run_pure, Result.andThen_ok, List.map_toArray, List.map_cons, List.map_nil, hs, hx, hr]
    refine hK _ _ (h v' w' ?_ ⟨h2, ?_⟩)
    · unfold Ow
      rw [List.length_append, List.flatMap_append]
      simpa using h1
    · rcases h4 with h4 | h4
      · exact .inl h4
      · exact .inr ⟨_, h4, Nat.le_refl _⟩

/-! ### all, by index -/
def allB (n : Nat) (f : Nat → Bool) : Bool := (List.range n).all f
theorem allB_true {n : Nat} {f : Nat → Bool} (h : ∀ j, j < n → f j = true) : allB n f = true := by
  simpa [allB] using h
theorem allB_false {n k : Nat} {f : Nat → Bool} (hk : k < n) (h : f k = false) : allB n f = false := by
  unfold allB
  rw [List.all_eq_false]
  exact ⟨k, by simpa using hk, by simp [h]⟩
theorem allB_iff {n : Nat} {f : Nat → Bool} : allB n f = true ↔ ∀ j, j < n → f j = true := by simp [allB]
def anyB (n : Nat) (f : Nat → Bool) : Bool := (List.range n).any f
theorem anyB_false {n : Nat} {f : Nat → Bool} (h : ∀ j, j < n → f j = false) : anyB n f = false := by
  simpa [anyB] using h
theorem anyB_true {n k : Nat} {f : Nat → Bool} (hk : k < n) (h : f k = true) : anyB n f = true := by
  simp only [anyB, List.any_eq_true]
  exact ⟨k, by simpa using hk, h⟩
theorem anyB_iff {n : Nat} {f : Nat → Bool} : anyB n f = true ↔ ∃ j, j < n ∧ f j = true := by simp [anyB]

theorem cl {B : Nat} {w w' : World} (h : Below B w w') {b o : Nat} {v : Value} (hc : w.cell? ⟨b, o, none⟩ = some v) (hb : b < B := by omega) : w'.cell? ⟨b, o, none⟩ = some v := (h.cell (p := ⟨b, o, none⟩) hb).trans hc
theorem cz {B : Nat} {w w' : World} (h : Below B w w') {b : Nat} (hc : ∀ j, w.frozen? ⟨b, j, none⟩ = false) (hb : b < B := by omega) : ∀ j, w'.frozen? ⟨b, j, none⟩ = false := fun j => (h.frozen (p := ⟨b, j, none⟩) hb).trans (hc j)

end Go.Proofs.Yteaanngagcflhaa
