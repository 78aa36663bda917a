/-
  Common lemmas, of no program: slices that read as lists of flat items, rows of the call's own, small facts on worlds. No condition.
-/
import Derived.WalkKit
import Derived.WalkSpells
import Derived.WalkLawsBesides
import Derived.Lib.Hide
import Derived.Deep.Draws
import Derived.Maps.AppendAt
import Derived.Deep.AppendLies
import Derived.Deep.DeepMust
import Derived.Deep.QuietTactic
import Derived.BigQuiet
import Derived.Laws.AppendOwnNone
import Derived.Laws.CopyOwn
import Derived.Deep.RegionWith
set_option linter.unusedVariables false
set_option linter.unusedSimpArgs false
set_option maxRecDepth 100000
namespace Go.Proofs.Yteaanngagcflhaa
open Go.RowKit
class Flat (α : Type) where
  sz : Nat
  cells : α → List Value
  len : ∀ x, (cells x).length = sz
  one : ∀ x, ∀ v ∈ cells x, v.oneCell' = true
  pos : 0 < sz
theorem add_mk (b off n : Nat) : (⟨b, off, none⟩ : Addr).add n = ⟨b, off + n, none⟩ := by
  unfold Addr.add; split
  · subst_vars; rfl
  · rfl
theorem ret_int {k : IntKind} {a b : Int} (h : a = b) : Ending.returned (.int k a) = .returned (.int k b) := by rw [h]
theorem ret_bool {a b : Bool} (h : a = b) : Ending.returned (.bool a) = .returned (.bool b) := by rw [h]
section
variable {α : Type} [Flat α]
def Sl (w : World) (A : Option Addr) (n c : Nat) (xs : List α) : Prop :=
  xs.length = n ∧ n ≤ c ∧ c ≤ maxLen ∧ (0 < n → ∃ b off, A = some ⟨b, off, none⟩ ∧ b < w.heap.size ∧
    ∀ (i : Nat) (x : α), xs[i]? = some x → ∀ (j : Nat) (v : Value), (Flat.cells x)[j]? = some v → w.cell? ⟨b, off + i * Flat.sz α + j, none⟩ = some v)
variable {w w' : World} {A : Option Addr} {n c : Nat} {xs : List α}
theorem Sl.len (h : Sl w A n c xs) : xs.length = n := h.1
theorem Sl.le (h : Sl w A n c xs) : n ≤ c := h.2.1
theorem Sl.max (h : Sl w A n c xs) : n ≤ maxLen := Nat.le_trans h.2.1 h.2.2.1
theorem Sl.nmax (h : Sl w A n c xs) : n ≤ 9223372036854775807 := by have := h.max; unfold maxLen at this; omega
theorem Sl.nil_ (w : World) : Sl w none 0 0 ([] : List α) := ⟨rfl, Nat.le_refl _, Nat.zero_le _, fun h => absurd h (by omega)⟩
theorem Sl.base (h : Sl w A n c xs) (hn : 0 < n) : ∃ b off, A = some ⟨b, off, none⟩ ∧ b < w.heap.size ∧
    ∀ (i : Nat) (x : α), xs[i]? = some x → ∀ (j : Nat) (v : Value), (Flat.cells x)[j]? = some v → w.cell? ⟨b, off + i * Flat.sz α + j, none⟩ = some v := h.2.2.2 hn
theorem Sl.keep (h : Sl w A n c xs) (hs : w.heap.size ≤ w'.heap.size) (hk : ∀ b o, b < w.heap.size → w'.cell? ⟨b, o, none⟩ = w.cell? ⟨b, o, none⟩) : Sl w' A n c xs :=
  ⟨h.1, h.2.1, h.2.2.1, fun hn => by
    obtain ⟨b, off, e, hb, hc⟩ := h.2.2.2 hn
    exact ⟨b, off, e, by omega, fun i x hx j v hv => (hk _ _ hb).trans (hc i x hx j v hv)⟩⟩
theorem Sl.below (h : Sl w A n c xs) (hb : Below w.heap.size w w') : Sl w' A n c xs := h.keep hb.size fun _ _ hl => hb.cell (p := ⟨_, _, none⟩) hl
theorem Sl.baseIn (h : Sl w A n c xs) (hb : Below w.heap.size w w') (hn : 0 < n) : ∃ b off, A = some ⟨b, off, none⟩ ∧ b < w.heap.size ∧
    ∀ (i : Nat) (x : α), xs[i]? = some x → ∀ (j : Nat) (v : Value), (Flat.cells x)[j]? = some v → w'.cell? ⟨b, off + i * Flat.sz α + j, none⟩ = some v := by
  obtain ⟨b, off, e, hl, hc⟩ := h.2.2.2 hn
  exact ⟨b, off, e, hl, fun i x hx j v hv => (hb.cell (p := ⟨_, _, none⟩) hl).trans (hc i x hx j v hv)⟩
theorem Sl.get (h : Sl w A n c xs) {k : Nat} (hk : k < n) : ∃ x, xs[k]? = some x :=
  ⟨xs[k]'(by have := h.1; omega), List.getElem?_eq_getElem (by have := h.1; omega)⟩
end
theorem Sl.at_ {α : Type} [Flat α] {w : World} {b off : Nat} {xs : List α}
    (h : ∀ (i : Nat) (x : α), xs[i]? = some x → ∀ (j : Nat) (v : Value), (Flat.cells x)[j]? = some v → w.cell? ⟨b, off + i * Flat.sz α + j, none⟩ = some v)
    {i : Nat} {x : α} (hx : xs[i]? = some x) (j : Nat) {v : Value} (hv : (Flat.cells x)[j]? = some v) : w.cell? ⟨b, off + i * Flat.sz α + j, none⟩ = some v := h i x hx j v hv
theorem below_drewN {B : Nat} {a w : World} (h : Below B a w) (n : Nat) : Below B a (w.drewN n) := ⟨h.os, h.tape, h.output, h.size, h.block⟩
theorem cells_new (w : World) (cs : Array Value) (e : TypeId) (g j : Nat) (hg : g = w.heap.size) (u : Value) (h : cs.toList[j]? = some u) : (w.alloc (.cells cs e)).cell? ((⟨g, 0, none⟩ : Addr).add j) = some u := by
  subst hg
  rw [add_mk]
  simp only [World.cell?, World.alloc, Array.getElem?_push_size, Nat.zero_add]
  simpa using h
section
variable {α : Type} [Flat α]
theorem flat_len (xs : List α) : (xs.flatMap Flat.cells).length = xs.length * Flat.sz α := by
  induction xs with
  | nil => simp
  | cons x xs ih => simp only [List.flatMap_cons, List.length_append, ih, Flat.len, List.length_cons, Nat.add_mul]; omega
theorem flat_get (xs : List α) (i : Nat) (x : α) (hx : xs[i]? = some x) (j : Nat) (v : Value) (hv : (Flat.cells x)[j]? = some v) : (xs.flatMap Flat.cells)[i * Flat.sz α + j]? = some v := by
  have hj : j < Flat.sz α := by rw [← Flat.len x]; exact (List.getElem?_eq_some_iff.1 hv).1
  induction xs generalizing i with
  | nil => simp at hx
  | cons y xs ih =>
    rw [List.flatMap_cons]
    cases i with
    | zero =>
      simp only [List.getElem?_cons_zero, Option.some.injEq] at hx
      subst hx
      rw [Nat.zero_mul, Nat.zero_add, List.getElem?_append_left (by rw [Flat.len]; exact hj)]
      exact hv
    | succ i =>
      rw [List.getElem?_append_right (by rw [Flat.len, Nat.add_mul]; omega), Flat.len]
      have : (i + 1) * Flat.sz α + j - Flat.sz α = i * Flat.sz α + j := by rw [Nat.add_mul]; omega
      rw [this]
      exact ih i (by simpa using hx)
theorem flat_one (xs : List α) : ∀ u ∈ xs.flatMap Flat.cells, u.oneCell' = true := by
  intro u hu
  obtain ⟨x, _, hx⟩ := List.mem_flatMap.1 hu
  exact Flat.one x u hx
def Ow (w : World) (base : Nat) (e : TypeId) (v : Value) (xs : List α) : Prop := w.ownsRow base e (Flat.sz α) v xs.length (xs.flatMap Flat.cells)
variable {w w' : World} {base : Nat} {e : TypeId} {v : Value} {xs ys : List α}
theorem Ow.nil_ (w : World) (base : Nat) (e : TypeId) : Ow w base e (.slice none 0 0) ([] : List α) := World.ownsRow_nil w base e _
theorem Ow.alloc (h : Ow w base e v xs) (o : Obj) : Ow (w.alloc o) base e v xs := World.ownsRow.alloc h o
theorem Ow.drew (h : Ow w base e v xs) : Ow w.drew base e v xs := h
theorem Ow.drewN (h : Ow w base e v xs) (k : Nat) : Ow (w.drewN k) base e v xs := h
theorem Ow.lt (h : Ow w base e v xs) : ∀ k, v.ownBlock = some k → base ≤ k ∧ k < w.heap.size := World.ownsRow.lt h
theorem Ow.lower (h : Ow w base e v xs) {b' : Nat} (hb : b' ≤ base) : Ow w b' e v xs := by
  refine ⟨h.1, ?_⟩
  rcases h.2 with hn | ⟨g, cap, cur, hv, hg, hr⟩
  · exact .inl hn
  · exact .inr ⟨g, cap, cur, hv, by omega, hr⟩
theorem Ow.below (h : Ow w base e v xs) (hb : Below w.heap.size w w') : Ow w' base e v xs := by
  refine World.ownsRow.kept (row := none) h ⟨hb.os, hb.tape, hb.output, hb.size, fun k hk _ => hb.block k hk⟩ ?_
  cases hv : v.ownBlock with
  | none => exact .inl rfl
  | some g => exact .inr (by simp)
theorem Ow.val (h : Ow w base e v xs) : ∃ A c, v = .slice A xs.length c ∧ xs.length ≤ c ∧ c ≤ maxLen := by
  rcases h.2 with ⟨rfl, hn⟩ | ⟨g, cap, cur, rfl, _, _, hnc, hcm, _⟩
  · exact ⟨none, 0, by rw [hn], by omega, Nat.zero_le _⟩
  · exact ⟨_, cap, rfl, hnc, hcm⟩
theorem Ow.sl (h : Ow w base e v xs) : ∃ A c, v = .slice A xs.length c ∧ Sl w A xs.length c xs := by
  rcases h.2 with ⟨rfl, hn⟩ | ⟨g, cap, cur, rfl, hg, hh, hnc, hcm, hcs, htk⟩
  · exact ⟨none, 0, by rw [hn], rfl, by omega, Nat.zero_le _, fun h0 => absurd h0 (by omega)⟩
  · refine ⟨_, cap, rfl, rfl, hnc, hcm, fun _ => ⟨g, 0, rfl, (Array.getElem?_eq_some_iff.1 hh).1, fun i x hx j u hu => ?_⟩⟩
    have h1 := flat_get xs i x hx j u hu
    have h2 := World.ownsRow.cells h (g := g) rfl _ _ h1
    rw [add_mk] at h2
    rw [Nat.add_assoc]
    exact h2
theorem Ow.grew {B : Nat} {w0 : World} {row : Option Nat} (hb : Below B w0 w) (hg : w.grownBy w' row) (hB : B ≤ w.heap.size) (hr : ∀ k, row = some k → B ≤ k) : Below B w0 w' := hb.grown hg hB hr
end
structure Upd (w w' : World) (v v' : Value) : Prop where
  grew : w.grownBy w' v.ownBlock
  at_ : v'.ownBlock = v.ownBlock ∨ ∃ g, v'.ownBlock = some g ∧ w.heap.size ≤ g
section
variable {w w1 w2 : World} {v v1 v2 : Value}
theorem Upd.refl (w : World) (v : Value) : Upd w w v v := ⟨World.grownBy.refl w _, .inl rfl⟩
theorem Upd.size (h : Upd w w1 v v1) : w.heap.size ≤ w1.heap.size := h.grew.size
theorem Upd.trans (h : Upd w w1 v v1) (k : Upd w1 w2 v1 v2) : Upd w w2 v v2 := by
  refine ⟨⟨k.grew.os.trans h.grew.os, k.grew.tape.trans h.grew.tape, k.grew.output.trans h.grew.output, Nat.le_trans h.grew.size k.grew.size, fun b hb hne => ?_⟩, ?_⟩
  · refine (k.grew.block b (Nat.lt_of_lt_of_le hb h.size) (fun e => ?_)).trans (h.grew.block b hb hne)
    rcases h.at_ with h1 | ⟨g, h1, h2⟩
    · exact hne (e.trans h1)
    · rw [h1] at e; injection e with e; omega
  · rcases k.at_ with k1 | ⟨g, k1, k2⟩
    · rcases h.at_ with h1 | ⟨g, h1, h2⟩
      · exact .inl (k1.trans h1)
      · exact .inr ⟨g, k1.trans h1, h2⟩
    · exact .inr ⟨g, k1, Nat.le_trans h.size k2⟩
theorem Upd.below (h : Upd w w1 v v1) (hb : Below w1.heap.size w1 w2) : Upd w w2 v v1 :=
  ⟨⟨hb.os.trans h.grew.os, hb.tape.trans h.grew.tape, hb.output.trans h.grew.output, Nat.le_trans h.size hb.size, fun b hl hne => (hb.block b (Nat.lt_of_lt_of_le hl h.size)).trans (h.grew.block b hl hne)⟩, h.at_⟩
theorem Upd.alloc (h : Upd w w1 v v1) (o : Obj) : Upd w (w1.alloc o) v v1 := h.below ((Below.refl _ _).alloc (Nat.le_refl _) o)
theorem Upd.drew (h : Upd w w1 v v1) : Upd w w1.drew v v1 := ⟨⟨h.grew.os, h.grew.tape, h.grew.output, h.grew.size, h.grew.block⟩, h.at_⟩
theorem Upd.drewN (h : Upd w w1 v v1) (n : Nat) : Upd w (w1.drewN n) v v1 := ⟨⟨h.grew.os, h.grew.tape, h.grew.output, h.grew.size, h.grew.block⟩, h.at_⟩
theorem Upd.ofBelow {w0 : World} (hb : Below w0.heap.size w0 w) (h : Upd w w1 v v1) (hv : ∀ g, v.ownBlock = some g → g < w0.heap.size) : Upd w0 w1 v v1 :=
  ((Upd.refl w0 v).below hb).trans h
theorem Upd.other {α : Type} [Flat α] {base : Nat} {e : TypeId} {u : Value} {ys : List α} (h : Upd w w1 v v1) (ho : Ow w base e u ys) (hne : u.ownBlock = none ∨ u.ownBlock ≠ v.ownBlock) : Ow w1 base e u ys := World.ownsRow.kept ho h.grew hne
theorem Upd.apart {α : Type} [Flat α] {base : Nat} {e : TypeId} {u : Value} {ys : List α} (h : Upd w w1 v v1) (ho : Ow w base e u ys) (hne : u.ownBlock = none ∨ u.ownBlock ≠ v.ownBlock) : u.ownBlock = none ∨ u.ownBlock ≠ v1.ownBlock := by
  rcases hne with hn | hn
  · exact .inl hn
  · refine .inr ?_
    rcases h.at_ with h1 | ⟨g, h1, h2⟩
    · rw [h1]; exact hn
    · rw [h1]; intro e; have := (ho.lt g e).2; omega
theorem Upd.belowBase {α : Type} [Flat α] {base : Nat} {e : TypeId} {xs : List α} (h : Upd w w1 v v1) (ho : Ow w base e v xs) {w0 : World} (hb : Below base w0 w) (hle : base ≤ w.heap.size) : Below base w0 w1 :=
  hb.grown h.grew hle fun k hk => (ho.lt k hk).1
end
theorem wpl_append1 {α : Type} [Flat α] {P : Program} (w : World) {ops : Array Oper} {rest : List Oper} {o : Oper} {a : Act} {Q : Exit → Act → World → Prop} (hgd : o.guard = none) (s x : Operand) (t : TypeId)
    (ho : o.op = .call { callee := .builtin .append, args := #[s, x], argTypes := #[t, t] })
    (base : Nat) (e : TypeId) (z : Value) (bytes : Nat) (ht : P.underlying t = some (.slice e)) (hi : (P.info? e).map (fun i => (i.zero, i.size, i.bytes)) = some (some z, Flat.sz α, bytes)) (hzs : z.cells.size = Flat.sz α)
    (v : Value) (xs : List α) (hs : a.eval s = v) (hown : Ow w base e v xs)
    (g : Nat) (y : α) (hx : a.eval x = .slice (some ⟨g, 0, none⟩) 1 1) (hnew : ∀ j u, (Flat.cells y)[j]? = some u → w.cell? ((⟨g, 0, none⟩ : Addr).add j) = some u)
    (hlen : xs.length ≤ 1000000) (hby : bytes ≤ 4096) (hbase : base ≤ w.heap.size)
    (h : ∀ v' w', Ow w' base e v' (xs ++ [y]) → Upd w w' v v' → wpList P ops Q rest (a.put o.dst v') w') : wpList P ops Q (o :: rest) a w := by
  obtain ⟨i, hi0, hz0, hz1, hz2⟩ := info_parts hi
  have hbytes : (xs.length + 1) * bytes ≤ 140737488355328 := by
    have : (xs.length + 1) * bytes ≤ 1000001 * 4096 := Nat.mul_le_mul (by omega) hby
    omega
  obtain ⟨v', w', hr, h1, h2, _, h4⟩ := run_append_own_at (P := P) w base t o.type e i z (Flat.sz α) bytes ht hi0 hz0 hz1 hz2 hzs Flat.pos v xs.length _ hown ⟨g, 0, none⟩ 1 1 (Flat.cells y) (by rw [Flat.len]; omega) hnew (Flat.one y)
    (by unfold maxLen; omega) hbytes hbase
  · refine wpList_plain hgd fun K hK => ?_
    unfold Oper.wp execOp
    simp only [ho, resolve, invoke, builtin, Sem.run_bind, Sem.run_pure, Result.andThen_ok, List.map_toArray, List.map_cons, List.map_nil, hs, hx, hr]
    refine hK _ _ (h v' w' ?_ ⟨h2, ?_⟩)
    · unfold Ow
      rw [List.length_append, List.flatMap_append]
      simpa using h1
    · rcases h4 with h4 | h4
      · exact .inl h4
      · exact .inr ⟨_, h4, Nat.le_refl _⟩
theorem cl {B : Nat} {w w' : World} (h : Below B w w') {b o : Nat} {v : Value} (hc : w.cell? ⟨b, o, none⟩ = some v) (hb : b < B := by omega) : w'.cell? ⟨b, o, none⟩ = some v := (h.cell (p := ⟨b, o, none⟩) hb).trans hc
theorem cz {B : Nat} {w w' : World} (h : Below B w w') {b : Nat} (hc : ∀ j, w.frozen? ⟨b, j, none⟩ = false) (hb : b < B := by omega) : ∀ j, w'.frozen? ⟨b, j, none⟩ = false := fun j => (h.frozen (p := ⟨b, j, none⟩) hb).trans (hc j)
end Go.Proofs.Yteaanngagcflhaa
namespace Go.Proofs.Yteaanngagcflhaa
open Go.RowKit
structure Wd (G : World → Prop) where
  w : World
  h : G w
theorem wp_region_class {P : Program} {id : Nat} {Q : Exit → Act → World → Prop} {a : Act} {w : World} {l : List Oper} (G : World → Prop) (hm : P.follows .mixedOrders = true) (hB : Region.lexB .any l.toArray = true) (h0 : G w.drew)
    (h : Nonempty (Wd G) → wpQuiet P l.toArray (fun w' => ∃ x : Wd G, w' = x.w) (fun a' => ∀ w', G w' → Q .normal a' w') l a) : (Code.region id l.toArray true).wp P Q a w := by
  refine wp_region_quiet (C := fun w' => ∃ x : Wd G, w' = x.w) hm hB ⟨⟨w.drew, h0⟩, rfl⟩ ?_
  have key : (fun a' => ∀ w', (∃ x : Wd G, w' = x.w) → Q .normal a' w') = (fun a' => ∀ w', G w' → Q .normal a' w') := by
    funext a'
    refine propext ⟨fun h w' hw' => h w' ⟨⟨w', hw'⟩, rfl⟩, fun h w' hw' => ?_⟩
    obtain ⟨x, rfl⟩ := hw'
    exact h _ x.h
  rw [key]
  exact h ⟨⟨_, h0⟩⟩
theorem Wd.on {B : Nat} {w w' : World} (x : Wd (Below B w)) (hB : B ≤ w.heap.size) (hb : Below x.w.heap.size x.w w') : Below B w w' := x.h.trans (hb.mono (Nat.le_trans hB x.h.size))
theorem box1 (w : World) (cs : Array Value) (t : TypeId) : ∃ W, W = w.alloc (.cells cs t) ∧ Below w.heap.size w W ∧ w.heap.size < W.heap.size ∧ (∀ j u, cs.toList[j]? = some u → W.cell? ⟨w.heap.size, j, none⟩ = some u) ∧ (∀ j, W.frozen? ⟨w.heap.size, j, none⟩ = false) :=
  ⟨_, rfl, (Below.refl _ _).alloc (Nat.le_refl _) _, by simp, fun j u h => by have := cells_new w cs t w.heap.size j rfl u h; rw [add_mk, Nat.zero_add] at this; exact this, fun j => by simp⟩
theorem box2 (w : World) (cs : Array Value) (t : TypeId) (cs2 : Array Value) (t2 : TypeId) : ∃ W, W = (w.alloc (.cells cs t)).alloc (.cells cs2 t2) ∧ Below w.heap.size w W ∧ w.heap.size + 1 < W.heap.size ∧ (∀ j u, cs.toList[j]? = some u → W.cell? ⟨w.heap.size, j, none⟩ = some u) ∧ (∀ j u, cs2.toList[j]? = some u → W.cell? ⟨w.heap.size + 1, j, none⟩ = some u) ∧
    (∀ j, W.frozen? ⟨w.heap.size, j, none⟩ = false) ∧ (∀ j, W.frozen? ⟨w.heap.size + 1, j, none⟩ = false) := by
  have hb : Below (w.alloc (.cells cs t)).heap.size (w.alloc (.cells cs t)) ((w.alloc (.cells cs t)).alloc (.cells cs2 t2)) := (Below.refl _ _).alloc (Nat.le_refl _) _
  refine ⟨_, rfl, ((Below.refl _ _).alloc (Nat.le_refl _) _).alloc (by simp) _, by simp, fun j u h => ?_, fun j u h => ?_, fun j => ?_, fun j => ?_⟩
  · have h1 := cells_new w cs t w.heap.size j rfl u h
    rw [add_mk, Nat.zero_add] at h1
    exact (hb.cell (p := ⟨_, _, none⟩) (by simp)).trans h1
  · have h1 := cells_new (w.alloc (.cells cs t)) cs2 t2 (w.heap.size + 1) j (by simp) u h
    rw [add_mk, Nat.zero_add] at h1
    exact h1
  · exact (hb.frozen (p := ⟨_, _, none⟩) (by simp)).trans (by simp)
  · obtain ⟨_, rfl, _, _, _, hf⟩ := box1 (w.alloc (.cells cs t)) cs2 t2
    have := hf j
    simp at this ⊢
theorem below_wd {W w' : World} (z : Wd (Below W.heap.size W)) (hb : Below z.w.heap.size z.w w') : Below W.heap.size W w' := Wd.on z (Nat.le_refl _) hb
theorem set1 {w : World} (g o : Nat) {u v : Value} (h : w.cell? ⟨g, o, none⟩ = some v) : ∃ W, W = w.setCell ⟨g, o, none⟩ u ∧ W.cell? ⟨g, o, none⟩ = some u ∧ (∀ b o', (b ≠ g ∨ o' ≠ o) → W.cell? ⟨b, o', none⟩ = w.cell? ⟨b, o', none⟩) ∧
    (∀ b o', W.frozen? ⟨b, o', none⟩ = w.frozen? ⟨b, o', none⟩) ∧ (∀ B, B ≤ g → Below B w W) ∧ w.heap.size ≤ W.heap.size :=
  ⟨_, rfl, World.cell?_setCell_same _ _ _ h, fun b o' hne => World.cell?_setCell_other _ _ _ _ (fun e => by injection e with e1 e2; omega), fun b o' => World.frozen?_setCell _ _ _ _, fun B hB => (Below.refl _ _).setCell hB _, by simp [World.setCell]⟩
theorem Wd.cells {B : Nat} {w : World} (x : Wd (Below B w)) : ∀ b o, b < B → x.w.cell? ⟨b, o, none⟩ = w.cell? ⟨b, o, none⟩ := fun b o h => x.h.cell (p := ⟨b, o, none⟩) h
end Go.Proofs.Yteaanngagcflhaa
namespace Go.Proofs.Yteaanngagcflhaa
open Go.RowKit
section
variable {α : Type} [Flat α]
theorem flat_inv (xs : List α) : ∀ (k : Nat) (u : Value), (xs.flatMap Flat.cells)[k]? = some u → ∃ i x j, xs[i]? = some x ∧ (Flat.cells x)[j]? = some u ∧ k = i * Flat.sz α + j := by
  induction xs with
  | nil => intro k u h; simp at h
  | cons y xs ih =>
    intro k u h
    rw [List.flatMap_cons] at h
    by_cases hk : k < Flat.sz α
    · rw [List.getElem?_append_left (by rw [Flat.len]; exact hk)] at h
      exact ⟨0, y, k, rfl, h, by omega⟩
    · rw [List.getElem?_append_right (by rw [Flat.len]; omega), Flat.len] at h
      obtain ⟨i, x, j, hx, hj, he⟩ := ih _ u h
      exact ⟨i + 1, x, j, by simpa using hx, hj, by rw [Nat.add_mul]; omega⟩
theorem Sl.cells {w : World} {ad : Addr} {n c : Nat} {xs : List α} (h : Sl w (some ad) n c xs) : ∀ j u, (xs.flatMap Flat.cells)[j]? = some u → w.cell? (ad.add j) = some u := by
  intro j u hu
  obtain ⟨i, x, k, hx, hk, rfl⟩ := flat_inv xs j u hu
  have hi := (List.getElem?_eq_some_iff.1 hx).1
  obtain ⟨b, off, e, _, hc⟩ := h.base (by have := h.len; omega)
  obtain rfl : ad = ⟨b, off, none⟩ := Option.some.inj e
  rw [add_mk, ← Nat.add_assoc]
  exact hc i x hx k u hk
theorem Sl.none_ {w : World} {n c : Nat} {xs : List α} (h : Sl w none n c xs) : n = 0 ∧ xs = [] := by
  have hn : n = 0 := by
    rcases Nat.eq_zero_or_pos n with h0 | h0
    · exact h0
    · obtain ⟨b, off, e, _⟩ := h.base h0
      cases e
  exact ⟨hn, List.eq_nil_of_length_eq_zero (by rw [h.len, hn])⟩
end
theorem wpl_appendS {α : Type} [Flat α] {P : Program} (w : World) {ops : Array Oper} {rest : List Oper} {o : Oper} {a : Act} {Q : Exit → Act → World → Prop} (hgd : o.guard = none) (s x : Operand) (t : TypeId)
    (ho : o.op = .call { callee := .builtin .append, args := #[s, x], argTypes := #[t, t] })
    (base : Nat) (e : TypeId) (z : Value) (bytes : Nat) (ht : P.underlying t = some (.slice e)) (hi : (P.info? e).map (fun i => (i.zero, i.size, i.bytes)) = some (some z, Flat.sz α, bytes)) (hzs : z.cells.size = Flat.sz α)
    (v : Value) (xs : List α) (hs : a.eval s = v) (hown : Ow w base e v xs)
    (A : Option Addr) (m c : Nat) (ys : List α) (hx : a.eval x = .slice A m c) (hnil : A = none → c = 0) (hsl : Sl w A m c ys)
    (hlen : xs.length + m ≤ 2000000) (hby : bytes ≤ 4096) (hbase : base ≤ w.heap.size)
    (h : ∀ v' w', Ow w' base e v' (xs ++ ys) → Upd w w' v v' → wpList P ops Q rest (a.put o.dst v') w') : wpList P ops Q (o :: rest) a w := by
  obtain ⟨i, hi0, hz0, hz1, hz2⟩ := info_parts hi
  cases A with
  | none =>
    obtain ⟨rfl, rfl⟩ := hsl.none_
    obtain rfl := hnil rfl
    exact wpList_append_own_none hgd s x t ho base e i (Flat.sz α) ht hi0 v xs.length _ hs hown hx (h v w (by simpa using hown) (Upd.refl w v))
  | some ad =>
    have hm : ys.length = m := hsl.len
    have hbytes : (xs.length + m) * bytes ≤ 140737488355328 := by
      have : (xs.length + m) * bytes ≤ 2000000 * 4096 := Nat.mul_le_mul hlen hby
      omega
    obtain ⟨v', w', hr, h1, h2, _, h4⟩ := run_append_own_at (P := P) w base t o.type e i z (Flat.sz α) bytes ht hi0 hz0 hz1 hz2 hzs Flat.pos v xs.length _ hown ad m c (ys.flatMap Flat.cells) (by rw [flat_len, hm]) hsl.cells (flat_one ys)
      (by unfold maxLen; omega) hbytes hbase
    · refine wpList_plain hgd fun K hK => ?_
      unfold Oper.wp execOp
      simp only [ho, resolve, invoke, builtin, Sem.run_bind, Sem.run_pure, Result.andThen_ok, List.map_toArray, List.map_cons, List.map_nil, hs, hx, hr]
      refine hK _ _ (h v' w' ?_ ⟨h2, ?_⟩)
      · unfold Ow
        rw [List.length_append, List.flatMap_append, hm]
        exact h1
      · rcases h4 with h4 | h4
        · exact .inl h4
        · exact .inr ⟨_, h4, Nat.le_refl _⟩
theorem Ow.whole {α : Type} [Flat α] {w : World} {base : Nat} {e : TypeId} {v : Value} {xs : List α} (h : Ow w base e v xs) (hpos : 0 < xs.length) : ∃ g cap cur, v = .slice (some ⟨g, 0, none⟩) xs.length cap ∧ base ≤ g ∧
    w.heap[g]? = some (.cells cur e (0, 0)) ∧ xs.length ≤ cap ∧ cap ≤ maxLen ∧ cur.size = cap * Flat.sz α ∧ cur.toList.take (xs.length * Flat.sz α) = xs.flatMap Flat.cells := by
  rcases h.2 with ⟨_, hn⟩ | hw
  · omega
  · exact hw
section
variable {α : Type} [Flat α] {w : World} {base g n cap : Nat} {e : TypeId} {xs : List α}
theorem Ow.at_ (h : Ow w base e (.slice (some ⟨g, 0, none⟩) n cap) xs) {i : Nat} {x : α} (hx : xs[i]? = some x) (j : Nat) {v : Value} (hv : (Flat.cells x)[j]? = some v) : w.cell? ⟨g, i * Flat.sz α + j, none⟩ = some v := by
  have h1 := flat_get xs i x hx j v hv
  have h2 := World.ownsRow.cells h (g := g) rfl _ _ h1
  rw [add_mk, Nat.zero_add] at h2
  exact h2
theorem Ow.unfrozen (h : Ow w base e (.slice (some ⟨g, 0, none⟩) n cap) xs) (j : Nat) : w.frozen? ⟨g, j, none⟩ = false := by
  rcases h.2 with ⟨hv, _⟩ | ⟨g', cap', cur, hv, _, hh, _⟩
  · cases hv
  · injection hv with hv1 _ _
    injection hv1 with hv1
    injection hv1 with hv1
    subst hv1
    simp [World.frozen?, hh]
theorem Ow.ltG (h : Ow w base e (.slice (some ⟨g, 0, none⟩) n cap) xs) : base ≤ g ∧ g < w.heap.size := h.lt g rfl
theorem Ow.eqLen (h : Ow w base e (.slice (some ⟨g, 0, none⟩) n cap) xs) : xs.length = n := by
  obtain ⟨A, c, hv, _⟩ := h.val
  injection hv with _ h2 _
  exact h2.symm
theorem set_append_left {β : Type} (a b : List β) (k : Nat) (u : β) (h : k < a.length) : (a ++ b).set k u = a.set k u ++ b := by
  rw [List.set_append]; simp [h]
theorem flat_set (xs : List α) (i : Nat) (x x' : α) (hx : xs[i]? = some x) (j : Nat) (u : Value) (hj : j < Flat.sz α) (he : Flat.cells x' = (Flat.cells x).set j u) : (xs.set i x').flatMap Flat.cells = (xs.flatMap Flat.cells).set (i * Flat.sz α + j) u := by
  induction xs generalizing i with
  | nil => simp at hx
  | cons y xs ih =>
    cases i with
    | zero =>
      simp only [List.getElem?_cons_zero, Option.some.injEq] at hx
      subst hx
      rw [List.set_cons_zero, List.flatMap_cons, List.flatMap_cons, he, Nat.zero_mul, Nat.zero_add, set_append_left _ _ _ _ (by rw [Flat.len]; exact hj)]
    | succ i =>
      rw [List.set_cons_succ, List.flatMap_cons, List.flatMap_cons, ih i (by simpa using hx), List.set_append, Flat.len, if_neg (by rw [Nat.add_mul]; omega)]
      congr 2
      rw [Nat.add_mul]; omega
theorem Ow.stored (h : Ow w base e (.slice (some ⟨g, 0, none⟩) n cap) xs) {i : Nat} {x x' : α} (hx : xs[i]? = some x) (j : Nat) (u : Value) (hj : j < Flat.sz α) (he : Flat.cells x' = (Flat.cells x).set j u) :
    Ow (w.setCell ⟨g, i * Flat.sz α + j, none⟩ u) base e (.slice (some ⟨g, 0, none⟩) n cap) (xs.set i x') := by
  have hi := (List.getElem?_eq_some_iff.1 hx).1
  have hlen := h.eqLen
  rcases h.2 with ⟨hv, _⟩ | ⟨g', cap', cur, hv, hb, hh, hnc, hcm, hcs, htk⟩
  · cases hv
  · injection hv with hv1 _ hv3
    injection hv1 with hv1
    injection hv1 with hv1
    subst hv1 hv3
    have hlt : i * Flat.sz α + j < xs.length * Flat.sz α := by
      have : (i + 1) * Flat.sz α ≤ xs.length * Flat.sz α := Nat.mul_le_mul_right _ hi
      rw [Nat.add_mul] at this; omega
    have h1 : (w.setCell ⟨g, i * Flat.sz α + j, none⟩ u).heap[g]? = some (.cells (cur.setIfInBounds (i * Flat.sz α + j) u) e (0, 0)) := by
      simp [World.setCell, Array.getElem?_modify, hh]
    unfold Ow
    rw [List.length_set]
    refine ⟨by rw [flat_len, List.length_set], .inr ⟨g, cap, cur.setIfInBounds (i * Flat.sz α + j) u, by rw [hlen], hb, h1, hnc, hcm, by simpa using hcs, ?_⟩⟩
    rw [flat_set xs i x x' hx j u hj he, ← htk, Array.toList_setIfInBounds, List.take_set]
theorem Upd.stored {v : Value} {w0 : World} (h : Upd w0 w v (.slice (some ⟨g, 0, none⟩) n cap)) (o : Nat) (u : Value) : Upd w0 (w.setCell ⟨g, o, none⟩ u) v (.slice (some ⟨g, 0, none⟩) n cap) := by
  refine h.trans ⟨⟨rfl, rfl, rfl, by simp [World.setCell], fun k hk hne => Below.heap_setCell _ _ _ _ (fun e => hne ?_)⟩, .inl rfl⟩
  rw [e]; rfl
end
theorem Sl.new {α : Type} [Flat α] (w : World) (cs : Array Value) (e : TypeId) (g : Nat) (hg : g = w.heap.size) (xs : List α) (n : Nat) (hn : xs.length = n) (hm : n ≤ maxLen) (hcs : cs.toList = xs.flatMap Flat.cells) : Sl (w.alloc (.cells cs e)) (some ⟨g, 0, none⟩) n n xs := by
  refine ⟨hn, Nat.le_refl _, hm, fun _ => ⟨g, 0, rfl, by rw [hg]; simp, fun i x hx j v hv => ?_⟩⟩
  have h1 := flat_get xs i x hx j v hv
  rw [← hcs] at h1
  have := cells_new w cs e g (i * Flat.sz α + j) hg v h1
  rw [add_mk] at this
  rw [Nat.add_assoc]
  exact this
theorem blk_setCell {w : World} {g : Nat} {cs : Array Value} {t : TypeId} (h : w.heap[g]? = some (.cells cs t (0, 0))) (j : Nat) (u : Value) : (w.setCell ⟨g, j, none⟩ u).heap[g]? = some (.cells (cs.setIfInBounds j u) t (0, 0)) := by
  simp [World.setCell, Array.getElem?_modify, h]
theorem Ow.setFar {α : Type} [Flat α] {w : World} {base : Nat} {e : TypeId} {v : Value} {xs : List α} (h : Ow w base e v xs) {p : Addr} (hp : v.ownBlock ≠ some p.block) (u : Value) : Ow (w.setCell p u) base e v xs := by
  refine World.ownsRow.kept (row := some p.block) h ⟨rfl, rfl, rfl, by simp [World.setCell], fun k hk hne => Below.heap_setCell _ _ _ _ (fun e => hne (by rw [e]))⟩ (.inr hp)
end Go.Proofs.Yteaanngagcflhaa
namespace Go.Proofs.Yteaanngagcflhaa
open Go.RowKit
section
variable {α : Type} [Flat α]
theorem Sl.takeK {w : World} {A : Option Addr} {n c : Nat} {xs : List α} (h : Sl w A n c xs) {k : Nat} (hk : k ≤ n) : Sl w A k c (xs.take k) := by
  refine ⟨by rw [List.length_take, h.len]; omega, Nat.le_trans hk h.le, h.2.2.1, fun h0 => ?_⟩
  obtain ⟨b, off, e, hb, hc⟩ := h.base (by omega)
  refine ⟨b, off, e, hb, fun i x hx j u hu => ?_⟩
  rw [List.getElem?_take] at hx
  split at hx
  · exact hc i x hx j u hu
  · cases hx
end
theorem Sl.dropG {α : Type} [Flat α] {w : World} {A : Option Addr} {n c : Nat} {xs : List α} (h : Sl w A n c xs) {k : Nat} (hk : k ≤ n) : Sl w (if c = k then A else A.map (·.add (k * Flat.sz α))) (n - k) (c - k) (xs.drop k) := by
  have hle := h.le
  refine ⟨by rw [List.length_drop, h.len], by omega, by have := h.2.2.1; omega, fun h0 => ?_⟩
  obtain ⟨b, off, e, hb, hc⟩ := h.base (by omega)
  subst e
  refine ⟨b, off + k * Flat.sz α, by rw [if_neg (by omega)]; simp [Addr.add], hb, fun i x hx j u hu => ?_⟩
  rw [List.getElem?_drop] at hx
  have h1 := hc _ x hx j u hu
  rw [Nat.add_mul] at h1
  rw [Nat.add_assoc off]
  exact h1
theorem Ow.slN {α : Type} [Flat α] {w : World} {base : Nat} {e : TypeId} {v : Value} {xs : List α} (h : Ow w base e v xs) : ∃ A c, v = .slice A xs.length c ∧ (A = none → c = 0) ∧ Sl w A xs.length c xs := by
  obtain ⟨A, c, hv, hs⟩ := h.sl
  refine ⟨A, c, hv, fun hA => ?_, hs⟩
  subst hA
  rcases h.2 with ⟨h1, _⟩ | ⟨g, cap, cur, h1, _⟩
  · rw [hv] at h1
    injection h1
  · rw [hv] at h1
    injection h1 with h1
    cases h1
theorem run_size {P : Program} {e : TypeId} {sz : Nat} (hi : (P.info? e).map (·.size) = some sz) (w : World) : (sizeOf e).run P w = .ok sz w := by
  cases hq : P.info? e with
  | none => simp [hq] at hi
  | some i =>
    have : i.size = sz := by simpa [hq] using hi
    simp [sizeOf, run_typeInfo w hq, this]
theorem run_slice_to {P : Program} {A : Option Addr} {n c k : Nat} {t : TypeId} {sz : Nat} (ht : P.underlying t = some (.slice (P.elem t))) (hi : (P.info? (P.elem t)).map (·.size) = some sz) (hk : k ≤ c) (w : World) :
    (Instr.slice t (.slice A n c) none (some (.int .i64 (k : Int))) none).run P w = .ok (.slice A k c) w := by
  rw [run_slice_h w t A n c ht .i64 (k : Int) (by omega) (by omega), run_size hi]
  have hA : (if c = 0 then A else A.map (fun x => x.add (0 * sz))) = A := by
    split
    · rfl
    · cases A <;> simp [Addr.add]
  simp [Result.andThen, sliced]
  cases A <;> simp [Addr.add]
theorem run_slice_from {P : Program} {A : Option Addr} {n c k : Nat} {t : TypeId} {sz : Nat} (ht : P.underlying t = some (.slice (P.elem t))) (hi : (P.info? (P.elem t)).map (·.size) = some sz) (hk : k ≤ n) (w : World) :
    (Instr.slice t (.slice A n c) (some (.int .i64 (k : Int))) none none).run P w = .ok (.slice (if c = k then A else A.map (·.add (k * sz))) (n - k) (c - k)) w := by
  rw [run_slice_l w t A n c ht .i64 (k : Int) (by omega) (by omega), run_size hi]
  simp [Result.andThen, sliced]
theorem append_run {α : Type} [Flat α] {P : Program} (w : World) (t ty : TypeId) (base : Nat) (e : TypeId) (z : Value) (bytes : Nat) (ht : P.underlying t = some (.slice e)) (hi : (P.info? e).map (fun i => (i.zero, i.size, i.bytes)) = some (some z, Flat.sz α, bytes)) (hzs : z.cells.size = Flat.sz α)
    (v : Value) (xs : List α) (hown : Ow w base e v xs)
    (A : Option Addr) (m c : Nat) (ys : List α) (hnil : A = none → c = 0) (hsl : Sl w A m c ys)
    (hlen : xs.length + m ≤ 2000000) (hby : bytes ≤ 4096) (hbase : base ≤ w.heap.size) :
    ∃ v' w', (Builtin.append_ #[t, t] ty #[v, .slice A m c]).run P w = .ok v' w' ∧ Ow w' base e v' (xs ++ ys) ∧ Upd w w' v v' := by
  obtain ⟨i, hi0, hz0, hz1, hz2⟩ := info_parts hi
  cases A with
  | none =>
    obtain ⟨rfl, rfl⟩ := hsl.none_
    obtain rfl := hnil rfl
    exact ⟨v, w, run_append_owned_none (P := P) (w := w) base t ty e i (Flat.sz α) ht hi0 v xs.length _ hown, by simpa using hown, Upd.refl w v⟩
  | some ad =>
    have hm : ys.length = m := hsl.len
    have hbytes : (xs.length + m) * bytes ≤ 140737488355328 := by
      have : (xs.length + m) * bytes ≤ 2000000 * 4096 := Nat.mul_le_mul hlen hby
      omega
    obtain ⟨v', w', hr, h1, h2, _, h4⟩ := run_append_own_at (P := P) w base t ty e i z (Flat.sz α) bytes ht hi0 hz0 hz1 hz2 hzs Flat.pos v xs.length _ hown ad m c (ys.flatMap Flat.cells) (by rw [flat_len, hm]) hsl.cells (flat_one ys)
      (by unfold maxLen; omega) hbytes hbase
    refine ⟨v', w', hr, ?_, h2, ?_⟩
    · unfold Ow
      rw [List.length_append, List.flatMap_append, hm]
      exact h1
    · rcases h4 with h4 | h4
      · exact .inl h4
      · exact .inr ⟨_, h4, Nat.le_refl _⟩
theorem step_append {α : Type} [Flat α] {P : Program} {ops : Array Oper} {o : Oper} {a : Act} {w : World} {K : Act → World → Prop} {Q : Exit → Act → World → Prop} {E : Prop} (hgd : o.guard = none) (s x : Operand) (t : TypeId)
    (ho : o.op = .call { callee := .builtin .append, args := #[s, x], argTypes := #[t, t] })
    (base : Nat) (e : TypeId) (z : Value) (bytes : Nat) (ht : P.underlying t = some (.slice e)) (hi : (P.info? e).map (fun i => (i.zero, i.size, i.bytes)) = some (some z, Flat.sz α, bytes)) (hzs : z.cells.size = Flat.sz α)
    (v : Value) (xs : List α) (hs : a.eval s = v) (hown : Ow w base e v xs)
    (A : Option Addr) (m c : Nat) (ys : List α) (hx : a.eval x = .slice A m c) (hnil : A = none → c = 0) (hsl : Sl w A m c ys)
    (hlen : xs.length + m ≤ 2000000) (hby : bytes ≤ 4096) (hbase : base ≤ w.heap.size)
    (h : ∀ v' w', Ow w' base e v' (xs ++ ys) → Upd w w' v v' → K (a.put o.dst v') w') :
    if Region.wanted o (yielded ops a.tmps) = true then Oper.wp P o a w K Q else E := by
  have hw : Region.wanted o (yielded ops a.tmps) = true := by simp [Region.wanted, hgd]
  rw [if_pos hw]
  obtain ⟨v', w', hr, h1, h2⟩ := append_run w t o.type base e z bytes ht hi hzs v xs hown A m c ys hnil hsl hlen hby hbase
  unfold Oper.wp execOp
  simp only [ho, resolve, invoke, builtin, Sem.run_bind, Sem.run_pure, Result.andThen_ok, List.map_toArray, List.map_cons, List.map_nil, hs, hx, hr]
  exact h v' w' h1 h2
end Go.Proofs.Yteaanngagcflhaa
