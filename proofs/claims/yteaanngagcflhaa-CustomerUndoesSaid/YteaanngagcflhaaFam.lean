/-
  Values in memory whose blocks lie in a set: what keeps them; rows of such values. No condition.
-/
import Derived.Test.YteaanngagcflhaaSlc
set_option maxRecDepth 100000
set_option linter.unusedVariables false
set_option linter.unusedSimpArgs false
namespace Go.Proofs.Yteaanngagcflhaa
open Go.RowKit
/-- a later world that agrees on the blocks of a set -/
def Keeps (p : Nat → Prop) (w w' : World) : Prop := w.heap.size ≤ w'.heap.size ∧ ∀ b o, p b → b < w.heap.size → w'.cell? ⟨b, o, none⟩ = w.cell? ⟨b, o, none⟩
theorem Keeps.ofBelow {p : Nat → Prop} {w w' : World} (h : Below w.heap.size w w') : Keeps p w w' := ⟨h.size, fun b o _ hl => h.cell (p := ⟨b, o, none⟩) hl⟩
theorem Keeps.ofUpd {p : Nat → Prop} {w w' : World} {v v' : Value} (h : Upd w w' v v') (hp : ∀ b, p b → v.ownBlock ≠ some b) : Keeps p w w' :=
  ⟨h.size, fun b o hb hl => World.cell?_of_block (a := ⟨b, o, none⟩) (h.grew.block b hl (fun e => hp b hb e.symm))⟩
theorem Keeps.ofSet {p : Nat → Prop} {w : World} {g o : Nat} {u : Value} (hp : ∀ b, p b → b ≠ g) : Keeps p w (w.setCell ⟨g, o, none⟩ u) :=
  ⟨by simp [World.setCell], fun b o' hb _ => World.cell?_setCell_other _ _ _ _ (fun e => by injection e with e1 e2; exact hp b hb e1.symm)⟩
theorem Keeps.refl_ {p : Nat → Prop} {w : World} : Keeps p w w := ⟨Nat.le_refl _, fun _ _ _ _ => rfl⟩
theorem Keeps.trans {p : Nat → Prop} {w w1 w2 : World} (h : Keeps p w w1) (k : Keeps p w1 w2) : Keeps p w w2 := ⟨Nat.le_trans h.1 k.1, fun b o hb hl => (k.2 b o hb (Nat.lt_of_lt_of_le hl h.1)).trans (h.2 b o hb hl)⟩
/-- the block of a slice that is not empty lies in a set -/
def OkA (p : Nat → Prop) (A : Option Addr) (n : Nat) : Prop := 0 < n → ∀ b off, A = some ⟨b, off, none⟩ → p b
theorem OkA.mono {p q : Nat → Prop} {A : Option Addr} {n : Nat} (h : OkA p A n) (k : ∀ b, p b → q b) : OkA q A n := fun hn b off e => k b (h hn b off e)
theorem OkA.nil_ {p : Nat → Prop} : OkA p none 0 := fun h => absurd h (by omega)
theorem OkA.own {base : Nat} {A : Option Addr} {n c m : Nat} (h : ∀ k, (Value.slice A n c).ownBlock = some k → base ≤ k) : OkA (fun b => base ≤ b) A m := fun _ b off e => h b (by rw [e]; rfl)
theorem Sl.keepP {α : Type} [Flat α] {p : Nat → Prop} {w w' : World} {A : Option Addr} {n c : Nat} {xs : List α} (h : Sl w A n c xs) (ho : OkA p A n) (k : Keeps p w w') : Sl w' A n c xs :=
  ⟨h.1, h.2.1, h.2.2.1, fun hn => by
    obtain ⟨b, off, e, hb, hc⟩ := h.2.2.2 hn
    exact ⟨b, off, e, Nat.lt_of_lt_of_le hb k.1, fun i x hx j v hv => (k.2 _ _ (ho hn b off e) hb).trans (hc i x hx j v hv)⟩⟩
theorem Sl.okLt {α : Type} [Flat α] {p : Nat → Prop} {w : World} {A : Option Addr} {n c : Nat} {xs : List α} (h : Sl w A n c xs) (ho : OkA p A n) : OkA (fun b => p b ∧ b < w.heap.size) A n := fun hn b off e => by
  obtain ⟨b', off', e', hb, _⟩ := h.2.2.2 hn
  rw [e] at e'
  cases e'
  exact ⟨ho hn b off e, hb⟩
/-- a kind of values that lie in memory -/
structure Fam {α β : Type} (R : World → (Nat → Prop) → α → β → Prop) : Prop where
  mono : ∀ {w : World} {p q : Nat → Prop} {x : α} {y : β}, R w p x y → (∀ b, p b → q b) → R w q x y
  keep : ∀ {w w' : World} {p : Nat → Prop} {x : α} {y : β}, R w p x y → Keeps p w w' → R w' p x y
  lt : ∀ {w : World} {p : Nat → Prop} {x : α} {y : β}, R w p x y → R w (fun b => p b ∧ b < w.heap.size) x y

/-! ### two lists, item by item -/
def All2 {α β : Type} (R : α → β → Prop) (xs : List α) (ys : List β) : Prop := xs.length = ys.length ∧ ∀ (i : Nat) (x : α) (y : β), xs[i]? = some x → ys[i]? = some y → R x y
theorem All2.nil_ {α β : Type} {R : α → β → Prop} : All2 R [] [] := ⟨rfl, fun i x y h => by simp at h⟩
theorem All2.imp {α β : Type} {R S : α → β → Prop} {xs : List α} {ys : List β} (h : All2 R xs ys) (k : ∀ x y, R x y → S x y) : All2 S xs ys := ⟨h.1, fun i x y hx hy => k _ _ (h.2 i x y hx hy)⟩
theorem All2.snoc {α β : Type} {R : α → β → Prop} {xs : List α} {ys : List β} (h : All2 R xs ys) {x : α} {y : β} (k : R x y) : All2 R (xs ++ [x]) (ys ++ [y]) := by
  refine ⟨by simp [h.1], fun i u v hu hv => ?_⟩
  rw [List.getElem?_append] at hu hv
  rw [h.1] at hu
  split at hu
  · rename_i hi
    rw [if_pos hi] at hv
    exact h.2 i u v hu hv
  · rename_i hi
    rw [if_neg hi] at hv
    have : i - ys.length = 0 := by
      have := (List.getElem?_eq_some_iff.1 hv).1
      simp at this
      omega
    rw [this] at hu hv
    simp at hu hv
    subst hu hv
    exact k
theorem All2.at_ {α β : Type} {R : α → β → Prop} {xs : List α} {ys : List β} (h : All2 R xs ys) {i : Nat} {x : α} (hx : xs[i]? = some x) : ∃ y, ys[i]? = some y ∧ R x y := by
  have hi := (List.getElem?_eq_some_iff.1 hx).1
  have e : ys[i]? = some (ys[i]'(by rw [← h.1]; exact hi)) := List.getElem?_eq_getElem _
  exact ⟨_, e, h.2 i x _ hx e⟩
theorem All2.mem_ {α β : Type} {R : α → β → Prop} {xs : List α} {ys : List β} (h : All2 R xs ys) {x : α} (hx : x ∈ xs) : ∃ y ∈ ys, R x y := by
  obtain ⟨i, hi⟩ := List.getElem?_of_mem hx
  obtain ⟨y, hy, hr⟩ := h.at_ hi
  exact ⟨y, List.mem_of_getElem? hy, hr⟩
theorem All2.take_ {α β : Type} {R : α → β → Prop} {xs : List α} {ys : List β} (h : All2 R xs ys) (k : Nat) : All2 R (xs.take k) (ys.take k) := by
  refine ⟨by simp [h.1], fun i x y hx hy => ?_⟩
  rw [List.getElem?_take] at hx hy
  split at hx
  · rename_i hk
    rw [if_pos hk] at hy
    exact h.2 i x y hx hy
  · cases hx
theorem All2.drop_ {α β : Type} {R : α → β → Prop} {xs : List α} {ys : List β} (h : All2 R xs ys) (k : Nat) : All2 R (xs.drop k) (ys.drop k) := by
  refine ⟨by simp [h.1], fun i x y hx hy => ?_⟩
  rw [List.getElem?_drop] at hx hy
  exact h.2 _ x y hx hy
theorem All2.app {α β : Type} {R : α → β → Prop} {xs xs' : List α} {ys ys' : List β} (h : All2 R xs ys) (k : All2 R xs' ys') : All2 R (xs ++ xs') (ys ++ ys') := by
  refine ⟨by simp [h.1, k.1], fun i u v hu hv => ?_⟩
  rw [List.getElem?_append] at hu hv
  rw [h.1] at hu
  split at hu
  · rename_i hi
    rw [if_pos hi] at hv
    exact h.2 i u v hu hv
  · rename_i hi
    rw [if_neg hi] at hv
    exact k.2 _ u v hu hv
theorem All2.map_eq {α β γ : Type} {R : α → β → Prop} {xs : List α} {ys : List β} {f : α → γ} {g : β → γ} (h : All2 R xs ys) (k : ∀ x y, x ∈ xs → R x y → f x = g y) : xs.map f = ys.map g := by
  refine List.ext_getElem? fun i => ?_
  rw [List.getElem?_map, List.getElem?_map]
  by_cases hi : i < xs.length
  · have e : xs[i]? = some xs[i] := List.getElem?_eq_getElem hi
    obtain ⟨y, hy, hr⟩ := h.at_ e
    rw [e, hy]
    exact congrArg some (k _ _ (List.getElem_mem hi) hr)
  · rw [List.getElem?_eq_none (by omega), List.getElem?_eq_none (by have := h.1; omega)]; rfl

/-! ### rows of such values: a row of the call's own, and items that lie beside it -/
section
variable {α β : Type} {R : World → (Nat → Prop) → α → β → Prop} {base : Nat} {w w' : World} {v v' : Value} {xs : List α} {ys : List β}
def Rowed (R : World → (Nat → Prop) → α → β → Prop) (base : Nat) (w : World) (v : Value) (xs : List α) (ys : List β) : Prop := All2 (R w fun b => base ≤ b ∧ v.ownBlock ≠ some b) xs ys
theorem Rowed.nil_ : Rowed R base w v [] [] := All2.nil_
theorem Rowed.below (hF : Fam R) (h : Rowed R base w v xs ys) (hb : Below w.heap.size w w') : Rowed R base w' v xs ys := h.imp fun _ _ k => hF.keep k (Keeps.ofBelow hb)
theorem Rowed.keep (hF : Fam R) (h : Rowed R base w v xs ys) (hk : Keeps (fun b => base ≤ b ∧ v.ownBlock ≠ some b) w w') : Rowed R base w' v xs ys := h.imp fun _ _ k => hF.keep k hk
theorem Rowed.upd (hF : Fam R) (h : Rowed R base w v xs ys) (hu : Upd w w' v v') : Rowed R base w' v' xs ys :=
  h.imp fun _ _ k => hF.mono (hF.keep (hF.lt k) (Keeps.ofUpd hu fun b hb => hb.1.2)) fun b hb => ⟨hb.1.1, by
    rcases hu.at_ with e | ⟨g, e, hg⟩
    · rw [e]; exact hb.1.2
    · rw [e]; intro e2; injection e2 with e2; omega⟩
/-- the update of a row that lies beside the items -/
theorem Rowed.other (hF : Fam R) (h : Rowed R base w v xs ys) {u u' : Value} (hu : Upd w w' u u') (hap : ∀ g, u.ownBlock = some g → g < base) : Rowed R base w' v xs ys :=
  h.imp fun _ _ k => hF.keep k (Keeps.ofUpd hu fun b hb e => by have := hap b e; omega)
theorem Rowed.snoc (hF : Fam R) (h : Rowed R base w v xs ys) {x : α} {y : β} {B : Nat} (hB : base ≤ B) (hv : ∀ g, v.ownBlock = some g → g < B) (k : R w (fun b => B ≤ b) x y) : Rowed R base w v (xs ++ [x]) (ys ++ [y]) :=
  All2.snoc h (hF.mono k fun b hb => ⟨by omega, fun e => by have := hv b e; omega⟩)
end
theorem Ow.okA {α : Type} [Flat α] {base : Nat} {w : World} {e : TypeId} {A : Option Addr} {n c : Nat} {xs : List α} (h : Ow w base e (.slice A n c) xs) : OkA (fun b => base ≤ b) A n := OkA.own fun k hk => (h.lt k hk).1
/-- append of a readable slice, its bytes bounded -/
theorem wpl_appendB {α : Type} [Flat α] {P : Program} (w : World) {ops : Array Oper} {rest : List Oper} {o : Oper} {a : Act} {Q : Exit → Act → World → Prop} (hgd : o.guard = none) (s x : Operand) (t : TypeId)
    (ho : o.op = .call { callee := .builtin .append, args := #[s, x], argTypes := #[t, t] })
    (base : Nat) (e : TypeId) (z : Value) (bytes : Nat) (ht : P.underlying t = some (.slice e)) (hi : (P.info? e).map (fun i => (i.zero, i.size, i.bytes)) = some (some z, Flat.sz α, bytes)) (hzs : z.cells.size = Flat.sz α)
    (v : Value) (xs : List α) (hs : a.eval s = v) (hown : Ow w base e v xs)
    (A : Option Addr) (m c : Nat) (ys : List α) (hx : a.eval x = .slice A m c) (hnil : A = none → c = 0) (hsl : Sl w A m c ys)
    (hbytes : (xs.length + m) * bytes ≤ 140737488355328) (hmx : xs.length + m ≤ maxLen) (hbase : base ≤ w.heap.size)
    (h : ∀ v' w', Ow w' base e v' (xs ++ ys) → Upd w w' v v' → wpList P ops Q rest (a.put o.dst v') w') : wpList P ops Q (o :: rest) a w := by
  obtain ⟨i, hi0, hz0, hz1, hz2⟩ := info_parts hi
  cases A with
  | none =>
    obtain ⟨rfl, rfl⟩ := hsl.none_
    obtain rfl := hnil rfl
    exact wpList_append_own_none hgd s x t ho base e i (Flat.sz α) ht hi0 v xs.length _ hs hown hx (h v w (by simpa using hown) (Upd.refl w v))
  | some ad =>
    have hm : ys.length = m := hsl.len
    obtain ⟨v', w', hr, h1, h2, _, h4⟩ := run_append_own_at (P := P) w base t o.type e i z (Flat.sz α) bytes ht hi0 hz0 hz1 hz2 hzs Flat.pos v xs.length _ hown ad m c (ys.flatMap Flat.cells) (by rw [flat_len, hm]) hsl.cells (flat_one ys)
      hmx hbytes hbase
    · refine wpList_plain hgd fun K hK => ?_
      unfold Oper.wp execOp
      simp only [ho, resolve, invoke, builtin, Sem.run_bind, Sem.run_pure, Result.andThen_ok, List.map_toArray, List.map_cons, List.map_nil, hs, hx, hr]
      refine hK _ _ (h v' w' ?_ ⟨h2, ?_⟩)
      · unfold Ow
        rw [List.length_append, List.flatMap_append, hm]
        exact h1
      · rcases h4 with h4 | h4
        · exact .inl h4
        · exact .inr ⟨_, h4, Nat.le_refl _⟩

/-! ### a struct stored into a block, and handed back from one -/
def setRun (w : World) (g : Nat) : Nat → List Value → World
  | _, [] => w
  | o, v :: vs => setRun (w.setCell ⟨g, o, none⟩ v) g (o + 1) vs
theorem setRun_far : ∀ (vs : List Value) (w : World) (g o b o' : Nat), (b ≠ g ∨ o' < o ∨ o + vs.length ≤ o') → (setRun w g o vs).cell? ⟨b, o', none⟩ = w.cell? ⟨b, o', none⟩
  | [], _, _, _, _, _, _ => rfl
  | v :: vs, w, g, o, b, o', h => by
    rw [List.length_cons] at h
    unfold setRun
    rw [setRun_far vs _ g (o + 1) b o' (by omega)]
    exact World.cell?_setCell_other _ _ _ _ (fun e => by injection e with e1 e2; omega)
theorem setRun_at : ∀ (vs : List Value) (w : World) (g o : Nat) (old : List Value), (∀ j u, old[j]? = some u → w.cell? ⟨g, o + j, none⟩ = some u) → vs.length ≤ old.length → ∀ j u, vs[j]? = some u → (setRun w g o vs).cell? ⟨g, o + j, none⟩ = some u
  | [], _, _, _, _, _, _, _, _, h => by simp at h
  | v :: vs, w, g, o, [], _, hl, _, _, _ => by simp at hl
  | v :: vs, w, g, o, x :: old, hold, hl, j, u, h => by
    unfold setRun
    cases j with
    | zero =>
      rw [setRun_far vs _ g (o + 1) g (o + 0) (by omega)]
      simp only [List.getElem?_cons_zero, Option.some.injEq] at h
      subst h
      exact World.cell?_setCell_same _ _ _ (hold 0 x rfl)
    | succ j =>
      have h1 := setRun_at vs (w.setCell ⟨g, o, none⟩ v) g (o + 1) old (fun j u hu => by
        have := hold (j + 1) u (by simpa using hu)
        rw [World.cell?_setCell_other _ _ _ _ (fun e => by injection e with e1 e2; omega), show o + 1 + j = o + (j + 1) by omega]
        exact this) (by simpa using hl) j u (by simpa using h)
      rw [show o + (j + 1) = o + 1 + j by omega]
      exact h1
theorem setRun_below : ∀ (vs : List Value) {B : Nat} {w0 w : World} (g o : Nat), Below B w0 w → B ≤ g → Below B w0 (setRun w g o vs)
  | [], _, _, _, _, _, h, _ => h
  | v :: vs, _, _, _, g, o, h, hg => setRun_below vs g (o + 1) (h.setCell hg v) hg
theorem setRun_keeps : ∀ (vs : List Value) {p : Nat → Prop} {w : World} (g o : Nat), (∀ b, p b → b ≠ g) → Keeps p w (setRun w g o vs)
  | [], _, _, _, _, _ => Keeps.refl_
  | v :: vs, _, _, g, o, h => (Keeps.ofSet h).trans (setRun_keeps vs g (o + 1) h)
theorem setRun_size : ∀ (vs : List Value) (w : World) (g o : Nat), (setRun w g o vs).heap.size = w.heap.size
  | [], _, _, _ => rfl
  | v :: vs, w, g, o => by unfold setRun; rw [setRun_size vs]; simp [World.setCell]
theorem results_cells {P : Program} {fn : Func} {p : Tmp} {ty : TypeId} (h : fn.results = #[.cell p ty]) (tmps : Array Value) (w : World) (g : Nat) (cs : Array Value) (d : TypeDesc)
    (hp : tmps.getD p undef = .pointer (some ⟨g, 0, none⟩)) (hc : ∀ j v, cs.toList[j]? = some v → w.cell? ⟨g, j, none⟩ = some v)
    (hu : P.underlying ty = some d) (hd : (match d with | .struct _ | .array _ _ => true | _ => false) = true) (hi : (P.info? ty).map (·.size) = some cs.size) :
    (results fn tmps).run P w = .ok (.agg cs) w := by
  have hp' : tmps[p]?.getD undef = .pointer (some ⟨g, 0, none⟩) := by simpa using hp
  have hl : (loadCells ⟨g, 0, none⟩ cs.toList.length).run P w = .ok cs.toList.toArray w :=
    run_loadCells_list (P := P) w ⟨g, 0, none⟩ cs.toList (fun j v hv => by
      have hadd : (⟨g, 0, none⟩ : Addr).add j = ⟨g, j, none⟩ := by unfold Addr.add; split <;> simp_all
      rw [hadd]
      exact hc j v hv)
  cases hq : P.info? ty with
  | none => simp [hq] at hi
  | some i =>
    have hs : i.size = cs.size := by simpa [hq] using hi
    have hagg : (isAgg ty).run P w = .ok true w := by
      unfold isAgg
      rw [Sem.run_bind, run_underlying hu w]
      cases d <;> simp_all
    simp only [Array.length_toList, Array.toArray_toList] at hl
    have hrow : (loadVar ty ⟨g, 0, none⟩).run P w = .ok (.agg cs) w := by
      simp [loadVar, Sem.run_bind, hagg, sizeOf, typeInfo, hq, hs, hl]
    simp [results, h, hp', asAddr, hrow]
end Go.Proofs.Yteaanngagcflhaa
