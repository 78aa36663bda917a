/-
  Values in memory whose blocks lie in a set: what keeps them; rows of such values. No condition.
-/
import Derived.Test.YteaanngagcflhaaKc00
import Derived.Maps.OwnSet
import Derived.StringKeys
import Derived.OrdersHeld
import Derived.Lib.Strings
import GoSem.Op.String
set_option maxRecDepth 100000
set_option linter.unusedVariables false
set_option linter.unusedSimpArgs false
namespace Go.Proofs.Yteaanngagcflhaa
open Go.RowKit
def Keeps (p : Nat → Prop) (w w' : World) : Prop := w.heap.size ≤ w'.heap.size ∧ ∀ b o, p b → b < w.heap.size → w'.cell? ⟨b, o, none⟩ = w.cell? ⟨b, o, none⟩
theorem Keeps.ofBelow {p : Nat → Prop} {w w' : World} (h : Below w.heap.size w w') : Keeps p w w' := ⟨h.size, fun b o _ hl => h.cell (p := ⟨b, o, none⟩) hl⟩
theorem Keeps.ofUpd {p : Nat → Prop} {w w' : World} {v v' : Value} (h : Upd w w' v v') (hp : ∀ b, p b → v.ownBlock ≠ some b) : Keeps p w w' :=
  ⟨h.size, fun b o hb hl => World.cell?_of_block (a := ⟨b, o, none⟩) (h.grew.block b hl (fun e => hp b hb e.symm))⟩
theorem Keeps.ofSet {p : Nat → Prop} {w : World} {g o : Nat} {u : Value} (hp : ∀ b, p b → b ≠ g) : Keeps p w (w.setCell ⟨g, o, none⟩ u) :=
  ⟨by simp [World.setCell], fun b o' hb _ => World.cell?_setCell_other _ _ _ _ (fun e => by injection e with e1 e2; exact hp b hb e1.symm)⟩
theorem Keeps.refl_ {p : Nat → Prop} {w : World} : Keeps p w w := ⟨Nat.le_refl _, fun _ _ _ _ => rfl⟩
theorem Keeps.trans {p : Nat → Prop} {w w1 w2 : World} (h : Keeps p w w1) (k : Keeps p w1 w2) : Keeps p w w2 := ⟨Nat.le_trans h.1 k.1, fun b o hb hl => (k.2 b o hb (Nat.lt_of_lt_of_le hl h.1)).trans (h.2 b o hb hl)⟩
def OkA (p : Nat → Prop) (A : Option Addr) (n : Nat) : Prop := 0 < n → ∀ b off, A = some ⟨b, off, none⟩ → p b
theorem OkA.mono {p q : Nat → Prop} {A : Option Addr} {n : Nat} (h : OkA p A n) (k : ∀ b, p b → q b) : OkA q A n := fun hn b off e => k b (h hn b off e)
theorem OkA.nil_ {p : Nat → Prop} : OkA p none 0 := fun h => absurd h (by omega)
theorem OkA.own {base : Nat} {A : Option Addr} {n c m : Nat} (h : ∀ k, (Value.slice A n c).ownBlock = some k → base ≤ k) : OkA (fun b => base ≤ b) A m := fun _ b off e => h b (by rw [e]; rfl)
theorem Sl.keepP {α : Type} [Flat α] {p : Nat → Prop} {w w' : World} {A : Option Addr} {n c : Nat} {xs : List α} (h : Sl w A n c xs) (ho : OkA p A n) (k : Keeps p w w') : Sl w' A n c xs :=
  ⟨h.1, h.2.1, h.2.2.1, fun hn => by
    obtain ⟨b, off, e, hb, hc⟩ := h.2.2.2 hn
    exact ⟨b, off, e, Nat.lt_of_lt_of_le hb k.1, fun i x hx j v hv => (k.2 _ _ (ho hn b off e) hb).trans (hc i x hx j v hv)⟩⟩
theorem Sl.okLt {α : Type} [Flat α] {p : Nat → Prop} {w : World} {A : Option Addr} {n c : Nat} {xs : List α} (h : Sl w A n c xs) (ho : OkA p A n) : OkA (fun b => p b ∧ b < w.heap.size) A n := fun hn b off e => by
  obtain ⟨b', off', e', hb, _⟩ := h.2.2.2 hn
  rw [e] at e'
  cases e'
  exact ⟨ho hn b off e, hb⟩
structure Fam {α β : Type} (R : World → (Nat → Prop) → α → β → Prop) : Prop where
  mono : ∀ {w : World} {p q : Nat → Prop} {x : α} {y : β}, R w p x y → (∀ b, p b → q b) → R w q x y
  keep : ∀ {w w' : World} {p : Nat → Prop} {x : α} {y : β}, R w p x y → Keeps p w w' → R w' p x y
  lt : ∀ {w : World} {p : Nat → Prop} {x : α} {y : β}, R w p x y → R w (fun b => p b ∧ b < w.heap.size) x y
def All2 {α β : Type} (R : α → β → Prop) (xs : List α) (ys : List β) : Prop := xs.length = ys.length ∧ ∀ (i : Nat) (x : α) (y : β), xs[i]? = some x → ys[i]? = some y → R x y
theorem All2.nil_ {α β : Type} {R : α → β → Prop} : All2 R [] [] := ⟨rfl, fun i x y h => by simp at h⟩
theorem All2.imp {α β : Type} {R S : α → β → Prop} {xs : List α} {ys : List β} (h : All2 R xs ys) (k : ∀ x y, R x y → S x y) : All2 S xs ys := ⟨h.1, fun i x y hx hy => k _ _ (h.2 i x y hx hy)⟩
theorem All2.snoc {α β : Type} {R : α → β → Prop} {xs : List α} {ys : List β} (h : All2 R xs ys) {x : α} {y : β} (k : R x y) : All2 R (xs ++ [x]) (ys ++ [y]) := by
  refine ⟨by simp [h.1], fun i u v hu hv => ?_⟩
  rw [List.getElem?_append] at hu hv
  rw [h.1] at hu
  split at hu
  · rename_i hi
    rw [if_pos hi] at hv
    exact h.2 i u v hu hv
  · rename_i hi
    rw [if_neg hi] at hv
    have : i - ys.length = 0 := by
      have := (List.getElem?_eq_some_iff.1 hv).1
      simp at this
      omega
    rw [this] at hu hv
    simp at hu hv
    subst hu hv
    exact k
theorem All2.at_ {α β : Type} {R : α → β → Prop} {xs : List α} {ys : List β} (h : All2 R xs ys) {i : Nat} {x : α} (hx : xs[i]? = some x) : ∃ y, ys[i]? = some y ∧ R x y := by
  have hi := (List.getElem?_eq_some_iff.1 hx).1
  have e : ys[i]? = some (ys[i]'(by rw [← h.1]; exact hi)) := List.getElem?_eq_getElem _
  exact ⟨_, e, h.2 i x _ hx e⟩
theorem All2.app {α β : Type} {R : α → β → Prop} {xs xs' : List α} {ys ys' : List β} (h : All2 R xs ys) (k : All2 R xs' ys') : All2 R (xs ++ xs') (ys ++ ys') := by
  refine ⟨by simp [h.1, k.1], fun i u v hu hv => ?_⟩
  rw [List.getElem?_append] at hu hv
  rw [h.1] at hu
  split at hu
  · rename_i hi
    rw [if_pos hi] at hv
    exact h.2 i u v hu hv
  · rename_i hi
    rw [if_neg hi] at hv
    exact k.2 _ u v hu hv
section
variable {α β : Type} {R : World → (Nat → Prop) → α → β → Prop} {base : Nat} {w w' : World} {v v' : Value} {xs : List α} {ys : List β}
def Rowed (R : World → (Nat → Prop) → α → β → Prop) (base : Nat) (w : World) (v : Value) (xs : List α) (ys : List β) : Prop := All2 (R w fun b => base ≤ b ∧ v.ownBlock ≠ some b) xs ys
theorem Rowed.nil_ : Rowed R base w v [] [] := All2.nil_
theorem Rowed.below (hF : Fam R) (h : Rowed R base w v xs ys) (hb : Below w.heap.size w w') : Rowed R base w' v xs ys := h.imp fun _ _ k => hF.keep k (Keeps.ofBelow hb)
theorem Rowed.keep (hF : Fam R) (h : Rowed R base w v xs ys) (hk : Keeps (fun b => base ≤ b ∧ v.ownBlock ≠ some b) w w') : Rowed R base w' v xs ys := h.imp fun _ _ k => hF.keep k hk
theorem Rowed.upd (hF : Fam R) (h : Rowed R base w v xs ys) (hu : Upd w w' v v') : Rowed R base w' v' xs ys :=
  h.imp fun _ _ k => hF.mono (hF.keep (hF.lt k) (Keeps.ofUpd hu fun b hb => hb.1.2)) fun b hb => ⟨hb.1.1, by
    rcases hu.at_ with e | ⟨g, e, hg⟩
    · rw [e]; exact hb.1.2
    · rw [e]; intro e2; injection e2 with e2; omega⟩
theorem Rowed.other (hF : Fam R) (h : Rowed R base w v xs ys) {u u' : Value} (hu : Upd w w' u u') (hap : ∀ g, u.ownBlock = some g → g < base) : Rowed R base w' v xs ys :=
  h.imp fun _ _ k => hF.keep k (Keeps.ofUpd hu fun b hb e => by have := hap b e; omega)
theorem Rowed.snoc (hF : Fam R) (h : Rowed R base w v xs ys) {x : α} {y : β} {B : Nat} (hB : base ≤ B) (hv : ∀ g, v.ownBlock = some g → g < B) (k : R w (fun b => B ≤ b) x y) : Rowed R base w v (xs ++ [x]) (ys ++ [y]) :=
  All2.snoc h (hF.mono k fun b hb => ⟨by omega, fun e => by have := hv b e; omega⟩)
end
theorem Ow.okA {α : Type} [Flat α] {base : Nat} {w : World} {e : TypeId} {A : Option Addr} {n c : Nat} {xs : List α} (h : Ow w base e (.slice A n c) xs) : OkA (fun b => base ≤ b) A n := OkA.own fun k hk => (h.lt k hk).1
def setRun (w : World) (g : Nat) : Nat → List Value → World
  | _, [] => w
  | o, v :: vs => setRun (w.setCell ⟨g, o, none⟩ v) g (o + 1) vs
theorem setRun_far : ∀ (vs : List Value) (w : World) (g o b o' : Nat), (b ≠ g ∨ o' < o ∨ o + vs.length ≤ o') → (setRun w g o vs).cell? ⟨b, o', none⟩ = w.cell? ⟨b, o', none⟩
  | [], _, _, _, _, _, _ => rfl
  | v :: vs, w, g, o, b, o', h => by
    rw [List.length_cons] at h
    unfold setRun
    rw [setRun_far vs _ g (o + 1) b o' (by omega)]
    exact World.cell?_setCell_other _ _ _ _ (fun e => by injection e with e1 e2; omega)
theorem setRun_at : ∀ (vs : List Value) (w : World) (g o : Nat) (old : List Value), (∀ j u, old[j]? = some u → w.cell? ⟨g, o + j, none⟩ = some u) → vs.length ≤ old.length → ∀ j u, vs[j]? = some u → (setRun w g o vs).cell? ⟨g, o + j, none⟩ = some u
  | [], _, _, _, _, _, _, _, _, h => by simp at h
  | v :: vs, w, g, o, [], _, hl, _, _, _ => by simp at hl
  | v :: vs, w, g, o, x :: old, hold, hl, j, u, h => by
    unfold setRun
    cases j with
    | zero =>
      rw [setRun_far vs _ g (o + 1) g (o + 0) (by omega)]
      simp only [List.getElem?_cons_zero, Option.some.injEq] at h
      subst h
      exact World.cell?_setCell_same _ _ _ (hold 0 x rfl)
    | succ j =>
      have h1 := setRun_at vs (w.setCell ⟨g, o, none⟩ v) g (o + 1) old (fun j u hu => by
        have := hold (j + 1) u (by simpa using hu)
        rw [World.cell?_setCell_other _ _ _ _ (fun e => by injection e with e1 e2; omega), show o + 1 + j = o + (j + 1) by omega]
        exact this) (by simpa using hl) j u (by simpa using h)
      rw [show o + (j + 1) = o + 1 + j by omega]
      exact h1
theorem setRun_below : ∀ (vs : List Value) {B : Nat} {w0 w : World} (g o : Nat), Below B w0 w → B ≤ g → Below B w0 (setRun w g o vs)
  | [], _, _, _, _, _, h, _ => h
  | v :: vs, _, _, _, g, o, h, hg => setRun_below vs g (o + 1) (h.setCell hg v) hg
theorem setRun_keeps : ∀ (vs : List Value) {p : Nat → Prop} {w : World} (g o : Nat), (∀ b, p b → b ≠ g) → Keeps p w (setRun w g o vs)
  | [], _, _, _, _, _ => Keeps.refl_
  | v :: vs, _, _, g, o, h => (Keeps.ofSet h).trans (setRun_keeps vs g (o + 1) h)
theorem setRun_size : ∀ (vs : List Value) (w : World) (g o : Nat), (setRun w g o vs).heap.size = w.heap.size
  | [], _, _, _ => rfl
  | v :: vs, w, g, o => by unfold setRun; rw [setRun_size vs]; simp [World.setCell]
theorem results_cells {P : Program} {fn : Func} {p : Tmp} {ty : TypeId} (h : fn.results = #[.cell p ty]) (tmps : Array Value) (w : World) (g : Nat) (cs : Array Value) (d : TypeDesc)
    (hp : tmps.getD p undef = .pointer (some ⟨g, 0, none⟩)) (hc : ∀ j v, cs.toList[j]? = some v → w.cell? ⟨g, j, none⟩ = some v)
    (hu : P.underlying ty = some d) (hd : (match d with | .struct _ | .array _ _ => true | _ => false) = true) (hi : (P.info? ty).map (·.size) = some cs.size) :
    (results fn tmps).run P w = .ok (.agg cs) w := by
  have hp' : tmps[p]?.getD undef = .pointer (some ⟨g, 0, none⟩) := by simpa using hp
  have hl : (loadCells ⟨g, 0, none⟩ cs.toList.length).run P w = .ok cs.toList.toArray w :=
    run_loadCells_list (P := P) w ⟨g, 0, none⟩ cs.toList (fun j v hv => by
      have hadd : (⟨g, 0, none⟩ : Addr).add j = ⟨g, j, none⟩ := by unfold Addr.add; split <;> simp_all
      rw [hadd]
      exact hc j v hv)
  cases hq : P.info? ty with
  | none => simp [hq] at hi
  | some i =>
    have hs : i.size = cs.size := by simpa [hq] using hi
    have hagg : (isAgg ty).run P w = .ok true w := by
      unfold isAgg
      rw [Sem.run_bind, run_underlying hu w]
      cases d <;> simp_all
    simp only [Array.length_toList, Array.toArray_toList] at hl
    have hrow : (loadVar ty ⟨g, 0, none⟩).run P w = .ok (.agg cs) w := by
      simp [loadVar, Sem.run_bind, hagg, sizeOf, typeInfo, hq, hs, hl]
    simp [results, h, hp', asAddr, hrow]
end Go.Proofs.Yteaanngagcflhaa
namespace Go.Proofs.Yteaanngagcflhaa
open Go Go.RowKit
section
variable {P : Program} {md : Region.Mode} {ops : Array Oper} {Q : Exit → Act → World → Prop} {S : World → Prop}
theorem tk (i : Nat) {oi : Oper} {v : Value} {fuel : Nat} {listed : Array Bool} {a : Act} {w : World} (hy : ∀ w, S w → (execOp a.eval oi).run P w = .ok (.value v) w)
    (h : wpAnyH P md ops Q S fuel (listed.setIfInBounds i true) (a.put oi.dst v) w)
    (hi : ops[i]? = some oi := by rfl) (hs : Region.noSelect ops = true := by kernel_rfl) (hf : Region.free md ops listed i = true := by kernel_rfl) (hr : (Region.ready md ops listed).contains i = true := by kernel_rfl)
    (hQ : ∀ c a w, Q (.panic c) (a.put oi.dst v) w → Q (.panic c) a w := by exact fun _ _ _ h => h) (hw : Region.wanted oi (yielded ops a.tmps) = true := by rfl) (hS : S w := by assumption) : wpAnyH P md ops Q S (fuel + 1) listed a w :=
  wpAnyH_take hi hs hf hr hQ (.inl ⟨hw, hy⟩) hS h
theorem tko (i : Nat) {oi : Oper} {fuel : Nat} {listed : Array Bool} {a : Act} {w : World} (h : wpAnyH P md ops Q S fuel (listed.setIfInBounds i true) (a.put oi.dst undef) w)
    (hi : ops[i]? = some oi := by rfl) (hs : Region.noSelect ops = true := by kernel_rfl) (hf : Region.free md ops listed i = true := by kernel_rfl) (hr : (Region.ready md ops listed).contains i = true := by kernel_rfl)
    (hQ : ∀ c a w, Q (.panic c) (a.put oi.dst undef) w → Q (.panic c) a w := by exact fun _ _ _ h => h) (hw : Region.wanted oi (yielded ops a.tmps) = false := by rfl) (hS : S w := by assumption) : wpAnyH P md ops Q S (fuel + 1) listed a w :=
  wpAnyH_take hi hs hf hr hQ (.inr ⟨hw, rfl⟩) hS h
end
instance : Flat Int where
  sz := 1
  cells c := [.int .i64 c]
  len _ := rfl
  one _ := by simp [Value.oneCell']
  pos := by decide
instance : Flat ByteArray where
  sz := 1
  cells s := [.string s]
  len _ := rfl
  one _ := by simp [Value.oneCell']
  pos := by decide
namespace Cu
open Go.Maps
def Rid (v : Value) : Option (DataW Value × List MemPlace) := some (.held v, [])
open Classical in
noncomputable def setM (f : Lit → Option Value) (l : Lit) (v : Option Value) : Lit → Option Value := fun l' => if l' = l then v else f l'
theorem setM_same (f : Lit → Option Value) (l : Lit) (v : Option Value) : setM f l v l = v := if_pos rfl
theorem setM_other (f : Lit → Option Value) {l l' : Lit} (h : l' ≠ l) (v : Option Value) : setM f l v l' = f l' := if_neg h
def Mf (P : Program) (k : TypeId) (w : World) (b n : Nat) (f : Lit → Option Value) : Prop :=
  ∃ D : DataW Value, w.ownsMap P k Rid b n D ∧ ∀ l, KeysOf P k l → Maps.has D l = (f l).isSome ∧ ∀ z, D.atKey l (.held z) = .held ((f l).getD z)
section
variable {P : Program} {k : TypeId} {w w' : World} {b n : Nat} {f g : Lit → Option Value}
theorem Mf.made (w : World) (P : Program) (k : TypeId) : Mf P k (w.alloc (.map #[] 0)) w.heap.size 0 (fun _ => none) := ⟨_, World.ownsMap_made w P k Rid, fun l _ => ⟨rfl, fun z => rfl⟩⟩
theorem Mf.lt (h : Mf P k w b n f) : b < w.heap.size := by obtain ⟨D, hD, _⟩ := h; exact hD.lt
theorem Mf.mono (h : Mf P k w b n f) {m : Nat} (hm : n ≤ m) : Mf P k w b m f := by obtain ⟨D, hD, hf⟩ := h; exact ⟨D, hD.mono hm, hf⟩
theorem Mf.congr (h : Mf P k w b n f) (hfg : ∀ l, KeysOf P k l → f l = g l) : Mf P k w b n g := by
  obtain ⟨D, hD, hf⟩ := h
  exact ⟨D, hD, fun l hl => by rw [← hfg l hl]; exact hf l hl⟩
theorem Mf.kept (h : Mf P k w b n f) {row : Option Nat} (hg : w.grownBy w' row) (hne : some b ≠ row) : Mf P k w' b n f := by
  obtain ⟨D, hD, hf⟩ := h; exact ⟨D, hD.kept hg hne, hf⟩
theorem Mf.below (h : Mf P k w b n f) (hb : Below w.heap.size w w') : Mf P k w' b n f := h.kept (row := none) ⟨hb.os, hb.tape, hb.output, hb.size, fun k hk _ => hb.block k hk⟩ (by simp)
theorem Mf.alloc (h : Mf P k w b n f) (o : Obj) : Mf P k (w.alloc o) b n f := by obtain ⟨D, hD, hf⟩ := h; exact ⟨D, hD.alloc o, hf⟩
theorem Mf.drew (h : Mf P k w b n f) : Mf P k w.drew b n f := h
theorem Mf.setCell (h : Mf P k w b n f) {a : Addr} (ha : b ≠ a.block) (u : Value) : Mf P k (w.setCell a u) b n f := by obtain ⟨D, hD, hf⟩ := h; exact ⟨D, hD.setCell ha u, hf⟩
theorem turned_below {w w' w0 : World} {b B : Nat} (h : w.mapTurned w' b) (hb : Below B w0 w) (hB : B ≤ b) : Below B w0 w' := hb.grown h.grown (by
  obtain ⟨es, clock, es', clock', hh, rfl⟩ := h
  have := (Array.getElem?_eq_some_iff.1 hh).1
  omega) (fun k e => by cases e; exact hB)
theorem turned_cell {w w' : World} {b : Nat} (h : w.mapTurned w' b) (a : Addr) : w'.cell? a = w.cell? a := by
  obtain ⟨es, clock, es', clock', hh, rfl⟩ := h
  by_cases ha : a.block = b
  · have e1 : (Go.ChangeMaps.setBlock w b (Obj.map es' clock')).heap[a.block]? = some (.map es' clock') := by rw [ha]; exact Go.ChangeMaps.heap_setBlock_same hh _
    have e2 : w.heap[a.block]? = some (.map es clock) := by rw [ha]; exact hh
    simp [World.cell?, e1, e2]
  · have e1 : (Go.ChangeMaps.setBlock w b (Obj.map es' clock')).heap[a.block]? = w.heap[a.block]? := Go.ChangeMaps.heap_setBlock_other hh _ ha
    simp only [World.cell?, e1]
theorem turned_keeps {w w' : World} {b : Nat} (h : w.mapTurned w' b) {p : Nat → Prop} : Keeps p w w' := ⟨h.grown.size, fun b o _ _ => turned_cell h _⟩
variable {ops : Array Oper} {rest : List Oper} {o : Oper} {a : Act} {Q : Exit → Act → World → Prop} {t e : TypeId}
theorem store_run (K : Keyed P k) (ht : P.underlying t = some (.map k e)) (h : Mf P k w b n f) (hn : n < maxLen) (key val : Value) (l : Lit) (hkey : keyOf P k key = some l) :
    ∃ w', (Instr.mapUpdate t (.map (some b)) key val).run P w = .ok () w' ∧ Mf P k w' b (n + 1) (setM f l (some val)) ∧ w.mapTurned w' b := by
  obtain ⟨D, hD, hf⟩ := h
  obtain ⟨w', hrun, hD', hturn⟩ := hD.store K ht hn hkey (val := val) (d := .held val) (ps := []) rfl
  refine ⟨w', hrun, ⟨_, hD', fun l' hl' => ?_⟩, hturn⟩
  by_cases he : l' = l
  · subst he
    rw [setM_same]
    exact ⟨has_put_same hD.isMap (K.key hkey) _, fun z => atKey_put_same hD.isMap (K.key hkey) _ _⟩
  · rw [setM_other f he]
    exact ⟨(has_put_other he _).trans (hf l' hl').1, fun z => (atKey_put_other he _ _).trans ((hf l' hl').2 z)⟩
theorem wpl_del (hw : Region.wanted o (yielded ops a.tmps) = true) (m x : Operand) (hop : o.op = Op.call { callee := Callee.builtin Builtin.delete, args := #[m, x], argTypes := #[t, k] }) (K : Keyed P k) (ht : P.underlying t = some (.map k e))
    (hm : a.eval m = .map (some b)) (h : Mf P k w b n f) (key : Value) (l : Lit) (hx : a.eval x = key) (hkey : keyOf P k key = some l)
    (hK : ∀ w', Mf P k w' b n (setM f l none) → w.mapTurned w' b → wpList P ops Q rest (a.put o.dst (.tuple #[])) w') : wpList P ops Q (o :: rest) a w := by
  obtain ⟨D, hD, hf⟩ := h
  obtain ⟨w', hrun, hD', hturn⟩ := hD.drop K ht hkey o.type
  refine wpList_step fun K' hK' => ?_
  rw [if_pos hw]
  unfold Oper.wp
  simp [execOp, hop, resolve, invoke, builtin, hm, hx, hrun, Result.andThen]
  refine hK' _ _ (hK w' ⟨_, hD', fun l' hl' => ?_⟩ hturn)
  by_cases he : l' = l
  · subst he
    rw [setM_same]
    exact ⟨has_del_same, fun z => atKey_del_same _⟩
  · rw [setM_other f he]
    exact ⟨(has_del_other he).trans (hf l' hl').1, fun z => (atKey_del_other he _).trans ((hf l' hl').2 z)⟩
end
end Cu
end Go.Proofs.Yteaanngagcflhaa
namespace Go.Proofs.Yteaanngagcflhaa
open Go.Op (bytesLess)
namespace Dg
def dig (c : UInt8) : Bool := decide (48 ≤ c.toNat) && decide (c.toNat ≤ 57)
def valid (l : List UInt8) : Bool := l.all dig && decide (1 ≤ l.length) && decide (l.length ≤ 15)
def bs (l : List UInt8) : ByteArray := ⟨l.toArray⟩
end Dg
end Go.Proofs.Yteaanngagcflhaa
namespace Go.Proofs.Yteaanngagcflhaa
open Go Go.RowKit
namespace Cu
structure Ev where
  at_ : Int
  kind : Int
  acc : Int
  sub : Int
  num : ByteArray
  name : ByteArray
  val : Int
instance : Flat Ev where
  sz := 7
  cells x := [.int .i64 x.at_, .int .i64 x.kind, .int .i64 x.acc, .int .i64 x.sub, .string x.num, .string x.name, .int .i64 x.val]
  len x := rfl
  one x := by intro v hv; simp at hv; rcases hv with rfl | rfl | rfl | rfl | rfl | rfl | rfl <;> rfl
  pos := by decide
def Ev.v (x : Ev) : Value := .agg #[.int .i64 x.at_, .int .i64 x.kind, .int .i64 x.acc, .int .i64 x.sub, .string x.num, .string x.name, .int .i64 x.val]
structure Ac where
  id : Int
  since : Int
  anchor : Int
  prepaid : Bool
  closed : Bool
structure Sb where
  id : Int
  acc : Int
  since : Int
  plan : ByteArray
  nums : List ByteArray
  prods : List ByteArray
  susp : Bool
  fam : Bool
structure Bk where
  accs : List Ac
  subs : List Sb
  ended : List Int
def seq_ (a b : ByteArray) : Bool := a.toList == b.toList
def uA (k : Int) : Bool := k == 1 || k == 2 || k == 3 || k == 14 || k == 15
def uS (k : Int) : Bool := !(k == 1 || k == 2 || k == 14 || k == 15)
def uN (k : Int) : Bool := k == 5 || k == 6
def uM (k : Int) : Bool := k == 1 || k == 3 || k == 7 || k == 8 || k == 9
def uV (k : Int) : Bool := k == 1 || k == 14 || k == 15
def nmC (c : UInt8) : Bool := (decide (97 ≤ c.toNat) && decide (c.toNat ≤ 122)) || (decide (48 ≤ c.toNat) && decide (c.toNat ≤ 57)) || c.toNat == 45
def nmB (l : List UInt8) : Bool := match l with
  | [] => false
  | c :: r => decide (l.length ≤ 24) && (decide (97 ≤ c.toNat) && decide (c.toNat ≤ 122)) && r.all nmC
def idB (n : Int) : Bool := decide (1 ≤ n) && decide (n ≤ 9999)
def valB (k v : Int) : Bool := if k = 1 then decide (1 ≤ v) && decide (v ≤ 28) else if k = 14 then decide (1 ≤ v) && decide (v ≤ 1125899906842624) else decide (-1125899906842624 ≤ v) && decide (v ≤ 0)
def nPre : ByteArray := ⟨#[112, 114, 101, 112, 97, 105, 100]⟩
def nPost : ByteArray := ⟨#[112, 111, 115, 116, 112, 97, 105, 100]⟩
def nEmpty : ByteArray := ⟨#[]⟩
def fldBad (e : Ev) : Bool := (!uA e.kind && e.acc != 0) || (!uS e.kind && e.sub != 0) || (!uN e.kind && !seq_ e.num nEmpty) || (!uM e.kind && !seq_ e.name nEmpty) || (!uV e.kind && e.val != 0)
def idBad (e : Ev) : Bool := (uA e.kind && !idB e.acc) || (uS e.kind && !idB e.sub)
def nameBad (e : Ev) : Bool := (uM e.kind && !nmB e.name.data.toList) || (e.kind == 1 && !seq_ e.name nPre && !seq_ e.name nPost)
def formT (e : Ev) : Int := if fldBad e = true then 8 else if idBad e = true then 6 else if nameBad e = true then 8 else if (uN e.kind && !Dg.valid e.num.data.toList) = true then 12 else if (uV e.kind && !valB e.kind e.val) = true then 6 else 0
def formR (e : Ev) (last : Int) : Int := if e.kind < 1 ∨ 15 < e.kind then 7 else if e.at_ < 0 ∨ 12622780800 ≤ e.at_ then 15 else if e.at_ < last then 9 else formT e
def insS (l : List ByteArray) (x : ByteArray) : List ByteArray := match l with
  | [] => [x]
  | y :: l => if Op.bytesLess y.toList x.toList = true then y :: insS l x else x :: y :: l
def insI (l : List Int) (x : Int) : List Int := match l with
  | [] => [x]
  | y :: l => if y < x then y :: insI l x else x :: y :: l
def remS (l : List ByteArray) (x : ByteArray) : List ByteArray := l.filter fun y => !seq_ y x
def hasS (l : List ByteArray) (x : ByteArray) : Bool := l.any fun y => seq_ y x
def findA (b : Bk) (n : Int) : Option Ac := b.accs.find? fun a => a.id == n
def findS (b : Bk) (n : Int) : Option Sb := b.subs.find? fun s => s.id == n
def endedB (b : Bk) (n : Int) : Bool := b.ended.any fun x => x == n
def takenB (b : Bk) (x : ByteArray) : Bool := b.subs.any fun s => hasS s.nums x
def busyB (b : Bk) (n : Int) : Bool := b.subs.any fun s => s.acc == n && !endedB b s.id
def ofAcc (b : Bk) (e : Ev) : Int := match findA b e.acc with
  | none => if e.kind = 1 then 0 else 11
  | some a => if e.kind = 1 then 10 else if a.closed = true then 17 else if e.kind = 3 ∧ (findS b e.sub).isSome = true then 10 else if (e.kind = 2 ∧ busyB b e.acc = true) ∨ (13 < e.kind ∧ a.prepaid = false) then 22 else 0
def ofSub (b : Bk) (e : Ev) : Int := match findS b e.sub with
  | none => 11
  | some s => if endedB b e.sub = true then 17 else
    if e.kind = 5 then (if takenB b e.num = true then 12 else 0) else
    if e.kind = 6 then (if hasS s.nums e.num = true then 0 else 12) else
    if e.kind = 8 then (if hasS s.prods e.name = true then 10 else 0) else
    if e.kind = 9 then (if hasS s.prods e.name = true then 0 else 11) else
    if e.kind = 10 ∨ e.kind = 11 then (if s.susp = decide (e.kind = 10) then 22 else 0) else
    if e.kind = 12 ∨ e.kind = 13 then (if s.fam = decide (e.kind = 12) then 22 else 0) else 0
def faultR (b : Bk) (e : Ev) (last : Int) : Int := if formR e last ≠ 0 then formR e last else if uA e.kind = true then ofAcc b e else ofSub b e
def chgR (s : Sb) (e : Ev) : Sb :=
  if e.kind = 4 then { s with nums := [], prods := [] } else
  if e.kind = 5 then { s with nums := insS s.nums e.num } else
  if e.kind = 6 then { s with nums := remS s.nums e.num } else
  if e.kind = 7 then { s with plan := e.name } else
  if e.kind = 8 then { s with prods := insS s.prods e.name } else
  if e.kind = 9 then { s with prods := remS s.prods e.name } else
  if e.kind = 10 then { s with susp := true } else
  if e.kind = 11 then { s with susp := false } else
  if e.kind = 12 then { s with fam := true } else
  if e.kind = 13 then { s with fam := false } else s
def mapFirst {α : Type} (p : α → Bool) (f : α → α) : List α → List α
  | [] => []
  | x :: l => if p x = true then f x :: l else x :: mapFirst p f l
def applyR (b : Bk) (e : Ev) : Bk :=
  if e.kind = 1 then { b with accs := b.accs ++ [⟨e.acc, e.at_, e.val, seq_ e.name nPre, false⟩] } else
  if e.kind = 2 then { b with accs := mapFirst (fun a => a.id == e.acc) (fun a => { a with closed := true }) b.accs } else
  if e.kind = 3 then { b with subs := b.subs ++ [⟨e.sub, e.acc, e.at_, e.name, [], [], false, false⟩] } else
  if e.kind = 14 ∨ e.kind = 15 then b else
  { b with subs := mapFirst (fun s => s.id == e.sub) (fun s => chgR s e) b.subs, ended := if e.kind = 4 then b.ended ++ [e.sub] else b.ended }
structure St where
  acc : Int → Option Ac
  sub : Int → Option Sb
  ever : Int → Bool
  own : List UInt8 → Option Int
  live : Int → Int
  opened : List Int
  added : List Int
def st0 : St := ⟨fun _ => none, fun _ => none, fun _ => false, fun _ => none, fun _ => 0, [], []⟩
def upd {κ α : Type} [DecidableEq κ] (f : κ → α) (k : κ) (v : α) : κ → α := fun x => if x = k then v else f x
def chgS (sb : Sb) (e : Ev) : Sb :=
  if e.kind = 5 then { sb with nums := insS sb.nums e.num } else
  if e.kind = 6 then { sb with nums := remS sb.nums e.num } else
  if e.kind = 7 then { sb with plan := e.name } else
  if e.kind = 8 then { sb with prods := insS sb.prods e.name } else
  if e.kind = 9 then { sb with prods := remS sb.prods e.name } else
  if e.kind = 10 then { sb with susp := true } else
  if e.kind = 11 then { sb with susp := false } else
  if e.kind = 12 then { sb with fam := true } else
  if e.kind = 13 then { sb with fam := false } else sb
def ac0 : Ac := ⟨0, 0, 0, false, false⟩
def sb0 : Sb := ⟨0, 0, 0, nEmpty, [], [], false, false⟩
def delAll (f : List UInt8 → Option Int) (l : List ByteArray) : List UInt8 → Option Int := fun x => if l.any (fun y => y.toList == x) = true then none else f x
def applyP (s : St) (e : Ev) : St :=
  if e.kind = 1 then { s with acc := upd s.acc e.acc (some ⟨e.acc, e.at_, e.val, seq_ e.name nPre, false⟩), opened := if (s.acc e.acc).isSome = true then s.opened else insI s.opened e.acc } else
  if e.kind = 2 then { s with acc := upd s.acc e.acc (some { (s.acc e.acc).getD ac0 with closed := true }) } else
  if e.kind = 3 then { s with added := if s.ever e.sub = true then s.added else insI s.added e.sub, ever := upd s.ever e.sub true, live := upd s.live e.acc (s.live e.acc + 1), sub := upd s.sub e.sub (some ⟨e.sub, e.acc, e.at_, e.name, [], [], false, false⟩) } else
  if e.kind = 4 then { s with own := delAll s.own ((s.sub e.sub).getD sb0).nums, live := upd s.live ((s.sub e.sub).getD sb0).acc (s.live ((s.sub e.sub).getD sb0).acc - 1), sub := upd s.sub e.sub none } else
  if e.kind = 14 ∨ e.kind = 15 then s else
  match s.sub e.sub with
  | none => s
  | some sb => { s with sub := upd s.sub e.sub (some (chgS sb e)), own := if e.kind = 5 then upd s.own e.num.toList (some e.sub) else if e.kind = 6 then upd s.own e.num.toList none else s.own }
end Cu
end Go.Proofs.Yteaanngagcflhaa
namespace Go.Proofs.Yteaanngagcflhaa
open Go Go.RowKit
namespace Cu
theorem find_mapFirst {α : Type} (g : α → Int) (f : α → α) (hf : ∀ x, g (f x) = g x) (m n : Int) : ∀ l : List α,
    (mapFirst (fun x => g x == m) f l).find? (fun x => g x == n) = if n = m then (l.find? (fun x => g x == m)).map f else l.find? (fun x => g x == n)
  | [] => by simp [mapFirst]
  | x :: l => by
    have ih := find_mapFirst g f hf m n l
    unfold mapFirst
    by_cases hx : g x = m
    · rw [if_pos (by simpa using hx)]
      by_cases hn : n = m
      · rw [if_pos hn, List.find?_cons_of_pos (by simp [hf, hx, hn]), List.find?_cons_of_pos (by simp [hx])]; rfl
      · rw [if_neg hn, List.find?_cons_of_neg (by simp [hf, hx]; omega), List.find?_cons_of_neg (by simp [hx]; omega)]
    · rw [if_neg (by simpa using hx)]
      by_cases hn : n = m
      · rw [if_pos hn] at ih ⊢
        rw [List.find?_cons_of_neg (by simp [hn]; exact hx), ih, List.find?_cons_of_neg (by simp; exact hx)]
      · rw [if_neg hn] at ih ⊢
        by_cases hxn : g x = n
        · rw [List.find?_cons_of_pos (by simpa using hxn), List.find?_cons_of_pos (by simpa using hxn)]
        · rw [List.find?_cons_of_neg (by simpa using hxn), List.find?_cons_of_neg (by simpa using hxn), ih]
theorem map_mapFirst {α β : Type} (p : α → Bool) (f : α → α) (h : α → β) (hf : ∀ x, h (f x) = h x) : ∀ l : List α, (mapFirst p f l).map h = l.map h
  | [] => rfl
  | x :: l => by
    unfold mapFirst
    split
    · simp [hf]
    · simp [map_mapFirst p f h hf l]
theorem find_of_mem {α : Type} {g : α → Int} : ∀ {l : List α}, (l.map g).Nodup → ∀ {x : α}, x ∈ l → l.find? (fun y => g y == g x) = some x
  | [], _, _, h => by cases h
  | y :: l, hn, x, h => by
    rw [List.map_cons, List.nodup_cons] at hn
    rcases List.mem_cons.1 h with rfl | h
    · exact List.find?_cons_of_pos (by simp)
    · rw [List.find?_cons_of_neg]
      · exact find_of_mem hn.2 h
      · simp
        intro e
        exact hn.1 (by rw [e]; exact List.mem_map_of_mem h)
theorem mem_of_find {α : Type} {g : α → Int} {l : List α} {n : Int} {x : α} (h : l.find? (fun y => g y == n) = some x) : x ∈ l ∧ g x = n :=
  ⟨List.mem_of_find?_eq_some h, by simpa using List.find?_some h⟩
theorem find_none {α : Type} {g : α → Int} {l : List α} {n : Int} : l.find? (fun y => g y == n) = none ↔ n ∉ l.map g := by
  rw [List.find?_eq_none]
  simp only [List.mem_map, not_exists, not_and, beq_iff_eq]
theorem insI_mem {l : List Int} {x y : Int} : y ∈ insI l x ↔ y = x ∨ y ∈ l := by
  induction l with
  | nil => simp [insI]
  | cons a l ih =>
    unfold insI
    split
    · simp only [List.mem_cons, ih]; constructor <;> (rintro (h | h | h) <;> simp [h])
    · simp
theorem insI_asc {l : List Int} {x : Int} (h : l.Pairwise (· < ·)) (hx : x ∉ l) : (insI l x).Pairwise (· < ·) := by
  induction l with
  | nil => simp [insI]
  | cons a l ih =>
    obtain ⟨h1, h2⟩ := List.pairwise_cons.1 h
    have hxa : x ≠ a := fun e => hx (by simp [e])
    have hxl : x ∉ l := fun e => hx (by simp [e])
    unfold insI
    split
    · rename_i hlt
      refine List.pairwise_cons.2 ⟨fun y hy => ?_, ih h2 hxl⟩
      rcases insI_mem.1 hy with rfl | hy
      · exact hlt
      · exact h1 y hy
    · rename_i hge
      refine List.pairwise_cons.2 ⟨fun y hy => ?_, h⟩
      rcases List.mem_cons.1 hy with rfl | hy
      · omega
      · have := h1 y hy; omega
theorem seq_iff {a b : ByteArray} : seq_ a b = true ↔ a.toList = b.toList := by unfold seq_; rw [beq_iff_eq]
def hasL (l : List ByteArray) (x : List UInt8) : Bool := l.any fun y => y.toList == x
theorem hasL_ins {l : List ByteArray} {x : ByteArray} {k : List UInt8} : hasL (insS l x) k = (hasL l k || x.toList == k) := by
  induction l with
  | nil => simp [insS, hasL]
  | cons a l ih =>
    unfold insS
    split
    · unfold hasL at ih ⊢
      rw [List.any_cons, List.any_cons, ih, Bool.or_assoc]
    · unfold hasL
      rw [List.any_cons, List.any_cons, Bool.or_comm]
theorem hasL_rem {l : List ByteArray} {x : ByteArray} {k : List UInt8} : hasL (remS l x) k = (hasL l k && !(x.toList == k)) := by
  induction l with
  | nil => simp [remS, hasL]
  | cons a l ih =>
    unfold remS hasL at ih ⊢
    by_cases ha : seq_ a x = true
    · rw [List.filter_cons_of_neg (by simp [ha]), ih, List.any_cons, seq_iff.1 ha]
      cases hk : (x.toList == k) <;> simp [hk]
    · rw [List.filter_cons_of_pos (by simpa using ha), List.any_cons, ih, List.any_cons]
      cases hk : (a.toList == k)
      · simp
      · have : (x.toList == k) = false := by
          rw [beq_eq_false_iff_ne]
          intro e
          exact ha (seq_iff.2 ((beq_iff_eq.1 hk).trans e.symm))
        simp [this]
def liveB (b : Bk) (s : Sb) : Bool := !endedB b s.id
structure Bok (b : Bk) : Prop where
  aid : (b.accs.map (·.id)).Nodup
  sid : (b.subs.map (·.id)).Nodup
  ar : ∀ a ∈ b.accs, 1 ≤ a.id ∧ a.id ≤ 9999
  sr : ∀ s ∈ b.subs, 1 ≤ s.id ∧ s.id ≤ 9999
  en : ∀ n, endedB b n = true → ∃ s, findS b n = some s ∧ s.nums = [] ∧ s.prods = []
  dj : ∀ m n s t x, findS b m = some s → findS b n = some t → hasL s.nums x = true → hasL t.nums x = true → m = n
  oa : ∀ s ∈ b.subs, liveB b s = true → ∃ a, findA b s.acc = some a ∧ a.closed = false
  cnt : (b.subs.filter (liveB b)).length + b.ended.length = b.subs.length
structure Inv (s : St) (b : Bk) : Prop where
  acc : ∀ n, s.acc n = findA b n
  sub : ∀ n, s.sub n = if endedB b n = true then none else findS b n
  ever : ∀ n, s.ever n = (findS b n).isSome
  own : ∀ x n, s.own x = some n ↔ ∃ t, findS b n = some t ∧ hasL t.nums x = true
  live : ∀ n, s.live n = ((b.subs.filter fun t => t.acc == n && liveB b t).length : Int)
  opened : s.opened.Pairwise (· < ·) ∧ ∀ n, n ∈ s.opened ↔ (findA b n).isSome = true
  added : s.added.Pairwise (· < ·) ∧ ∀ n, n ∈ s.added ↔ (findS b n).isSome = true
def bk0 : Bk := ⟨[], [], []⟩
theorem bok0 : Bok bk0 := ⟨List.nodup_nil, List.nodup_nil, by simp [bk0], by simp [bk0], by simp [endedB, bk0], by simp [findS, bk0], by simp [bk0], rfl⟩
theorem inv0 : Inv st0 bk0 := ⟨fun _ => rfl, fun _ => rfl, fun _ => rfl, by simp [st0, findS, bk0], fun _ => rfl, ⟨List.Pairwise.nil, by simp [st0, findA, bk0]⟩, ⟨List.Pairwise.nil, by simp [st0, findS, bk0]⟩⟩
theorem findS_id {b : Bk} {n : Int} {s : Sb} (h : findS b n = some s) : s ∈ b.subs ∧ s.id = n := mem_of_find (g := Sb.id) h
theorem findA_id {b : Bk} {n : Int} {a : Ac} (h : findA b n = some a) : a ∈ b.accs ∧ a.id = n := mem_of_find (g := Ac.id) h
theorem findS_mem {b : Bk} (hb : Bok b) {s : Sb} (h : s ∈ b.subs) : findS b s.id = some s := find_of_mem (g := Sb.id) hb.sid h
theorem taken_iff {b : Bk} (hb : Bok b) (x : ByteArray) : takenB b x = true ↔ ∃ n t, findS b n = some t ∧ hasL t.nums x.toList = true := by
  unfold takenB
  rw [List.any_eq_true]
  constructor
  · rintro ⟨s, hs, hx⟩; exact ⟨s.id, s, findS_mem hb hs, hx⟩
  · rintro ⟨n, t, ht, hx⟩; exact ⟨t, (findS_id ht).1, hx⟩
end Cu
end Go.Proofs.Yteaanngagcflhaa
