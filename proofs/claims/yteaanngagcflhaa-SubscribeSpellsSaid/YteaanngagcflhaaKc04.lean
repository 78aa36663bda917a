/-
  Customers: the program's world behind a store. No condition.
-/
import Derived.Test.YteaanngagcflhaaKc03
import Derived.Test.YteaanngagcflhaaKc01
import Derived.BigQuiet
import Derived.StillTailTactics
import Derived.Lib.Overlaps
import Derived.Deep.DeepCutAuto
import Derived.Deep.RegionWith
import Derived.RangeFuncNested
import Derived.Laws.RangeAny
set_option maxRecDepth 100000
set_option linter.unusedVariables false
set_option linter.unusedSimpArgs false
namespace Go.Proofs.Yteaanngagcflhaa
open Go.RowKit
namespace Cu
open Go.Maps
def Stp0 (B M : Nat) (w w' : World) : Prop := Below B w w' ∧ KeepsFrom M w w'
theorem Stp0.trans {B M : Nat} {w w1 w2 : World} (h : Stp0 B M w w1) (k : Stp0 B M w1 w2) : Stp0 B M w w2 := ⟨h.1.trans k.1, h.2.trans k.2⟩
theorem Stp0.set_ {B M g o : Nat} {w : World} {u : Value} (hB : B ≤ g) : Stp0 B M w (w.setCell ⟨g, o, none⟩ u) := ⟨(Below.refl _ _).setCell hB _, (KeepsOthers.setCell _ _ _).from _⟩
def Stp (B M : Nat) (w w' : World) : Prop := Below B w w' ∧ KeepsFrom M w w' ∧ Keeps (fun b => M ≤ b) w w'
theorem Stp.zero {B M : Nat} {w w' : World} (h : Stp B M w w') : Stp0 B M w w' := ⟨h.1, h.2.1⟩
theorem Stp.refl (B M : Nat) (w : World) : Stp B M w w := ⟨Below.refl _ _, KeepsFrom.refl _ _, Keeps.refl_⟩
theorem Stp.trans {B M : Nat} {w w1 w2 : World} (h : Stp B M w w1) (k : Stp B M w1 w2) : Stp B M w w2 := ⟨h.1.trans k.1, h.2.1.trans k.2.1, h.2.2.trans k.2.2⟩
theorem Stp.below {B M : Nat} {w w' : World} (h : Below w.heap.size w w') (hB : B ≤ w.heap.size) : Stp B M w w' :=
  ⟨h.mono hB, ⟨h.size, fun k o _ hk _ => (h.block k (Array.getElem?_eq_some_iff.1 hk).1).trans hk⟩, Keeps.ofBelow h⟩
theorem Stp.set_ {B M g o : Nat} {w : World} {u : Value} (hB : B ≤ g) (hM : g < M) : Stp B M w (w.setCell ⟨g, o, none⟩ u) := ⟨(Below.refl _ _).setCell hB _, (KeepsOthers.setCell _ _ _).from _, Keeps.ofSet fun b hb => by have : M ≤ b := hb; omega⟩
theorem Stp.turn {B M b : Nat} {w w' : World} (h : w.mapTurned w' b) (hB : B ≤ b) (hM : b < M) : Stp B M w w' := ⟨turned_below h (Below.refl _ _) hB, KeepsFrom.of_grownBy h.grown fun j e => by cases e; exact hM, turned_keeps h⟩
theorem Stp.drew {B M : Nat} {w : World} : Stp B M w w.drew := ⟨(Below.refl _ _).drew, ⟨Nat.le_refl _, fun _ _ _ h _ => h⟩, ⟨Nat.le_refl _, fun _ _ _ _ => rfl⟩⟩
theorem fS.mono {w : World} {q : Nat → Prop} {N N' : Nat} {f : Lit → Option Value} {s : St} (h : fS w q N f s) (hN : N ≤ N') : fS w q N' f s := fun x => by
  have := h x
  cases hs : s.sub x with
  | none => rw [hs] at this; exact this
  | some sb =>
    rw [hs] at this
    obtain ⟨v, h1, h2, h3, h4, h5⟩ := this
    exact ⟨v, h1, h2, by omega, by omega, h5⟩
theorem fL.mono {N N' : Nat} {f : Lit → Option Value} {s : St} (h : fL N f s) (hN : N ≤ N') : fL N' f s := fun x => ⟨(h x).1, by have := (h x).2.1; omega, by have := (h x).2.2; omega⟩
theorem RepQ.mono {w : World} {q : Nat → Prop} {B M N N' : Nat} {k : Bl} {s : St} (h : RepQ w q B M N k s) (hN : N ≤ N') : RepQ w q B M N' k s := by
  refine ⟨h.nq, h.lo, h.hi, h.m, h.ne, h.np, h.fz, h.c0, h.c1, h.c2, h.c3, h.c4, ?_, ?_, ?_, ?_, ?_, ?_, ?_⟩
  · obtain ⟨f, h1, h2⟩ := h.acc; exact ⟨f, h1.mono hN, h2⟩
  · obtain ⟨f, h1, h2⟩ := h.sub; exact ⟨f, h1.mono hN, h2.mono hN⟩
  · obtain ⟨f, h1, h2⟩ := h.ever; exact ⟨f, h1.mono hN, h2⟩
  · obtain ⟨f, h1, h2⟩ := h.own; exact ⟨f, h1.mono hN, h2⟩
  · obtain ⟨f, h1, h2⟩ := h.live; exact ⟨f, h1.mono hN, h2.mono hN⟩
  · obtain ⟨A, n, c, h1, h2, h3, h4, h5⟩ := h.opened; exact ⟨A, n, c, h1, h2, h3, h4, by omega⟩
  · obtain ⟨A, n, c, h1, h2, h3, h4, h5⟩ := h.added; exact ⟨A, n, c, h1, h2, h3, h4, by omega⟩
theorem turned_frozen {w w' : World} {b : Nat} (h : w.mapTurned w' b) (p j : Nat) : w'.frozen? ⟨p, j, none⟩ = w.frozen? ⟨p, j, none⟩ := h.frozen _
theorem RepQ.turn_acc {w w' : World} {q : Nat → Prop} {B M N N' : Nat} {k : Bl} {s : St} (h : RepQ w q B M N k s) (ht : w.mapTurned w' k.ba) (f' : Lit → Option Value) (hm : MI w' k.ba N' f') (hN : N ≤ N') (acc' : Int → Option Ac) (hf : fA f' { s with acc := acc' }) : RepQ w' q B M N' k { s with acc := acc' } := by
  have hg := ht.grown
  have cell : ∀ j, w'.cell? ⟨k.p, j, none⟩ = w.cell? ⟨k.p, j, none⟩ := fun j => turned_cell ht _
  have hk : ∀ p, Keeps p w w' := fun p => turned_keeps ht
  refine ⟨h.nq, h.lo, h.hi, Nat.le_trans h.m hg.size, h.ne, h.np, fun j => (turned_frozen ht _ _).trans (h.fz j), (cell 0).trans h.c0, (cell 1).trans h.c1, (cell 2).trans h.c2, (cell 3).trans h.c3, (cell 4).trans h.c4, ?_, ?_, ?_, ?_, ?_, ?_, ?_⟩
  · exact ⟨f', hm, hf⟩
  · obtain ⟨f, h1, h2⟩ := h.sub; exact ⟨f, (h1.kept hg (fun e => (Ne.symm h.ne.1) (by injection e))).mono hN, (h2.keep (hk _)).mono hN⟩
  · obtain ⟨f, h1, h2⟩ := h.ever; exact ⟨f, (h1.kept hg (fun e => (Ne.symm h.ne.2.1) (by injection e))).mono hN, h2⟩
  · obtain ⟨f, h1, h2⟩ := h.own; exact ⟨f, (h1.kept hg (fun e => (Ne.symm h.ne.2.2.1) (by injection e))).mono hN, h2⟩
  · obtain ⟨f, h1, h2⟩ := h.live; exact ⟨f, (h1.kept hg (fun e => (Ne.symm h.ne.2.2.2.1) (by injection e))).mono hN, h2.mono hN⟩
  · obtain ⟨A, n, c, h1, h2, h3, h4, h5⟩ := h.opened; exact ⟨A, n, c, (cell 5).trans h1, h2.keepP h4 (hk _), h3, h4, by omega⟩
  · obtain ⟨A, n, c, h1, h2, h3, h4, h5⟩ := h.added; exact ⟨A, n, c, (cell 6).trans h1, h2.keepP h4 (hk _), h3, h4, by omega⟩
theorem RepQ.turn_sub {w w' : World} {q : Nat → Prop} {B M N N' : Nat} {k : Bl} {s : St} (h : RepQ w q B M N k s) (ht : w.mapTurned w' k.bs) (f' : Lit → Option Value) (hm : MI w' k.bs N' f') (hN : N ≤ N') (sub' : Int → Option Sb) (hf : fS w' q N' f' { s with sub := sub' }) : RepQ w' q B M N' k { s with sub := sub' } := by
  have hg := ht.grown
  have cell : ∀ j, w'.cell? ⟨k.p, j, none⟩ = w.cell? ⟨k.p, j, none⟩ := fun j => turned_cell ht _
  have hk : ∀ p, Keeps p w w' := fun p => turned_keeps ht
  refine ⟨h.nq, h.lo, h.hi, Nat.le_trans h.m hg.size, h.ne, h.np, fun j => (turned_frozen ht _ _).trans (h.fz j), (cell 0).trans h.c0, (cell 1).trans h.c1, (cell 2).trans h.c2, (cell 3).trans h.c3, (cell 4).trans h.c4, ?_, ?_, ?_, ?_, ?_, ?_, ?_⟩
  · obtain ⟨f, h1, h2⟩ := h.acc; exact ⟨f, (h1.kept hg (fun e => h.ne.1 (by injection e))).mono hN, h2⟩
  · exact ⟨f', hm, hf⟩
  · obtain ⟨f, h1, h2⟩ := h.ever; exact ⟨f, (h1.kept hg (fun e => (Ne.symm h.ne.2.2.2.2.1) (by injection e))).mono hN, h2⟩
  · obtain ⟨f, h1, h2⟩ := h.own; exact ⟨f, (h1.kept hg (fun e => (Ne.symm h.ne.2.2.2.2.2.1) (by injection e))).mono hN, h2⟩
  · obtain ⟨f, h1, h2⟩ := h.live; exact ⟨f, (h1.kept hg (fun e => (Ne.symm h.ne.2.2.2.2.2.2.1) (by injection e))).mono hN, h2.mono hN⟩
  · obtain ⟨A, n, c, h1, h2, h3, h4, h5⟩ := h.opened; exact ⟨A, n, c, (cell 5).trans h1, h2.keepP h4 (hk _), h3, h4, by omega⟩
  · obtain ⟨A, n, c, h1, h2, h3, h4, h5⟩ := h.added; exact ⟨A, n, c, (cell 6).trans h1, h2.keepP h4 (hk _), h3, h4, by omega⟩
theorem RepQ.turn_ever {w w' : World} {q : Nat → Prop} {B M N N' : Nat} {k : Bl} {s : St} (h : RepQ w q B M N k s) (ht : w.mapTurned w' k.be) (f' : Lit → Option Value) (hm : MI w' k.be N' f') (hN : N ≤ N') (ever' : Int → Bool) (hf : fE f' { s with ever := ever' }) : RepQ w' q B M N' k { s with ever := ever' } := by
  have hg := ht.grown
  have cell : ∀ j, w'.cell? ⟨k.p, j, none⟩ = w.cell? ⟨k.p, j, none⟩ := fun j => turned_cell ht _
  have hk : ∀ p, Keeps p w w' := fun p => turned_keeps ht
  refine ⟨h.nq, h.lo, h.hi, Nat.le_trans h.m hg.size, h.ne, h.np, fun j => (turned_frozen ht _ _).trans (h.fz j), (cell 0).trans h.c0, (cell 1).trans h.c1, (cell 2).trans h.c2, (cell 3).trans h.c3, (cell 4).trans h.c4, ?_, ?_, ?_, ?_, ?_, ?_, ?_⟩
  · obtain ⟨f, h1, h2⟩ := h.acc; exact ⟨f, (h1.kept hg (fun e => h.ne.2.1 (by injection e))).mono hN, h2⟩
  · obtain ⟨f, h1, h2⟩ := h.sub; exact ⟨f, (h1.kept hg (fun e => h.ne.2.2.2.2.1 (by injection e))).mono hN, (h2.keep (hk _)).mono hN⟩
  · exact ⟨f', hm, hf⟩
  · obtain ⟨f, h1, h2⟩ := h.own; exact ⟨f, (h1.kept hg (fun e => (Ne.symm h.ne.2.2.2.2.2.2.2.1) (by injection e))).mono hN, h2⟩
  · obtain ⟨f, h1, h2⟩ := h.live; exact ⟨f, (h1.kept hg (fun e => (Ne.symm h.ne.2.2.2.2.2.2.2.2.1) (by injection e))).mono hN, h2.mono hN⟩
  · obtain ⟨A, n, c, h1, h2, h3, h4, h5⟩ := h.opened; exact ⟨A, n, c, (cell 5).trans h1, h2.keepP h4 (hk _), h3, h4, by omega⟩
  · obtain ⟨A, n, c, h1, h2, h3, h4, h5⟩ := h.added; exact ⟨A, n, c, (cell 6).trans h1, h2.keepP h4 (hk _), h3, h4, by omega⟩
theorem RepQ.turn_own {w w' : World} {q : Nat → Prop} {B M N N' : Nat} {k : Bl} {s : St} (h : RepQ w q B M N k s) (ht : w.mapTurned w' k.bo) (f' : Lit → Option Value) (hm : MS w' k.bo N' f') (hN : N ≤ N') (own' : List UInt8 → Option Int) (hf : fO f' { s with own := own' }) : RepQ w' q B M N' k { s with own := own' } := by
  have hg := ht.grown
  have cell : ∀ j, w'.cell? ⟨k.p, j, none⟩ = w.cell? ⟨k.p, j, none⟩ := fun j => turned_cell ht _
  have hk : ∀ p, Keeps p w w' := fun p => turned_keeps ht
  refine ⟨h.nq, h.lo, h.hi, Nat.le_trans h.m hg.size, h.ne, h.np, fun j => (turned_frozen ht _ _).trans (h.fz j), (cell 0).trans h.c0, (cell 1).trans h.c1, (cell 2).trans h.c2, (cell 3).trans h.c3, (cell 4).trans h.c4, ?_, ?_, ?_, ?_, ?_, ?_, ?_⟩
  · obtain ⟨f, h1, h2⟩ := h.acc; exact ⟨f, (h1.kept hg (fun e => h.ne.2.2.1 (by injection e))).mono hN, h2⟩
  · obtain ⟨f, h1, h2⟩ := h.sub; exact ⟨f, (h1.kept hg (fun e => h.ne.2.2.2.2.2.1 (by injection e))).mono hN, (h2.keep (hk _)).mono hN⟩
  · obtain ⟨f, h1, h2⟩ := h.ever; exact ⟨f, (h1.kept hg (fun e => h.ne.2.2.2.2.2.2.2.1 (by injection e))).mono hN, h2⟩
  · exact ⟨f', hm, hf⟩
  · obtain ⟨f, h1, h2⟩ := h.live; exact ⟨f, (h1.kept hg (fun e => (Ne.symm h.ne.2.2.2.2.2.2.2.2.2) (by injection e))).mono hN, h2.mono hN⟩
  · obtain ⟨A, n, c, h1, h2, h3, h4, h5⟩ := h.opened; exact ⟨A, n, c, (cell 5).trans h1, h2.keepP h4 (hk _), h3, h4, by omega⟩
  · obtain ⟨A, n, c, h1, h2, h3, h4, h5⟩ := h.added; exact ⟨A, n, c, (cell 6).trans h1, h2.keepP h4 (hk _), h3, h4, by omega⟩
theorem RepQ.turn_live {w w' : World} {q : Nat → Prop} {B M N N' : Nat} {k : Bl} {s : St} (h : RepQ w q B M N k s) (ht : w.mapTurned w' k.bl) (f' : Lit → Option Value) (hm : MI w' k.bl N' f') (hN : N ≤ N') (live' : Int → Int) (hf : fL N' f' { s with live := live' }) : RepQ w' q B M N' k { s with live := live' } := by
  have hg := ht.grown
  have cell : ∀ j, w'.cell? ⟨k.p, j, none⟩ = w.cell? ⟨k.p, j, none⟩ := fun j => turned_cell ht _
  have hk : ∀ p, Keeps p w w' := fun p => turned_keeps ht
  refine ⟨h.nq, h.lo, h.hi, Nat.le_trans h.m hg.size, h.ne, h.np, fun j => (turned_frozen ht _ _).trans (h.fz j), (cell 0).trans h.c0, (cell 1).trans h.c1, (cell 2).trans h.c2, (cell 3).trans h.c3, (cell 4).trans h.c4, ?_, ?_, ?_, ?_, ?_, ?_, ?_⟩
  · obtain ⟨f, h1, h2⟩ := h.acc; exact ⟨f, (h1.kept hg (fun e => h.ne.2.2.2.1 (by injection e))).mono hN, h2⟩
  · obtain ⟨f, h1, h2⟩ := h.sub; exact ⟨f, (h1.kept hg (fun e => h.ne.2.2.2.2.2.2.1 (by injection e))).mono hN, (h2.keep (hk _)).mono hN⟩
  · obtain ⟨f, h1, h2⟩ := h.ever; exact ⟨f, (h1.kept hg (fun e => h.ne.2.2.2.2.2.2.2.2.1 (by injection e))).mono hN, h2⟩
  · obtain ⟨f, h1, h2⟩ := h.own; exact ⟨f, (h1.kept hg (fun e => h.ne.2.2.2.2.2.2.2.2.2 (by injection e))).mono hN, h2⟩
  · exact ⟨f', hm, hf⟩
  · obtain ⟨A, n, c, h1, h2, h3, h4, h5⟩ := h.opened; exact ⟨A, n, c, (cell 5).trans h1, h2.keepP h4 (hk _), h3, h4, by omega⟩
  · obtain ⟨A, n, c, h1, h2, h3, h4, h5⟩ := h.added; exact ⟨A, n, c, (cell 6).trans h1, h2.keepP h4 (hk _), h3, h4, by omega⟩
theorem RepQ.set_opened {w : World} {q : Nat → Prop} {B M N : Nat} {k : Bl} {s : St} (h : RepQ w q B M N k s) {A : Option Addr} {n c : Nat} {l : List Int} (hs : Sl w A n c l) (hn : A = none → c = 0) (hok : OkA q A n) (hle : n ≤ N + 1) : RepQ (w.setCell ⟨k.p, 5, none⟩ (.slice A n c)) q B M (N + 1) k { s with opened := l } := by
  have hk : Keeps q w (w.setCell ⟨k.p, 5, none⟩ (.slice A n c)) := Keeps.ofSet h.nq
  have cell : ∀ i, i ≠ 5 → (w.setCell ⟨k.p, 5, none⟩ (.slice A n c)).cell? ⟨k.p, i, none⟩ = w.cell? ⟨k.p, i, none⟩ := fun i hi => World.cell?_setCell_other _ _ _ _ (fun e => by injection e with e1 e2; exact hi e2.symm)
  have me : ∀ {ty : TypeId} {b m : Nat} {f : Lit → Option Value}, Mf Try.prog ty w b m f → k.p ≠ b → Mf Try.prog ty (w.setCell ⟨k.p, 5, none⟩ (.slice A n c)) b (m + 1) f := fun hm hne => (hm.setCell (a := ⟨k.p, 5, none⟩) (fun e => hne e.symm) _).mono (Nat.le_succ _)
  refine ⟨h.nq, h.lo, h.hi, by rw [World.size_setCell]; exact h.m, h.ne, h.np, fun j => by rw [World.frozen?_setCell]; exact h.fz j, (cell 0 (by decide)).trans h.c0, (cell 1 (by decide)).trans h.c1, (cell 2 (by decide)).trans h.c2, (cell 3 (by decide)).trans h.c3, (cell 4 (by decide)).trans h.c4, ?_, ?_, ?_, ?_, ?_, ?_, ?_⟩
  · obtain ⟨f, h1, h2⟩ := h.acc; exact ⟨f, me h1 h.np.1, h2⟩
  · obtain ⟨f, h1, h2⟩ := h.sub; exact ⟨f, me h1 h.np.2.1, (h2.keep hk).mono (Nat.le_succ N)⟩
  · obtain ⟨f, h1, h2⟩ := h.ever; exact ⟨f, me h1 h.np.2.2.1, h2⟩
  · obtain ⟨f, h1, h2⟩ := h.own; exact ⟨f, me h1 h.np.2.2.2.1, h2⟩
  · obtain ⟨f, h1, h2⟩ := h.live; exact ⟨f, me h1 h.np.2.2.2.2, h2.mono (Nat.le_succ N)⟩
  · obtain ⟨A0, n0, c0, h1, _⟩ := h.opened; exact ⟨A, n, c, World.cell?_setCell_same _ _ _ h1, hs.keepP hok hk, hn, hok, hle⟩
  · obtain ⟨A1, n1, c1, h1, h2, h3, h4, h5⟩ := h.added; exact ⟨A1, n1, c1, (cell 6 (by decide)).trans h1, h2.keepP h4 hk, h3, h4, by omega⟩
theorem RepQ.set_added {w : World} {q : Nat → Prop} {B M N : Nat} {k : Bl} {s : St} (h : RepQ w q B M N k s) {A : Option Addr} {n c : Nat} {l : List Int} (hs : Sl w A n c l) (hn : A = none → c = 0) (hok : OkA q A n) (hle : n ≤ N + 1) : RepQ (w.setCell ⟨k.p, 6, none⟩ (.slice A n c)) q B M (N + 1) k { s with added := l } := by
  have hk : Keeps q w (w.setCell ⟨k.p, 6, none⟩ (.slice A n c)) := Keeps.ofSet h.nq
  have cell : ∀ i, i ≠ 6 → (w.setCell ⟨k.p, 6, none⟩ (.slice A n c)).cell? ⟨k.p, i, none⟩ = w.cell? ⟨k.p, i, none⟩ := fun i hi => World.cell?_setCell_other _ _ _ _ (fun e => by injection e with e1 e2; exact hi e2.symm)
  have me : ∀ {ty : TypeId} {b m : Nat} {f : Lit → Option Value}, Mf Try.prog ty w b m f → k.p ≠ b → Mf Try.prog ty (w.setCell ⟨k.p, 6, none⟩ (.slice A n c)) b (m + 1) f := fun hm hne => (hm.setCell (a := ⟨k.p, 6, none⟩) (fun e => hne e.symm) _).mono (Nat.le_succ _)
  refine ⟨h.nq, h.lo, h.hi, by rw [World.size_setCell]; exact h.m, h.ne, h.np, fun j => by rw [World.frozen?_setCell]; exact h.fz j, (cell 0 (by decide)).trans h.c0, (cell 1 (by decide)).trans h.c1, (cell 2 (by decide)).trans h.c2, (cell 3 (by decide)).trans h.c3, (cell 4 (by decide)).trans h.c4, ?_, ?_, ?_, ?_, ?_, ?_, ?_⟩
  · obtain ⟨f, h1, h2⟩ := h.acc; exact ⟨f, me h1 h.np.1, h2⟩
  · obtain ⟨f, h1, h2⟩ := h.sub; exact ⟨f, me h1 h.np.2.1, (h2.keep hk).mono (Nat.le_succ N)⟩
  · obtain ⟨f, h1, h2⟩ := h.ever; exact ⟨f, me h1 h.np.2.2.1, h2⟩
  · obtain ⟨f, h1, h2⟩ := h.own; exact ⟨f, me h1 h.np.2.2.2.1, h2⟩
  · obtain ⟨f, h1, h2⟩ := h.live; exact ⟨f, me h1 h.np.2.2.2.2, h2.mono (Nat.le_succ N)⟩
  · obtain ⟨A1, n1, c1, h1, h2, h3, h4, h5⟩ := h.opened; exact ⟨A1, n1, c1, (cell 5 (by decide)).trans h1, h2.keepP h4 hk, h3, h4, by omega⟩
  · obtain ⟨A0, n0, c0, h1, _⟩ := h.added; exact ⟨A, n, c, World.cell?_setCell_same _ _ _ h1, hs.keepP hok hk, hn, hok, hle⟩
end Cu
end Go.Proofs.Yteaanngagcflhaa
namespace Go.Proofs.Yteaanngagcflhaa
open Go.RowKit
namespace Cu
theorem lit0 {α : Type} [Flat α] (w : World) (e : TypeId) {base : Nat} (h : base ≤ w.heap.size) : Ow (w.alloc (.cells #[] e)) base e (.slice (some ⟨w.heap.size, 0, none⟩) 0 0) ([] : List α) :=
  Ow.lower (show Ow (w.alloc (.cells #[] e)) w.heap.size e _ ([] : List α) from World.ownsRow_lit w #[] 0 (Nat.le_refl _) (Nat.zero_le _) (by simp)) h
theorem infoI : (Try.prog.info? 3).map (fun i => (i.zero, i.size, i.bytes)) = some (some (.int .i64 0), 1, 8) := by kernel_rfl
theorem infoS : (Try.prog.info? 9).map (fun i => (i.zero, i.size, i.bytes)) = some (some (.string ⟨#[]⟩), 1, 16) := by kernel_rfl
theorem insI_at : ∀ (l : List Int) (x : Int) (k : Nat), (∀ j y, j < k → l[j]? = some y → y < x) → (∀ y, l[k]? = some y → ¬ y < x) → insI l x = l.take k ++ [x] ++ l.drop k
  | [], x, k, _, _ => by simp [insI]
  | a :: l, x, 0, _, h => by
    have := h a rfl
    unfold insI
    rw [if_neg this]
    rfl
  | a :: l, x, k + 1, hj, h => by
    have := hj 0 a (by omega) rfl
    unfold insI
    rw [if_pos this, insI_at l x k (fun j y hjk hy => hj (j + 1) y (by omega) (by simpa using hy)) (fun y hy => h y (by simpa using hy))]
    rfl
theorem insS_at : ∀ (l : List ByteArray) (x : ByteArray) (k : Nat), (∀ j y, j < k → l[j]? = some y → Op.bytesLess y.toList x.toList = true) → (∀ y, l[k]? = some y → ¬ Op.bytesLess y.toList x.toList = true) → insS l x = l.take k ++ [x] ++ l.drop k
  | [], x, k, _, _ => by simp [insS]
  | a :: l, x, 0, _, h => by
    have := h a rfl
    unfold insS
    rw [if_neg this]
    rfl
  | a :: l, x, k + 1, hj, h => by
    have := hj 0 a (by omega) rfl
    unfold insS
    rw [if_pos this, insS_at l x k (fun j y hjk hy => hj (j + 1) y (by omega) (by simpa using hy)) (fun y hy => h y (by simpa using hy))]
    rfl
set_option maxHeartbeats 8000000 in
theorem placeI_any (A : Option Addr) (n c : Nat) (xs : List Int) (x : Int) (w : World) (h : Sl w A n c xs) (hA : A = none → c = 0) (hn9 : n ≤ 900000) :
    Calls Try.prog 100 #[.slice A n c, .int .i64 x] w fun e w' => ∃ v, e = .returned v ∧ Ow w' w.heap.size 3 v (insI xs x) ∧ Below w.heap.size w w' := by
  have HS := Lib.hid h
  have HNIL := Lib.hid hA
  have HLen := Lib.hid h.len
  have hn := h.nmax
  clear h hA
  go_enter Try.func100, Try.ntmps100
  go_wp2_with fail
  go_loopw [5] (fun i wr => ∃ k : Nat, k ≤ n ∧ i = .int .i64 k ∧ Below w.heap.size w wr ∧ ∀ j y, j < k → xs[j]? = some y → y < x) (fun i _ => n - (intOf i).toNat)
  case atStart => exact ⟨0, Nat.zero_le _, rfl, Below.refl _ _, fun j y hj => absurd hj (by omega)⟩
  case round =>
    obtain ⟨k, hk, rfl, hbr, hall⟩ := hrel
    have HK := Lib.hid hall
    clear hall
    by_cases hcase : ∃ y, xs[k]? = some y ∧ y < x
    · obtain ⟨y, hy, hlt⟩ := hcase
      have hkn : k < n := by have := (List.getElem?_eq_some_iff.1 hy).1; have := HLen.out; omega
      obtain ⟨b, off, rfl, hbl, hcells⟩ := HS.out.baseIn hbr (by omega)
      have e0 : wr.cell? ⟨b, off + k * 1, none⟩ = some (.int .i64 y) := Sl.at_ hcells hy 0 rfl
      rw [Nat.mul_one] at e0
      have HST := Lib.hid (show ∀ j z, j < k + 1 → xs[j]? = some z → z < x from fun j z hj hz => by
        rcases Nat.lt_or_ge j k with h1 | h1
        · exact HK.out j z h1 hz
        · obtain rfl : j = k := by omega
          rw [hy] at hz; cases hz; exact hlt)
      have hbl2 : b < wr.heap.size := Nat.lt_of_lt_of_le hbl hbr.size
      clear hcells hy
      go_wp2_with fail
      go_roundw
      case rel => exact ⟨k + 1, by omega, by go_num, hbr, HST.out⟩
      case measure => simp [intOf]; omega
    · have HI := Lib.hid (show insI xs x = xs.take k ++ [x] ++ xs.drop k from insI_at xs x k HK.out (fun y hy hlt => hcase ⟨y, hy, hlt⟩))
      have hslT : ∀ W, (Instr.slice 44 (.slice A n c) none (some (.int .i64 (k : Int))) none).run Try.prog W = .ok (.slice A k c) W := fun W => run_slice_to (sz := 1) (by kernel_rfl) (by kernel_rfl) (by have := HS.out.le; omega) W
      have HST := Lib.hid (Sl.takeK HS.out hk)
      have hslF : ∀ W, (Instr.slice 44 (.slice A n c) (some (.int .i64 (k : Int))) none none).run Try.prog W = .ok (.slice (if c = k then A else A.map (·.add (k * 1))) (n - k) (c - k)) W := fun W => run_slice_from (sz := 1) (by kernel_rfl) (by kernel_rfl) hk W
      have hsF := Sl.dropG HS.out hk
      obtain ⟨AF, hAF⟩ : ∃ AF : Option Addr, (if c = k then A else A.map (·.add (k * 1))) = AF := ⟨_, rfl⟩
      have hAF' : (if c = k then A else A.map (·.add (k * Flat.sz Int))) = AF := hAF
      have hnilF : AF = none → c - k = 0 := fun e => by
        have hcc := HNIL.out
        rw [← hAF] at e
        split at e
        · omega
        · cases A with
          | none => have := hcc rfl; omega
          | some a => cases e
      rw [hAF] at hslF
      rw [hAF'] at hsF
      have HSF := Lib.hid hsF
      have HNF := Lib.hid hnilF
      have htl : (xs.take k).length ≤ 900000 := by rw [List.length_take]; omega
      have htl2 : (xs.take k ++ [x]).length ≤ 900001 := by simp; omega
      obtain ⟨nf, hnf⟩ : ∃ nf, n - k = nf := ⟨_, rfl⟩
      obtain ⟨cf, hcf⟩ : ∃ cf, c - k = cf := ⟨_, rfl⟩
      rw [hnf, hcf] at hslF
      replace HSF := Lib.hid (show Sl w AF nf cf (xs.drop k) by have := HSF.out; rw [hnf, hcf] at this; exact this)
      replace HNF := Lib.hid (show AF = none → cf = 0 by have := HNF.out; rw [hcf] at this; exact this)
      have hnfl : nf ≤ 900000 := by omega
      clear hAF hAF' hsF hnilF hnf hcf
      by_cases hkn : k < n
      · obtain ⟨b, off, hAe, hbl, hcells⟩ := HS.out.baseIn hbr (by omega)
        obtain ⟨y, hy⟩ := HS.out.get hkn
        have hnl : ¬ (y < x) := fun h => hcase ⟨y, hy, h⟩
        have e0 : wr.cell? ⟨b, off + k * 1, none⟩ = some (.int .i64 y) := Sl.at_ hcells hy 0 rfl
        rw [Nat.mul_one] at e0
        have hbl2 : b < wr.heap.size := Nat.lt_of_lt_of_le hbl hbr.size
        subst hAe
        clear hcells hy hcase
        skip
        go_upto_region 5 with (at_builtin; go_must (
          refine wpl_appendS _ rfl (.const (.slice none 0 0)) (.tmp 23) 44 rfl w.heap.size 3 _ 8 Try.underlying44 infoI rfl (.slice none 0 0) ([] : List Int) rfl (Ow.nil_ _ _ _) (some ⟨b, off, none⟩) k c (xs.take k) rfl HNIL.out (HST.out.below hbr) (by simp; omega) (by omega) hbr.size ?_
          intro v5 w5 ho5 hu5
          rw [List.nil_append] at ho5
          have HB5 := Lib.hid (hu5.belowBase (Ow.nil_ _ _ 3 : Ow wr w.heap.size 3 (.slice none 0 0) ([] : List Int)) hbr hbr.size)
          have HO5 := Lib.hid ho5
          clear ho5 hu5))
        go_upto_region 6 with (at_builtin; go_must (
          refine wpl_append1 _ rfl (.tmp 25) (.tmp 27) 44 rfl w.heap.size 3 _ 8 Try.underlying44 infoI rfl _ (xs.take k) rfl (HO5.out.alloc _) _ x rfl (fun j u hu => cells_new _ _ _ _ _ (by simp) u hu) (by omega) (by omega) (by rw [World.size_alloc]; have := HB5.out.size; omega) ?_
          intro v6 w6 ho6 hu6
          have hb6 := hu6.belowBase (HO5.out.alloc _) (HB5.out.alloc HB5.out.size _) (by rw [World.size_alloc]; have := HB5.out.size; omega)
          have HO6 := Lib.hid ho6
          have HB6 := Lib.hid hb6
          clear ho6 hu6 hb6))
        go_wp2_with (at_builtin; go_must (
          refine wpl_appendS _ rfl (.tmp 29) (.tmp 32) 44 rfl w.heap.size 3 _ 8 Try.underlying44 infoI rfl _ (xs.take k ++ [x]) rfl HO6.out AF nf cf (xs.drop k) rfl HNF.out (HSF.out.below HB6.out) (by omega) (by omega) HB6.out.size ?_
          intro v8 w8 ho8 hu8
          have HB8 := Lib.hid (hu8.belowBase HO6.out HB6.out HB6.out.size)
          have HO8 := Lib.hid ho8
          clear ho8 hu8))
        go_ret
        exact ⟨_, rfl, by rw [HI.out]; exact HO8.out, HB8.out⟩
      · obtain rfl : n = k := by omega
        have hkk : ¬ ((n : Int) < (n : Int)) := by omega
        clear hcase
        skip
        go_upto_region 5 with (at_builtin; go_must (
          refine wpl_appendS _ rfl (.const (.slice none 0 0)) (.tmp 23) 44 rfl w.heap.size 3 _ 8 Try.underlying44 infoI rfl (.slice none 0 0) ([] : List Int) rfl (Ow.nil_ _ _ _) A n c (xs.take n) rfl HNIL.out (HST.out.below hbr) (by simp; omega) (by omega) hbr.size ?_
          intro v5 w5 ho5 hu5
          rw [List.nil_append] at ho5
          have HB5 := Lib.hid (hu5.belowBase (Ow.nil_ _ _ 3 : Ow wr w.heap.size 3 (.slice none 0 0) ([] : List Int)) hbr hbr.size)
          have HO5 := Lib.hid ho5
          clear ho5 hu5))
        go_upto_region 6 with (at_builtin; go_must (
          refine wpl_append1 _ rfl (.tmp 25) (.tmp 27) 44 rfl w.heap.size 3 _ 8 Try.underlying44 infoI rfl _ (xs.take n) rfl (HO5.out.alloc _) _ x rfl (fun j u hu => cells_new _ _ _ _ _ (by simp) u hu) (by omega) (by omega) (by rw [World.size_alloc]; have := HB5.out.size; omega) ?_
          intro v6 w6 ho6 hu6
          have hb6 := hu6.belowBase (HO5.out.alloc _) (HB5.out.alloc HB5.out.size _) (by rw [World.size_alloc]; have := HB5.out.size; omega)
          have HO6 := Lib.hid ho6
          have HB6 := Lib.hid hb6
          clear ho6 hu6 hb6))
        go_wp2_with (at_builtin; go_must (
          refine wpl_appendS _ rfl (.tmp 29) (.tmp 32) 44 rfl w.heap.size 3 _ 8 Try.underlying44 infoI rfl _ (xs.take n ++ [x]) rfl HO6.out AF nf cf (xs.drop n) rfl HNF.out (HSF.out.below HB6.out) (by omega) (by omega) HB6.out.size ?_
          intro v8 w8 ho8 hu8
          have HB8 := Lib.hid (hu8.belowBase HO6.out HB6.out HB6.out.size)
          have HO8 := Lib.hid ho8
          clear ho8 hu8))
        go_ret
        exact ⟨_, rfl, by rw [HI.out]; exact HO8.out, HB8.out⟩
set_option maxHeartbeats 8000000 in
theorem placeS_any (A : Option Addr) (n c : Nat) (xs : List ByteArray) (x : ByteArray) (w : World) (h : Sl w A n c xs) (hA : A = none → c = 0) (hn9 : n ≤ 900000) :
    Calls Try.prog 116 #[.slice A n c, .string x] w fun e w' => ∃ v, e = .returned v ∧ Ow w' w.heap.size 9 v (insS xs x) ∧ Below w.heap.size w w' := by
  have HS := Lib.hid h
  have HNIL := Lib.hid hA
  have HLen := Lib.hid h.len
  have hn := h.nmax
  clear h hA
  go_enter Try.func116, Try.ntmps116
  go_wp2_with fail
  go_loopw [5] (fun i wr => ∃ k : Nat, k ≤ n ∧ i = .int .i64 k ∧ Below w.heap.size w wr ∧ ∀ j y, j < k → xs[j]? = some y → Op.bytesLess y.toList x.toList = true) (fun i _ => n - (intOf i).toNat)
  case atStart => exact ⟨0, Nat.zero_le _, rfl, Below.refl _ _, fun j y hj => absurd hj (by omega)⟩
  case round =>
    obtain ⟨k, hk, rfl, hbr, hall⟩ := hrel
    have HK := Lib.hid hall
    clear hall
    by_cases hcase : ∃ y, xs[k]? = some y ∧ Op.bytesLess y.toList x.toList = true
    · obtain ⟨y, hy, hlt⟩ := hcase
      have hkn : k < n := by have := (List.getElem?_eq_some_iff.1 hy).1; have := HLen.out; omega
      obtain ⟨b, off, rfl, hbl, hcells⟩ := HS.out.baseIn hbr (by omega)
      have e0 : wr.cell? ⟨b, off + k * 1, none⟩ = some (.string y) := Sl.at_ hcells hy 0 rfl
      rw [Nat.mul_one] at e0
      have HST := Lib.hid (show ∀ j z, j < k + 1 → xs[j]? = some z → Op.bytesLess z.toList x.toList = true from fun j z hj hz => by
        rcases Nat.lt_or_ge j k with h1 | h1
        · exact HK.out j z h1 hz
        · obtain rfl : j = k := by omega
          rw [hy] at hz; cases hz; exact hlt)
      have hbl2 : b < wr.heap.size := Nat.lt_of_lt_of_le hbl hbr.size
      clear hcells hy
      go_wp2_with fail
      go_roundw
      case rel => exact ⟨k + 1, by omega, by go_num, hbr, HST.out⟩
      case measure => simp [intOf]; omega
    · have HI := Lib.hid (show insS xs x = xs.take k ++ [x] ++ xs.drop k from insS_at xs x k HK.out (fun y hy hlt => hcase ⟨y, hy, hlt⟩))
      have hslT : ∀ W, (Instr.slice 49 (.slice A n c) none (some (.int .i64 (k : Int))) none).run Try.prog W = .ok (.slice A k c) W := fun W => run_slice_to (sz := 1) (by kernel_rfl) (by kernel_rfl) (by have := HS.out.le; omega) W
      have HST := Lib.hid (Sl.takeK HS.out hk)
      have hslF : ∀ W, (Instr.slice 49 (.slice A n c) (some (.int .i64 (k : Int))) none none).run Try.prog W = .ok (.slice (if c = k then A else A.map (·.add (k * 1))) (n - k) (c - k)) W := fun W => run_slice_from (sz := 1) (by kernel_rfl) (by kernel_rfl) hk W
      have hsF := Sl.dropG HS.out hk
      obtain ⟨AF, hAF⟩ : ∃ AF : Option Addr, (if c = k then A else A.map (·.add (k * 1))) = AF := ⟨_, rfl⟩
      have hAF' : (if c = k then A else A.map (·.add (k * Flat.sz ByteArray))) = AF := hAF
      have hnilF : AF = none → c - k = 0 := fun e => by
        have hcc := HNIL.out
        rw [← hAF] at e
        split at e
        · omega
        · cases A with
          | none => have := hcc rfl; omega
          | some a => cases e
      rw [hAF] at hslF
      rw [hAF'] at hsF
      have HSF := Lib.hid hsF
      have HNF := Lib.hid hnilF
      have htl : (xs.take k).length ≤ 900000 := by rw [List.length_take]; omega
      have htl2 : (xs.take k ++ [x]).length ≤ 900001 := by simp; omega
      obtain ⟨nf, hnf⟩ : ∃ nf, n - k = nf := ⟨_, rfl⟩
      obtain ⟨cf, hcf⟩ : ∃ cf, c - k = cf := ⟨_, rfl⟩
      rw [hnf, hcf] at hslF
      replace HSF := Lib.hid (show Sl w AF nf cf (xs.drop k) by have := HSF.out; rw [hnf, hcf] at this; exact this)
      replace HNF := Lib.hid (show AF = none → cf = 0 by have := HNF.out; rw [hcf] at this; exact this)
      have hnfl : nf ≤ 900000 := by omega
      clear hAF hAF' hsF hnilF hnf hcf
      by_cases hkn : k < n
      · obtain ⟨b, off, hAe, hbl, hcells⟩ := HS.out.baseIn hbr (by omega)
        obtain ⟨y, hy⟩ := HS.out.get hkn
        have hnl : ¬ (Op.bytesLess y.toList x.toList = true) := fun h => hcase ⟨y, hy, h⟩
        have e0 : wr.cell? ⟨b, off + k * 1, none⟩ = some (.string y) := Sl.at_ hcells hy 0 rfl
        rw [Nat.mul_one] at e0
        have hbl2 : b < wr.heap.size := Nat.lt_of_lt_of_le hbl hbr.size
        subst hAe
        clear hcells hy hcase
        skip
        go_upto_region 5 with (at_builtin; go_must (
          refine wpl_appendS _ rfl (.const (.slice none 0 0)) (.tmp 23) 49 rfl w.heap.size 9 _ 16 Try.underlying49 infoS rfl (.slice none 0 0) ([] : List ByteArray) rfl (Ow.nil_ _ _ _) (some ⟨b, off, none⟩) k c (xs.take k) rfl HNIL.out (HST.out.below hbr) (by simp; omega) (by omega) hbr.size ?_
          intro v5 w5 ho5 hu5
          rw [List.nil_append] at ho5
          have HB5 := Lib.hid (hu5.belowBase (Ow.nil_ _ _ 9 : Ow wr w.heap.size 9 (.slice none 0 0) ([] : List ByteArray)) hbr hbr.size)
          have HO5 := Lib.hid ho5
          clear ho5 hu5))
        go_upto_region 6 with (at_builtin; go_must (
          refine wpl_append1 _ rfl (.tmp 25) (.tmp 27) 49 rfl w.heap.size 9 _ 16 Try.underlying49 infoS rfl _ (xs.take k) rfl (HO5.out.alloc _) _ x rfl (fun j u hu => cells_new _ _ _ _ _ (by simp) u hu) (by omega) (by omega) (by rw [World.size_alloc]; have := HB5.out.size; omega) ?_
          intro v6 w6 ho6 hu6
          have hb6 := hu6.belowBase (HO5.out.alloc _) (HB5.out.alloc HB5.out.size _) (by rw [World.size_alloc]; have := HB5.out.size; omega)
          have HO6 := Lib.hid ho6
          have HB6 := Lib.hid hb6
          clear ho6 hu6 hb6))
        go_wp2_with (at_builtin; go_must (
          refine wpl_appendS _ rfl (.tmp 29) (.tmp 32) 49 rfl w.heap.size 9 _ 16 Try.underlying49 infoS rfl _ (xs.take k ++ [x]) rfl HO6.out AF nf cf (xs.drop k) rfl HNF.out (HSF.out.below HB6.out) (by omega) (by omega) HB6.out.size ?_
          intro v8 w8 ho8 hu8
          have HB8 := Lib.hid (hu8.belowBase HO6.out HB6.out HB6.out.size)
          have HO8 := Lib.hid ho8
          clear ho8 hu8))
        go_ret
        exact ⟨_, rfl, by rw [HI.out]; exact HO8.out, HB8.out⟩
      · obtain rfl : n = k := by omega
        have hkk : ¬ ((n : Int) < (n : Int)) := by omega
        clear hcase
        skip
        go_upto_region 5 with (at_builtin; go_must (
          refine wpl_appendS _ rfl (.const (.slice none 0 0)) (.tmp 23) 49 rfl w.heap.size 9 _ 16 Try.underlying49 infoS rfl (.slice none 0 0) ([] : List ByteArray) rfl (Ow.nil_ _ _ _) A n c (xs.take n) rfl HNIL.out (HST.out.below hbr) (by simp; omega) (by omega) hbr.size ?_
          intro v5 w5 ho5 hu5
          rw [List.nil_append] at ho5
          have HB5 := Lib.hid (hu5.belowBase (Ow.nil_ _ _ 9 : Ow wr w.heap.size 9 (.slice none 0 0) ([] : List ByteArray)) hbr hbr.size)
          have HO5 := Lib.hid ho5
          clear ho5 hu5))
        go_upto_region 6 with (at_builtin; go_must (
          refine wpl_append1 _ rfl (.tmp 25) (.tmp 27) 49 rfl w.heap.size 9 _ 16 Try.underlying49 infoS rfl _ (xs.take n) rfl (HO5.out.alloc _) _ x rfl (fun j u hu => cells_new _ _ _ _ _ (by simp) u hu) (by omega) (by omega) (by rw [World.size_alloc]; have := HB5.out.size; omega) ?_
          intro v6 w6 ho6 hu6
          have hb6 := hu6.belowBase (HO5.out.alloc _) (HB5.out.alloc HB5.out.size _) (by rw [World.size_alloc]; have := HB5.out.size; omega)
          have HO6 := Lib.hid ho6
          have HB6 := Lib.hid hb6
          clear ho6 hu6 hb6))
        go_wp2_with (at_builtin; go_must (
          refine wpl_appendS _ rfl (.tmp 29) (.tmp 32) 49 rfl w.heap.size 9 _ 16 Try.underlying49 infoS rfl _ (xs.take n ++ [x]) rfl HO6.out AF nf cf (xs.drop n) rfl HNF.out (HSF.out.below HB6.out) (by omega) (by omega) HB6.out.size ?_
          intro v8 w8 ho8 hu8
          have HB8 := Lib.hid (hu8.belowBase HO6.out HB6.out HB6.out.size)
          have HO8 := Lib.hid ho8
          clear ho8 hu8))
        go_ret
        exact ⟨_, rfl, by rw [HI.out]; exact HO8.out, HB8.out⟩
end Cu
end Go.Proofs.Yteaanngagcflhaa
