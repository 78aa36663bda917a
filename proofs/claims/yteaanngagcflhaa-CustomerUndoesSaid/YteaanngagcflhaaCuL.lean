/-
  Customers: the program's world behind a store. No condition.
-/
import Derived.Test.YteaanngagcflhaaCuI
import Derived.BigQuiet
import Derived.StillTailTactics
import Derived.Lib.Overlaps
import Derived.Deep.DeepCutAuto
import Derived.Deep.RegionWith
import Derived.RangeFuncNested
set_option maxRecDepth 100000
set_option linter.unusedVariables false
set_option linter.unusedSimpArgs false
namespace Go.Proofs.Yteaanngagcflhaa
open Go.RowKit

namespace Cu
open Go.Maps
/-- blocks below B lie as they lay; what is no cells and lies at or beyond M too -/
def Stp0 (B M : Nat) (w w' : World) : Prop := Below B w w' ∧ KeepsFrom M w w'
theorem Stp0.trans {B M : Nat} {w w1 w2 : World} (h : Stp0 B M w w1) (k : Stp0 B M w1 w2) : Stp0 B M w w2 := ⟨h.1.trans k.1, h.2.trans k.2⟩
theorem Stp0.set_ {B M g o : Nat} {w : World} {u : Value} (hB : B ≤ g) : Stp0 B M w (w.setCell ⟨g, o, none⟩ u) := ⟨(Below.refl _ _).setCell hB _, (KeepsOthers.setCell _ _ _).from _⟩
/-- blocks below B lie as they lay; at or beyond M what is no cells, and all cells -/
def Stp (B M : Nat) (w w' : World) : Prop := Below B w w' ∧ KeepsFrom M w w' ∧ Keeps (fun b => M ≤ b) w w'
theorem Stp.zero {B M : Nat} {w w' : World} (h : Stp B M w w') : Stp0 B M w w' := ⟨h.1, h.2.1⟩
theorem Stp.refl (B M : Nat) (w : World) : Stp B M w w := ⟨Below.refl _ _, KeepsFrom.refl _ _, Keeps.refl_⟩
theorem Stp.trans {B M : Nat} {w w1 w2 : World} (h : Stp B M w w1) (k : Stp B M w1 w2) : Stp B M w w2 := ⟨h.1.trans k.1, h.2.1.trans k.2.1, h.2.2.trans k.2.2⟩
theorem Stp.below {B M : Nat} {w w' : World} (h : Below w.heap.size w w') (hB : B ≤ w.heap.size) : Stp B M w w' :=
  ⟨h.mono hB, ⟨h.size, fun k o _ hk _ => (h.block k (Array.getElem?_eq_some_iff.1 hk).1).trans hk⟩, Keeps.ofBelow h⟩
theorem Stp.set_ {B M g o : Nat} {w : World} {u : Value} (hB : B ≤ g) (hM : g < M) : Stp B M w (w.setCell ⟨g, o, none⟩ u) := ⟨(Below.refl _ _).setCell hB _, (KeepsOthers.setCell _ _ _).from _, Keeps.ofSet fun b hb => by have : M ≤ b := hb; omega⟩
theorem Stp.turn {B M b : Nat} {w w' : World} (h : w.mapTurned w' b) (hB : B ≤ b) (hM : b < M) : Stp B M w w' := ⟨turned_below h (Below.refl _ _) hB, KeepsFrom.of_grownBy h.grown fun j e => by cases e; exact hM, turned_keeps h⟩
theorem Stp.drew {B M : Nat} {w : World} : Stp B M w w.drew := ⟨(Below.refl _ _).drew, ⟨Nat.le_refl _, fun _ _ _ h _ => h⟩, ⟨Nat.le_refl _, fun _ _ _ _ => rfl⟩⟩
theorem fS.mono {w : World} {q : Nat → Prop} {N N' : Nat} {f : Lit → Option Value} {s : St} (h : fS w q N f s) (hN : N ≤ N') : fS w q N' f s := fun x => by
  have := h x
  cases hs : s.sub x with
  | none => rw [hs] at this; exact this
  | some sb =>
    rw [hs] at this
    obtain ⟨v, h1, h2, h3, h4, h5⟩ := this
    exact ⟨v, h1, h2, by omega, by omega, h5⟩
theorem fL.mono {N N' : Nat} {f : Lit → Option Value} {s : St} (h : fL N f s) (hN : N ≤ N') : fL N' f s := fun x => ⟨(h x).1, by have := (h x).2.1; omega, by have := (h x).2.2; omega⟩
theorem RepQ.mono {w : World} {q : Nat → Prop} {B M N N' : Nat} {k : Bl} {s : St} (h : RepQ w q B M N k s) (hN : N ≤ N') : RepQ w q B M N' k s := by
  refine ⟨h.nq, h.lo, h.hi, h.m, h.ne, h.np, h.fz, h.c0, h.c1, h.c2, h.c3, h.c4, ?_, ?_, ?_, ?_, ?_, ?_, ?_⟩
  · obtain ⟨f, h1, h2⟩ := h.acc; exact ⟨f, h1.mono hN, h2⟩
  · obtain ⟨f, h1, h2⟩ := h.sub; exact ⟨f, h1.mono hN, h2.mono hN⟩
  · obtain ⟨f, h1, h2⟩ := h.ever; exact ⟨f, h1.mono hN, h2⟩
  · obtain ⟨f, h1, h2⟩ := h.own; exact ⟨f, h1.mono hN, h2⟩
  · obtain ⟨f, h1, h2⟩ := h.live; exact ⟨f, h1.mono hN, h2.mono hN⟩
  · obtain ⟨A, n, c, h1, h2, h3, h4, h5⟩ := h.opened; exact ⟨A, n, c, h1, h2, h3, h4, by omega⟩
  · obtain ⟨A, n, c, h1, h2, h3, h4, h5⟩ := h.added; exact ⟨A, n, c, h1, h2, h3, h4, by omega⟩
theorem turned_frozen {w w' : World} {b : Nat} (h : w.mapTurned w' b) (p j : Nat) : w'.frozen? ⟨p, j, none⟩ = w.frozen? ⟨p, j, none⟩ := h.frozen _
theorem RepQ.turn_acc {w w' : World} {q : Nat → Prop} {B M N N' : Nat} {k : Bl} {s : St} (h : RepQ w q B M N k s) (ht : w.mapTurned w' k.ba) (f' : Lit → Option Value) (hm : MI w' k.ba N' f') (hN : N ≤ N') (acc' : Int → Option Ac) (hf : fA f' { s with acc := acc' }) : RepQ w' q B M N' k { s with acc := acc' } := by
  have hg := ht.grown
  have cell : ∀ j, w'.cell? ⟨k.p, j, none⟩ = w.cell? ⟨k.p, j, none⟩ := fun j => turned_cell ht _
  have hk : ∀ p, Keeps p w w' := fun p => turned_keeps ht
  refine ⟨h.nq, h.lo, h.hi, Nat.le_trans h.m hg.size, h.ne, h.np, fun j => (turned_frozen ht _ _).trans (h.fz j), (cell 0).trans h.c0, (cell 1).trans h.c1, (cell 2).trans h.c2, (cell 3).trans h.c3, (cell 4).trans h.c4, ?_, ?_, ?_, ?_, ?_, ?_, ?_⟩
  · exact ⟨f', hm, hf⟩
  · obtain ⟨f, h1, h2⟩ := h.sub; exact ⟨f, (h1.kept hg (fun e => (Ne.symm h.ne.1) (by injection e))).mono hN, (h2.keep (hk _)).mono hN⟩
  · obtain ⟨f, h1, h2⟩ := h.ever; exact ⟨f, (h1.kept hg (fun e => (Ne.symm h.ne.2.1) (by injection e))).mono hN, h2⟩
  · obtain ⟨f, h1, h2⟩ := h.own; exact ⟨f, (h1.kept hg (fun e => (Ne.symm h.ne.2.2.1) (by injection e))).mono hN, h2⟩
  · obtain ⟨f, h1, h2⟩ := h.live; exact ⟨f, (h1.kept hg (fun e => (Ne.symm h.ne.2.2.2.1) (by injection e))).mono hN, h2.mono hN⟩
  · obtain ⟨A, n, c, h1, h2, h3, h4, h5⟩ := h.opened; exact ⟨A, n, c, (cell 5).trans h1, h2.keepP h4 (hk _), h3, h4, by omega⟩
  · obtain ⟨A, n, c, h1, h2, h3, h4, h5⟩ := h.added; exact ⟨A, n, c, (cell 6).trans h1, h2.keepP h4 (hk _), h3, h4, by omega⟩
theorem RepQ.turn_sub {w w' : World} {q : Nat → Prop} {B M N N' : Nat} {k : Bl} {s : St} (h : RepQ w q B M N k s) (ht : w.mapTurned w' k.bs) (f' : Lit → Option Value) (hm : MI w' k.bs N' f') (hN : N ≤ N') (sub' : Int → Option Sb) (hf : fS w' q N' f' { s with sub := sub' }) : RepQ w' q B M N' k { s with sub := sub' } := by
  have hg := ht.grown
  have cell : ∀ j, w'.cell? ⟨k.p, j, none⟩ = w.cell? ⟨k.p, j, none⟩ := fun j => turned_cell ht _
  have hk : ∀ p, Keeps p w w' := fun p => turned_keeps ht
  refine ⟨h.nq, h.lo, h.hi, Nat.le_trans h.m hg.size, h.ne, h.np, fun j => (turned_frozen ht _ _).trans (h.fz j), (cell 0).trans h.c0, (cell 1).trans h.c1, (cell 2).trans h.c2, (cell 3).trans h.c3, (cell 4).trans h.c4, ?_, ?_, ?_, ?_, ?_, ?_, ?_⟩
  · obtain ⟨f, h1, h2⟩ := h.acc; exact ⟨f, (h1.kept hg (fun e => h.ne.1 (by injection e))).mono hN, h2⟩
  · exact ⟨f', hm, hf⟩
  · obtain ⟨f, h1, h2⟩ := h.ever; exact ⟨f, (h1.kept hg (fun e => (Ne.symm h.ne.2.2.2.2.1) (by injection e))).mono hN, h2⟩
  · obtain ⟨f, h1, h2⟩ := h.own; exact ⟨f, (h1.kept hg (fun e => (Ne.symm h.ne.2.2.2.2.2.1) (by injection e))).mono hN, h2⟩
  · obtain ⟨f, h1, h2⟩ := h.live; exact ⟨f, (h1.kept hg (fun e => (Ne.symm h.ne.2.2.2.2.2.2.1) (by injection e))).mono hN, h2.mono hN⟩
  · obtain ⟨A, n, c, h1, h2, h3, h4, h5⟩ := h.opened; exact ⟨A, n, c, (cell 5).trans h1, h2.keepP h4 (hk _), h3, h4, by omega⟩
  · obtain ⟨A, n, c, h1, h2, h3, h4, h5⟩ := h.added; exact ⟨A, n, c, (cell 6).trans h1, h2.keepP h4 (hk _), h3, h4, by omega⟩
theorem RepQ.turn_ever {w w' : World} {q : Nat → Prop} {B M N N' : Nat} {k : Bl} {s : St} (h : RepQ w q B M N k s) (ht : w.mapTurned w' k.be) (f' : Lit → Option Value) (hm : MI w' k.be N' f') (hN : N ≤ N') (ever' : Int → Bool) (hf : fE f' { s with ever := ever' }) : RepQ w' q B M N' k { s with ever := ever' } := by
  have hg := ht.grown
  have cell : ∀ j, w'.cell? ⟨k.p, j, none⟩ = w.cell? ⟨k.p, j, none⟩ := fun j => turned_cell ht _
  have hk : ∀ p, Keeps p w w' := fun p => turned_keeps ht
  refine ⟨h.nq, h.lo, h.hi, Nat.le_trans h.m hg.size, h.ne, h.np, fun j => (turned_frozen ht _ _).trans (h.fz j), (cell 0).trans h.c0, (cell 1).trans h.c1, (cell 2).trans h.c2, (cell 3).trans h.c3, (cell 4).trans h.c4, ?_, ?_, ?_, ?_, ?_, ?_, ?_⟩
  · obtain ⟨f, h1, h2⟩ := h.acc; exact ⟨f, (h1.kept hg (fun e => h.ne.2.1 (by injection e))).mono hN, h2⟩
  · obtain ⟨f, h1, h2⟩ := h.sub; exact ⟨f, (h1.kept hg (fun e => h.ne.2.2.2.2.1 (by injection e))).mono hN, (h2.keep (hk _)).mono hN⟩
  · exact ⟨f', hm, hf⟩
  · obtain ⟨f, h1, h2⟩ := h.own; exact ⟨f, (h1.kept hg (fun e => (Ne.symm h.ne.2.2.2.2.2.2.2.1) (by injection e))).mono hN, h2⟩
  · obtain ⟨f, h1, h2⟩ := h.live; exact ⟨f, (h1.kept hg (fun e => (Ne.symm h.ne.2.2.2.2.2.2.2.2.1) (by injection e))).mono hN, h2.mono hN⟩
  · obtain ⟨A, n, c, h1, h2, h3, h4, h5⟩ := h.opened; exact ⟨A, n, c, (cell 5).trans h1, h2.keepP h4 (hk _), h3, h4, by omega⟩
  · obtain ⟨A, n, c, h1, h2, h3, h4, h5⟩ := h.added; exact ⟨A, n, c, (cell 6).trans h1, h2.keepP h4 (hk _), h3, h4, by omega⟩
theorem RepQ.turn_own {w w' : World} {q : Nat → Prop} {B M N N' : Nat} {k : Bl} {s : St} (h : RepQ w q B M N k s) (ht : w.mapTurned w' k.bo) (f' : Lit → Option Value) (hm : MS w' k.bo N' f') (hN : N ≤ N') (own' : List UInt8 → Option Int) (hf : fO f' { s with own := own' }) : RepQ w' q B M N' k { s with own := own' } := by
  have hg := ht.grown
  have cell : ∀ j, w'.cell? ⟨k.p, j, none⟩ = w.cell? ⟨k.p, j, none⟩ := fun j => turned_cell ht _
  have hk : ∀ p, Keeps p w w' := fun p => turned_keeps ht
  refine ⟨h.nq, h.lo, h.hi, Nat.le_trans h.m hg.size, h.ne, h.np, fun j => (turned_frozen ht _ _).trans (h.fz j), (cell 0).trans h.c0, (cell 1).trans h.c1, (cell 2).trans h.c2, (cell 3).trans h.c3, (cell 4).trans h.c4, ?_, ?_, ?_, ?_, ?_, ?_, ?_⟩
  · obtain ⟨f, h1, h2⟩ := h.acc; exact ⟨f, (h1.kept hg (fun e => h.ne.2.2.1 (by injection e))).mono hN, h2⟩
  · obtain ⟨f, h1, h2⟩ := h.sub; exact ⟨f, (h1.kept hg (fun e => h.ne.2.2.2.2.2.1 (by injection e))).mono hN, (h2.keep (hk _)).mono hN⟩
  · obtain ⟨f, h1, h2⟩ := h.ever; exact ⟨f, (h1.kept hg (fun e => h.ne.2.2.2.2.2.2.2.1 (by injection e))).mono hN, h2⟩
  · exact ⟨f', hm, hf⟩
  · obtain ⟨f, h1, h2⟩ := h.live; exact ⟨f, (h1.kept hg (fun e => (Ne.symm h.ne.2.2.2.2.2.2.2.2.2) (by injection e))).mono hN, h2.mono hN⟩
  · obtain ⟨A, n, c, h1, h2, h3, h4, h5⟩ := h.opened; exact ⟨A, n, c, (cell 5).trans h1, h2.keepP h4 (hk _), h3, h4, by omega⟩
  · obtain ⟨A, n, c, h1, h2, h3, h4, h5⟩ := h.added; exact ⟨A, n, c, (cell 6).trans h1, h2.keepP h4 (hk _), h3, h4, by omega⟩
theorem RepQ.turn_live {w w' : World} {q : Nat → Prop} {B M N N' : Nat} {k : Bl} {s : St} (h : RepQ w q B M N k s) (ht : w.mapTurned w' k.bl) (f' : Lit → Option Value) (hm : MI w' k.bl N' f') (hN : N ≤ N') (live' : Int → Int) (hf : fL N' f' { s with live := live' }) : RepQ w' q B M N' k { s with live := live' } := by
  have hg := ht.grown
  have cell : ∀ j, w'.cell? ⟨k.p, j, none⟩ = w.cell? ⟨k.p, j, none⟩ := fun j => turned_cell ht _
  have hk : ∀ p, Keeps p w w' := fun p => turned_keeps ht
  refine ⟨h.nq, h.lo, h.hi, Nat.le_trans h.m hg.size, h.ne, h.np, fun j => (turned_frozen ht _ _).trans (h.fz j), (cell 0).trans h.c0, (cell 1).trans h.c1, (cell 2).trans h.c2, (cell 3).trans h.c3, (cell 4).trans h.c4, ?_, ?_, ?_, ?_, ?_, ?_, ?_⟩
  · obtain ⟨f, h1, h2⟩ := h.acc; exact ⟨f, (h1.kept hg (fun e => h.ne.2.2.2.1 (by injection e))).mono hN, h2⟩
  · obtain ⟨f, h1, h2⟩ := h.sub; exact ⟨f, (h1.kept hg (fun e => h.ne.2.2.2.2.2.2.1 (by injection e))).mono hN, (h2.keep (hk _)).mono hN⟩
  · obtain ⟨f, h1, h2⟩ := h.ever; exact ⟨f, (h1.kept hg (fun e => h.ne.2.2.2.2.2.2.2.2.1 (by injection e))).mono hN, h2⟩
  · obtain ⟨f, h1, h2⟩ := h.own; exact ⟨f, (h1.kept hg (fun e => h.ne.2.2.2.2.2.2.2.2.2 (by injection e))).mono hN, h2⟩
  · exact ⟨f', hm, hf⟩
  · obtain ⟨A, n, c, h1, h2, h3, h4, h5⟩ := h.opened; exact ⟨A, n, c, (cell 5).trans h1, h2.keepP h4 (hk _), h3, h4, by omega⟩
  · obtain ⟨A, n, c, h1, h2, h3, h4, h5⟩ := h.added; exact ⟨A, n, c, (cell 6).trans h1, h2.keepP h4 (hk _), h3, h4, by omega⟩
theorem RepQ.set_opened {w : World} {q : Nat → Prop} {B M N : Nat} {k : Bl} {s : St} (h : RepQ w q B M N k s) {A : Option Addr} {n c : Nat} {l : List Int} (hs : Sl w A n c l) (hn : A = none → c = 0) (hok : OkA q A n) (hle : n ≤ N + 1) : RepQ (w.setCell ⟨k.p, 5, none⟩ (.slice A n c)) q B M (N + 1) k { s with opened := l } := by
  have hk : Keeps q w (w.setCell ⟨k.p, 5, none⟩ (.slice A n c)) := Keeps.ofSet h.nq
  have cell : ∀ i, i ≠ 5 → (w.setCell ⟨k.p, 5, none⟩ (.slice A n c)).cell? ⟨k.p, i, none⟩ = w.cell? ⟨k.p, i, none⟩ := fun i hi => World.cell?_setCell_other _ _ _ _ (fun e => by injection e with e1 e2; exact hi e2.symm)
  have me : ∀ {ty : TypeId} {b m : Nat} {f : Lit → Option Value}, Mf Try.prog ty w b m f → k.p ≠ b → Mf Try.prog ty (w.setCell ⟨k.p, 5, none⟩ (.slice A n c)) b (m + 1) f := fun hm hne => (hm.setCell (a := ⟨k.p, 5, none⟩) (fun e => hne e.symm) _).mono (Nat.le_succ _)
  refine ⟨h.nq, h.lo, h.hi, by rw [World.size_setCell]; exact h.m, h.ne, h.np, fun j => by rw [World.frozen?_setCell]; exact h.fz j, (cell 0 (by decide)).trans h.c0, (cell 1 (by decide)).trans h.c1, (cell 2 (by decide)).trans h.c2, (cell 3 (by decide)).trans h.c3, (cell 4 (by decide)).trans h.c4, ?_, ?_, ?_, ?_, ?_, ?_, ?_⟩
  · obtain ⟨f, h1, h2⟩ := h.acc; exact ⟨f, me h1 h.np.1, h2⟩
  · obtain ⟨f, h1, h2⟩ := h.sub; exact ⟨f, me h1 h.np.2.1, (h2.keep hk).mono (Nat.le_succ N)⟩
  · obtain ⟨f, h1, h2⟩ := h.ever; exact ⟨f, me h1 h.np.2.2.1, h2⟩
  · obtain ⟨f, h1, h2⟩ := h.own; exact ⟨f, me h1 h.np.2.2.2.1, h2⟩
  · obtain ⟨f, h1, h2⟩ := h.live; exact ⟨f, me h1 h.np.2.2.2.2, h2.mono (Nat.le_succ N)⟩
  · obtain ⟨A0, n0, c0, h1, _⟩ := h.opened; exact ⟨A, n, c, World.cell?_setCell_same _ _ _ h1, hs.keepP hok hk, hn, hok, hle⟩
  · obtain ⟨A1, n1, c1, h1, h2, h3, h4, h5⟩ := h.added; exact ⟨A1, n1, c1, (cell 6 (by decide)).trans h1, h2.keepP h4 hk, h3, h4, by omega⟩
theorem RepQ.set_added {w : World} {q : Nat → Prop} {B M N : Nat} {k : Bl} {s : St} (h : RepQ w q B M N k s) {A : Option Addr} {n c : Nat} {l : List Int} (hs : Sl w A n c l) (hn : A = none → c = 0) (hok : OkA q A n) (hle : n ≤ N + 1) : RepQ (w.setCell ⟨k.p, 6, none⟩ (.slice A n c)) q B M (N + 1) k { s with added := l } := by
  have hk : Keeps q w (w.setCell ⟨k.p, 6, none⟩ (.slice A n c)) := Keeps.ofSet h.nq
  have cell : ∀ i, i ≠ 6 → (w.setCell ⟨k.p, 6, none⟩ (.slice A n c)).cell? ⟨k.p, i, none⟩ = w.cell? ⟨k.p, i, none⟩ := fun i hi => World.cell?_setCell_other _ _ _ _ (fun e => by injection e with e1 e2; exact hi e2.symm)
  have me : ∀ {ty : TypeId} {b m : Nat} {f : Lit → Option Value}, Mf Try.prog ty w b m f → k.p ≠ b → Mf Try.prog ty (w.setCell ⟨k.p, 6, none⟩ (.slice A n c)) b (m + 1) f := fun hm hne => (hm.setCell (a := ⟨k.p, 6, none⟩) (fun e => hne e.symm) _).mono (Nat.le_succ _)
  refine ⟨h.nq, h.lo, h.hi, by rw [World.size_setCell]; exact h.m, h.ne, h.np, fun j => by rw [World.frozen?_setCell]; exact h.fz j, (cell 0 (by decide)).trans h.c0, (cell 1 (by decide)).trans h.c1, (cell 2 (by decide)).trans h.c2, (cell 3 (by decide)).trans h.c3, (cell 4 (by decide)).trans h.c4, ?_, ?_, ?_, ?_, ?_, ?_, ?_⟩
  · obtain ⟨f, h1, h2⟩ := h.acc; exact ⟨f, me h1 h.np.1, h2⟩
  · obtain ⟨f, h1, h2⟩ := h.sub; exact ⟨f, me h1 h.np.2.1, (h2.keep hk).mono (Nat.le_succ N)⟩
  · obtain ⟨f, h1, h2⟩ := h.ever; exact ⟨f, me h1 h.np.2.2.1, h2⟩
  · obtain ⟨f, h1, h2⟩ := h.own; exact ⟨f, me h1 h.np.2.2.2.1, h2⟩
  · obtain ⟨f, h1, h2⟩ := h.live; exact ⟨f, me h1 h.np.2.2.2.2, h2.mono (Nat.le_succ N)⟩
  · obtain ⟨A1, n1, c1, h1, h2, h3, h4, h5⟩ := h.opened; exact ⟨A1, n1, c1, (cell 5 (by decide)).trans h1, h2.keepP h4 hk, h3, h4, by omega⟩
  · obtain ⟨A0, n0, c0, h1, _⟩ := h.added; exact ⟨A, n, c, World.cell?_setCell_same _ _ _ h1, hs.keepP hok hk, hn, hok, hle⟩
end Cu
end Go.Proofs.Yteaanngagcflhaa
