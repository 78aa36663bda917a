/-
  Customers: the rows that customers makes. No condition.
-/
import Derived.Test.YteaanngagcflhaaCuL
import Derived.Test.YteaanngagcflhaaCuC
import Derived.Test.YteaanngagcflhaaSlc
import Derived.BigQuiet
import Derived.StillTailTactics
import Derived.Lib.Overlaps
import Derived.Deep.DeepCutAuto
import Derived.Deep.RegionWith
import Derived.RangeFuncNested
import Derived.Lib.BufferOwn
set_option maxRecDepth 100000
set_option linter.unusedVariables false
set_option linter.unusedSimpArgs false
namespace Go.Proofs.Yteaanngagcflhaa
open Go.RowKit

namespace Cu
open Go.Maps
def Sep (u v : Value) : Prop := u.ownBlock = none ∨ u.ownBlock ≠ v.ownBlock
theorem Sep.symm {u v : Value} (h : Sep u v) : Sep v u := by
  unfold Sep at *
  cases hv : v.ownBlock with
  | none => exact .inl rfl
  | some g =>
    refine .inr fun e => ?_
    rcases h with h | h
    · rw [h] at e; cases e
    · rw [hv] at h; exact h e.symm
theorem Sep.nil_ (v : Value) : Sep (.slice none 0 0) v := .inl rfl
theorem upd_cell {wr w' : World} {v u : Value} (hu : Upd wr w' v u) {b o : Nat} {x : Value} (hb : b < wr.heap.size) (hne : v.ownBlock ≠ some b) (h : wr.cell? ⟨b, o, none⟩ = some x) : w'.cell? ⟨b, o, none⟩ = some x :=
  (World.cell?_of_block (a := ⟨b, o, none⟩) (hu.grew.block b hb (fun e => hne e.symm))).trans h
theorem upd_frozen {wr w' : World} {v u : Value} (hu : Upd wr w' v u) {b o : Nat} (hb : b < wr.heap.size) (hne : v.ownBlock ≠ some b) : w'.frozen? ⟨b, o, none⟩ = wr.frozen? ⟨b, o, none⟩ :=
  World.frozen?_of_block (a := ⟨b, o, none⟩) (hu.grew.block b hb (fun e => hne e.symm))
theorem ow_ne {α : Type} [Flat α] {wr : World} {B : Nat} {e : TypeId} {v : Value} {xs : List α} (h : Ow wr B e v xs) {b : Nat} (hb : wr.heap.size ≤ b) : v.ownBlock ≠ some b := fun e => by have := (h.lt b e).2; omega
theorem ow_lo {α : Type} [Flat α] {wr : World} {B : Nat} {e : TypeId} {v : Value} {xs : List α} (h : Ow wr B e v xs) {b : Nat} (hb : b < B) : v.ownBlock ≠ some b := fun e => by have := (h.lt b e).1; omega
/-- the rows that customers makes: a list of ints for each account (in the map), the accounts, the subscriptions; each apart from the others -/
structure CS (B C bm N : Nat) (w0 wr : World) (f : Lit → Option Value) (G : Int → Value) (R : Int → List Int) (va vs : Value) (xa : List Av) (xs : List Sv) : Prop where
  hb : Below B w0 wr
  bc : B ≤ C
  bs : C ≤ wr.heap.size
  mb : bm < C
  ml : B ≤ bm
  m : MI wr bm N f
  fg : ∀ x : Int, (f (.int .i64 x)).getD (.slice none 0 0) = G x
  g : ∀ x, Ow wr C 3 (G x) (R x)
  a : Ow wr C 46 va xa
  s : Ow wr C 51 vs xs
  gg : ∀ x y, x ≠ y → Sep (G x) (G y)
  ga : ∀ x, Sep va (G x)
  gs : ∀ x, Sep vs (G x)
  as_ : Sep va vs
section
variable {B C bm N : Nat} {w0 wr w' : World} {f : Lit → Option Value} {G : Int → Value} {R : Int → List Int} {va vs u : Value} {xa : List Av} {xs : List Sv}
theorem CS.below (h : CS B C bm N w0 wr f G R va vs xa xs) (hb : Below wr.heap.size wr w') : CS B C bm N w0 w' f G R va vs xa xs :=
  ⟨h.hb.trans (hb.mono (Nat.le_trans h.bc h.bs)), h.bc, Nat.le_trans h.bs hb.size, h.mb, h.ml, h.m.below hb, h.fg, fun x => (h.g x).below hb, h.a.below hb, h.s.below hb, h.gg, h.ga, h.gs, h.as_⟩
theorem CS.nem {α : Type} [Flat α] {e : TypeId} {v : Value} {ys : List α} (h : CS B C bm N w0 wr f G R va vs xa xs) (ho : Ow wr C e v ys) : some bm ≠ v.ownBlock := fun e => by have := (ho.lt bm e.symm).1; have := h.mb; omega
/-- a store into a block that is none of the rows' -/
theorem CS.set_ (h : CS B C bm N w0 wr f G R va vs xa xs) {g : Nat} (hg : B ≤ g) (hm : g ≠ bm) (ng : ∀ x, (G x).ownBlock ≠ some g) (na : va.ownBlock ≠ some g) (ns : vs.ownBlock ≠ some g) (o : Nat) (x : Value) : CS B C bm N w0 (wr.setCell ⟨g, o, none⟩ x) f G R va vs xa xs := by
  have hgr : wr.grownBy (wr.setCell ⟨g, o, none⟩ x) (some g) := Lib.grownBy_setCell wr g o x
  have hz : (wr.setCell ⟨g, o, none⟩ x).heap.size = wr.heap.size := by simp [World.setCell]
  exact ⟨h.hb.setCell hg _, h.bc, by rw [hz]; exact h.bs, h.mb, h.ml, h.m.setCell (a := ⟨g, o, none⟩) (Ne.symm hm) x, h.fg, fun x => World.ownsRow.kept (h.g x) hgr (.inr (ng x)), World.ownsRow.kept h.a hgr (.inr na), World.ownsRow.kept h.s hgr (.inr ns), h.gg, h.ga, h.gs, h.as_⟩
theorem CS.upS (h : CS B C bm N w0 wr f G R va vs xa xs) (hu : Upd wr w' vs u) {L : List Sv} (ho : Ow w' C 51 u L) : CS B C bm N w0 w' f G R va u xa L :=
  ⟨hu.belowBase (h.s.lower h.bc) h.hb (Nat.le_trans h.bc h.bs), h.bc, Nat.le_trans h.bs hu.size, h.mb, h.ml, h.m.kept hu.grew (h.nem h.s), h.fg, fun x => hu.other (h.g x) (h.gs x).symm, hu.other h.a h.as_, ho, h.gg, h.ga, fun x => Sep.symm (hu.apart (h.g x) (h.gs x).symm), hu.apart h.a h.as_⟩
theorem CS.upA (h : CS B C bm N w0 wr f G R va vs xa xs) (hu : Upd wr w' va u) {L : List Av} (ho : Ow w' C 46 u L) : CS B C bm N w0 w' f G R u vs L xs :=
  ⟨hu.belowBase (h.a.lower h.bc) h.hb (Nat.le_trans h.bc h.bs), h.bc, Nat.le_trans h.bs hu.size, h.mb, h.ml, h.m.kept hu.grew (h.nem h.a), h.fg, fun x => hu.other (h.g x) (h.ga x).symm, ho, hu.other h.s h.as_.symm, h.gg, fun x => Sep.symm (hu.apart (h.g x) (h.ga x).symm), h.gs, Sep.symm (hu.apart h.s h.as_.symm)⟩
theorem CS.mG (h : CS B C bm N w0 wr f G R va vs xa xs) {x : Int} (hu : Upd wr w' (G x) u) : MI w' bm N f := h.m.kept hu.grew (h.nem (h.g x))
theorem CS.upG (h : CS B C bm N w0 wr f G R va vs xa xs) {x : Int} {w2 : World} (hu : Upd wr w' (G x) u) {L : List Int} (ho : Ow w' C 3 u L) (ht : w'.mapTurned w2 bm) (hm : MI w2 bm (N + 1) (setM f (.int .i64 x) (some u))) : CS B C bm (N + 1) w0 w2 (setM f (.int .i64 x) (some u)) (upd G x u) (upd R x L) va vs xa xs := by
  have hg := ht.grown
  have kp : ∀ {α : Type} [Flat α] {e : TypeId} {v : Value} {ys : List α}, Ow w' C e v ys → Ow w2 C e v ys := fun {α} _ {e v ys} hv => World.ownsRow.kept hv hg (.inr fun e => by have := (hv.lt bm e).1; have := h.mb; omega)
  have hb1 : Below B w0 w' := hu.belowBase ((h.g x).lower h.bc) h.hb (Nat.le_trans h.bc h.bs)
  have hap : ∀ y, y ≠ x → Sep (G y) u := fun y hy => hu.apart (h.g y) (h.gg y x hy)
  refine ⟨turned_below ht hb1 h.ml, h.bc, Nat.le_trans (Nat.le_trans h.bs hu.size) hg.size, h.mb, h.ml, hm, fun y => ?_, fun y => ?_, kp (hu.other h.a (h.ga x)), kp (hu.other h.s (h.gs x)), fun y z hyz => ?_, fun y => ?_, fun y => ?_, h.as_⟩
  · unfold upd
    by_cases hy : y = x
    · subst hy; rw [setM_same, if_pos rfl]; rfl
    · rw [setM_other _ (fun e => hy (by injection e)), if_neg hy]; exact h.fg y
  · unfold upd
    by_cases hy : y = x
    · rw [if_pos hy, if_pos hy]; exact kp ho
    · rw [if_neg hy, if_neg hy]; exact kp (hu.other (h.g y) (h.gg y x hy))
  · unfold upd
    by_cases hy : y = x
    · rw [if_pos hy, if_neg (fun e => hyz (hy.trans e.symm))]; exact (hap z (fun e => hyz (hy.trans e.symm))).symm
    · rw [if_neg hy]
      by_cases hz : z = x
      · rw [if_pos hz]; exact hap y hy
      · rw [if_neg hz]; exact h.gg y z hyz
  · unfold upd
    by_cases hy : y = x
    · rw [if_pos hy]; exact hu.apart h.a (h.ga x)
    · rw [if_neg hy]; exact h.ga y
  · unfold upd
    by_cases hy : y = x
    · rw [if_pos hy]; exact hu.apart h.s (h.gs x)
    · rw [if_neg hy]; exact h.gs y
theorem CS.mono (h : CS B C bm N w0 wr f G R va vs xa xs) {N' : Nat} (hN : N ≤ N') : CS B C bm N' w0 wr f G R va vs xa xs :=
  ⟨h.hb, h.bc, h.bs, h.mb, h.ml, h.m.mono hN, h.fg, h.g, h.a, h.s, h.gg, h.ga, h.gs, h.as_⟩
theorem CS.nB (h : CS B C bm N w0 wr f G R va vs xa xs) {b : Nat} (hb : b < C ∨ wr.heap.size ≤ b) : (∀ x, (G x).ownBlock ≠ some b) ∧ va.ownBlock ≠ some b ∧ vs.ownBlock ≠ some b := by
  rcases hb with hb | hb
  · exact ⟨fun x => ow_lo (h.g x) hb, ow_lo h.a hb, ow_lo h.s hb⟩
  · exact ⟨fun x => ow_ne (h.g x) hb, ow_ne h.a hb, ow_ne h.s hb⟩
end
/-! ### the lists, one element on -/
theorem pSubs_none {s : St} {l : List Int} {j : Nat} {n : Int} (h : l[j]? = some n) (hs : s.sub n = none) : pSubs s (l.take (j + 1)) = pSubs s (l.take j) := by
  unfold pSubs
  rw [List.take_add_one, h, List.filterMap_append]
  simp [hs]
theorem pSubs_some {s : St} {l : List Int} {j : Nat} {n : Int} {t : Sb} (h : l[j]? = some n) (hs : s.sub n = some t) : pSubs s (l.take (j + 1)) = pSubs s (l.take j) ++ [t] := by
  unfold pSubs
  rw [List.take_add_one, h, List.filterMap_append]
  simp [hs]
theorem pOf_none {s : St} {l : List Int} {j : Nat} {n : Int} (h : l[j]? = some n) (hs : s.sub n = none) : pOf s (l.take (j + 1)) = pOf s (l.take j) := by
  funext x
  unfold pOf
  rw [List.take_add_one, h, List.filter_append]
  simp [hs]
theorem pOf_some {s : St} {l : List Int} {j : Nat} {n : Int} {t : Sb} (h : l[j]? = some n) (hs : s.sub n = some t) : pOf s (l.take (j + 1)) = upd (pOf s (l.take j)) t.acc (pOf s (l.take j) t.acc ++ [n]) := by
  funext x
  unfold upd pOf
  rw [List.take_add_one, h, List.filter_append]
  by_cases hx : x = t.acc
  · subst hx; rw [if_pos rfl]; simp [hs]
  · rw [if_neg hx]
    have : ¬ t.acc = x := fun e => hx e.symm
    simp [hs, this]
end Cu
end Go.Proofs.Yteaanngagcflhaa
