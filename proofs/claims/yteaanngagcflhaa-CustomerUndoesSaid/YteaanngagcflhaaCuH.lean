/-
  Customers in memory: subscriptions, accounts, the program's world. No condition.
-/
import Derived.Test.YteaanngagcflhaaCuM
import Derived.Test.YteaanngagcflhaaCuT
import Derived.Test.YteaanngagcflhaaCuV
import Derived.BigQuiet
import Derived.StillTailTactics
import Derived.Lib.Overlaps
import Derived.Deep.DeepCutAuto
import Derived.Deep.RegionWith
import Derived.Laws.RangeAny
import Derived.RangeFuncNested
set_option maxRecDepth 100000
set_option linter.unusedVariables false
set_option linter.unusedSimpArgs false
namespace Go.Proofs.Yteaanngagcflhaa
open Go.RowKit

namespace Cu
open Go.Maps
/-! ### lists of values that lie in memory -/
def LS {α β : Type} [Flat α] (R : World → α → β → Prop) (w : World) (A : Option Addr) (n c : Nat) (ds : List β) : Prop := (A = none → c = 0) ∧ ∃ xs : List α, Sl w A n c xs ∧ All2 (R w) xs ds
theorem LS.on {α β : Type} [Flat α] {R : World → α → β → Prop} (hR : ∀ w w' x y, R w x y → Below w.heap.size w w' → R w' x y) {w w' : World} {A : Option Addr} {n c : Nat} {ds : List β} (h : LS R w A n c ds) (hb : Below w.heap.size w w') : LS R w' A n c ds := by
  obtain ⟨h0, xs, h1, h2⟩ := h
  exact ⟨h0, xs, h1.below hb, h2.imp fun x y h => hR _ _ _ _ h hb⟩
theorem LS.len {α β : Type} [Flat α] {R : World → α → β → Prop} {w : World} {A : Option Addr} {n c : Nat} {ds : List β} (h : LS R w A n c ds) : ds.length = n := by
  obtain ⟨h0, xs, h1, h2⟩ := h
  rw [← h2.1, h1.len]
theorem LS.nil_ {α β : Type} [Flat α] {R : World → α → β → Prop} (w : World) : LS (α := α) R w none 0 0 [] := ⟨fun _ => rfl, [], Sl.nil_ _, All2.nil_⟩
/-! ### a subscription -/
structure Sv where
  id : Int
  acc : Int
  since : Int
  plan : ByteArray
  An : Option Addr
  nn : Nat
  cn : Nat
  Ap : Option Addr
  np : Nat
  cp : Nat
  susp : Bool
  fam : Bool
instance : Flat Sv where
  sz := 8
  pos := by decide
  cells t := [.int .i64 t.id, .int .i64 t.acc, .int .i64 t.since, .string t.plan, .slice t.An t.nn t.cn, .slice t.Ap t.np t.cp, .bool t.susp, .bool t.fam]
  len _ := rfl
  one _ := by simp [Value.oneCell']
def Sv.val (t : Sv) : Value := .agg #[.int .i64 t.id, .int .i64 t.acc, .int .i64 t.since, .string t.plan, .slice t.An t.nn t.cn, .slice t.Ap t.np t.cp, .bool t.susp, .bool t.fam]
structure SR (w : World) (t : Sv) (s : Sb) : Prop where
  id : t.id = s.id
  acc : t.acc = s.acc
  since : t.since = s.since
  plan : t.plan = s.plan
  n0 : t.An = none → t.cn = 0
  n : Sl w t.An t.nn t.cn s.nums
  p0 : t.Ap = none → t.cp = 0
  p : Sl w t.Ap t.np t.cp s.prods
  susp : t.susp = s.susp
  fam : t.fam = s.fam
theorem SR.on {w w' : World} {t : Sv} {s : Sb} (h : SR w t s) (hb : Below w.heap.size w w') : SR w' t s := ⟨h.id, h.acc, h.since, h.plan, h.n0, h.n.below hb, h.p0, h.p.below hb, h.susp, h.fam⟩
def SRP (w : World) (p : Nat → Prop) (t : Sv) (s : Sb) : Prop := SR w t s ∧ OkA p t.An t.nn ∧ OkA p t.Ap t.np
theorem famS : Fam SRP where
  mono h k := ⟨h.1, h.2.1.mono k, h.2.2.mono k⟩
  keep h k := ⟨⟨h.1.id, h.1.acc, h.1.since, h.1.plan, h.1.n0, h.1.n.keepP h.2.1 k, h.1.p0, h.1.p.keepP h.2.2 k, h.1.susp, h.1.fam⟩, h.2⟩
  lt h := ⟨h.1, h.1.n.okLt h.2.1, h.1.p.okLt h.2.2⟩
theorem SR.all {w : World} {t : Sv} {s : Sb} (h : SR w t s) : SRP w (fun _ => True) t s := ⟨h, fun _ _ _ _ => trivial, fun _ _ _ _ => trivial⟩
def sv0 : Sv := ⟨0, 0, 0, ⟨#[]⟩, none, 0, 0, none, 0, 0, false, false⟩
theorem sv0_sr (w : World) (p : Nat → Prop) : SRP w p sv0 sb0 := ⟨⟨rfl, rfl, rfl, rfl, fun _ => rfl, Sl.nil_ _, fun _ => rfl, Sl.nil_ _, rfl, rfl⟩, OkA.nil_, OkA.nil_⟩
/-! ### an account -/
structure Av where
  id : Int
  since : Int
  anchor : Int
  prepaid : Bool
  closed : Bool
  A : Option Addr
  n : Nat
  c : Nat
instance : Flat Av where
  sz := 6
  pos := by decide
  cells t := [.int .i64 t.id, .int .i64 t.since, .int .i64 t.anchor, .bool t.prepaid, .bool t.closed, .slice t.A t.n t.c]
  len _ := rfl
  one _ := by simp [Value.oneCell']
def Av.val (t : Av) : Value := .agg #[.int .i64 t.id, .int .i64 t.since, .int .i64 t.anchor, .bool t.prepaid, .bool t.closed, .slice t.A t.n t.c]
structure AR (w : World) (t : Av) (s : Ac × List Int) : Prop where
  id : t.id = s.1.id
  since : t.since = s.1.since
  anchor : t.anchor = s.1.anchor
  prepaid : t.prepaid = s.1.prepaid
  closed : t.closed = s.1.closed
  n0 : t.A = none → t.c = 0
  n : Sl w t.A t.n t.c s.2
theorem AR.on {w w' : World} {t : Av} {s : Ac × List Int} (h : AR w t s) (hb : Below w.heap.size w w') : AR w' t s := ⟨h.id, h.since, h.anchor, h.prepaid, h.closed, h.n0, h.n.below hb⟩
def ARP (w : World) (p : Nat → Prop) (t : Av) (s : Ac × List Int) : Prop := AR w t s ∧ OkA p t.A t.n
theorem famA : Fam ARP where
  mono h k := ⟨h.1, h.2.mono k⟩
  keep h k := ⟨⟨h.1.id, h.1.since, h.1.anchor, h.1.prepaid, h.1.closed, h.1.n0, h.1.n.keepP h.2 k⟩, h.2⟩
  lt h := ⟨h.1, h.1.n.okLt h.2⟩
def acV (a : Ac) : Value := .agg #[.int .i64 a.id, .int .i64 a.since, .int .i64 a.anchor, .bool a.prepaid, .bool a.closed, .slice none 0 0]
abbrev LSb (w : World) (A : Option Addr) (n c : Nat) (ds : List Sb) : Prop := LS SR w A n c ds
abbrev LAc (w : World) (A : Option Addr) (n c : Nat) (ds : List (Ac × List Int)) : Prop := LS AR w A n c ds
/-! ### the program's world -/
abbrev MI (w : World) (b n : Nat) (f : Lit → Option Value) : Prop := Mf Try.prog 3 w b n f
abbrev MS (w : World) (b n : Nat) (f : Lit → Option Value) : Prop := Mf Try.prog 9 w b n f
theorem keyI : Keyed Try.prog 3 := int_keyed Try.underlying3
theorem keyS : Keyed Try.prog 9 := string_keyed Try.underlying9
theorem kI {a : Int} (h : (Lit.int .i64 a).wf = true) : keyOf Try.prog 3 (.int .i64 a) = some (.int .i64 a) := keyOf_int_mk Try.underlying3 h
theorem kS {s : ByteArray} (h : s.size ≤ maxLen) : keyOf Try.prog 9 (.string s) = some (.string s.data.toList) := Go.WideMaps.keyOf_string_mk Try.underlying9 h
structure Bl where
  p : Nat
  ba : Nat
  bs : Nat
  be : Nat
  bo : Nat
  bl : Nat
def fA (f : Lit → Option Value) (s : St) : Prop := ∀ x : Int, f (.int .i64 x) = (s.acc x).map acV
def fS (w : World) (q : Nat → Prop) (N : Nat) (f : Lit → Option Value) (s : St) : Prop := ∀ x : Int, match s.sub x with
  | none => f (.int .i64 x) = none
  | some sb => ∃ v : Sv, f (.int .i64 x) = some v.val ∧ SRP w q v sb ∧ sb.nums.length ≤ N ∧ sb.prods.length ≤ N ∧ (∀ u ∈ sb.nums, u.size ≤ maxLen) ∧ (Lit.int .i64 sb.acc).wf = true
def fE (f : Lit → Option Value) (s : St) : Prop := ∀ x : Int, (f (.int .i64 x)).getD (.bool false) = .bool (s.ever x)
def fO (f : Lit → Option Value) (s : St) : Prop := ∀ u : ByteArray, f (.string u.data.toList) = (s.own u.toList).map (Value.int .i64 ·)
def fL (N : Nat) (f : Lit → Option Value) (s : St) : Prop := ∀ x : Int, (f (.int .i64 x)).getD (.int .i64 0) = .int .i64 (s.live x) ∧ -(N : Int) ≤ s.live x ∧ s.live x ≤ N
structure RepQ (w : World) (q : Nat → Prop) (B M N : Nat) (k : Bl) (s : St) : Prop where
  nq : ∀ b, q b → b ≠ k.p
  lo : B ≤ k.p ∧ B ≤ k.ba ∧ B ≤ k.bs ∧ B ≤ k.be ∧ B ≤ k.bo ∧ B ≤ k.bl
  hi : k.p < M ∧ k.ba < M ∧ k.bs < M ∧ k.be < M ∧ k.bo < M ∧ k.bl < M
  m : M ≤ w.heap.size
  ne : k.ba ≠ k.bs ∧ k.ba ≠ k.be ∧ k.ba ≠ k.bo ∧ k.ba ≠ k.bl ∧ k.bs ≠ k.be ∧ k.bs ≠ k.bo ∧ k.bs ≠ k.bl ∧ k.be ≠ k.bo ∧ k.be ≠ k.bl ∧ k.bo ≠ k.bl
  np : k.p ≠ k.ba ∧ k.p ≠ k.bs ∧ k.p ≠ k.be ∧ k.p ≠ k.bo ∧ k.p ≠ k.bl
  fz : ∀ j, w.frozen? ⟨k.p, j, none⟩ = false
  c0 : w.cell? ⟨k.p, 0, none⟩ = some (.map (some k.ba))
  c1 : w.cell? ⟨k.p, 1, none⟩ = some (.map (some k.bs))
  c2 : w.cell? ⟨k.p, 2, none⟩ = some (.map (some k.be))
  c3 : w.cell? ⟨k.p, 3, none⟩ = some (.map (some k.bo))
  c4 : w.cell? ⟨k.p, 4, none⟩ = some (.map (some k.bl))
  acc : ∃ f, MI w k.ba N f ∧ fA f s
  sub : ∃ f, MI w k.bs N f ∧ fS w q N f s
  ever : ∃ f, MI w k.be N f ∧ fE f s
  own : ∃ f, MS w k.bo N f ∧ fO f s
  live : ∃ f, MI w k.bl N f ∧ fL N f s
  opened : ∃ A n c, w.cell? ⟨k.p, 5, none⟩ = some (.slice A n c) ∧ Sl w A n c s.opened ∧ (A = none → c = 0) ∧ OkA q A n ∧ n ≤ N
  added : ∃ A n c, w.cell? ⟨k.p, 6, none⟩ = some (.slice A n c) ∧ Sl w A n c s.added ∧ (A = none → c = 0) ∧ OkA q A n ∧ n ≤ N
abbrev Rep (w : World) (B M N : Nat) (k : Bl) (s : St) : Prop := RepQ w (fun b => b ≠ k.p) B M N k s
theorem keeps_all {w w' : World} (h : Below w.heap.size w w') (p : Nat → Prop) : Keeps p w w' := Keeps.ofBelow h
theorem fS.keep {w w' : World} {q : Nat → Prop} {N : Nat} {f : Lit → Option Value} {s : St} (h : fS w q N f s) (hk : Keeps q w w') : fS w' q N f s := fun x => by
  have := h x
  cases hs : s.sub x with
  | none => rw [hs] at this; exact this
  | some sb =>
    rw [hs] at this
    obtain ⟨v, h1, h2, h3⟩ := this
    exact ⟨v, h1, famS.keep h2 hk, h3⟩
/-- what is made beyond leaves the world as it is -/
theorem RepQ.below {w w' : World} {q : Nat → Prop} {B M N : Nat} {k : Bl} {s : St} (h : RepQ w q B M N k s) (hb : Below w.heap.size w w') : RepQ w' q B M N k s := by
  have hm := h.m
  have hi := h.hi
  have hk := Keeps.ofBelow (p := q) hb
  have cell : ∀ j, w'.cell? ⟨k.p, j, none⟩ = w.cell? ⟨k.p, j, none⟩ := fun j => hb.cell (p := ⟨k.p, j, none⟩) (by show k.p < w.heap.size; omega)
  refine ⟨h.nq, h.lo, h.hi, Nat.le_trans hm hb.size, h.ne, h.np, fun j => (hb.frozen (p := ⟨k.p, j, none⟩) (by show k.p < w.heap.size; omega)).trans (h.fz j), (cell 0).trans h.c0, (cell 1).trans h.c1, (cell 2).trans h.c2, (cell 3).trans h.c3, (cell 4).trans h.c4, ?_, ?_, ?_, ?_, ?_, ?_, ?_⟩
  · obtain ⟨f, h1, h2⟩ := h.acc; exact ⟨f, h1.below hb, h2⟩
  · obtain ⟨f, h1, h2⟩ := h.sub; exact ⟨f, h1.below hb, h2.keep hk⟩
  · obtain ⟨f, h1, h2⟩ := h.ever; exact ⟨f, h1.below hb, h2⟩
  · obtain ⟨f, h1, h2⟩ := h.own; exact ⟨f, h1.below hb, h2⟩
  · obtain ⟨f, h1, h2⟩ := h.live; exact ⟨f, h1.below hb, h2⟩
  · obtain ⟨A, n, c, h1, h2, h3, h4, h5⟩ := h.opened; exact ⟨A, n, c, (cell 5).trans h1, h2.below hb, h3, h4, h5⟩
  · obtain ⟨A, n, c, h1, h2, h3, h4, h5⟩ := h.added; exact ⟨A, n, c, (cell 6).trans h1, h2.below hb, h3, h4, h5⟩
theorem fS.monoQ {w : World} {q q' : Nat → Prop} {N : Nat} {f : Lit → Option Value} {s : St} (h : fS w q N f s) (hq : ∀ b, q b → q' b) : fS w q' N f s := fun x => by
  have := h x
  cases hs : s.sub x with
  | none => rw [hs] at this; exact this
  | some sb =>
    rw [hs] at this
    obtain ⟨v, h1, h2, h3⟩ := this
    exact ⟨v, h1, famS.mono h2 hq, h3⟩
theorem fS.lt {w : World} {q : Nat → Prop} {N : Nat} {f : Lit → Option Value} {s : St} (h : fS w q N f s) : fS w (fun b => q b ∧ b < w.heap.size) N f s := fun x => by
  have := h x
  cases hs : s.sub x with
  | none => rw [hs] at this; exact this
  | some sb =>
    rw [hs] at this
    obtain ⟨v, h1, h2, h3⟩ := this
    exact ⟨v, h1, famS.lt h2, h3⟩
theorem RepQ.monoQ {w : World} {q q' : Nat → Prop} {B M N : Nat} {k : Bl} {s : St} (h : RepQ w q B M N k s) (hq : ∀ b, q b → q' b) (hn : ∀ b, q' b → b ≠ k.p) : RepQ w q' B M N k s := by
  refine ⟨hn, h.lo, h.hi, h.m, h.ne, h.np, h.fz, h.c0, h.c1, h.c2, h.c3, h.c4, h.acc, ?_, h.ever, h.own, h.live, ?_, ?_⟩
  · obtain ⟨f, h1, h2⟩ := h.sub; exact ⟨f, h1, h2.monoQ hq⟩
  · obtain ⟨A, n, c, h1, h2, h3, h4, h5⟩ := h.opened; exact ⟨A, n, c, h1, h2, h3, h4.mono hq, h5⟩
  · obtain ⟨A, n, c, h1, h2, h3, h4, h5⟩ := h.added; exact ⟨A, n, c, h1, h2, h3, h4.mono hq, h5⟩
theorem RepQ.lt {w : World} {q : Nat → Prop} {B M N : Nat} {k : Bl} {s : St} (h : RepQ w q B M N k s) : RepQ w (fun b => q b ∧ b < w.heap.size) B M N k s := by
  refine ⟨fun b hb => h.nq b hb.1, h.lo, h.hi, h.m, h.ne, h.np, h.fz, h.c0, h.c1, h.c2, h.c3, h.c4, h.acc, ?_, h.ever, h.own, h.live, ?_, ?_⟩
  · obtain ⟨f, h1, h2⟩ := h.sub; exact ⟨f, h1, h2.lt⟩
  · obtain ⟨A, n, c, h1, h2, h3, h4, h5⟩ := h.opened; exact ⟨A, n, c, h1, h2, h3, h2.okLt h4, h5⟩
  · obtain ⟨A, n, c, h1, h2, h3, h4, h5⟩ := h.added; exact ⟨A, n, c, h1, h2, h3, h2.okLt h4, h5⟩
/-- a store into a block that is none of the world's -/
theorem RepQ.setFar {w : World} {q : Nat → Prop} {B M N g o : Nat} {u : Value} {k : Bl} {s : St} (h : RepQ w q B M N k s) (hg : M ≤ g) (hq : ∀ b, q b → b ≠ g) : RepQ (w.setCell ⟨g, o, none⟩ u) q B M N k s := by
  have hi := h.hi
  have hk : Keeps q w (w.setCell ⟨g, o, none⟩ u) := Keeps.ofSet hq
  have cell : ∀ i, (w.setCell ⟨g, o, none⟩ u).cell? ⟨k.p, i, none⟩ = w.cell? ⟨k.p, i, none⟩ := fun i => World.cell?_setCell_other _ _ _ _ (fun e => by injection e with e1 e2; omega)
  have me : ∀ {ty : TypeId} {b m : Nat} {f : Lit → Option Value}, Mf Try.prog ty w b m f → b < M → Mf Try.prog ty (w.setCell ⟨g, o, none⟩ u) b m f := fun hm hb => hm.setCell (a := ⟨g, o, none⟩) (fun e => by have e' : _ = g := e; omega) _
  refine ⟨h.nq, h.lo, h.hi, by rw [World.size_setCell]; exact h.m, h.ne, h.np, fun j => by rw [World.frozen?_setCell]; exact h.fz j, (cell 0).trans h.c0, (cell 1).trans h.c1, (cell 2).trans h.c2, (cell 3).trans h.c3, (cell 4).trans h.c4, ?_, ?_, ?_, ?_, ?_, ?_, ?_⟩
  · obtain ⟨f, h1, h2⟩ := h.acc; exact ⟨f, me h1 hi.2.1, h2⟩
  · obtain ⟨f, h1, h2⟩ := h.sub; exact ⟨f, me h1 hi.2.2.1, h2.keep hk⟩
  · obtain ⟨f, h1, h2⟩ := h.ever; exact ⟨f, me h1 hi.2.2.2.1, h2⟩
  · obtain ⟨f, h1, h2⟩ := h.own; exact ⟨f, me h1 hi.2.2.2.2.1, h2⟩
  · obtain ⟨f, h1, h2⟩ := h.live; exact ⟨f, me h1 hi.2.2.2.2.2, h2⟩
  · obtain ⟨A, n, c, h1, h2, h3, h4, h5⟩ := h.opened; exact ⟨A, n, c, (cell 5).trans h1, h2.keepP h4 hk, h3, h4, h5⟩
  · obtain ⟨A, n, c, h1, h2, h3, h4, h5⟩ := h.added; exact ⟨A, n, c, (cell 6).trans h1, h2.keepP h4 hk, h3, h4, h5⟩
end Cu
end Go.Proofs.Yteaanngagcflhaa
