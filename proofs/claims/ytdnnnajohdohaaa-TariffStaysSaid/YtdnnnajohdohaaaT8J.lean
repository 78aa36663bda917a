/-
  Tariffs as data whose blocks lie in a set. No condition.
-/
import Derived.Test.YtdnnnajohdohaaaT8G
import Derived.BigQuiet
import Derived.StillTailTactics
import Derived.Lib.Overlaps
import Derived.Deep.DeepCutAuto
import Derived.Deep.RegionWith
import Derived.Laws.RangeAny
set_option maxRecDepth 100000
set_option linter.unusedVariables false
set_option linter.unusedSimpArgs false
namespace Go.Proofs.Ytdnnnajohdohaaa
open Go.RowKit

namespace Cv
open Xp Ck
/-- an expression whose blocks lie in a set -/
inductive RpP (w : World) (p : Nat → Prop) : Ex → It → Prop
  | mk (op num : Int) (text : ByteArray) (args : List Ex) (A : Option Addr) (n c : Nat) (items : List It) (hs : Sl w A n c items) (ho : OkA p A n) (hl : items.length = args.length) (hnil : A = none → c = 0)
      (hc : ∀ (i : Nat) (x : It) (e : Ex), items[i]? = some x → args[i]? = some e → RpP w p e x) : RpP w p (.mk op num text args) ⟨op, num, text, A, n, c⟩
theorem RpP.rp {w : World} {p : Nat → Prop} {e : Ex} {x : It} (h : RpP w p e x) : Rp w e x := by
  induction h with
  | mk op num text args A n c items hs ho hl hnil hc ih => exact .mk op num text args A n c items hs hl hnil ih
theorem Rp.all {w : World} {e : Ex} {x : It} (h : Rp w e x) : RpP w (fun _ => True) e x := by
  induction h with
  | mk op num text args A n c items hs hl hnil hc ih => exact .mk op num text args A n c items hs (fun _ _ _ _ => trivial) hl hnil ih
theorem famX : Fam (fun w p (x : It) (e : Ex) => RpP w p e x) where
  mono h k := by
    induction h with
    | mk op num text args A n c items hs ho hl hnil hc ih => exact .mk op num text args A n c items hs (ho.mono k) hl hnil ih
  keep h k := by
    induction h with
    | mk op num text args A n c items hs ho hl hnil hc ih => exact .mk op num text args A n c items (hs.keepP ho k) ho hl hnil ih
  lt h := by
    induction h with
    | mk op num text args A n c items hs ho hl hnil hc ih => exact .mk op num text args A n c items hs (hs.okLt ho) hl hnil ih
def ZRP (w : World) (p : Nat → Prop) (x : Nm) (d : Zd) : Prop := ZR w x d ∧ OkA p x.A x.n
def BRP (w : World) (p : Nat → Prop) (x : Nm) (d : Bd) : Prop := BR w x d ∧ OkA p x.A x.n
def RRP (w : World) (p : Nat → Prop) (x : Rt) (d : Rd) : Prop := RR w x d ∧ OkA p x.A x.n
def DRP (w : World) (p : Nat → Prop) (x : Dq) (d : Dd_) : Prop := x.name = d.name ∧ d.name.size ≤ maxLen ∧ x.pts = d.pts ∧ RpP w p d.ex x.it
theorem famZ : Fam ZRP where
  mono h k := ⟨h.1, h.2.mono k⟩
  keep h k := ⟨⟨h.1.1, h.1.2.1, h.1.2.2.1, h.1.2.2.2.1.keepP h.2 k, h.1.2.2.2.2⟩, h.2⟩
  lt h := ⟨h.1, h.1.2.2.2.1.okLt h.2⟩
theorem famB : Fam BRP where
  mono h k := ⟨h.1, h.2.mono k⟩
  keep h k := ⟨⟨h.1.1, h.1.2.1, h.1.2.2.1, h.1.2.2.2.keepP h.2 k⟩, h.2⟩
  lt h := ⟨h.1, h.1.2.2.2.okLt h.2⟩
theorem famR : Fam RRP where
  mono h k := ⟨h.1, h.2.mono k⟩
  keep h k := ⟨⟨h.1.1, h.1.2.1, h.1.2.2.1, h.1.2.2.2.1, h.1.2.2.2.2.1, h.1.2.2.2.2.2.keepP h.2 k⟩, h.2⟩
  lt h := ⟨h.1, h.1.2.2.2.2.2.okLt h.2⟩
theorem famD : Fam DRP where
  mono h k := ⟨h.1, h.2.1, h.2.2.1, famX.mono h.2.2.2 k⟩
  keep h k := ⟨h.1, h.2.1, h.2.2.1, famX.keep h.2.2.2 k⟩
  lt h := ⟨h.1, h.2.1, h.2.2.1, famX.lt h.2.2.2⟩
theorem DRP.dr {w : World} {p : Nat → Prop} {x : Dq} {d : Dd_} (h : DRP w p x d) : DR w x d := ⟨h.1, h.2.1, h.2.2.1, h.2.2.2.rp⟩
/-- a slice whose items lie in a set, and it too -/
def LSP {α β : Type} [Flat α] (R : World → (Nat → Prop) → α → β → Prop) (w : World) (p : Nat → Prop) (A : Option Addr) (n c : Nat) (ds : List β) : Prop := (A = none → c = 0) ∧ OkA p A n ∧ ∃ xs : List α, Sl w A n c xs ∧ All2 (R w p) xs ds
section
variable {α β : Type} [Flat α] {R : World → (Nat → Prop) → α → β → Prop} {w w' : World} {p q : Nat → Prop} {A : Option Addr} {n c : Nat} {ds : List β}
theorem LSP.mono (hF : Fam R) (h : LSP R w p A n c ds) (k : ∀ b, p b → q b) : LSP R w q A n c ds := by
  obtain ⟨h0, ho, xs, hs, ha⟩ := h
  exact ⟨h0, ho.mono k, xs, hs, ha.imp fun _ _ h => hF.mono h k⟩
theorem LSP.keep (hF : Fam R) (h : LSP R w p A n c ds) (k : Keeps p w w') : LSP R w' p A n c ds := by
  obtain ⟨h0, ho, xs, hs, ha⟩ := h
  exact ⟨h0, ho, xs, hs.keepP ho k, ha.imp fun _ _ h => hF.keep h k⟩
theorem LSP.lt (hF : Fam R) (h : LSP R w p A n c ds) : LSP R w (fun b => p b ∧ b < w.heap.size) A n c ds := by
  obtain ⟨h0, ho, xs, hs, ha⟩ := h
  exact ⟨h0, hs.okLt ho, xs, hs, ha.imp fun _ _ h => hF.lt h⟩
theorem LSP.ls {S : World → α → β → Prop} (hS : ∀ x y, R w p x y → S w x y) (h : LSP R w p A n c ds) : LS S w A n c ds := by
  obtain ⟨h0, ho, xs, hs, ha⟩ := h
  exact ⟨h0, xs, hs, ha.imp hS⟩
/-- a row that was built, with its items -/
theorem LSP.ofRow (hF : Fam R) {base : Nat} {e : TypeId} {v : Value} {xs : List α} (ho : Ow w base e v xs) (h : Rowed R base w v xs ds) : ∃ A n c, v = .slice A n c ∧ n = xs.length ∧ LSP R w (fun b => base ≤ b) A n c ds := by
  obtain ⟨A, c, rfl, hnil, hs⟩ := ho.slN
  exact ⟨A, xs.length, c, rfl, rfl, hnil, ho.okA, xs, hs, h.imp fun _ _ k => hF.mono k fun b hb => hb.1⟩
end
/-- a tariff whose blocks lie in a set -/
structure TDP (w : World) (p : Nat → Prop) (t : Tv) (T : Td) : Prop where
  name : t.name = T.name
  nm : T.name.size ≤ maxLen
  from_ : t.from_ = T.from_
  split : t.split = T.split
  z : LSP ZRP w p t.Az t.nz t.cz T.zs
  b : LSP BRP w p t.Ab t.nb t.cb T.bs
  r : LSP RRP w p t.Ar t.nr t.cr T.rs
  d : LSP DRP w p t.Ad t.nd t.cd T.ds
theorem famT : Fam TDP where
  mono h k := ⟨h.name, h.nm, h.from_, h.split, h.z.mono famZ k, h.b.mono famB k, h.r.mono famR k, h.d.mono famD k⟩
  keep h k := ⟨h.name, h.nm, h.from_, h.split, h.z.keep famZ k, h.b.keep famB k, h.r.keep famR k, h.d.keep famD k⟩
  lt h := ⟨h.name, h.nm, h.from_, h.split, h.z.lt famZ, h.b.lt famB, h.r.lt famR, h.d.lt famD⟩
theorem TDP.td {w : World} {p : Nat → Prop} {t : Tv} {T : Td} (h : TDP w p t T) : TD w t T :=
  ⟨h.name, h.nm, h.from_, h.split, h.z.ls fun _ _ h => h.1, h.b.ls fun _ _ h => h.1, h.r.ls fun _ _ h => h.1, h.d.ls fun _ _ h => h.dr⟩
theorem LTP.lt_ {w : World} {p : Nat → Prop} {A : Option Addr} {n c : Nat} {Ts : List Td} (h : LSP TDP w p A n c Ts) : LT w A n c Ts := h.ls fun _ _ h => h.td

/-! ### small enough to be copied -/
inductive X8 : Ex → Prop
  | mk (op num : Int) (text : ByteArray) (args : List Ex) (h : args.length ≤ 8) (hc : ∀ a ∈ args, X8 a) : X8 (.mk op num text args)
theorem X8.inv {op num : Int} {text : ByteArray} {args : List Ex} (h : X8 (.mk op num text args)) : args.length ≤ 8 ∧ ∀ a ∈ args, X8 a := by cases h with | mk _ _ _ _ h hc => exact ⟨h, hc⟩
structure Wide (T : Td) : Prop where
  z : T.zs.length ≤ 70
  zk : ∀ d ∈ T.zs, d.2.length * 16 ≤ 140737488355328
  b : T.bs.length ≤ 70
  bk : ∀ d ∈ T.bs, d.2.length * 24 ≤ 140737488355328
  r : T.rs.length ≤ 70
  rk : ∀ d ∈ T.rs, d.steps.length * 24 ≤ 140737488355328
  d : T.ds.length ≤ 70
  dk : ∀ d ∈ T.ds, X8 d.ex
end Cv
end Go.Proofs.Ytdnnnajohdohaaa
