/-
  Customers: upto, as an iterator; what stays where a block that holds no cells is turned; Customers: State; Customers: how great the reference's book becomes; books that stay; Customers: State of a valid list; Customers: results in boxes; no empty names; one subscription of many. No condition.
-/
import Derived.Test.YteaanngagcflhaaCuW
import Derived.Test.YteaanngagcflhaaCuZ
import Derived.Test.YteaanngagcflhaaCuAF
import Derived.Test.YteaanngagcflhaaCuX
import Derived.BigQuiet
import Derived.StillTailTactics
import Derived.Lib.Overlaps
import Derived.Deep.DeepCutAuto
import Derived.Deep.RegionWith
import Derived.RangeFuncNested
import Derived.RangeFuncBound
import Derived.RangeFuncCalls
import Derived.RangeFuncLeaves
import Derived.Shelf.Abstract
import Derived.Shelf.RegionOpen
import Derived.WalkKit
import Derived.OwnWalkIn
import Derived.TacticsInMore
import Derived.LoopNIn
import Derived.LoopIn
set_option maxRecDepth 100000
set_option linter.unusedVariables false
set_option linter.unusedSimpArgs false
namespace Go.Proofs.Yteaanngagcflhaa
open Go.RowKit

open Go.Shelf
attribute [local go_sem] Oper.semAt_some
namespace Cu
open Go.Maps
/-! ### a block that holds no cells is turned -/
abbrev NoCells (w : World) (row : Option Nat) : Prop := ∀ r, row = some r → ∃ o : Obj, w.heap[r]? = some o ∧ o.isCells = false
/-- lists in memory stay -/
structure Stays (w w' : World) : Prop where
  i : ∀ A n c (xs : List Int), Sl w A n c xs → Sl w' A n c xs
  s : ∀ A n c (xs : List ByteArray), Sl w A n c xs → Sl w' A n c xs
  a : ∀ A n c (xs : List Av), Sl w A n c xs → Sl w' A n c xs
  u : ∀ A n c (xs : List Sv), Sl w A n c xs → Sl w' A n c xs
theorem Stays.trans {w w1 w2 : World} (h : Stays w w1) (k : Stays w1 w2) : Stays w w2 := ⟨fun _ _ _ _ x => k.i _ _ _ _ (h.i _ _ _ _ x), fun _ _ _ _ x => k.s _ _ _ _ (h.s _ _ _ _ x), fun _ _ _ _ x => k.a _ _ _ _ (h.a _ _ _ _ x), fun _ _ _ _ x => k.u _ _ _ _ (h.u _ _ _ _ x)⟩
theorem slStay {α : Type} [Flat α] {w w' : World} {A : Option Addr} {n c : Nat} {xs : List α} (h : Sl w A n c xs) (hs : w.heap.size ≤ w'.heap.size) (hc : ∀ a v, w.cell? a = some v → w'.cell? a = some v) : Sl w' A n c xs :=
  ⟨h.1, h.2.1, h.2.2.1, fun hn => by
    obtain ⟨b, off, e, hb, hcc⟩ := h.2.2.2 hn
    exact ⟨b, off, e, by omega, fun i x hx j v hv => hc _ _ (hcc i x hx j v hv)⟩⟩
theorem Stays.grown {w w' : World} {row : Option Nat} (hg : w.grownBy w' row) (hr : NoCells w row) : Stays w w' :=
  ⟨fun _ _ _ _ h => slStay h hg.size fun _ _ hc => cell_kept hc hg hr, fun _ _ _ _ h => slStay h hg.size fun _ _ hc => cell_kept hc hg hr, fun _ _ _ _ h => slStay h hg.size fun _ _ hc => cell_kept hc hg hr, fun _ _ _ _ h => slStay h hg.size fun _ _ hc => cell_kept hc hg hr⟩
theorem slSet {α : Type} [Flat α] {w : World} {A : Option Addr} {n c R o : Nat} {u old : Value} {xs : List α} (h : Sl w A n c xs) (hold : w.cell? ⟨R, o, none⟩ = some old) (hne : ∀ (x : α) j, (Flat.cells x)[j]? = some old → o < j) : Sl (w.setCell ⟨R, o, none⟩ u) A n c xs :=
  ⟨h.1, h.2.1, h.2.2.1, fun hn => by
    obtain ⟨b, off, e, hb, hcc⟩ := h.2.2.2 hn
    refine ⟨b, off, e, by rw [World.size_setCell]; exact hb, fun i x hx j v hv => ?_⟩
    have hq := hcc i x hx j v hv
    refine (World.cell?_setCell_other _ _ _ _ (fun e' => ?_)).trans hq
    injection e' with e1 e2
    subst e1
    rw [← e2, hold] at hq
    injection hq with hq
    subst hq
    have := hne x j hv
    omega⟩
theorem Stays.set_ {w : World} {R o : Nat} {u : Value} (hold : w.cell? ⟨R, o, none⟩ = some (.slice none 0 0)) (ho : o ≤ 1) : Stays w (w.setCell ⟨R, o, none⟩ u) := by
  refine ⟨fun _ _ _ _ h => slSet h hold fun x j hj => ?_, fun _ _ _ _ h => slSet h hold fun x j hj => ?_, fun _ _ _ _ h => slSet h hold fun x j hj => ?_, fun _ _ _ _ h => slSet h hold fun x j hj => ?_⟩
  · match j, hj with
    | 0, hj => cases hj
  · match j, hj with
    | 0, hj => cases hj
  · match j, hj with
    | 0, hj => cases hj
    | 1, hj => cases hj
    | j + 2, hj => omega
  · match j, hj with
    | 0, hj => cases hj
    | 1, hj => cases hj
    | j + 2, hj => omega
theorem SR.stay {w w' : World} {t : Sv} {s : Sb} (h : SR w t s) (k : Stays w w') : SR w' t s := ⟨h.id, h.acc, h.since, h.plan, h.n0, k.s _ _ _ _ h.n, h.p0, k.s _ _ _ _ h.p, h.susp, h.fam⟩
theorem AR.stay {w w' : World} {t : Av} {s : Ac × List Int} (h : AR w t s) (k : Stays w w') : AR w' t s := ⟨h.id, h.since, h.anchor, h.prepaid, h.closed, h.n0, k.i _ _ _ _ h.n⟩
theorem LSb_stay {w w' : World} {A : Option Addr} {n c : Nat} {ds : List Sb} (h : LSb w A n c ds) (k : Stays w w') : LSb w' A n c ds := by
  obtain ⟨h0, xs, h1, h2⟩ := h
  exact ⟨h0, xs, k.u _ _ _ _ h1, h2.imp fun _ _ x => x.stay k⟩
theorem LAc_stay {w w' : World} {A : Option Addr} {n c : Nat} {ds : List (Ac × List Int)} (h : LAc w A n c ds) (k : Stays w w') : LAc w' A n c ds := by
  obtain ⟨h0, xs, h1, h2⟩ := h
  exact ⟨h0, xs, k.a _ _ _ _ h1, h2.imp fun _ _ x => x.stay k⟩
theorem RepQ.grown {w w' : World} {q : Nat → Prop} {B M N : Nat} {k : Bl} {s : St} {row : Option Nat} (h : RepQ w q B M N k s) (hg : w.grownBy w' row) (hr : NoCells w row) (hm : ∀ r, row = some r → M ≤ r) : RepQ w' q B M N k s := by
  have hi := h.hi
  have hM := h.m
  have hblk : ∀ b, b < M → w'.heap[b]? = w.heap[b]? := fun b hb => hg.block b (by omega) (fun e => by have := hm b e.symm; omega)
  have cell : ∀ j, w'.cell? ⟨k.p, j, none⟩ = w.cell? ⟨k.p, j, none⟩ := fun j => World.cell?_of_block (a := ⟨k.p, j, none⟩) (hblk _ hi.1)
  have hst := Stays.grown hg hr
  have me : ∀ {ty : TypeId} {b m : Nat} {f : Lit → Option Value}, Mf Try.prog ty w b m f → b < M → Mf Try.prog ty w' b m f := fun hmf hb => hmf.kept hg (fun e => by have := hm _ e.symm; omega)
  refine ⟨h.nq, h.lo, h.hi, Nat.le_trans hM hg.size, h.ne, h.np, fun j => (World.frozen?_of_block (a := ⟨k.p, j, none⟩) (hblk _ hi.1)).trans (h.fz j), (cell 0).trans h.c0, (cell 1).trans h.c1, (cell 2).trans h.c2, (cell 3).trans h.c3, (cell 4).trans h.c4, ?_, ?_, ?_, ?_, ?_, ?_, ?_⟩
  · obtain ⟨f, h1, h2⟩ := h.acc; exact ⟨f, me h1 hi.2.1, h2⟩
  · obtain ⟨f, h1, h2⟩ := h.sub
    refine ⟨f, me h1 hi.2.2.1, fun x => ?_⟩
    have := h2 x
    cases hs : s.sub x with
    | none => rw [hs] at this; exact this
    | some sb =>
      rw [hs] at this
      obtain ⟨v, g1, g2, g3⟩ := this
      exact ⟨v, g1, ⟨g2.1.stay hst, g2.2⟩, g3⟩
  · obtain ⟨f, h1, h2⟩ := h.ever; exact ⟨f, me h1 hi.2.2.2.1, h2⟩
  · obtain ⟨f, h1, h2⟩ := h.own; exact ⟨f, me h1 hi.2.2.2.2.1, h2⟩
  · obtain ⟨f, h1, h2⟩ := h.live; exact ⟨f, me h1 hi.2.2.2.2.2, h2⟩
  · obtain ⟨A, n, c, h1, h2, h3, h4, h5⟩ := h.opened; exact ⟨A, n, c, (cell 5).trans h1, hst.i _ _ _ _ h2, h3, h4, h5⟩
  · obtain ⟨A, n, c, h1, h2, h3, h4, h5⟩ := h.added; exact ⟨A, n, c, (cell 6).trans h1, hst.i _ _ _ _ h2, h3, h4, h5⟩
/-! ### upto -/
def EvOk (e : Ev) : Prop := (1 ≤ e.kind ∧ e.kind ≤ 15) ∧ (Lit.int .i64 e.acc).wf = true ∧ (Lit.int .i64 e.sub).wf = true ∧ e.num.size ≤ maxLen
abbrev EvT := { e : Ev // EvOk e }
def evA (x : EvT) : Array Value := #[.agg #[.int .i64 x.1.at_, .int .i64 x.1.kind, .int .i64 x.1.acc, .int .i64 x.1.sub, .string x.1.num, .string x.1.name, .int .i64 x.1.val]]
def KpS (B M Z : Nat) (W W' : World) : Prop := Below B W W' ∧ Keeps (fun b => M ≤ b ∧ b < Z) W W'
theorem KpS.refl (B M Z : Nat) (W : World) : KpS B M Z W W := ⟨Below.refl _ _, Keeps.refl_⟩
theorem KpS.trans {B M Z : Nat} {W W1 W2 : World} (h : KpS B M Z W W1) (k : KpS B M Z W1 W2) : KpS B M Z W W2 := ⟨h.1.trans k.1, h.2.trans k.2⟩
theorem KpS.below {B M Z : Nat} {W W' : World} (h : Below W.heap.size W W') (hB : B ≤ W.heap.size) : KpS B M Z W W' := ⟨h.mono hB, Keeps.ofBelow h⟩
theorem KpS.put {B M Z : Nat} {w : World} (hB : B ≤ w.heap.size) (hZ : Z ≤ w.heap.size) (W : World) (l : Nat) (o o' : Obj) (hl : w.heap.size ≤ l) (h : W.heap[l]? = some o) (h1 : o.isCells = false) (h2 : o.isWalk = false) : KpS B M Z W (W.putObj l o') :=
  ⟨belowK_b hB W l o o' hl h h1 h2, (grownBy_putObj' W l o').size, fun b i hb hlt => World.cell?_of_block (a := ⟨b, i, none⟩) ((grownBy_putObj' W l o').block b hlt (fun e => by injection e with e; have := hb.2; omega))⟩
theorem takeF {evs : List EvT} {t : Int} {k : Nat} {x : EvT} (h : evs[k]? = some x) : (evs.take (k + 1)).filter (fun y => atB t y.1) = (evs.take k).filter (fun y => atB t y.1) ++ (if x.1.at_ ≤ t then [x] else []) := by
  rw [List.take_add_one, h, List.filter_append]
  by_cases hx : x.1.at_ ≤ t
  · rw [if_pos hx, Option.toList_some, List.filter_cons_of_pos (by simpa [atB] using hx), List.filter_nil]
  · rw [if_neg hx, Option.toList_some, List.filter_cons_of_neg (by simpa [atB] using hx), List.filter_nil]
set_option maxHeartbeats 4000000 in
theorem upto1_in (F : Fence) (nn : Nat) (h107 : F.fn 107) (hro : F.round = none) (hn : 1 ≤ nn) (l Bs Bt B M Z : Nat) (evs : List EvT) (t : Int) (A : Option Addr) (n c : Nat) (hlen : evs.length = n) (hnm : n ≤ 9223372036854775807) (J Jx : List EvT → World → Prop) (W : World)
    (hY : ∀ pre x W, J pre W → pre.length < n → YieldAt F (nn - 1) Try.prog l (evA x) W fun e W' =>
      (e = .returned (.bool true) ∧ J (pre ++ [x]) W' ∧ KpS B M Z W W') ∨ (e = .returned (.bool false) ∧ Jx (pre ++ [x]) W'))
    (hJa : AbidesFrom W.heap.size J) (hB : B ≤ W.heap.size) (hsl : ∀ wr, Below B W wr → Sl wr A n c (evs.map (·.1)))
    (hZ : Z ≤ W.heap.size) (hs1 : M ≤ Bs ∧ Bs < Z) (ht1 : M ≤ Bt ∧ Bt < Z) (hcs : W.cell? ⟨Bs, 0, none⟩ = some (.slice A n c)) (hct : W.cell? ⟨Bt, 0, none⟩ = some (.int .i64 t)) (h0 : J [] W) :
    CallsIn F nn Try.prog 107 #[.func (.yield l) #[] #[], .pointer (some ⟨Bs, 0, none⟩), .pointer (some ⟨Bt, 0, none⟩)] W fun e W' => (∃ v, e = .returned v) ∧
      ((∃ ys, ys = evs.filter (fun y => atB t y.1) ∧ J ys W') ∨ (∃ pre, True ∧ Jx pre W')) := by
  refine callsIn_of_wp Try.func107 rfl h107 ?_ hro
  simp only [Try.ntmps107, List.size_toArray, List.length_cons, List.length_nil, Nat.reduceAdd, Nat.reduceSub, Array.replicate_succ, Array.replicate_zero, List.push_toArray, List.append_toArray, List.nil_append, List.cons_append]
  gi_wp2
  gi_loopw [8] (fun i wr => ∃ k : Nat, k ≤ n ∧ i = .int .i64 k ∧ J ((evs.take k).filter (fun y => atB t y.1)) wr ∧ KpS B M Z W wr)
    (fun i _ => n - (intOf i).toNat)
  case atStart => exact ⟨0, Nat.zero_le _, rfl, h0, KpS.refl _ _ _ _⟩
  case round =>
    obtain ⟨k, hk, rfl, hJs, hnx⟩ := hrel
    have HJS := Lib.hid hJs
    have hszr := hnx.2.1
    have hct2 := (hnx.2.2 Bt 0 ht1 (by omega)).trans hct
    have hbt : Bt < wr.heap.size := by omega
    clear hJs
    by_cases hlt : k < n
    · obtain ⟨b, off, hAe, hbl, hcells⟩ := (hsl wr hnx.1).base (by omega)
      obtain ⟨x, hx⟩ : ∃ x, evs[k]? = some x := ⟨_, List.getElem?_eq_getElem (by omega)⟩
      have hxm : (evs.map (·.1))[k]? = some x.1 := by rw [List.getElem?_map, hx]; rfl
      have c0 : wr.cell? ⟨b, off + k * 7, none⟩ = some (.int .i64 x.1.at_) := Sl.at_ hcells hxm 0 rfl
      have c1 : wr.cell? ⟨b, off + k * 7 + 1, none⟩ = some (.int .i64 x.1.kind) := Sl.at_ hcells hxm 1 rfl
      have c2 : wr.cell? ⟨b, off + k * 7 + 2, none⟩ = some (.int .i64 x.1.acc) := Sl.at_ hcells hxm 2 rfl
      have c3 : wr.cell? ⟨b, off + k * 7 + 3, none⟩ = some (.int .i64 x.1.sub) := Sl.at_ hcells hxm 3 rfl
      have c4 : wr.cell? ⟨b, off + k * 7 + 4, none⟩ = some (.string x.1.num) := Sl.at_ hcells hxm 4 rfl
      have c5 : wr.cell? ⟨b, off + k * 7 + 5, none⟩ = some (.string x.1.name) := Sl.at_ hcells hxm 5 rfl
      have c6 : wr.cell? ⟨b, off + k * 7 + 6, none⟩ = some (.int .i64 x.1.val) := Sl.at_ hcells hxm 6 rfl
      have HX := Lib.hid hx
      subst hAe
      clear hcells hxm hx
      by_cases hat : x.1.at_ ≤ t
      · have hJV : J ((evs.take k).filter (fun y => atB t y.1)) (wr.alloc (.cells #[.int .i64 x.1.at_, .int .i64 x.1.kind, .int .i64 x.1.acc, .int .i64 x.1.sub, .string x.1.num, .string x.1.name, .int .i64 x.1.val] 36)) :=
          hJa _ wr _ none HJS.out (World.grownBy_alloc wr _ none) (fun r e => by cases e)
        obtain ⟨fn, tmps, assign, body, hy, hR⟩ := hY _ x _ hJV (Nat.lt_of_le_of_lt (Nat.le_trans (List.length_filter_le _ _) (List.length_take_le _ _)) hlt)
        have HR := Lib.hid hR
        unfold evA at hy
        clear hJV hR
        have hbA : KpS B M Z wr (wr.alloc (.cells #[.int .i64 x.1.at_, .int .i64 x.1.kind, .int .i64 x.1.acc, .int .i64 x.1.sub, .string x.1.num, .string x.1.name, .int .i64 x.1.val] 36)) := KpS.below ((Below.refl _ _).alloc (Nat.le_refl _) _) (by omega)
        have hJT : (evs.take (k + 1)).filter (fun y => atB t y.1) = (evs.take k).filter (fun y => atB t y.1) ++ [x] := by rw [takeF HX.out, if_pos hat]
        have HJT := Lib.hid hJT
        clear hJT
        gi_wp2
        refine HR.out.mono ?_
        rintro e W3 (⟨rfl, hJ3, hk3⟩ | ⟨rfl, hJx3⟩)
        · gi_wp2
          go_roundw
          case rel => exact ⟨k + 1, by omega, by go_num, by rw [HJT.out]; exact hJ3, hnx.trans (hbA.trans hk3)⟩
          case measure => simp [intOf]; omega
        · gi_wp2
          refine bodyPost_ret (results_none rfl _ _ _) rfl ?_
          exact ⟨⟨_, rfl⟩, .inr ⟨_, trivial, hJx3⟩⟩
      · have hbA : KpS B M Z wr (wr.alloc (.cells #[.int .i64 x.1.at_, .int .i64 x.1.kind, .int .i64 x.1.acc, .int .i64 x.1.sub, .string x.1.num, .string x.1.name, .int .i64 x.1.val] 36)) := KpS.below ((Below.refl _ _).alloc (Nat.le_refl _) _) (by omega)
        have hJT : (evs.take (k + 1)).filter (fun y => atB t y.1) = (evs.take k).filter (fun y => atB t y.1) := by rw [takeF HX.out, if_neg hat, List.append_nil]
        have HJT := Lib.hid hJT
        clear hJT
        gi_wp2
        refine ⟨fun _ h => (by cases h), ?_⟩
        gi_wp2
        go_roundw
        case rel => exact ⟨k + 1, by omega, by go_num, by rw [HJT.out]; exact hJa _ wr _ none HJS.out (World.grownBy_alloc wr _ none) (fun r e => by cases e), hnx.trans hbA⟩
        case measure => simp [intOf]; omega
    · obtain rfl : k = n := by omega
      gi_wp2
      go_end0
      exact ⟨⟨_, rfl⟩, .inl ⟨_, by rw [List.take_of_length_le (by omega)], HJS.out⟩⟩
theorem upto_in (F : Fence) (nn : Nat) (h74 : F.fn 74) (hro : F.round = none) (A : Option Addr) (n c : Nat) (t : Int) (w : World) :
    CallsIn F nn Try.prog 74 #[.slice A n c, .int .i64 t] w fun e w' => e = .returned (.func (.func 107) #[] #[.pointer (some ⟨w.heap.size, 0, none⟩), .pointer (some ⟨w.heap.size + 1, 0, none⟩)]) ∧ w' = (w.alloc (.cells #[.slice A n c] 22)).alloc (.cells #[.int .i64 t] 3) := by
  refine callsIn_of_wp Try.func74 rfl h74 ?_ hro
  simp only [Try.ntmps74, List.size_toArray, List.length_cons, List.length_nil, Nat.reduceAdd, Nat.reduceSub, Array.replicate_succ, Array.replicate_zero, List.push_toArray, List.append_toArray, List.nil_append, List.cons_append]
  gi_wp2
  go_ret
  exact ⟨rfl, rfl⟩
theorem upto_stops (F : Fence) (nn : Nat) (h107 : F.fn 107) (hro : F.round = none) (hn : 1 ≤ nn) (Bs Bt B M Z : Nat) (evs : List EvT) (t : Int) (A : Option Addr) (n c : Nat) (hlen : evs.length = n) (hnm : n ≤ 9223372036854775807) (w : World)
    (hB : B ≤ w.heap.size) (hsl : ∀ wr, Below B w wr → Sl wr A n c (evs.map (·.1))) (hZ : Z ≤ w.heap.size) (hs1 : M ≤ Bs ∧ Bs < Z) (ht1 : M ≤ Bt ∧ Bt < Z) (hcs : w.cell? ⟨Bs, 0, none⟩ = some (.slice A n c)) (hct : w.cell? ⟨Bt, 0, none⟩ = some (.int .i64 t)) :
    SeqStopsK F nn Try.prog 107 #[.pointer (some ⟨Bs, 0, none⟩), .pointer (some ⟨Bt, 0, none⟩)] evA (KpS B M Z) (fun ys => ys = evs.filter (fun y => atB t y.1)) (fun _ => True) n w := fun l J Jx W hW hJ _ hY h0 =>
  upto1_in F nn h107 hro hn l Bs Bt B M Z evs t A n c hlen hnm J Jx W hY hJ (Nat.le_trans hB hW.size) (fun wr hb => hsl wr ((hW.mono hB).trans hb)) (Nat.le_trans hZ hW.size) hs1 ht1 ((hW.cell (p := ⟨Bs, 0, none⟩) (by show Bs < _; omega)).trans hcs) ((hW.cell (p := ⟨Bt, 0, none⟩) (by show Bt < _; omega)).trans hct) h0
end Cu
open Go.Shelf
attribute [local go_sem] Oper.semAt_some
namespace Cu
open Go.Maps
theorem foldT_snoc (pre : List EvT) (x : EvT) : ((pre ++ [x]).map (·.1)).foldl applyP st0 = applyP ((pre.map (·.1)).foldl applyP st0) x.1 := by
  rw [List.map_append, List.foldl_append]; rfl
theorem filterT (evs : List EvT) (t : Int) : (evs.filter (fun y => atB t y.1)).map (·.1) = (evs.map (·.1)).filter (atB t) := by
  rw [List.filter_map]; rfl
theorem kfMono {B B' : Nat} {W W' : World} (h : KeepsFrom B W W') (hB : B ≤ B') : KeepsFrom B' W W' := ⟨h.size, fun k o hk => h.same k o (by omega)⟩
def BoxE (W : World) (Bx : Nat) (x : EvT) : Prop := ∀ j u, [Value.int .i64 x.1.at_, .int .i64 x.1.kind, .int .i64 x.1.acc, .int .i64 x.1.sub, .string x.1.num, .string x.1.name, .int .i64 x.1.val][j]? = some u → W.cell? ⟨Bx, j, none⟩ = some u
structure SI (w : World) (M : Nat) (k : Bl) (pre : List EvT) (W : World) : Prop where
  rep : Rep W (w.heap.size + 1) M (4 * pre.length) k ((pre.map (·.1)).foldl applyP st0)
  box : W.cell? ⟨M, 0, none⟩ = some (.pointer (some ⟨k.p, 0, none⟩))
  r0 : W.cell? ⟨w.heap.size, 0, none⟩ = some (.slice none 0 0)
  r1 : W.cell? ⟨w.heap.size, 1, none⟩ = some (.slice none 0 0)
  rf : ∀ j, W.frozen? ⟨w.heap.size, j, none⟩ = false
  hb : Below w.heap.size w W
  sz : M + 3 ≤ W.heap.size
theorem SI.own (w : World) (M B : Nat) (k : Bl) (hM : w.heap.size < M) (hB : M + 3 ≤ B) : OwnFrom B (SI w M k) := fun s W W' row h hg hr => by
  have hnc : NoCells W row := fun r e => (hr r e).2
  have hne : ∀ b, b < M + 3 → b < W.heap.size → W'.heap[b]? = W.heap[b]? := fun b hb hl => hg.block b hl (fun e => by have := (hr b e.symm).1; omega)
  have hsz := h.sz
  have hw := h.hb.size
  exact ⟨h.rep.grown hg hnc (fun r e => by have := (hr r e).1; omega), cell_kept h.box hg hnc, cell_kept h.r0 hg hnc, cell_kept h.r1 hg hnc, fun j => (World.frozen?_of_block (a := ⟨w.heap.size, j, none⟩) (hne w.heap.size (by omega) (by omega))).trans (h.rf j), ownFrom_below (β := Unit) (Nat.le_refl _) (show w.heap.size ≤ B by omega) () _ _ _ h.hb hg hr, Nat.le_trans h.sz hg.size⟩
theorem SI.below {w W W' : World} {M : Nat} {k : Bl} {pre : List EvT} (h : SI w M k pre W) (hb : Below W.heap.size W W') (hM : w.heap.size < M) : SI w M k pre W' := by
  have hsz := h.sz
  have hs := hb.size
  exact ⟨h.rep.below hb, (hb.cell (p := ⟨M, 0, none⟩) (by dsimp only; omega)).trans h.box, (hb.cell (p := ⟨w.heap.size, 0, none⟩) (by dsimp only; omega)).trans h.r0, (hb.cell (p := ⟨w.heap.size, 1, none⟩) (by dsimp only; omega)).trans h.r1, fun j => (hb.frozen (p := ⟨w.heap.size, j, none⟩) (by dsimp only; omega)).trans (h.rf j), h.hb.trans (hb.mono (by omega)), by omega⟩
set_option maxHeartbeats 16000000 in
theorem State_any (A : Option Addr) (n c : Nat) (evs : List EvT) (t : Int) (w : World) (hs : Sl w A n c (evs.map (·.1))) (hn : n ≤ 1000) (hA : ∀ x ∈ (stAt (evs.map (·.1)) t).added, 1 ≤ x ∧ x ≤ 9999) (hO : ∀ x ∈ (stAt (evs.map (·.1)) t).opened, 1 ≤ x ∧ x ≤ 9999) :
    Calls Try.prog 27 #[.slice A n c, .int .i64 t] w fun r w' => ∃ Aa na ca As ns cs, r = .returned (.agg #[.slice Aa na ca, .slice As ns cs]) ∧ LAc w' Aa na ca (pAccs (stAt (evs.map (·.1)) t) (stAt (evs.map (·.1)) t).opened) ∧ LSb w' As ns cs (pSubs (stAt (evs.map (·.1)) t) (stAt (evs.map (·.1)) t).added) ∧ Below w.heap.size w w' := by
  have HS := Lib.hid hs
  have HA := Lib.hid hA
  have HO := Lib.hid hO
  have hlen : evs.length = n := by have := hs.len; rw [List.length_map] at this; exact this
  have hnm := hs.nmax
  clear hs hA hO
  refine (callsIn_wide (n := 9)).1 ?_
  obtain ⟨F, hF⟩ : ∃ F, F = Fence.wide := ⟨_, rfl⟩
  have hfn : ∀ f, F.fn f := fun f => by rw [hF]; trivial
  have hro : F.round = none := by rw [hF]; rfl
  have HF := Lib.hid hF
  rw [← hF]
  clear hF
  have hcw : ∀ {n : Nat} {P : Program} {f : FuncId} {args : Array Value} {w : World} {R : Ending → World → Prop}, Calls P f args w R → CallsIn F n P f args w R := fun h => by rw [HF.out]; exact callsIn_wide.2 h
  refine callsIn_of_wp_marks Try.func27 rfl (hfn _) ?_ hro
  simp only [Try.ntmps27, List.size_toArray, List.length_cons, List.length_nil, Nat.reduceAdd, Nat.reduceSub, Array.replicate_succ, Array.replicate_zero, List.push_toArray, List.append_toArray, List.nil_append, List.cons_append]
  have hf68 := hfn 68
  have hf74 := hfn 74
  gi_wp2_with (first | (gi_at_call 68; refine (hcw (begin_any _)).mono ?_; rintro r w4 ⟨k, rfl, hrep, hb4⟩; have HR4 := Lib.hid hrep; have HB4 := Lib.hid hb4; clear hrep hb4) | (gi_at_call 74; refine (upto_in F 8 (hfn _) hro _ _ _ _ _).mono ?_; rintro e w' ⟨rfl, rfl⟩))
  obtain ⟨w1, hw1, hbw1, hz1, f1, f1f⟩ := box1 w #[.slice none 0 0, .slice none 0 0] 32
  have hs1 : w1.heap.size = w.heap.size + 1 := by rw [hw1, World.size_alloc]
  rw [← hw1] at HR4 HB4
  rw [hs1] at HR4 HB4
  have q0 := f1 0 _ rfl
  have q1 := f1 1 _ rfl
  clear hw1 f1
  have hs4 := HB4.out.size
  have b0 := ((Boxed.new w4 94 (.pointer (some ⟨k.p, 0, none⟩))).alloc (.cells #[.slice A n c] 22)).alloc (.cells #[.int .i64 t] 3)
  have b1 := (Boxed.new (w4.alloc (.cells #[.pointer (some ⟨k.p, 0, none⟩)] 94)) 22 (.slice A n c)).alloc (.cells #[.int .i64 t] 3)
  have b2 := Boxed.new ((w4.alloc (.cells #[.pointer (some ⟨k.p, 0, none⟩)] 94)).alloc (.cells #[.slice A n c] 22)) 3 (.int .i64 t)
  simp only [World.size_alloc] at b1 b2
  have hb40 : Below w4.heap.size w4 (((w4.alloc (.cells #[.pointer (some ⟨k.p, 0, none⟩)] 94)).alloc (.cells #[.slice A n c] 22)).alloc (.cells #[.int .i64 t] 3)) := (((Below.refl _ w4).alloc (Nat.le_refl _) _).alloc (by simp) _).alloc (by simp; omega) _
  have hsz0 : (((w4.alloc (.cells #[.pointer (some ⟨k.p, 0, none⟩)] 94)).alloc (.cells #[.slice A n c] 22)).alloc (.cells #[.int .i64 t] 3)).heap.size = w4.heap.size + 3 := by simp
  obtain ⟨W0, hW0⟩ : ∃ W0, (((w4.alloc (.cells #[.pointer (some ⟨k.p, 0, none⟩)] 94)).alloc (.cells #[.slice A n c] 22)).alloc (.cells #[.int .i64 t] 3)) = W0 := ⟨_, rfl⟩
  rw [hW0] at b0 b1 b2 hb40 hsz0 ⊢
  clear hW0
  have hSI0 : SI w w4.heap.size k [] W0 := by
    refine ⟨HR4.out.below hb40, b0.cell, ?_, ?_, fun j => ?_, hbw1.trans ((HB4.out.mono (by omega)).trans (hb40.mono (by omega))), by omega⟩
    · exact (hb40.cell (p := ⟨w.heap.size, 0, none⟩) (by dsimp only; omega)).trans ((HB4.out.cell (p := ⟨w.heap.size, 0, none⟩) (by dsimp only; omega)).trans q0)
    · exact (hb40.cell (p := ⟨w.heap.size, 1, none⟩) (by dsimp only; omega)).trans ((HB4.out.cell (p := ⟨w.heap.size, 1, none⟩) (by dsimp only; omega)).trans q1)
    · exact (hb40.frozen (p := ⟨w.heap.size, j, none⟩) (by dsimp only; omega)).trans ((HB4.out.frozen (p := ⟨w.heap.size, j, none⟩) (by dsimp only; omega)).trans (f1f j))
  have hsl : ∀ wr, Below (w.heap.size + 1) W0 wr → Sl wr A n c (evs.map (·.1)) := fun wr h => HS.out.below (hSI0.hb.trans (h.mono (by omega)))
  refine wpIn_rangeFunc_ownH hro (by decide) (gf := 107) (lb := #[.pointer (some ⟨w4.heap.size + 1, 0, none⟩), .pointer (some ⟨w4.heap.size + 1 + 1, 0, none⟩)]) rfl (hfn _) (enters_of Try.func107 (by kernel_rfl) rfl)
    (upto_stops F (9 - 1) (hfn _) hro (by decide) (w4.heap.size + 1) (w4.heap.size + 1 + 1) (w.heap.size + 1) w4.heap.size W0.heap.size evs t A n c hlen hnm W0 (by omega) hsl (Nat.le_refl _) ⟨by omega, by omega⟩ ⟨by omega, by omega⟩ b1.cell b2.cell)
    (fun h k => KpS.trans h k) (KpS.put (by omega) (Nat.le_refl _)) (Below.refl _ _) (fun _ => rfl)
    (SI w w4.heap.size k) (fun _ _ _ => False) (SI.own w _ _ k (by omega) (by omega)) (fun _ _ _ _ _ hs _ _ => hs) hSI0
    (fun x a' W => ∃ Bx, W0.heap.size ≤ Bx ∧ Bx < W.heap.size ∧ BoxE W Bx x ∧ a' = { tmps := #[.slice A n c, .int .i64 t, undef, undef, .pointer (some ⟨w.heap.size, 0, none⟩), .pointer (some ⟨w4.heap.size, 0, none⟩), .pointer (some ⟨Bx, 0, none⟩), .pointer (some ⟨k.p, 0, none⟩), .slice A n c, .int .i64 t, .func (.func 107) #[] #[.pointer (some ⟨w4.heap.size + 1, 0, none⟩), .pointer (some ⟨w4.heap.size + 1 + 1, 0, none⟩)], .agg #[.int .i64 x.1.at_, .int .i64 x.1.kind, .int .i64 x.1.acc, .int .i64 x.1.sub, .string x.1.num, .string x.1.name, .int .i64 x.1.val], undef, undef, undef, undef, undef], defers := [] })
    (fun x a' _ X Y row h hg hr => by obtain ⟨Bx, h1, h2, h3, h4⟩ := h; exact ⟨Bx, h1, Nat.lt_of_lt_of_le h2 hg.size, fun j u hu => cell_kept (h3 j u hu) hg (fun r e => (hr r e).2), h4⟩)
    ?assign ?body ?done ?stop
  case assign =>
    rintro l pre x W K hI hK
    have hsW := hI.sz
    unfold evA
    gi_wp2
    have hbn : Below W.heap.size W (W.alloc (.cells #[.int .i64 x.1.at_, .int .i64 x.1.kind, .int .i64 x.1.acc, .int .i64 x.1.sub, .string x.1.num, .string x.1.name, .int .i64 x.1.val] 36)) := (Below.refl _ W).alloc (Nat.le_refl _) _
    obtain ⟨V, hV, _, hzV, fV, _⟩ := box1 W #[.int .i64 x.1.at_, .int .i64 x.1.kind, .int .i64 x.1.acc, .int .i64 x.1.sub, .string x.1.num, .string x.1.name, .int .i64 x.1.val] 36
    exact hK _ _ ((KeepsOthers.alloc _ _).from _) (KpS.below hbn (by omega)) (hI.below hbn (by omega)) ⟨W.heap.size, by omega, by rw [World.size_alloc]; omega, fun j u hu => by rw [← hV]; exact fV j u hu, rfl⟩
  case body =>
    rintro l pre x a' W hl ⟨r, hr⟩ hI ⟨Bx, hBx, hBl, hbx, rfl⟩ hlt
    have e0 := hbx 0 _ rfl
    have e1 := hbx 1 _ rfl
    have e2 := hbx 2 _ rfl
    have e3 := hbx 3 _ rfl
    have e4 := hbx 4 _ rfl
    have e5 := hbx 5 _ rfl
    have e6 := hbx 6 _ rfl
    have hbox := hI.box
    have HI := Lib.hid hI
    have HXP := Lib.hid x.2
    have hf71 := hfn 71
    have h1' : 1 ≤ 9 - 1 - 1 := by decide
    clear hbx hI
    gi_wp2_with (gi_at_call 71; refine (CallsIn.inRound l (hcw (apply_any x.1.at_ x.1.kind x.1.acc x.1.sub x.1.val x.1.num x.1.name (w.heap.size + 1) w4.heap.size (4 * pre.length) k _ _ HI.out.rep HXP.out.2.1 HXP.out.2.2.1 HXP.out.2.2.2 (by omega) HXP.out.1.1 HXP.out.1.2))).mono ?_; rintro e w' ⟨⟨u, rfl⟩, hrep, hst⟩)
    have hsW := HI.out.sz
    have hsb := HI.out.hb.size
    refine ⟨kfMono hst.2.1 (by omega), ⟨hst.1, kless hst.2.2 fun b h => h.1⟩, ?_, (hst.2.2.2 _ 0 (Nat.le_refl _) (by omega)).trans HI.out.box, (hst.1.cell (p := ⟨w.heap.size, 0, none⟩) (by dsimp only; omega)).trans HI.out.r0, (hst.1.cell (p := ⟨w.heap.size, 1, none⟩) (by dsimp only; omega)).trans HI.out.r1, fun j => (hst.1.frozen (p := ⟨w.heap.size, j, none⟩) (by dsimp only; omega)).trans (HI.out.rf j), HI.out.hb.trans (hst.1.mono (by omega)), Nat.le_trans hsW hst.2.1.size⟩
    rw [foldT_snoc, List.length_append, List.length_singleton]
    exact hrep
  case done =>
    rintro D zs W hD rfl hI hK
    have hfin : ((evs.filter (fun y => atB t y.1)).map (·.1)).foldl applyP st0 = stAt (evs.map (·.1)) t := by rw [filterT]; rfl
    have hR := hI.rep
    rw [hfin] at hR
    have hlf : (evs.filter (fun y => atB t y.1)).length ≤ n := by rw [← hlen]; exact List.length_filter_le _ _
    have hbox := hI.box
    have HI := Lib.hid hI
    have HR := Lib.hid hR
    have hf75 := hfn 75
    have hrf := hI.rf
    have hbs := hI.hb.size
    have hsW := hI.sz
    have hKl := (Array.getElem?_eq_some_iff.1 hK).1
    have HK := Lib.hid hK
    clear hI hR hfin hK
    gi_wp2_with (gi_at_call 75; refine (hcw (customers_any _ _ _ k _ _ HR.out HA.out HO.out (by omega))).mono ?_; rintro r w5 ⟨Aa, na, ca, As, ns, cs, rfl, hla, hls, hb5⟩; have HLA := Lib.hid hla; have HLS := Lib.hid hls; have HB5 := Lib.hid hb5; have r0 := (hb5.cell (p := ⟨w.heap.size, 0, none⟩) (by dsimp only; omega)).trans HI.out.r0; have r1 := (hb5.cell (p := ⟨w.heap.size, 1, none⟩) (by dsimp only; omega)).trans HI.out.r1; have rf := fun j => (hb5.frozen (p := ⟨w.heap.size, j, none⟩) (by dsimp only; omega)).trans (HI.out.rf j); clear hla hls hb5)
    obtain ⟨Z, hZ⟩ : ∃ Z, Z = (w5.setCell ⟨w.heap.size, 0, none⟩ (.slice Aa na ca)).setCell ⟨w.heap.size, 1, none⟩ (.slice As ns cs) := ⟨_, rfl⟩
    rw [← hZ]
    have z0 : Z.cell? ⟨w.heap.size, 0, none⟩ = some (.slice Aa na ca) := by rw [hZ]; exact (World.cell?_setCell_other _ _ _ _ (fun e => by injection e with e1 e2; omega)).trans (World.cell?_setCell_same _ _ _ r0)
    have r1' : (w5.setCell ⟨w.heap.size, 0, none⟩ (.slice Aa na ca)).cell? ⟨w.heap.size, 1, none⟩ = some (.slice none 0 0) := (World.cell?_setCell_other _ _ _ _ (fun e => by injection e with e1 e2; omega)).trans r1
    have z1 : Z.cell? ⟨w.heap.size, 1, none⟩ = some (.slice As ns cs) := by rw [hZ]; exact World.cell?_setCell_same _ _ _ r1'
    have hK5 : w5.heap[D]? = some (.deferred (some [])) := (HB5.out.block D hKl).trans HK.out
    have hKZ : Z.heap[D]? = some (.deferred (some [])) := by
      rw [hZ]
      exact (KeepsOthers.setCell _ _ _).same D _ ((KeepsOthers.setCell _ _ _).same D _ hK5 rfl) rfl
    have hbZ : Below w.heap.size w Z := by rw [hZ]; exact ((HI.out.hb.trans (HB5.out.mono hbs)).setCell (p := ⟨w.heap.size, 0, none⟩) (Nat.le_refl _) _).setCell (p := ⟨w.heap.size, 1, none⟩) (Nat.le_refl _) _
    have hst1 : Stays w5 Z := by rw [hZ]; exact (Stays.set_ r0 (by omega)).trans (Stays.set_ r1' (by omega))
    have hnc : ∀ o : Obj, NoCells Z (some D) := fun o r e => by cases e; exact ⟨_, hKZ, rfl⟩
    refine ⟨by simp, .inl ⟨_, _, rfl, run_takeDeferred hKZ, ?_⟩⟩
    have hst2 := Stays.grown (grownBy_putObj' Z D (.deferred none)) (hnc (.deferred none))
    refine ⟨_, results_cells rfl _ _ w.heap.size #[.slice Aa na ca, .slice As ns cs] _ rfl (fun j v hv => by
      match j, hv with
      | 0, hv => cases hv; exact cell_kept z0 (grownBy_putObj' Z D _) (hnc (.deferred none))
      | 1, hv => cases hv; exact cell_kept z1 (grownBy_putObj' Z D _) (hnc (.deferred none))
      | j + 2, hv => simp at hv) rfl rfl rfl, ?_⟩
    exact ⟨Aa, na, ca, As, ns, cs, rfl, LAc_stay HLA.out (hst1.trans hst2), LSb_stay HLS.out (hst1.trans hst2), hbZ.trans (belowK_b (w := w) (Nat.le_refl _) Z D _ _ (by omega) hKZ rfl rfl)⟩
  case stop =>
    rintro D c pre W _ _ h _
    exact h.elim
end Cu
namespace Cu
structure BkSz (b : Bk) (k : Nat) : Prop where
  a : b.accs.length ≤ k
  s : b.subs.length ≤ k
  e : b.ended.length ≤ k
  t : ∀ t ∈ b.subs, t.nums.length ≤ k ∧ t.prods.length ≤ k
theorem mapFirst_mem {α : Type} {p : α → Bool} {f : α → α} : ∀ {l : List α} {y : α}, y ∈ mapFirst p f l → y ∈ l ∨ ∃ x ∈ l, y = f x
  | [], y, h => by cases h
  | a :: l, y, h => by
    unfold mapFirst at h
    split at h
    · rcases List.mem_cons.1 h with rfl | h
      · exact .inr ⟨a, List.mem_cons_self .., rfl⟩
      · exact .inl (List.mem_cons_of_mem _ h)
    · rcases List.mem_cons.1 h with rfl | h
      · exact .inl (List.mem_cons_self ..)
      · rcases mapFirst_mem h with h | ⟨x, hx, rfl⟩
        · exact .inl (List.mem_cons_of_mem _ h)
        · exact .inr ⟨x, List.mem_cons_of_mem _ hx, rfl⟩
theorem mapFirst_length {α : Type} (p : α → Bool) (f : α → α) : ∀ l : List α, (mapFirst p f l).length = l.length
  | [] => rfl
  | a :: l => by
    unfold mapFirst
    split
    · simp
    · simp [mapFirst_length p f l]
theorem remS_len' (l : List ByteArray) (x : ByteArray) : (remS l x).length ≤ l.length := List.length_filter_le _ _
theorem chgR_len {s : Sb} {e : Ev} {k : Nat} (h : s.nums.length ≤ k ∧ s.prods.length ≤ k) : (chgR s e).nums.length ≤ k + 1 ∧ (chgR s e).prods.length ≤ k + 1 := by
  have i1 := insS_len s.nums e.num
  have i2 := insS_len s.prods e.name
  have r1 := remS_len' s.nums e.num
  have r2 := remS_len' s.prods e.name
  unfold chgR
  repeat' split
  all_goals first | omega | (constructor <;> first | omega | (simp; omega) | simp)
theorem BkSz.step {b : Bk} {k : Nat} (h : BkSz b k) (e : Ev) : BkSz (applyR b e) (k + 1) := by
  have ha := h.a
  have hs := h.s
  have he := h.e
  have up : ∀ t ∈ b.subs, t.nums.length ≤ k + 1 ∧ t.prods.length ≤ k + 1 := fun t ht => by have := h.t t ht; omega
  unfold applyR
  split
  · exact ⟨by simp; omega, by dsimp only; omega, by dsimp only; omega, up⟩
  split
  · exact ⟨by dsimp only; rw [mapFirst_length]; omega, by dsimp only; omega, by dsimp only; omega, up⟩
  split
  · refine ⟨by dsimp only; omega, by simp; omega, by dsimp only; omega, fun t ht => ?_⟩
    rcases List.mem_append.1 ht with ht | ht
    · exact up t ht
    · rcases List.mem_singleton.1 ht with rfl
      exact ⟨Nat.zero_le _, Nat.zero_le _⟩
  split
  · exact ⟨by omega, by omega, by omega, up⟩
  · refine ⟨by dsimp only; omega, by dsimp only; rw [mapFirst_length]; omega, ?_, fun t ht => ?_⟩
    · dsimp only
      split
      · simp; omega
      · omega
    · rcases mapFirst_mem ht with ht | ⟨x, hx, rfl⟩
      · exact up t ht
      · exact chgR_len (h.t x hx)
theorem bkSz_N (l : List Ev) : ∀ k, k ≤ l.length → BkSz (bkN l k) k
  | 0, _ => ⟨Nat.le_refl _, Nat.le_refl _, Nat.le_refl _, fun t ht => by cases ht⟩
  | k + 1, hk => by
    rw [bkN_succ (List.getElem?_eq_getElem (show k < l.length by omega))]
    exact (bkSz_N l k (by omega)).step _
theorem fault_parts {b : Bk} {e : Ev} {last : Int} (h : faultR b e last = 0) : (1 ≤ e.kind ∧ e.kind ≤ 15) ∧ (e.kind = 2 → (findA b e.acc).isSome = true) ∧ (4 ≤ e.kind → e.kind ≤ 13 → (findS b e.sub).isSome = true) ∧ (Lit.int .i64 e.acc).wf = true ∧ (Lit.int .i64 e.sub).wf = true := by
  unfold faultR at h
  by_cases hf : formR e last = 0
  · obtain ⟨h1, h2, h3⟩ := formR_fit hf
    rw [if_neg (by omega)] at h
    refine ⟨h1, fun hk => ?_, fun h4 h13 => ?_, h2, h3⟩
    · have hu : uA e.kind = true := by rw [hk]; rfl
      rw [if_pos hu] at h
      unfold ofAcc at h
      cases hq : findA b e.acc with
      | none => rw [hq] at h; dsimp only at h; rw [if_neg (by omega)] at h; cases h
      | some a => rfl
    · have hu : ¬ uA e.kind = true := by
        unfold uA
        simp
        omega
      rw [if_neg hu] at h
      unfold ofSub at h
      cases hq : findS b e.sub with
      | none => rw [hq] at h; cases h
      | some a => rfl
  · rw [if_pos hf] at h; exact absurd h hf
/-! ### books in memory stay -/
theorem SR.setS {w : World} {R o : Nat} {u : Value} {A : Option Addr} {n c : Nat} {t : Sv} {s : Sb} (h : SR w t s) (hold : w.cell? ⟨R, o, none⟩ = some (.slice A n c)) : SR (w.setCell ⟨R, o, none⟩ u) t s :=
  ⟨h.id, h.acc, h.since, h.plan, h.n0, slSet h.n hold (fun x j hj => by
    match j, hj with
    | 0, hj => cases hj), h.p0, slSet h.p hold (fun x j hj => by
    match j, hj with
    | 0, hj => cases hj), h.susp, h.fam⟩
theorem BR.setS {w : World} {R o : Nat} {u : Value} {A : Option Addr} {n c : Nat} {Aa : Option Addr} {na ca : Nat} {As : Option Addr} {ns cs : Nat} {Ae : Option Addr} {ne ce : Nat} {b : Bk} (h : BR w Aa na ca As ns cs Ae ne ce b) (hold : w.cell? ⟨R, o, none⟩ = some (.slice A n c)) (ho : o ≤ 2) : BR (w.setCell ⟨R, o, none⟩ u) Aa na ca As ns cs Ae ne ce b := by
  obtain ⟨h0, xs, h1, h2⟩ := h.s
  refine ⟨h.a0, slSet h.a hold (fun x j hj => ?_), ⟨h0, xs, slSet h1 hold (fun x j hj => ?_), h2.imp fun _ _ x => x.setS hold⟩, h.e0, slSet h.e hold (fun x j hj => ?_)⟩
  · match j, hj with
    | 0, hj => cases hj
    | 1, hj => cases hj
    | 2, hj => cases hj
    | j + 3, hj => omega
  · match j, hj with
    | 0, hj => cases hj
    | 1, hj => cases hj
    | 2, hj => cases hj
    | j + 3, hj => omega
  · match j, hj with
    | 0, hj => cases hj
theorem br0 (w : World) : BR w none 0 0 none 0 0 none 0 0 bk0 := ⟨fun _ => rfl, Sl.nil_ _, LS.nil_ _, fun _ => rfl, Sl.nil_ _⟩
/-- a book's box, and the book -/
structure BB (w : World) (g : Nat) (b : Bk) : Prop where
  x : ∃ A1 n1 c1 A2 n2 c2 A3 n3 c3, w.cell? ⟨g, 0, none⟩ = some (.slice A1 n1 c1) ∧ w.cell? ⟨g, 1, none⟩ = some (.slice A2 n2 c2) ∧ w.cell? ⟨g, 2, none⟩ = some (.slice A3 n3 c3) ∧ BR w A1 n1 c1 A2 n2 c2 A3 n3 c3 b
  f : ∀ j, w.frozen? ⟨g, j, none⟩ = false
  l : g < w.heap.size
theorem BB.below {w w' : World} {g : Nat} {b : Bk} (h : BB w g b) (hb : Below w.heap.size w w') : BB w' g b := by
  obtain ⟨A1, n1, c1, A2, n2, c2, A3, n3, c3, h0, h1, h2, h3⟩ := h.x
  exact ⟨⟨A1, n1, c1, A2, n2, c2, A3, n3, c3, (hb.cell (p := ⟨g, 0, none⟩) h.l).trans h0, (hb.cell (p := ⟨g, 1, none⟩) h.l).trans h1, (hb.cell (p := ⟨g, 2, none⟩) h.l).trans h2, h3.on hb⟩, fun j => (hb.frozen (p := ⟨g, j, none⟩) h.l).trans (h.f j), Nat.lt_of_lt_of_le h.l hb.size⟩
theorem BB.store {w : World} {g : Nat} {b b' : Bk} (h : BB w g b) {A1 A2 A3 : Option Addr} {n1 c1 n2 c2 n3 c3 : Nat} (hb : BR w A1 n1 c1 A2 n2 c2 A3 n3 c3 b') :
    BB (((w.setCell ⟨g, 0, none⟩ (.slice A1 n1 c1)).setCell ⟨g, 1, none⟩ (.slice A2 n2 c2)).setCell ⟨g, 2, none⟩ (.slice A3 n3 c3)) g b' := by
  obtain ⟨B1, m1, d1, B2, m2, d2, B3, m3, d3, h0, h1, h2, _⟩ := h.x
  have ne : ∀ (W : World) (i j : Nat) (u : Value), i ≠ j → (W.setCell ⟨g, i, none⟩ u).cell? ⟨g, j, none⟩ = W.cell? ⟨g, j, none⟩ := fun W i j u hij => World.cell?_setCell_other _ _ _ _ (fun e => by injection e with e1 e2; omega)
  have k1 := (ne w 0 1 (.slice A1 n1 c1) (by omega)).trans h1
  have k2 := (ne w 0 2 (.slice A1 n1 c1) (by omega)).trans h2
  have k3 := (ne (w.setCell ⟨g, 0, none⟩ (.slice A1 n1 c1)) 1 2 (.slice A2 n2 c2) (by omega)).trans k2
  refine ⟨⟨A1, n1, c1, A2, n2, c2, A3, n3, c3, ?_, ?_, ?_, ((hb.setS h0 (by omega)).setS k1 (by omega)).setS k3 (by omega)⟩, fun j => by rw [World.frozen?_setCell, World.frozen?_setCell, World.frozen?_setCell]; exact h.f j, by rw [World.size_setCell, World.size_setCell, World.size_setCell]; exact h.l⟩
  · exact (ne _ 2 0 _ (by omega)).trans ((ne _ 1 0 _ (by omega)).trans (World.cell?_setCell_same _ _ _ h0))
  · exact (ne _ 2 1 _ (by omega)).trans (World.cell?_setCell_same _ _ _ k1)
  · exact World.cell?_setCell_same _ _ _ k3
end Cu
namespace Gr
open Cu
def bookF (b : Bk) : Value → World → Prop := fun v w => ∃ A1 n1 c1 A2 n2 c2 A3 n3 c3, v = .agg #[.slice A1 n1 c1, .slice A2 n2 c2, .slice A3 n3 c3] ∧ BR w A1 n1 c1 A2 n2 c2 A3 n3 c3 b
theorem bookF_stays (b : Bk) : stays (bookF b) := fun v w w' hb ⟨A1, n1, c1, A2, n2, c2, A3, n3, c3, h1, h2⟩ => ⟨A1, n1, c1, A2, n2, c2, A3, n3, c3, h1, h2.on hb⟩
end Gr
namespace Cu
theorem toSub {α : Type} {P : α → Prop} : ∀ l : List α, (∀ e ∈ l, P e) → ∃ evs : List { e : α // P e }, evs.map (·.1) = l
  | [], _ => ⟨[], rfl⟩
  | a :: l, h => by
    obtain ⟨evs, he⟩ := toSub l fun e he => h e (List.mem_cons_of_mem _ he)
    exact ⟨⟨a, h a (List.mem_cons_self ..)⟩ :: evs, by rw [List.map_cons, he]⟩
theorem vl_ev {l : List Ev} (hv : Vl l) (hz : SzOk l) : ∀ e ∈ l, EvOk e := fun e he => by
  obtain ⟨j, hj⟩ := List.getElem?_of_mem he
  have hf := hv.2 j (List.getElem?_eq_some_iff.1 hj).1
  rw [fltN_at hj] at hf
  obtain ⟨h1, _, _, h2, h3⟩ := fault_parts hf
  exact ⟨h1, h2, h3, (hz e he).1⟩
theorem State_vl (A : Option Addr) (n c : Nat) (l : List Ev) (t : Int) (w : World) (hs : Sl w A n c l) (hv : Vl l) (hz : SzOk l) :
    Calls Try.prog 27 #[.slice A n c, .int .i64 t] w fun r w' => ∃ Aa na ca As ns cs, r = .returned (.agg #[.slice Aa na ca, .slice As ns cs]) ∧ LAc w' Aa na ca (cAccs (bkAt l t)) ∧ LSb w' As ns cs (cSubs (bkAt l t)) ∧ Below w.heap.size w w' := by
  obtain ⟨evs, he⟩ := toSub l (vl_ev hv hz)
  obtain ⟨hi, hb⟩ := at_inv hv t
  have h1 : ∀ x ∈ (stAt l t).added, 1 ≤ x ∧ x ≤ 9999 := fun x hx => by
    have := (hi.added.2 x).1 hx
    cases h : findS (bkAt l t) x with
    | none => rw [h] at this; cases this
    | some s =>
      have h2 := findS_id h
      have := hb.sr s h2.1
      rw [h2.2] at this
      omega
  have h2 : ∀ x ∈ (stAt l t).opened, 1 ≤ x ∧ x ≤ 9999 := fun x hx => by
    have := (hi.opened.2 x).1 hx
    cases h : findA (bkAt l t) x with
    | none => rw [h] at this; cases this
    | some s =>
      have h2 := findA_id h
      have := hb.ar s h2.1
      rw [h2.2] at this
      omega
  have := State_any A n c evs t w (by rw [he]; exact hs) (by have := hs.len; have := hv.1; omega) (by rw [he]; exact h1) (by rw [he]; exact h2)
  rw [he, cust_accs hi hb, cust_subs hi hb] at this
  exact this
end Cu
namespace Cu
theorem slSetNe {α : Type} [Flat α] {w : World} {A : Option Addr} {n c R o : Nat} {u old : Value} {xs : List α} (h : Sl w A n c xs) (hold : w.cell? ⟨R, o, none⟩ = some old) (hne : ∀ x ∈ xs, ∀ j, (Flat.cells x)[j]? = some old → o < j) : Sl (w.setCell ⟨R, o, none⟩ u) A n c xs :=
  ⟨h.1, h.2.1, h.2.2.1, fun hn => by
    obtain ⟨b, off, e, hb, hcc⟩ := h.2.2.2 hn
    refine ⟨b, off, e, by rw [World.size_setCell]; exact hb, fun i x hx j v hv => ?_⟩
    have hq := hcc i x hx j v hv
    refine (World.cell?_setCell_other _ _ _ _ (fun e' => ?_)).trans hq
    injection e' with e1 e2
    subst e1
    rw [← e2, hold] at hq
    injection hq with hq
    subst hq
    have := hne x (List.mem_of_getElem? hx) j hv
    omega⟩
theorem SR.setNe {w : World} {R o : Nat} {u old : Value} {t : Sv} {s : Sb} (h : SR w t s) (hold : w.cell? ⟨R, o, none⟩ = some old) (hn : ∀ x ∈ s.nums, old ≠ .string x) (hp : ∀ x ∈ s.prods, old ≠ .string x) : SR (w.setCell ⟨R, o, none⟩ u) t s :=
  ⟨h.id, h.acc, h.since, h.plan, h.n0, slSetNe h.n hold (fun x hx j hj => by
    match j, hj with
    | 0, hj => cases hj; exact absurd rfl (hn x hx)), h.p0, slSetNe h.p hold (fun x hx j hj => by
    match j, hj with
    | 0, hj => cases hj; exact absurd rfl (hp x hx)), h.susp, h.fam⟩
theorem AR.setNe {w : World} {R o : Nat} {u old : Value} {t : Av} {s : Ac × List Int} (h : AR w t s) (hold : w.cell? ⟨R, o, none⟩ = some old) (hn : ∀ x ∈ s.2, old ≠ .int .i64 x) : AR (w.setCell ⟨R, o, none⟩ u) t s :=
  ⟨h.id, h.since, h.anchor, h.prepaid, h.closed, h.n0, slSetNe h.n hold (fun x hx j hj => by
    match j, hj with
    | 0, hj => cases hj; exact absurd rfl (hn x hx))⟩
theorem SR.setRunNe {R : Nat} {t : Sv} {s : Sb} : ∀ (vs : List Value) {w : World} (o : Nat), SR w t s → (∀ j, j < vs.length → ∃ old, w.cell? ⟨R, o + j, none⟩ = some old ∧ (∀ x ∈ s.nums, old ≠ .string x) ∧ ∀ x ∈ s.prods, old ≠ .string x) → SR (setRun w R o vs) t s
  | [], _, _, h, _ => h
  | v :: vs, w, o, h, hc => by
    obtain ⟨old, h0, h1, h2⟩ := hc 0 (by simp)
    refine SR.setRunNe vs (o + 1) (h.setNe h0 h1 h2) fun j hj => ?_
    obtain ⟨old', k0, k1⟩ := hc (j + 1) (by simpa using hj)
    exact ⟨old', (World.cell?_setCell_other _ _ _ _ (fun e => by injection e with e1 e2; omega)).trans (by rw [show o + 1 + j = o + (j + 1) by omega]; exact k0), k1⟩
theorem AR.setRunNe {R : Nat} {t : Av} {s : Ac × List Int} : ∀ (vs : List Value) {w : World} (o : Nat), AR w t s → (∀ j, j < vs.length → ∃ old, w.cell? ⟨R, o + j, none⟩ = some old ∧ ∀ x ∈ s.2, old ≠ .int .i64 x) → AR (setRun w R o vs) t s
  | [], _, _, h, _ => h
  | v :: vs, w, o, h, hc => by
    obtain ⟨old, h0, h1⟩ := hc 0 (by simp)
    refine AR.setRunNe vs (o + 1) (h.setNe h0 h1) fun j hj => ?_
    obtain ⟨old', k0, k1⟩ := hc (j + 1) (by simpa using hj)
    exact ⟨old', (World.cell?_setCell_other _ _ _ _ (fun e => by injection e with e1 e2; omega)).trans (by rw [show o + 1 + j = o + (j + 1) by omega]; exact k0), k1⟩
/-! ### no empty names -/
def NeS (l : List ByteArray) : Prop := ∀ x ∈ l, x ≠ nEmpty
def BkNe (b : Bk) : Prop := ∀ t ∈ b.subs, NeS t.nums ∧ NeS t.prods
theorem insS_mem_ {l : List ByteArray} {x y : ByteArray} : y ∈ insS l x → y = x ∨ y ∈ l := by
  induction l with
  | nil => intro h; exact .inl (List.mem_singleton.1 h)
  | cons a l ih =>
    intro h
    unfold insS at h
    split at h
    · rcases List.mem_cons.1 h with rfl | h
      · exact .inr (List.mem_cons_self ..)
      · exact (ih h).imp id (List.mem_cons_of_mem _)
    · rcases List.mem_cons.1 h with rfl | h
      · exact .inl rfl
      · exact .inr h
theorem NeS.ins {l : List ByteArray} (h : NeS l) {x : ByteArray} (hx : x ≠ nEmpty) : NeS (insS l x) := fun y hy => by
  rcases insS_mem_ hy with rfl | hy
  · exact hx
  · exact h y hy
theorem NeS.rem {l : List ByteArray} (h : NeS l) (x : ByteArray) : NeS (remS l x) := fun y hy => h y (List.mem_filter.1 hy).1
theorem form_ne {e : Ev} {last : Int} (h : formR e last = 0) : (e.kind = 5 → e.num ≠ nEmpty) ∧ (e.kind = 8 → e.name ≠ nEmpty) := by
  unfold formR at h
  repeat' split at h
  all_goals try omega
  unfold formT at h
  repeat' split at h
  all_goals try omega
  rename_i hf hi hnb hnum hval
  constructor
  · intro hk he
    rw [he, hk] at hnum
    exact hnum rfl
  · intro hk he
    refine hnb ?_
    unfold nameBad
    rw [he, hk]
    rfl
theorem BkNe.step {b : Bk} (h : BkNe b) {e : Ev} {last : Int} (hf : faultR b e last = 0) : BkNe (applyR b e) := by
  have hform : formR e last = 0 := by
    unfold faultR at hf
    by_cases hq : formR e last = 0
    · exact hq
    · rw [if_pos hq] at hf; exact absurd hf hq
  obtain ⟨h5, h8⟩ := form_ne hform
  have hc : ∀ t ∈ b.subs, NeS (chgR t e).nums ∧ NeS (chgR t e).prods := fun t ht => by
    obtain ⟨a1, a2⟩ := h t ht
    unfold chgR
    split
    · exact ⟨fun x hx => (by cases hx), fun x hx => (by cases hx)⟩
    split
    · rename_i hk; exact ⟨a1.ins (h5 hk), a2⟩
    split
    · exact ⟨a1.rem _, a2⟩
    split
    · exact ⟨a1, a2⟩
    split
    · rename_i hk; exact ⟨a1, a2.ins (h8 hk)⟩
    split
    · exact ⟨a1, a2.rem _⟩
    repeat' split
    all_goals exact ⟨a1, a2⟩
  unfold applyR
  repeat' split
  all_goals first
    | exact h
    | (intro t ht
       rcases List.mem_append.1 ht with ht | ht
       · exact h t ht
       · rcases List.mem_singleton.1 ht with rfl
         exact ⟨fun x hx => (by cases hx), fun x hx => (by cases hx)⟩)
    | (intro t ht
       rcases mapFirst_mem ht with ht | ⟨x, hx, rfl⟩
       · exact h t ht
       · exact hc x hx)
theorem bkNe_N {l : List Ev} : ∀ k, k ≤ l.length → (∀ j, j < k → fltN l j = 0) → BkNe (bkN l k)
  | 0, _, _ => fun t ht => by cases ht
  | k + 1, hk, h => by
    have he : l[k]? = some (l[k]'(by omega)) := List.getElem?_eq_getElem _
    rw [bkN_succ he]
    have hf := h k (by omega)
    rw [fltN_at he] at hf
    exact (bkNe_N k (by omega) fun j hj => h j (by omega)).step hf
theorem bkAt_N {l : List Ev} (h : Vl l) (t : Int) : bkAt l t = bkN l (cutN l t) ∧ cutN l t ≤ l.length := by
  constructor
  · unfold bkAt bkN; rw [filter_asc t l h.pw]
  · unfold cutN
    exact (List.takeWhile_prefix _).length_le
theorem bkAt_ne {l : List Ev} (h : Vl l) (t : Int) : BkNe (bkAt l t) := by
  obtain ⟨h1, h2⟩ := bkAt_N h t
  rw [h1]
  exact bkNe_N _ h2 fun j hj => h.2 j (by omega)
theorem bkAt_sz {l : List Ev} (h : Vl l) (t : Int) : BkSz (bkAt l t) 40 := by
  obtain ⟨h1, h2⟩ := bkAt_N h t
  rw [h1]
  have := bkSz_N l _ h2
  have h40 := h.1
  exact ⟨by have := this.a; omega, by have := this.s; omega, by have := this.e; omega, fun s hs => by have := this.t s hs; omega⟩
/-! ### one of many -/
theorem find_fm {β : Type} (f : Int → Option β) (g : β → Int) (hf : ∀ i t, f i = some t → g t = i) (n : Int) : ∀ r : List Int, (r.filterMap f).find? (fun t => g t == n) = if n ∈ r then f n else none
  | [] => by simp
  | x :: r => by
    have ih := find_fm f g hf n r
    rw [List.filterMap_cons]
    cases hx : f x with
    | none =>
      rw [ih]
      by_cases hn : n = x
      · subst hn; rw [hx]; simp
      · simp [hn]
    | some t =>
      have ht := hf x t hx
      by_cases hn : n = x
      · subst hn
        rw [List.find?_cons_of_pos (by simpa using ht), if_pos (List.mem_cons_self ..), hx]
      · rw [List.find?_cons_of_neg (by rw [ht]; simpa using fun e => hn e.symm), ih]
        simp [hn]
theorem find_cSubs {b : Bk} (hb : Bok b) (n : Int) : (cSubs b).find? (fun t => t.id == n) = liveS b n := by
  unfold cSubs
  rw [find_fm (liveS b) Sb.id (fun i t h => liveS_id h) n]
  split
  · rfl
  · rename_i hn
    unfold liveS
    split
    · rfl
    · cases h : findS b n with
      | none => rfl
      | some s =>
        have h2 := findS_id h
        have h3 := hb.sr s h2.1
        rw [h2.2] at h3
        exact absurd (rngK_mem.2 (by omega)) hn
theorem find_cAccs {b : Bk} (hb : Bok b) (n : Int) : (cAccs b).find? (fun t => t.1.id == n) = cAcc b n := by
  unfold cAccs
  rw [find_fm (cAcc b) (fun t => t.1.id) (fun i t h => by
    unfold cAcc at h
    cases hq : findA b i with
    | none => rw [hq] at h; cases h
    | some a => rw [hq] at h; cases h; exact (findA_id hq).2) n]
  split
  · rfl
  · rename_i hn
    unfold cAcc
    cases h : findA b n with
    | none => rfl
    | some s =>
      have h2 := findA_id h
      have h3 := hb.ar s h2.1
      rw [h2.2] at h3
      exact absurd (rngK_mem.2 (by omega)) hn
theorem cSubs_ne {b : Bk} (h : BkNe b) : ∀ t ∈ cSubs b, NeS t.nums ∧ NeS t.prods := fun t ht => by
  obtain ⟨i, _, hi⟩ := List.mem_filterMap.1 ht
  unfold liveS at hi
  split at hi
  · cases hi
  · exact h t (findS_id hi).1
theorem cSubs_rng {b : Bk} : ∀ t ∈ cSubs b, 1 ≤ t.id ∧ t.id ≤ 9999 := fun t ht => by
  obtain ⟨i, hi, hq⟩ := List.mem_filterMap.1 ht
  rw [liveS_id hq]
  have := rngK_mem.1 hi
  omega
theorem cOf_rng {b : Bk} {n : Int} : ∀ x ∈ cOf (cSubs b) n, 1 ≤ x ∧ x ≤ 9999 := fun x hx => by
  obtain ⟨t, ht, rfl⟩ := List.mem_map.1 hx
  exact cSubs_rng t (List.mem_filter.1 ht).1
end Cu
end Go.Proofs.Yteaanngagcflhaa
