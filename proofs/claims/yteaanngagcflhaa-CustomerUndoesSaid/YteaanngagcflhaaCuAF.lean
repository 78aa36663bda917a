/-
  Customers: the reference's book while it is made. No condition.
-/
import Derived.Test.YteaanngagcflhaaCuAE
import Derived.Test.YteaanngagcflhaaCuAD
import Derived.Test.YteaanngagcflhaaCuZ
import Derived.Test.YteaanngagcflhaaMixS
import Derived.BigQuiet
import Derived.StillTailTactics
import Derived.Lib.Overlaps
import Derived.Deep.DeepCutAuto
import Derived.Deep.RegionWith
import Derived.Lib.BufferOwn
set_option maxRecDepth 100000
set_option linter.unusedVariables false
set_option linter.unusedSimpArgs false
namespace Go.Proofs.Yteaanngagcflhaa
open Go.RowKit

namespace Cu
theorem ow_obj {α : Type} [Flat α] {w : World} {B : Nat} {e : TypeId} {v : Value} {xs : List α} (h : Ow w B e v xs) {g : Nat} (hv : v.ownBlock = some g) : ∃ cs, w.heap[g]? = some (.cells cs e (0, 0)) := by
  rcases h.2 with ⟨h1, _⟩ | ⟨g', cap, cur, h1, _, h2, _⟩
  · rw [h1] at hv; cases hv
  · rw [h1] at hv
    cases hv
    exact ⟨_, h2⟩
theorem ow_ty {α : Type} [Flat α] {w : World} {B : Nat} {e e' : TypeId} {v : Value} {xs : List α} {g : Nat} {cs : Array Value} {fr : Nat × Nat} (h : Ow w B e v xs) (hg : w.heap[g]? = some (.cells cs e' fr)) (hne : e ≠ e') : v.ownBlock ≠ some g := fun hv => by
  obtain ⟨cs', h2⟩ := ow_obj h hv
  rw [hg] at h2
  injection h2 with h2
  injection h2 with _ h3
  exact hne h3.symm
theorem sep_ty {α β : Type} [Flat α] [Flat β] {w : World} {B B' : Nat} {e e' : TypeId} {v v' : Value} {xs : List α} {ys : List β} (h : Ow w B e v xs) (h' : Ow w B' e' v' ys) (hne : e ≠ e') : Sep v v' := by
  unfold Sep
  cases hv : v.ownBlock with
  | none => exact .inl rfl
  | some g =>
    obtain ⟨cs, h2⟩ := ow_obj h hv
    exact .inr fun e2 => ow_ty h' h2 (Ne.symm hne) e2.symm
/-- the box of a book -/
def Bx (w : World) (g : Nat) (va vs ve : Value) : Prop := w.heap[g]? = some (.cells #[va, vs, ve] 99 (0, 0))
theorem Bx.lt {w : World} {g : Nat} {va vs ve : Value} (h : Bx w g va vs ve) : g < w.heap.size := (Array.getElem?_eq_some_iff.1 h).1
theorem Bx.c0 {w : World} {g : Nat} {va vs ve : Value} (h : Bx w g va vs ve) : w.cell? ⟨g, 0, none⟩ = some va := by unfold Bx at h; simp [World.cell?, h]
theorem Bx.c1 {w : World} {g : Nat} {va vs ve : Value} (h : Bx w g va vs ve) : w.cell? ⟨g, 1, none⟩ = some vs := by unfold Bx at h; simp [World.cell?, h]
theorem Bx.c2 {w : World} {g : Nat} {va vs ve : Value} (h : Bx w g va vs ve) : w.cell? ⟨g, 2, none⟩ = some ve := by unfold Bx at h; simp [World.cell?, h]
theorem Bx.fz {w : World} {g : Nat} {va vs ve : Value} (h : Bx w g va vs ve) (j : Nat) : w.frozen? ⟨g, j, none⟩ = false := by unfold Bx at h; simp [World.frozen?, h]
theorem Bx.below {w w' : World} {g : Nat} {va vs ve : Value} (h : Bx w g va vs ve) (hb : Below w.heap.size w w') : Bx w' g va vs ve := (hb.block g h.lt).trans h
theorem Bx.new (w : World) (va vs ve : Value) : Bx (w.alloc (.cells #[va, vs, ve] 99)) w.heap.size va vs ve := World.alloc_heap_new w _
theorem Bx.upd {α : Type} [Flat α] {w w' : World} {g B : Nat} {e : TypeId} {va vs ve v u : Value} {xs : List α} (h : Bx w g va vs ve) (ho : Ow w B e v xs) (hne : e ≠ 99) (hu : Upd w w' v u) : Bx w' g va vs ve :=
  (hu.grew.block g h.lt (fun e => ow_ty ho h hne e.symm)).trans h
theorem Bx.set0 {w : World} {g : Nat} {va vs ve : Value} (h : Bx w g va vs ve) (u : Value) : Bx (w.setCell ⟨g, 0, none⟩ u) g u vs ve := blk_setCell h 0 u
theorem Bx.set1 {w : World} {g : Nat} {va vs ve : Value} (h : Bx w g va vs ve) (u : Value) : Bx (w.setCell ⟨g, 1, none⟩ u) g va u ve := blk_setCell h 1 u
theorem Bx.set2 {w : World} {g : Nat} {va vs ve : Value} (h : Bx w g va vs ve) (u : Value) : Bx (w.setCell ⟨g, 2, none⟩ u) g va vs u := blk_setCell h 2 u
theorem Bx.far {w : World} {g g' o : Nat} {va vs ve : Value} (h : Bx w g va vs ve) (hne : g' ≠ g) (u : Value) : Bx (w.setCell ⟨g', o, none⟩ u) g va vs ve :=
  ((Lib.grownBy_setCell w g' o u).block g h.lt (fun e => hne (by injection e with e; exact e.symm))).trans h
/-- three rows of the call's own, of three types -/
structure RW (C : Nat) (V wx : World) (va vs ve : Value) (la : List Ac) (xs : List Sv) (le : List Int) : Prop where
  a : Ow wx C 46 va la
  s : Ow wx C 51 vs xs
  e : Ow wx C 3 ve le
  hb : Below C V wx
  bs : C ≤ wx.heap.size
section
variable {C : Nat} {V wx w' : World} {va vs ve u : Value} {la la' : List Ac} {xs xs' : List Sv} {le le' : List Int}
theorem RW.below (h : RW C V wx va vs ve la xs le) (hb : Below wx.heap.size wx w') : RW C V w' va vs ve la xs le :=
  ⟨h.a.below hb, h.s.below hb, h.e.below hb, h.hb.trans (hb.mono h.bs), Nat.le_trans h.bs hb.size⟩
theorem RW.set_ (h : RW C V wx va vs ve la xs le) {g o : Nat} (hg : C ≤ g) (n1 : va.ownBlock ≠ some g) (n2 : vs.ownBlock ≠ some g) (n3 : ve.ownBlock ≠ some g) (x : Value) : RW C V (wx.setCell ⟨g, o, none⟩ x) va vs ve la xs le := by
  have hgr : wx.grownBy (wx.setCell ⟨g, o, none⟩ x) (some g) := Lib.grownBy_setCell wx g o x
  exact ⟨World.ownsRow.kept h.a hgr (.inr n1), World.ownsRow.kept h.s hgr (.inr n2), World.ownsRow.kept h.e hgr (.inr n3), h.hb.setCell hg _, by rw [World.size_setCell]; exact h.bs⟩
theorem RW.setB (h : RW C V wx va vs ve la xs le) {g o : Nat} {a b c : Value} (hx : Bx wx g a b c) (hg : C ≤ g) (x : Value) : RW C V (wx.setCell ⟨g, o, none⟩ x) va vs ve la xs le :=
  h.set_ hg (ow_ty h.a hx (by decide)) (ow_ty h.s hx (by decide)) (ow_ty h.e hx (by decide)) x
theorem RW.upA (h : RW C V wx va vs ve la xs le) (hu : Upd wx w' va u) (ho : Ow w' C 46 u la') : RW C V w' u vs ve la' xs le :=
  ⟨ho, hu.other h.s (sep_ty h.s h.a (by decide)), hu.other h.e (sep_ty h.e h.a (by decide)), hu.belowBase h.a h.hb h.bs, Nat.le_trans h.bs hu.size⟩
theorem RW.upS (h : RW C V wx va vs ve la xs le) (hu : Upd wx w' vs u) (ho : Ow w' C 51 u xs') : RW C V w' va u ve la xs' le :=
  ⟨hu.other h.a (sep_ty h.a h.s (by decide)), ho, hu.other h.e (sep_ty h.e h.s (by decide)), hu.belowBase h.s h.hb h.bs, Nat.le_trans h.bs hu.size⟩
theorem RW.upE (h : RW C V wx va vs ve la xs le) (hu : Upd wx w' ve u) (ho : Ow w' C 3 u le') : RW C V w' va vs u la xs le' :=
  ⟨hu.other h.a (sep_ty h.a h.e (by decide)), hu.other h.s (sep_ty h.s h.e (by decide)), ho, hu.belowBase h.e h.hb h.bs, Nat.le_trans h.bs hu.size⟩
end
theorem stored8 {w : World} {base : Nat} {e : TypeId} {g n cap i : Nat} {xs : List Sv} {t : Sv} (h : Ow w base e (.slice (some ⟨g, 0, none⟩) n cap) xs) (hx : xs[i]? = some t) (t' : Sv) :
    Ow ((((((((w.setCell ⟨g, i * 8, none⟩ (.int .i64 t'.id)).setCell ⟨g, i * 8 + 1, none⟩ (.int .i64 t'.acc)).setCell ⟨g, i * 8 + 2, none⟩ (.int .i64 t'.since)).setCell ⟨g, i * 8 + 3, none⟩ (.string t'.plan)).setCell ⟨g, i * 8 + 4, none⟩ (.slice t'.An t'.nn t'.cn)).setCell ⟨g, i * 8 + 5, none⟩ (.slice t'.Ap t'.np t'.cp)).setCell ⟨g, i * 8 + 6, none⟩ (.bool t'.susp)).setCell ⟨g, i * 8 + 7, none⟩ (.bool t'.fam)) base e (.slice (some ⟨g, 0, none⟩) n cap) (xs.set i t') := by
  have hl := (List.getElem?_eq_some_iff.1 hx).1
  have hg : ∀ y : Sv, (xs.set i y)[i]? = some y := fun y => by simp [hl]
  have h0 := Ow.stored h hx 0 (.int .i64 t'.id) (by decide) (show Flat.cells (⟨t'.id, t.acc, t.since, t.plan, t.An, t.nn, t.cn, t.Ap, t.np, t.cp, t.susp, t.fam⟩ : Sv) = (Flat.cells (t : Sv)).set 0 _ from rfl)
  have h1 := Ow.stored h0 (hg _) 1 (.int .i64 t'.acc) (by decide) (show Flat.cells (⟨t'.id, t'.acc, t.since, t.plan, t.An, t.nn, t.cn, t.Ap, t.np, t.cp, t.susp, t.fam⟩ : Sv) = (Flat.cells (⟨t'.id, t.acc, t.since, t.plan, t.An, t.nn, t.cn, t.Ap, t.np, t.cp, t.susp, t.fam⟩ : Sv)).set 1 _ from rfl)
  rw [List.set_set] at h1
  have h2 := Ow.stored h1 (hg _) 2 (.int .i64 t'.since) (by decide) (show Flat.cells (⟨t'.id, t'.acc, t'.since, t.plan, t.An, t.nn, t.cn, t.Ap, t.np, t.cp, t.susp, t.fam⟩ : Sv) = (Flat.cells (⟨t'.id, t'.acc, t.since, t.plan, t.An, t.nn, t.cn, t.Ap, t.np, t.cp, t.susp, t.fam⟩ : Sv)).set 2 _ from rfl)
  rw [List.set_set] at h2
  have h3 := Ow.stored h2 (hg _) 3 (.string t'.plan) (by decide) (show Flat.cells (⟨t'.id, t'.acc, t'.since, t'.plan, t.An, t.nn, t.cn, t.Ap, t.np, t.cp, t.susp, t.fam⟩ : Sv) = (Flat.cells (⟨t'.id, t'.acc, t'.since, t.plan, t.An, t.nn, t.cn, t.Ap, t.np, t.cp, t.susp, t.fam⟩ : Sv)).set 3 _ from rfl)
  rw [List.set_set] at h3
  have h4 := Ow.stored h3 (hg _) 4 (.slice t'.An t'.nn t'.cn) (by decide) (show Flat.cells (⟨t'.id, t'.acc, t'.since, t'.plan, t'.An, t'.nn, t'.cn, t.Ap, t.np, t.cp, t.susp, t.fam⟩ : Sv) = (Flat.cells (⟨t'.id, t'.acc, t'.since, t'.plan, t.An, t.nn, t.cn, t.Ap, t.np, t.cp, t.susp, t.fam⟩ : Sv)).set 4 _ from rfl)
  rw [List.set_set] at h4
  have h5 := Ow.stored h4 (hg _) 5 (.slice t'.Ap t'.np t'.cp) (by decide) (show Flat.cells (⟨t'.id, t'.acc, t'.since, t'.plan, t'.An, t'.nn, t'.cn, t'.Ap, t'.np, t'.cp, t.susp, t.fam⟩ : Sv) = (Flat.cells (⟨t'.id, t'.acc, t'.since, t'.plan, t'.An, t'.nn, t'.cn, t.Ap, t.np, t.cp, t.susp, t.fam⟩ : Sv)).set 5 _ from rfl)
  rw [List.set_set] at h5
  have h6 := Ow.stored h5 (hg _) 6 (.bool t'.susp) (by decide) (show Flat.cells (⟨t'.id, t'.acc, t'.since, t'.plan, t'.An, t'.nn, t'.cn, t'.Ap, t'.np, t'.cp, t'.susp, t.fam⟩ : Sv) = (Flat.cells (⟨t'.id, t'.acc, t'.since, t'.plan, t'.An, t'.nn, t'.cn, t'.Ap, t'.np, t'.cp, t.susp, t.fam⟩ : Sv)).set 6 _ from rfl)
  rw [List.set_set] at h6
  have h7 := Ow.stored h6 (hg _) 7 (.bool t'.fam) (by decide) (show Flat.cells (⟨t'.id, t'.acc, t'.since, t'.plan, t'.An, t'.nn, t'.cn, t'.Ap, t'.np, t'.cp, t'.susp, t'.fam⟩ : Sv) = (Flat.cells (⟨t'.id, t'.acc, t'.since, t'.plan, t'.An, t'.nn, t'.cn, t'.Ap, t'.np, t'.cp, t'.susp, t.fam⟩ : Sv)).set 7 _ from rfl)
  rw [List.set_set] at h7
  exact h7
theorem upd8 {w : World} {g n cap i : Nat} (t' : Sv) : Upd w ((((((((w.setCell ⟨g, i * 8, none⟩ (.int .i64 t'.id)).setCell ⟨g, i * 8 + 1, none⟩ (.int .i64 t'.acc)).setCell ⟨g, i * 8 + 2, none⟩ (.int .i64 t'.since)).setCell ⟨g, i * 8 + 3, none⟩ (.string t'.plan)).setCell ⟨g, i * 8 + 4, none⟩ (.slice t'.An t'.nn t'.cn)).setCell ⟨g, i * 8 + 5, none⟩ (.slice t'.Ap t'.np t'.cp)).setCell ⟨g, i * 8 + 6, none⟩ (.bool t'.susp)).setCell ⟨g, i * 8 + 7, none⟩ (.bool t'.fam)) (.slice (some ⟨g, 0, none⟩) n cap) (.slice (some ⟨g, 0, none⟩) n cap) :=
  (((((((Upd.stored (Upd.refl w _) _ _).stored _ _).stored _ _).stored _ _).stored _ _).stored _ _).stored _ _).stored _ _
theorem keeps8 {w : World} {g i : Nat} {p : Nat → Prop} (hp : ∀ b, p b → b ≠ g) (t' : Sv) : Keeps p w ((((((((w.setCell ⟨g, i * 8, none⟩ (.int .i64 t'.id)).setCell ⟨g, i * 8 + 1, none⟩ (.int .i64 t'.acc)).setCell ⟨g, i * 8 + 2, none⟩ (.int .i64 t'.since)).setCell ⟨g, i * 8 + 3, none⟩ (.string t'.plan)).setCell ⟨g, i * 8 + 4, none⟩ (.slice t'.An t'.nn t'.cn)).setCell ⟨g, i * 8 + 5, none⟩ (.slice t'.Ap t'.np t'.cp)).setCell ⟨g, i * 8 + 6, none⟩ (.bool t'.susp)).setCell ⟨g, i * 8 + 7, none⟩ (.bool t'.fam)) :=
  (((((((Keeps.ofSet hp).trans (Keeps.ofSet hp)).trans (Keeps.ofSet hp)).trans (Keeps.ofSet hp)).trans (Keeps.ofSet hp)).trans (Keeps.ofSet hp)).trans (Keeps.ofSet hp)).trans (Keeps.ofSet hp)
theorem mapFirst_set {α : Type} {p : α → Bool} {f : α → α} : ∀ {l : List α} {k : Nat} {x : α}, l[k]? = some x → p x = true → (∀ (m : Nat) y, m < k → l[m]? = some y → p y = false) → mapFirst p f l = l.set k (f x)
  | [], k, x, h, _, _ => by simp at h
  | a :: l, 0, x, h, hp, _ => by
    cases h
    unfold mapFirst
    rw [if_pos hp]; rfl
  | a :: l, k + 1, x, h, hp, hn => by
    have ha := hn 0 a (by omega) rfl
    unfold mapFirst
    rw [if_neg (by rw [ha]; decide), mapFirst_set (l := l) (k := k) (by simpa using h) hp (fun m y hm hy => hn (m + 1) y (by omega) (by simpa using hy))]
    rfl
theorem All2.set_ {α β : Type} {R : α → β → Prop} {xs : List α} {ys : List β} (h : All2 R xs ys) (k : Nat) {x : α} {y : β} (hr : R x y) : All2 R (xs.set k x) (ys.set k y) := by
  refine ⟨by rw [List.length_set, List.length_set]; exact h.1, fun i a b ha hb => ?_⟩
  rw [List.getElem?_set] at ha hb
  by_cases hki : k = i
  · subst hki
    rw [if_pos rfl] at ha hb
    split at ha
    · split at hb
      · injection ha with ha; injection hb with hb
        subst ha hb; exact hr
      · cases hb
    · cases ha
  · rw [if_neg hki] at ha hb
    exact h.2 i a b ha hb
/-- what lies in memory behind the copies -/
theorem ap_store {C : Nat} {V w' : World} {A1 A2 A3 : Option Addr} {n1 c1 n2 c2 n3 c3 g : Nat} {la : List Ac} {xs : List Sv} {le : List Int} (h : RW C V w' (.slice A1 n1 c1) (.slice A2 n2 c2) (.slice A3 n3 c3) la xs le) {a b c : Value} (hx : Bx w' g a b c) (hg : C ≤ g) :
    RW C V (((w'.setCell ⟨g, 0, none⟩ (.slice A1 n1 c1)).setCell ⟨g, 1, none⟩ (.slice A2 n2 c2)).setCell ⟨g, 2, none⟩ (.slice A3 n3 c3)) (.slice A1 n1 c1) (.slice A2 n2 c2) (.slice A3 n3 c3) la xs le ∧
    Bx (((w'.setCell ⟨g, 0, none⟩ (.slice A1 n1 c1)).setCell ⟨g, 1, none⟩ (.slice A2 n2 c2)).setCell ⟨g, 2, none⟩ (.slice A3 n3 c3)) g (.slice A1 n1 c1) (.slice A2 n2 c2) (.slice A3 n3 c3) := by
  have h0 := hx.set0 (.slice A1 n1 c1)
  have h1 := h0.set1 (.slice A2 n2 c2)
  exact ⟨((h.setB hx hg _).setB h0 hg _).setB h1 hg _, h1.set2 _⟩
theorem ap_done {w V X : World} {C D R : Nat} {A1 A2 A3 : Option Addr} {n1 c1 n2 c2 n3 c3 : Nat} {la : List Ac} {xs : List Sv} {le : List Int} {b' : Bk} (hR1 : w.heap.size ≤ R) (hR2 : R < C) (hC : w.heap.size ≤ C) (hD : C ≤ D) (hbV : Below w.heap.size w V)
    (h : RW C V X (.slice A1 n1 c1) (.slice A2 n2 c2) (.slice A3 n3 c3) la xs le) (ha : la = b'.accs) (he : le = b'.ended) (hs : All2 (SRP X fun b => b < w.heap.size ∨ D ≤ b) xs b'.subs) :
    BR (setRun X R 0 [.slice A1 n1 c1, .slice A2 n2 c2, .slice A3 n3 c3]) A1 n1 c1 A2 n2 c2 A3 n3 c3 b' ∧ Below w.heap.size w (setRun X R 0 [.slice A1 n1 c1, .slice A2 n2 c2, .slice A3 n3 c3]) := by
  have hbX : Below w.heap.size w X := hbV.trans (h.hb.mono hC)
  have far : ∀ {α : Type} [Flat α] {e : TypeId} {v : Value} {ys : List α}, Ow X C e v ys → Ow (setRun X R 0 [.slice A1 n1 c1, .slice A2 n2 c2, .slice A3 n3 c3]) C e v ys := fun {α} _ {e v ys} ho =>
    ((ho.setFar (p := ⟨R, 0, none⟩) (ow_lo ho hR2) _).setFar (p := ⟨R, 1, none⟩) (ow_lo ho hR2) _).setFar (p := ⟨R, 2, none⟩) (ow_lo ho hR2) _
  have hk : Keeps (fun b => b < w.heap.size ∨ D ≤ b) X (setRun X R 0 [.slice A1 n1 c1, .slice A2 n2 c2, .slice A3 n3 c3]) := setRun_keeps _ _ _ fun b hb => by rcases hb with hb | hb <;> omega
  subst ha he
  exact ⟨⟨(rowLS (far h.a)).1, (rowLS (far h.a)).2, ⟨(rowLS (far h.s)).1, xs, (rowLS (far h.s)).2, hs.imp fun _ _ x => (famS.keep x hk).1⟩, (rowLS (far h.e)).1, (rowLS (far h.e)).2⟩, setRun_below _ _ _ hbX hR1⟩
theorem three {w : World} {g : Nat} {v0 v1 v2 : Value} (h0 : w.cell? ⟨g, 0, none⟩ = some v0) (h1 : w.cell? ⟨g, 1, none⟩ = some v1) (h2 : w.cell? ⟨g, 2, none⟩ = some v2) :
    ∀ j u, [v0, v1, v2][j]? = some u → w.cell? ⟨g, 0 + j, none⟩ = some u := fun j u hu => by
  match j, hu with
  | 0, hu => cases hu; exact h0
  | 1, hu => cases hu; exact h1
  | 2, hu => cases hu; exact h2
end Cu
namespace Gr
open Cu
def svF (B D : Nat) (sb : Sb) : Value → World → Prop := fun v w => ∃ v' : Sv, v = v'.val ∧ SRP w (fun b => b < B ∨ D ≤ b) v' sb
theorem svF_stays (B D : Nat) (sb : Sb) : stays (svF B D sb) := fun v w w' hb ⟨v', h1, h2⟩ => ⟨v', h1, famS.keep h2 (Keeps.ofBelow hb)⟩
end Gr
end Go.Proofs.Yteaanngagcflhaa
