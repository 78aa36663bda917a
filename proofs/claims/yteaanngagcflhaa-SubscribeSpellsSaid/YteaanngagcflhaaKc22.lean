/-
  Subscriptions: moments in memory; moments. No condition.
-/
import Derived.Test.YteaanngagcflhaaKc21
import Derived.BigQuiet
import Derived.StillTailTactics
import Derived.Lib.Overlaps
import Derived.Deep.DeepCutAuto
import Derived.Deep.RegionWith
import Derived.Laws.RangeAny
set_option maxRecDepth 100000
set_option linter.unusedVariables false
set_option linter.unusedSimpArgs false
namespace Go.Proofs.Yteaanngagcflhaa
open Go.RowKit
namespace Ss
open Cu
structure Mv where
  at_ : Int
  v : Sv
instance : Flat Mv where
  sz := 9
  pos := by decide
  cells t := [.int .i64 t.at_, .int .i64 t.v.id, .int .i64 t.v.acc, .int .i64 t.v.since, .string t.v.plan, .slice t.v.An t.v.nn t.v.cn, .slice t.v.Ap t.v.np t.v.cp, .bool t.v.susp, .bool t.v.fam]
  len _ := rfl
  one _ := by simp [Value.oneCell']
def MRP (w : World) (p : Nat → Prop) (t : Mv) (m : Mo) : Prop := t.at_ = m.at_ ∧ SRP w p t.v m.s
def MR (w : World) (t : Mv) (m : Mo) : Prop := t.at_ = m.at_ ∧ SR w t.v m.s
theorem famM : Fam MRP where
  mono h k := ⟨h.1, famS.mono h.2 k⟩
  keep h k := ⟨h.1, famS.keep h.2 k⟩
  lt h := ⟨h.1, famS.lt h.2⟩
def LM (w : World) (A : Option Addr) (n c : Nat) (ms : List Mo) : Prop := LS MR w A n c ms
theorem MR.on {w w' : World} {t : Mv} {m : Mo} (h : MR w t m) (hb : Below w.heap.size w w') : MR w' t m := ⟨h.1, h.2.on hb⟩
theorem infoM : (Try.prog.info? 116).map (fun i => (i.zero, i.size, i.bytes)) = some (some (.agg #[.int .i64 0, .int .i64 0, .int .i64 0, .int .i64 0, .string ⟨#[]⟩, .slice none 0 0, .slice none 0 0, .bool false, .bool false]), 9, 104) := by kernel_rfl
theorem rowM {w : World} {base : Nat} {e : TypeId} {v : Value} {xs : List Mv} {ms : List Mo} (h : Ow w base e v xs) (k : Rowed MRP base w v xs ms) : ∃ A n c, v = .slice A n c ∧ LM w A n c ms := by
  obtain ⟨A, c, rfl, h0, hs⟩ := h.slN
  exact ⟨A, _, c, rfl, h0, xs, hs, k.imp fun _ _ h => ⟨h.1, h.2.1⟩⟩
theorem all2_set {α β : Type} {R : α → β → Prop} {xs : List α} {ys : List β} (h : All2 R xs ys) {x : α} {y : β} (k : R x y) (i : Nat) : All2 R (xs.set i x) (ys.set i y) := by
  refine ⟨by rw [List.length_set, List.length_set]; exact h.1, fun j a b ha hb => ?_⟩
  by_cases hij : i = j
  · subst hij
    rw [List.getElem?_set_self (by have := (List.getElem?_eq_some_iff.1 ha).1; rwa [List.length_set] at this)] at ha
    rw [List.getElem?_set_self (by have := (List.getElem?_eq_some_iff.1 hb).1; rwa [List.length_set] at this)] at hb
    cases ha; cases hb; exact k
  · rw [List.getElem?_set_ne hij] at ha hb
    exact h.2 j a b ha hb
theorem addM_nil {M : List Mo} {a : Int} {s : Sb} (h : M.length = 0) : addM M a s = M ++ [⟨a, s⟩] := by
  obtain rfl := List.eq_nil_of_length_eq_zero h; rfl
theorem addM_new {M : List Mo} {a : Int} {s : Sb} {n : Nat} {m : Mo} (hn : M.length = n) (hm : M[n - 1]? = some m) (h : ¬ m.at_ = a) : addM M a s = M ++ [⟨a, s⟩] := by
  unfold addM
  rw [List.getLast?_eq_getElem?, hn, hm]
  dsimp only
  rw [if_neg h]
theorem addM_set {M : List Mo} {a : Int} {s : Sb} {n : Nat} {m : Mo} (hn : M.length = n) (hm : M[n - 1]? = some m) (h : m.at_ = a) : addM M a s = M.set (n - 1) ⟨a, s⟩ := by
  have hl : M.getLast? = some m := by rw [List.getLast?_eq_getElem?, hn, hm]
  have h0 : 0 < n := by
    by_cases h0 : 0 < n
    · exact h0
    · have := (List.getElem?_eq_some_iff.1 hm).1; omega
  unfold addM
  rw [hl]
  dsimp only
  rw [if_pos h]
  conv => rhs; rw [atM_last hl]
  rw [List.set_append_right _ _ (by rw [List.length_dropLast]; omega)]
  congr 1
  rw [List.length_dropLast, hn, Nat.sub_self]; rfl
theorem prods_len {l : List Ev} {x : Int} : ∀ k, k ≤ l.length → (moN l x k).2.prods.length ≤ k
  | 0, _ => Nat.le_refl _
  | k + 1, hk => by
    have ih := prods_len (l := l) (x := x) k (by omega)
    rw [moN_succ (List.getElem?_eq_getElem (show k < l.length by omega))]
    split
    · omega
    · dsimp only
      unfold nxtS
      repeat' split
      all_goals first
        | (show List.length [] ≤ _; simp; done)
        | (dsimp only; rw [insS_len]; omega)
        | (dsimp only; unfold remS; have := List.length_filter_le (fun y => !seq_ y l[k].name) (moN l x k).2.prods; omega)
        | (dsimp only [sb0]; simp; done)
        | omega
        | (dsimp only; omega)
theorem moN_len {l : List Ev} {x : Int} : ∀ k, k ≤ l.length → (moN l x k).1.length ≤ k
  | 0, _ => Nat.le_refl _
  | k + 1, hk => by
    have ih := moN_len (l := l) (x := x) k (by omega)
    rw [moN_succ (List.getElem?_eq_getElem (show k < l.length by omega))]
    split
    · omega
    · dsimp only
      unfold addM
      split
      · split
        · rw [List.length_append, List.length_dropLast]; simp; omega
        · simp; omega
      · simp; omega
theorem set8 {w : World} (g : Nat) {v0 v1 v2 v3 v4 v5 v6 v7 : Value} (u0 u1 u2 u3 u4 u5 u6 u7 : Value) (h0 : w.cell? ⟨g, 0, none⟩ = some v0) (h1 : w.cell? ⟨g, 1, none⟩ = some v1) (h2 : w.cell? ⟨g, 2, none⟩ = some v2) (h3 : w.cell? ⟨g, 3, none⟩ = some v3) (h4 : w.cell? ⟨g, 4, none⟩ = some v4) (h5 : w.cell? ⟨g, 5, none⟩ = some v5) (h6 : w.cell? ⟨g, 6, none⟩ = some v6) (h7 : w.cell? ⟨g, 7, none⟩ = some v7) :
    ∃ W, W = ((((((((w.setCell ⟨g, 0, none⟩ u0).setCell ⟨g, 1, none⟩ u1).setCell ⟨g, 2, none⟩ u2).setCell ⟨g, 3, none⟩ u3).setCell ⟨g, 4, none⟩ u4).setCell ⟨g, 5, none⟩ u5).setCell ⟨g, 6, none⟩ u6).setCell ⟨g, 7, none⟩ u7) ∧ W.heap.size = w.heap.size ∧ (∀ j u, [u0, u1, u2, u3, u4, u5, u6, u7][j]? = some u → W.cell? ⟨g, j, none⟩ = some u) ∧ (∀ p : Nat → Prop, (∀ b, p b → b ≠ g) → Keeps p w W) ∧ (∀ B w0, Below B w0 w → B ≤ g → Below B w0 W) ∧ (∀ b o, W.frozen? ⟨b, o, none⟩ = w.frozen? ⟨b, o, none⟩) := by
  refine ⟨setRun w g 0 [u0, u1, u2, u3, u4, u5, u6, u7], rfl, setRun_size _ _ _ _, fun j u hj => ?_, fun p hp => setRun_keeps _ _ _ hp, fun B w0 hb hB => setRun_below _ _ _ hb hB, fun b o => ?_⟩
  · have h := setRun_at [u0, u1, u2, u3, u4, u5, u6, u7] w g 0 [v0, v1, v2, v3, v4, v5, v6, v7] (eight h0 h1 h2 h3 h4 h5 h6 h7) (Nat.le_refl _) j u hj
    rwa [Nat.zero_add] at h
  · simp only [setRun, World.frozen?_setCell]
theorem Ow.far8 {α : Type} [Flat α] {w : World} {base : Nat} {e : TypeId} {v : Value} {xs : List α} {g : Nat} (u : List Value) (h : Ow w base e v xs) (hp : v.ownBlock ≠ some g) : ∀ o, Ow (setRun w g o u) base e v xs := by
  induction u generalizing w with
  | nil => exact fun _ => h
  | cons x u ih => exact fun o => ih (h.setFar (p := ⟨g, o, none⟩) hp x) (o + 1)
theorem stored9 {w : World} {base : Nat} {e : TypeId} {g n cap i : Nat} {xs : List Mv} {t : Mv} (h : Ow w base e (.slice (some ⟨g, 0, none⟩) n cap) xs) (hx : xs[i]? = some t) (t' : Sv) :
    Ow ((((((((w.setCell ⟨g, i * 9 + 1, none⟩ (.int .i64 t'.id)).setCell ⟨g, i * 9 + 1 + 1, none⟩ (.int .i64 t'.acc)).setCell ⟨g, i * 9 + 1 + 2, none⟩ (.int .i64 t'.since)).setCell ⟨g, i * 9 + 1 + 3, none⟩ (.string t'.plan)).setCell ⟨g, i * 9 + 1 + 4, none⟩ (.slice t'.An t'.nn t'.cn)).setCell ⟨g, i * 9 + 1 + 5, none⟩ (.slice t'.Ap t'.np t'.cp)).setCell ⟨g, i * 9 + 1 + 6, none⟩ (.bool t'.susp)).setCell ⟨g, i * 9 + 1 + 7, none⟩ (.bool t'.fam)) base e (.slice (some ⟨g, 0, none⟩) n cap) (xs.set i ⟨t.at_, t'⟩) := by
  have hl := (List.getElem?_eq_some_iff.1 hx).1
  have hg : ∀ y : Mv, (xs.set i y)[i]? = some y := fun y => by simp [hl]
  have h0 := Ow.stored h hx 1 (.int .i64 t'.id) (by decide) (show Flat.cells (⟨t.at_, ⟨t'.id, t.v.acc, t.v.since, t.v.plan, t.v.An, t.v.nn, t.v.cn, t.v.Ap, t.v.np, t.v.cp, t.v.susp, t.v.fam⟩⟩ : Mv) = (Flat.cells (t : Mv)).set 1 _ from rfl)
  have h1 := Ow.stored h0 (hg _) 2 (.int .i64 t'.acc) (by decide) (show Flat.cells (⟨t.at_, ⟨t'.id, t'.acc, t.v.since, t.v.plan, t.v.An, t.v.nn, t.v.cn, t.v.Ap, t.v.np, t.v.cp, t.v.susp, t.v.fam⟩⟩ : Mv) = (Flat.cells (⟨t.at_, ⟨t'.id, t.v.acc, t.v.since, t.v.plan, t.v.An, t.v.nn, t.v.cn, t.v.Ap, t.v.np, t.v.cp, t.v.susp, t.v.fam⟩⟩ : Mv)).set 2 _ from rfl)
  rw [List.set_set] at h1
  have h2 := Ow.stored h1 (hg _) 3 (.int .i64 t'.since) (by decide) (show Flat.cells (⟨t.at_, ⟨t'.id, t'.acc, t'.since, t.v.plan, t.v.An, t.v.nn, t.v.cn, t.v.Ap, t.v.np, t.v.cp, t.v.susp, t.v.fam⟩⟩ : Mv) = (Flat.cells (⟨t.at_, ⟨t'.id, t'.acc, t.v.since, t.v.plan, t.v.An, t.v.nn, t.v.cn, t.v.Ap, t.v.np, t.v.cp, t.v.susp, t.v.fam⟩⟩ : Mv)).set 3 _ from rfl)
  rw [List.set_set] at h2
  have h3 := Ow.stored h2 (hg _) 4 (.string t'.plan) (by decide) (show Flat.cells (⟨t.at_, ⟨t'.id, t'.acc, t'.since, t'.plan, t.v.An, t.v.nn, t.v.cn, t.v.Ap, t.v.np, t.v.cp, t.v.susp, t.v.fam⟩⟩ : Mv) = (Flat.cells (⟨t.at_, ⟨t'.id, t'.acc, t'.since, t.v.plan, t.v.An, t.v.nn, t.v.cn, t.v.Ap, t.v.np, t.v.cp, t.v.susp, t.v.fam⟩⟩ : Mv)).set 4 _ from rfl)
  rw [List.set_set] at h3
  have h4 := Ow.stored h3 (hg _) 5 (.slice t'.An t'.nn t'.cn) (by decide) (show Flat.cells (⟨t.at_, ⟨t'.id, t'.acc, t'.since, t'.plan, t'.An, t'.nn, t'.cn, t.v.Ap, t.v.np, t.v.cp, t.v.susp, t.v.fam⟩⟩ : Mv) = (Flat.cells (⟨t.at_, ⟨t'.id, t'.acc, t'.since, t'.plan, t.v.An, t.v.nn, t.v.cn, t.v.Ap, t.v.np, t.v.cp, t.v.susp, t.v.fam⟩⟩ : Mv)).set 5 _ from rfl)
  rw [List.set_set] at h4
  have h5 := Ow.stored h4 (hg _) 6 (.slice t'.Ap t'.np t'.cp) (by decide) (show Flat.cells (⟨t.at_, ⟨t'.id, t'.acc, t'.since, t'.plan, t'.An, t'.nn, t'.cn, t'.Ap, t'.np, t'.cp, t.v.susp, t.v.fam⟩⟩ : Mv) = (Flat.cells (⟨t.at_, ⟨t'.id, t'.acc, t'.since, t'.plan, t'.An, t'.nn, t'.cn, t.v.Ap, t.v.np, t.v.cp, t.v.susp, t.v.fam⟩⟩ : Mv)).set 6 _ from rfl)
  rw [List.set_set] at h5
  have h6 := Ow.stored h5 (hg _) 7 (.bool t'.susp) (by decide) (show Flat.cells (⟨t.at_, ⟨t'.id, t'.acc, t'.since, t'.plan, t'.An, t'.nn, t'.cn, t'.Ap, t'.np, t'.cp, t'.susp, t.v.fam⟩⟩ : Mv) = (Flat.cells (⟨t.at_, ⟨t'.id, t'.acc, t'.since, t'.plan, t'.An, t'.nn, t'.cn, t'.Ap, t'.np, t'.cp, t.v.susp, t.v.fam⟩⟩ : Mv)).set 7 _ from rfl)
  rw [List.set_set] at h6
  have h7 := Ow.stored h6 (hg _) 8 (.bool t'.fam) (by decide) (show Flat.cells (⟨t.at_, ⟨t'.id, t'.acc, t'.since, t'.plan, t'.An, t'.nn, t'.cn, t'.Ap, t'.np, t'.cp, t'.susp, t'.fam⟩⟩ : Mv) = (Flat.cells (⟨t.at_, ⟨t'.id, t'.acc, t'.since, t'.plan, t'.An, t'.nn, t'.cn, t'.Ap, t'.np, t'.cp, t'.susp, t.v.fam⟩⟩ : Mv)).set 8 _ from rfl)
  rw [List.set_set] at h7
  exact h7
theorem keeps9 {w : World} {g i : Nat} {p : Nat → Prop} (hp : ∀ b, p b → b ≠ g) (t' : Sv) : Keeps p w ((((((((w.setCell ⟨g, i * 9 + 1, none⟩ (.int .i64 t'.id)).setCell ⟨g, i * 9 + 1 + 1, none⟩ (.int .i64 t'.acc)).setCell ⟨g, i * 9 + 1 + 2, none⟩ (.int .i64 t'.since)).setCell ⟨g, i * 9 + 1 + 3, none⟩ (.string t'.plan)).setCell ⟨g, i * 9 + 1 + 4, none⟩ (.slice t'.An t'.nn t'.cn)).setCell ⟨g, i * 9 + 1 + 5, none⟩ (.slice t'.Ap t'.np t'.cp)).setCell ⟨g, i * 9 + 1 + 6, none⟩ (.bool t'.susp)).setCell ⟨g, i * 9 + 1 + 7, none⟩ (.bool t'.fam)) :=
  (((((((Keeps.ofSet hp).trans (Keeps.ofSet hp)).trans (Keeps.ofSet hp)).trans (Keeps.ofSet hp)).trans (Keeps.ofSet hp)).trans (Keeps.ofSet hp)).trans (Keeps.ofSet hp)).trans (Keeps.ofSet hp)
theorem far9 {w : World} {g i B : Nat} {w0 : World} (hb : Below B w0 w) (hB : B ≤ g) (t' : Sv) : Below B w0 ((((((((w.setCell ⟨g, i * 9 + 1, none⟩ (.int .i64 t'.id)).setCell ⟨g, i * 9 + 1 + 1, none⟩ (.int .i64 t'.acc)).setCell ⟨g, i * 9 + 1 + 2, none⟩ (.int .i64 t'.since)).setCell ⟨g, i * 9 + 1 + 3, none⟩ (.string t'.plan)).setCell ⟨g, i * 9 + 1 + 4, none⟩ (.slice t'.An t'.nn t'.cn)).setCell ⟨g, i * 9 + 1 + 5, none⟩ (.slice t'.Ap t'.np t'.cp)).setCell ⟨g, i * 9 + 1 + 6, none⟩ (.bool t'.susp)).setCell ⟨g, i * 9 + 1 + 7, none⟩ (.bool t'.fam)) :=
  (((((((hb.setCell hB _).setCell hB _).setCell hB _).setCell hB _).setCell hB _).setCell hB _).setCell hB _).setCell hB _
end Ss
end Go.Proofs.Yteaanngagcflhaa
namespace Go.Proofs.Yteaanngagcflhaa
open Go.RowKit
namespace Ss
open Cu
structure MX (w : World) (V : Value) (xs : List Mv) (M : List Mo) (sv : Sv) (s : Sb) (wr : World) : Prop where
  o : Ow wr (w.heap.size + 1) 116 V xs
  r : Rowed MRP (w.heap.size + 1) wr V xs M
  c : SRP wr (fun b => w.heap.size + 1 ≤ b ∧ V.ownBlock ≠ some b) sv s
  g : ∀ j u, (Flat.cells sv)[j]? = some u → wr.cell? ⟨w.heap.size, j, none⟩ = some u
  fr : ∀ j, wr.frozen? ⟨w.heap.size, j, none⟩ = false
  lt : w.heap.size < wr.heap.size
  below : Below w.heap.size w wr
def MW (w : World) (V : Value) (M : List Mo) (s : Sb) (wr : World) : Prop := ∃ xs sv, MX w V xs M sv s wr
variable {w wr wx : World} {V : Value} {xs : List Mv} {M : List Mo} {sv : Sv} {s : Sb}
theorem MX.on (h : MX w V xs M sv s wr) (hb : Below wr.heap.size wr wx) : MX w V xs M sv s wx :=
  ⟨h.o.below hb, h.r.below famM hb, famS.keep h.c (Keeps.ofBelow hb), fun j u hu => cl hb (h.g j u hu) h.lt, cz hb h.fr h.lt, Nat.lt_of_lt_of_le h.lt hb.size, h.below.trans (hb.mono h.below.size)⟩
theorem MX.len (h : MX w V xs M sv s wr) : M.length = xs.length := h.r.1.symm
theorem MX.set (h : MX w V xs M sv s wr) {sv' : Sv} {s' : Sb} (hc : SRP wr (fun b => w.heap.size + 1 ≤ b ∧ V.ownBlock ≠ some b) sv' s') {X : World} (hk : ∀ p : Nat → Prop, (∀ b, p b → b ≠ w.heap.size) → Keeps p wr X) (ho : Ow X (w.heap.size + 1) 116 V xs)
    (hg : ∀ j u, (Flat.cells sv')[j]? = some u → X.cell? ⟨w.heap.size, j, none⟩ = some u) (hf : ∀ b o, X.frozen? ⟨b, o, none⟩ = wr.frozen? ⟨b, o, none⟩) (hz : X.heap.size = wr.heap.size) (hB : ∀ B w0, Below B w0 wr → B ≤ w.heap.size → Below B w0 X) : MX w V xs M sv' s' X :=
  ⟨ho, h.r.keep famM (hk _ fun b hb => by have := hb.1; omega), famS.keep hc (hk _ fun b hb => by have := hb.1; omega), hg, fun j => (hf _ j).trans (h.fr j), by rw [hz]; exact h.lt, hB _ _ h.below (Nat.le_refl _)⟩
theorem MX.store {g n cap : Nat} (h : MX w (.slice (some ⟨g, 0, none⟩) n cap) xs M sv s wr) {d : Mv} (hd : xs[n - 1]? = some d) {a : Int} (ha : d.at_ = a) :
    MX w (.slice (some ⟨g, 0, none⟩) n cap) (xs.set (n - 1) ⟨d.at_, sv⟩) (M.set (n - 1) ⟨a, s⟩) sv s ((((((((wr.setCell ⟨g, (n - 1) * 9 + 1, none⟩ (.int .i64 sv.id)).setCell ⟨g, (n - 1) * 9 + 1 + 1, none⟩ (.int .i64 sv.acc)).setCell ⟨g, (n - 1) * 9 + 1 + 2, none⟩ (.int .i64 sv.since)).setCell ⟨g, (n - 1) * 9 + 1 + 3, none⟩ (.string sv.plan)).setCell ⟨g, (n - 1) * 9 + 1 + 4, none⟩ (.slice sv.An sv.nn sv.cn)).setCell ⟨g, (n - 1) * 9 + 1 + 5, none⟩ (.slice sv.Ap sv.np sv.cp)).setCell ⟨g, (n - 1) * 9 + 1 + 6, none⟩ (.bool sv.susp)).setCell ⟨g, (n - 1) * 9 + 1 + 7, none⟩ (.bool sv.fam)) := by
  have hg := h.o.ltG
  have hk : Keeps (fun b => w.heap.size + 1 ≤ b ∧ (Value.slice (some ⟨g, 0, none⟩) n cap).ownBlock ≠ some b) wr ((((((((wr.setCell ⟨g, (n - 1) * 9 + 1, none⟩ (.int .i64 sv.id)).setCell ⟨g, (n - 1) * 9 + 1 + 1, none⟩ (.int .i64 sv.acc)).setCell ⟨g, (n - 1) * 9 + 1 + 2, none⟩ (.int .i64 sv.since)).setCell ⟨g, (n - 1) * 9 + 1 + 3, none⟩ (.string sv.plan)).setCell ⟨g, (n - 1) * 9 + 1 + 4, none⟩ (.slice sv.An sv.nn sv.cn)).setCell ⟨g, (n - 1) * 9 + 1 + 5, none⟩ (.slice sv.Ap sv.np sv.cp)).setCell ⟨g, (n - 1) * 9 + 1 + 6, none⟩ (.bool sv.susp)).setCell ⟨g, (n - 1) * 9 + 1 + 7, none⟩ (.bool sv.fam)) := keeps9 (i := n - 1) (fun b hb e => hb.2 (by subst e; rfl)) sv
  have hb := far9 (i := n - 1) (Below.refl (w.heap.size + 1) wr) hg.1 sv
  exact ⟨stored9 h.o hd sv, all2_set (h.r.keep famM hk) ⟨ha, famS.keep h.c hk⟩ _, famS.keep h.c hk, fun j u hu => cl hb (h.g j u hu) (Nat.lt_succ_self _), cz hb h.fr (Nat.lt_succ_self _), Nat.lt_of_lt_of_le h.lt hb.size, h.below.trans (hb.mono (Nat.le_succ _))⟩
theorem MX.app (h : MX w V xs M sv s wr) {a : Int} {o : Obj} {V' : Value} (ho : Ow wx (w.heap.size + 1) 116 V' (xs ++ [⟨a, sv⟩])) (hu : Upd (wr.alloc o) wx V V') : MX w V' (xs ++ [⟨a, sv⟩]) (M ++ [⟨a, s⟩]) sv s wx := by
  have hal : Below wr.heap.size wr (wr.alloc o) := (Below.refl _ _).alloc (Nat.le_refl _) _
  have h2 := h.on hal
  have hb := hu.belowBase h2.o (Below.refl (w.heap.size + 1) (wr.alloc o)) h2.lt
  have hc : Rowed SRP (w.heap.size + 1) wx V' [sv] [s] := Rowed.upd famS (v := V) (All2.snoc All2.nil_ h2.c) hu
  exact ⟨ho, Rowed.upd famM (All2.snoc h2.r ⟨rfl, h2.c⟩) hu, hc.2 0 sv s rfl rfl, fun j u hu => cl hb (h2.g j u hu) (Nat.lt_succ_self _), cz hb h2.fr (Nat.lt_succ_self _), Nat.lt_of_lt_of_le h2.lt hb.size, h2.below.trans (hb.mono (Nat.le_succ _))⟩
theorem be_or {α : Type} [BEq α] [LawfulBEq α] [DecidableEq α] (x y : α) : (x = y ∧ (x == y) = true ∧ (x != y) = false) ∨ (¬ x = y ∧ (x == y) = false ∧ (x != y) = true) := by
  by_cases h : x = y
  · exact .inl ⟨h, be_t h⟩
  · exact .inr ⟨h, be_f h⟩
set_option maxHeartbeats 16000000 in
theorem moments_any (A : Option Addr) (n c : Nat) (l : List Ev) (x : Int) (w : World) (hs : Sl w A n c l) (hn9 : n ≤ 1000) :
    Calls Try.prog 84 #[.slice A n c, .int .i64 x] w fun r w' => (∃ A' n' c', r = .returned (.slice A' n' c') ∧ LM w' A' n' c' (moE l x)) ∧ Below w.heap.size w w' := by
  have HS := Lib.hid hs
  have HL := Lib.hid hs.len
  clear hs
  go_enter Try.func84, Try.ntmps84
  go_upto_region 3 with (fail)
  (obtain ⟨W, hWW, hbW, hzW, f1W, qfa⟩ := box1 w #[.int .i64 0, .int .i64 0, .int .i64 0, .string ⟨#[]⟩, .slice none 0 0, .slice none 0 0, .bool false, .bool false] 51; rw [← hWW]; have qa0 : W.cell? ⟨w.heap.size, 0, none⟩ = some (.int .i64 0) := f1W 0 _ rfl; have qa1 : W.cell? ⟨w.heap.size, 1, none⟩ = some (.int .i64 0) := f1W 1 _ rfl; have qa2 : W.cell? ⟨w.heap.size, 2, none⟩ = some (.int .i64 0) := f1W 2 _ rfl; have qa3 : W.cell? ⟨w.heap.size, 3, none⟩ = some (.string ⟨#[]⟩) := f1W 3 _ rfl; have qa4 : W.cell? ⟨w.heap.size, 4, none⟩ = some (.slice none 0 0) := f1W 4 _ rfl; have qa5 : W.cell? ⟨w.heap.size, 5, none⟩ = some (.slice none 0 0) := f1W 5 _ rfl; have qa6 : W.cell? ⟨w.heap.size, 6, none⟩ = some (.bool false) := f1W 6 _ rfl; have qa7 : W.cell? ⟨w.heap.size, 7, none⟩ = some (.bool false) := f1W 7 _ rfl; clear hWW f1W)
  have HM0 : Hid (MW w (.slice none 0 0) (moN l x 0).1 (moN l x 0).2 W) := Lib.hid ⟨[], sv0, Ow.nil_ _ _ _, Rowed.nil_, sv0_sr _ _, fun j u hu => by
    match j, hu with
    | 0, hu => cases hu; exact qa0
    | 1, hu => cases hu; exact qa1
    | 2, hu => cases hu; exact qa2
    | 3, hu => cases hu; exact qa3
    | 4, hu => cases hu; exact qa4
    | 5, hu => cases hu; exact qa5
    | 6, hu => cases hu; exact qa6
    | 7, hu => cases hu; exact qa7, qfa, hzW, hbW⟩
  clear qa0 qa1 qa2 qa3 qa4 qa5 qa6 qa7 qfa hbW
  go_wp2_with fail
  go_loopw [5, 12] (fun V i wr => ∃ k : Nat, k ≤ n ∧ i = .int .i64 k ∧ MW w V (moN l x k).1 (moN l x k).2 wr) (fun _ i _ => n - (intOf i).toNat)
  case atStart => exact ⟨0, Nat.zero_le _, rfl, HM0.out⟩
  case round =>
    obtain ⟨k, hk, rfl, xs, sv, hm⟩ := hrel
    obtain ⟨A1, c1, rfl, _, _⟩ := hm.o.val
    obtain ⟨n1, hn1⟩ : ∃ n1, xs.length = n1 := ⟨_, rfl⟩
    rw [hn1] at hm ⊢
    have hn1k : n1 ≤ k := by rw [← hn1, ← hm.len]; exact moN_len k (by have := HL.out; omega)
    have hmlt := hm.lt
    have HM := Lib.hid hm
    have HN1 := Lib.hid hn1
    clear hm hn1 HM0
    by_cases hlt : k < n
    · obtain ⟨b, off, hAe, hbl, hcells⟩ := HS.out.baseIn HM.out.below (by omega)
      obtain ⟨e, he⟩ := HS.out.get hlt
      have e0 : wr.cell? ⟨b, off + k * 7, none⟩ = some (.int .i64 e.at_) := Sl.at_ hcells he 0 rfl
      have e1 : wr.cell? ⟨b, off + k * 7 + 1, none⟩ = some (.int .i64 e.kind) := Sl.at_ hcells he 1 rfl
      have e2 : wr.cell? ⟨b, off + k * 7 + 2, none⟩ = some (.int .i64 e.acc) := Sl.at_ hcells he 2 rfl
      have e3 : wr.cell? ⟨b, off + k * 7 + 3, none⟩ = some (.int .i64 e.sub) := Sl.at_ hcells he 3 rfl
      have e4 : wr.cell? ⟨b, off + k * 7 + 4, none⟩ = some (.string e.num) := Sl.at_ hcells he 4 rfl
      have e5 : wr.cell? ⟨b, off + k * 7 + 5, none⟩ = some (.string e.name) := Sl.at_ hcells he 5 rfl
      have e6 : wr.cell? ⟨b, off + k * 7 + 6, none⟩ = some (.int .i64 e.val) := Sl.at_ hcells he 6 rfl
      have HSUC1 : Hid ((moN l x (k + 1)).1 = if x = 0 ∨ e.sub ≠ x then (moN l x k).1 else addM (moN l x k).1 e.at_ (nxtS (moN l x k).2 e)) := Lib.hid (by rw [moN_succ he]; split <;> rfl)
      have HSUC2 : Hid ((moN l x (k + 1)).2 = if x = 0 ∨ e.sub ≠ x then (moN l x k).2 else nxtS (moN l x k).2 e) := Lib.hid (by rw [moN_succ he]; split <;> rfl)
      have hpl : (moN l x k).2.prods.length ≤ 100000 := by have := prods_len (l := l) (x := x) k (by have := HL.out; omega); omega
      have HPL := Lib.hid hpl
      obtain ⟨M, hM⟩ : ∃ M, (moN l x k).1 = M := ⟨_, rfl⟩
      obtain ⟨s, hs⟩ : ∃ s, (moN l x k).2 = s := ⟨_, rfl⟩
      rw [hM, hs] at HSUC1 HM
      rw [hs] at HSUC2
      rw [hs] at HPL
      have hkw : IntKind.i64.wrap ((k : Int) + 1) = (k : Int) + 1 := IntWalk.i64_in _ (by omega)
      subst hAe
      clear hcells he hM hs hpl
      go_upto_region 6 with (fail)
      (obtain ⟨Z, hWZ, hbZ, hzZ, f1Z, pfa⟩ := box1 wr #[.int .i64 e.at_, .int .i64 e.kind, .int .i64 e.acc, .int .i64 e.sub, .string e.num, .string e.name, .int .i64 e.val] 36; rw [← hWZ]; have pa0 : Z.cell? ⟨wr.heap.size, 0, none⟩ = some (.int .i64 e.at_) := f1Z 0 _ rfl; have pa1 : Z.cell? ⟨wr.heap.size, 1, none⟩ = some (.int .i64 e.kind) := f1Z 1 _ rfl; have pa2 : Z.cell? ⟨wr.heap.size, 2, none⟩ = some (.int .i64 e.acc) := f1Z 2 _ rfl; have pa3 : Z.cell? ⟨wr.heap.size, 3, none⟩ = some (.int .i64 e.sub) := f1Z 3 _ rfl; have pa4 : Z.cell? ⟨wr.heap.size, 4, none⟩ = some (.string e.num) := f1Z 4 _ rfl; have pa5 : Z.cell? ⟨wr.heap.size, 5, none⟩ = some (.string e.name) := f1Z 5 _ rfl; have pa6 : Z.cell? ⟨wr.heap.size, 6, none⟩ = some (.int .i64 e.val) := f1Z 6 _ rfl; clear hWZ f1Z)
      replace HM := Lib.hid (HM.out.on hbZ)
      clear e0 e1 e2 e3 e4 e5 e6 hbZ
      rcases be_or x 0 with ⟨hx0, bx, dx⟩ | ⟨hx0, bx, dx⟩
      · have H1 := Lib.hid (HSUC1.out.trans (if_pos (.inl hx0)))
        have H2 := Lib.hid (HSUC2.out.trans (if_pos (.inl hx0)))
        clear hx0 HSUC1 HSUC2
        go_wp2_with fail
        go_roundw
        case rel => exact ⟨k + 1, by omega, by go_num, xs, sv, by rw [H1.out, H2.out]; exact HM.out⟩
        case measure => simp [intOf]; omega
      rcases be_or e.sub x with ⟨hsx, bs, ds⟩ | ⟨hsx, bs, ds⟩
      case inr =>
        have H1 := Lib.hid (HSUC1.out.trans (if_pos (.inr hsx)))
        have H2 := Lib.hid (HSUC2.out.trans (if_pos (.inr hsx)))
        clear hx0 hsx HSUC1 HSUC2
        go_wp2_with fail
        go_roundw
        case rel => exact ⟨k + 1, by omega, by go_num, xs, sv, by rw [H1.out, H2.out]; exact HM.out⟩
        case measure => simp [intOf]; omega
      have H1 := Lib.hid (HSUC1.out.trans (if_neg (by rintro (h | h); exact hx0 h; exact h hsx)))
      have H2 := Lib.hid (HSUC2.out.trans (if_neg (by rintro (h | h); exact hx0 h; exact h hsx)))
      clear hx0 hsx HSUC1 HSUC2
      have cs0 := HM.out.g 0 _ rfl
      have cs1 := HM.out.g 1 _ rfl
      have cs2 := HM.out.g 2 _ rfl
      have cs3 := HM.out.g 3 _ rfl
      have cs4 := HM.out.g 4 _ rfl
      have cs5 := HM.out.g 5 _ rfl
      have cs6 := HM.out.g 6 _ rfl
      have cs7 := HM.out.g 7 _ rfl
      have hzw : w.heap.size < Z.heap.size := HM.out.lt
      go_upto_region 8 with (go_at_call 111; go_must (refine (next_any sv s e _ (fun b => w.heap.size + 1 ≤ b ∧ (Value.slice A1 n1 c1).ownBlock ≠ some b) _ (fun b h => h) (fun b h => ⟨by omega, fun e => by have := HM.out.o.lt b e; omega⟩) HM.out.c HPL.out).mono ?_; rintro r w6 ⟨⟨sv2, rfl, hc6⟩, hb6⟩; dsimp only [Sv.val]; have z0 := cl hb6 cs0; have z1 := cl hb6 cs1; have z2 := cl hb6 cs2; have z3 := cl hb6 cs3; have z4 := cl hb6 cs4; have z5 := cl hb6 cs5; have z6 := cl hb6 cs6; have z7 := cl hb6 cs7; have y0 := cl hb6 pa0; have zf := cz hb6 HM.out.fr; have HM6 := Lib.hid (HM.out.on hb6); have HC6 := Lib.hid hc6; have hs6 := hb6.size; clear hc6 hb6))
      obtain ⟨X, hX, hzX, hgX, hkX, hBX, hfX⟩ := set8 w.heap.size (.int .i64 sv2.id) (.int .i64 sv2.acc) (.int .i64 sv2.since) (.string sv2.plan) (.slice sv2.An sv2.nn sv2.cn) (.slice sv2.Ap sv2.np sv2.cp) (.bool sv2.susp) (.bool sv2.fam) z0 z1 z2 z3 z4 z5 z6 z7
      rw [← hX]
      have hoX : Ow X (w.heap.size + 1) 116 (.slice A1 n1 c1) xs := by
        rw [hX]
        exact Ow.far8 [.int .i64 sv2.id, .int .i64 sv2.acc, .int .i64 sv2.since, .string sv2.plan, .slice sv2.An sv2.nn sv2.cn, .slice sv2.Ap sv2.np sv2.cp, .bool sv2.susp, .bool sv2.fam] HM6.out.o (fun e => by have := HM6.out.o.lt _ e; omega) 0
      have y0X : X.cell? ⟨wr.heap.size, 0, none⟩ = some (.int .i64 e.at_) := (by rw [hX]; exact (setRun_far [.int .i64 sv2.id, .int .i64 sv2.acc, .int .i64 sv2.since, .string sv2.plan, .slice sv2.An sv2.nn sv2.cn, .slice sv2.Ap sv2.np sv2.cp, .bool sv2.susp, .bool sv2.fam] w6 w.heap.size 0 wr.heap.size 0 (.inl (by omega))).trans y0)
      have HMX : Hid (MX w (.slice A1 n1 c1) xs M sv2 (nxtS s e) X) := Lib.hid (HM6.out.set HC6.out hkX hoX hgX hfX hzX hBX)
      have hbx : wr.heap.size < X.heap.size := by omega
      clear hX hzX hgX hkX hBX hfX hoX HM HM6 HC6 y0 zf z0 z1 z2 z3 z4 z5 z6 z7 cs0 cs1 cs2 cs3 cs4 cs5 cs6 cs7 pa0 pa1 pa2 pa3 pa4 pa5 pa6 pfa hzw hs6 HPL
      obtain ⟨s2, hs2⟩ : ∃ s2, nxtS s e = s2 := ⟨_, rfl⟩
      rw [hs2] at HMX H1 H2
      clear hs2
      go_upto_region 9 with (fail)
      obtain ⟨bb, hbb⟩ : ∃ bb : Bool, (bb = true ∧ 0 < n1 ∧ ∃ d, xs[n1 - 1]? = some d ∧ d.at_ = e.at_) ∨ (bb = false ∧ (n1 = 0 ∨ ∃ d, xs[n1 - 1]? = some d ∧ ¬ d.at_ = e.at_)) := by
        by_cases h0 : n1 = 0
        · exact ⟨false, .inr ⟨rfl, .inl h0⟩⟩
        · obtain ⟨d, hd⟩ : ∃ d, xs[n1 - 1]? = some d := ⟨_, List.getElem?_eq_getElem (by have := HN1.out; omega)⟩
          by_cases hd2 : d.at_ = e.at_
          · exact ⟨true, .inl ⟨rfl, by omega, d, hd, hd2⟩⟩
          · exact ⟨false, .inr ⟨rfl, .inr ⟨d, hd, hd2⟩⟩⟩
      have HBB := Lib.hid hbb
      clear hbb
      go_cut [41] from 57 (fun v wx => v = .bool bb ∧ Below X.heap.size X wx)
      case first =>
        by_cases h0 : n1 = 0
        · have hb2 : bb = false := by rcases HBB.out with ⟨_, h, _⟩ | ⟨h, _⟩; omega; exact h
          subst hb2
          clear HBB
          subst h0
          have kd : decide ((0 : Int) < 0) = false := rfl
          ((with_reducible refine wp_region_quiet_lit ?_ ?_ ?_); kernel_rfl; kernel_rfl; (repeat (any_goals (first | go_big_quiet_step (fail) | (refine wpQuiet_step (fun K hK => ?_); go_simp; (first | (refine hK _ ?_; clear hK K) | (split <;> rename_i hg <;> (refine hK _ ?_; clear hK K) <;> (try simp only [Bool.not_eq_true] at hg) <;> (first | simp only [Int.not_lt.2 hg, decide_false] | simp only [Int.not_le.1 hg, decide_true] | simp only [hg, decide_true, decide_false] | skip))))))); all_goals (refine wpQuiet_nil ?_; intro _ hw'; obtain ⟨nq, hw''⟩ := hw'; subst hw''))
          go_wp2_with fail
          go_meet
          exact ⟨rfl, below_drewN (Below.refl _ _) _⟩
        · obtain ⟨G, cap, cur, hA, hbg, hcur⟩ := HMX.out.o.whole (by have := HN1.out; omega)
          have hA1 : A1 = some ⟨G, 0, none⟩ := by injection hA
          obtain ⟨d, hd⟩ : ∃ d, xs[n1 - 1]? = some d := ⟨_, List.getElem?_eq_getElem (by have := HN1.out; omega)⟩
          have hb2 : bb = (d.at_ == e.at_) := by
            rcases HBB.out with ⟨h1, _, d2, h2, h3⟩ | ⟨h1, h2⟩
            · rw [hd] at h2; cases h2; rw [h1, h3]; simp
            · rcases h2 with h2 | ⟨d2, h2, h3⟩
              · exact absurd h2 h0
              · rw [hd] at h2; cases h2; rw [h1, (be_f h3).1]
          subst hA1
          have g0 : X.cell? ⟨G, (n1 - 1) * 9 + 0, none⟩ = some (.int .i64 d.at_) := HMX.out.o.at_ hd 0 rfl
          rw [Nat.add_zero] at g0
          have kd : decide ((0 : Int) < (n1 : Int)) = true := decide_eq_true (by omega)
          have kp : 0 < n1 := by omega
          have kn : decide (0 < n1) = true := decide_eq_true kp
          have hm1 : IntKind.i64.wrap ((n1 : Int) - 1) = ((n1 - 1 : Nat) : Int) := by rw [IntWalk.i64_in _ (by omega)]; omega
          have hkl : n1 - 1 < n1 := by omega
          clear HBB hA hbg hcur hd
          rcases be_or d.at_ e.at_ with ⟨h2, b2, d2⟩ | ⟨h2, b2, d2⟩
          · obtain rfl := hb2.trans b2
            clear h2 h0 hb2
            ((with_reducible refine wp_region_quiet_lit ?_ ?_ ?_); kernel_rfl; kernel_rfl; (repeat (any_goals (first | go_big_quiet_step (fail) | (refine wpQuiet_step (fun K hK => ?_); go_simp; (first | (refine hK _ ?_; clear hK K) | (split <;> rename_i hg <;> (refine hK _ ?_; clear hK K) <;> (try simp only [Bool.not_eq_true] at hg) <;> (first | simp only [Int.not_lt.2 hg, decide_false] | simp only [Int.not_le.1 hg, decide_true] | simp only [hg, decide_true, decide_false] | skip))))))); all_goals (refine wpQuiet_nil ?_; intro _ hw'; obtain ⟨nq, hw''⟩ := hw'; subst hw''))
            go_wp2_with fail
            go_meet
            exact ⟨rfl, below_drewN (Below.refl _ _) _⟩
          · obtain rfl := hb2.trans b2
            clear h2 h0 hb2
            ((with_reducible refine wp_region_quiet_lit ?_ ?_ ?_); kernel_rfl; kernel_rfl; (repeat (any_goals (first | go_big_quiet_step (fail) | (refine wpQuiet_step (fun K hK => ?_); go_simp; (first | (refine hK _ ?_; clear hK K) | (split <;> rename_i hg <;> (refine hK _ ?_; clear hK K) <;> (try simp only [Bool.not_eq_true] at hg) <;> (first | simp only [Int.not_lt.2 hg, decide_false] | simp only [Int.not_le.1 hg, decide_true] | simp only [hg, decide_true, decide_false] | skip))))))); all_goals (refine wpQuiet_nil ?_; intro _ hw'; obtain ⟨nq, hw''⟩ := hw'; subst hw''))
            go_wp2_with fail
            go_meet
            exact ⟨rfl, below_drewN (Below.refl _ _) _⟩
      case rest =>
        obtain ⟨rfl, hbC⟩ := hcut
        have HMC := Lib.hid (HMX.out.on hbC)
        replace y0X := cl hbC y0X
        have hbx2 := Nat.lt_of_lt_of_le hbx hbC.size
        clear hbC HMX hbx
        cases bb
        case false =>
          have cs0 := HMC.out.g 0 _ rfl
          have cs1 := HMC.out.g 1 _ rfl
          have cs2 := HMC.out.g 2 _ rfl
          have cs3 := HMC.out.g 3 _ rfl
          have cs4 := HMC.out.g 4 _ rfl
          have cs5 := HMC.out.g 5 _ rfl
          have cs6 := HMC.out.g 6 _ rfl
          have cs7 := HMC.out.g 7 _ rfl
          have hcl := HMC.out.lt
          have HE := Lib.hid (show addM M e.at_ s2 = M ++ [⟨e.at_, s2⟩] from by
              have hl := HMC.out.len
              rw [HN1.out] at hl
              rcases HBB.out with ⟨h, _⟩ | ⟨_, h | ⟨d, h1, h2⟩⟩
              · cases h
              · exact addM_nil (hl.trans h)
              · obtain ⟨m, hm, hr⟩ := HMC.out.r.at_ h1
                exact addM_new hl hm (fun e => h2 (hr.1.trans e)))
          go_wp2_with (at_builtin; go_must (refine wpl_append1 _ rfl (.tmp 48) (.tmp 53) 113 rfl (w.heap.size + 1) 116 _ 104 Try.underlying113 infoM rfl (.slice A1 n1 c1) xs rfl (HMC.out.o.alloc _) _ (⟨e.at_, sv2⟩ : Mv) rfl (fun j u hu => cells_new _ _ _ _ _ (by simp) u hu) (by rw [HN1.out]; omega) (by omega) (by rw [World.size_alloc]; omega) ?_; intro v7 w7 ho7 hu7; have HM7 := Lib.hid (HMC.out.app ho7 hu7); clear ho7 hu7))
          go_roundw
          case rel => exact ⟨k + 1, by omega, by go_num, _, _, by rw [H1.out, H2.out, HE.out]; exact HM7.out⟩
          case measure => simp [intOf]; omega
        case true =>
          obtain ⟨hpos, d, hd, hde⟩ : 0 < n1 ∧ ∃ d, xs[n1 - 1]? = some d ∧ d.at_ = e.at_ := by
            rcases HBB.out with ⟨_, h⟩ | ⟨h, _⟩
            · exact h
            · cases h
          obtain ⟨G, cap, cur, hA, hbg, hcur⟩ := HMC.out.o.whole (by have := HN1.out; omega)
          have hA1 : A1 = some ⟨G, 0, none⟩ := by injection hA
          subst hA1
          have hl := HMC.out.len
          rw [HN1.out] at hl
          have HE : Hid (addM M e.at_ s2 = M.set (n1 - 1) ⟨e.at_, s2⟩) := Lib.hid (by
            obtain ⟨m, hm, hr⟩ := HMC.out.r.at_ hd
            exact addM_set hl hm (hr.1.symm.trans hde))
          have HST := Lib.hid (HMC.out.store hd hde)
          have hm1 : IntKind.i64.wrap ((n1 : Int) - 1) = ((n1 - 1 : Nat) : Int) := by rw [IntWalk.i64_in _ (by omega)]; omega
          have hkl : n1 - 1 < n1 := by omega
          have gf := HMC.out.o.unfrozen
          have g1 : wc.cell? ⟨G, (n1 - 1) * 9 + 1, none⟩ = some (.int .i64 d.v.id) := HMC.out.o.at_ hd 1 rfl
          have g2 : wc.cell? ⟨G, (n1 - 1) * 9 + 2, none⟩ = some (.int .i64 d.v.acc) := HMC.out.o.at_ hd 2 rfl
          have g3 : wc.cell? ⟨G, (n1 - 1) * 9 + 3, none⟩ = some (.int .i64 d.v.since) := HMC.out.o.at_ hd 3 rfl
          have g4 : wc.cell? ⟨G, (n1 - 1) * 9 + 4, none⟩ = some (.string d.v.plan) := HMC.out.o.at_ hd 4 rfl
          have g5 : wc.cell? ⟨G, (n1 - 1) * 9 + 5, none⟩ = some (.slice d.v.An d.v.nn d.v.cn) := HMC.out.o.at_ hd 5 rfl
          have g6 : wc.cell? ⟨G, (n1 - 1) * 9 + 6, none⟩ = some (.slice d.v.Ap d.v.np d.v.cp) := HMC.out.o.at_ hd 6 rfl
          have g7 : wc.cell? ⟨G, (n1 - 1) * 9 + 7, none⟩ = some (.bool d.v.susp) := HMC.out.o.at_ hd 7 rfl
          have g8 : wc.cell? ⟨G, (n1 - 1) * 9 + 8, none⟩ = some (.bool d.v.fam) := HMC.out.o.at_ hd 8 rfl
          have cs0 := HMC.out.g 0 _ rfl
          have cs1 := HMC.out.g 1 _ rfl
          have cs2 := HMC.out.g 2 _ rfl
          have cs3 := HMC.out.g 3 _ rfl
          have cs4 := HMC.out.g 4 _ rfl
          have cs5 := HMC.out.g 5 _ rfl
          have cs6 := HMC.out.g 6 _ rfl
          have cs7 := HMC.out.g 7 _ rfl
          clear hA hbg hcur hd hde hl HBB y0X
          go_wp2_with fail
          go_roundw
          case rel => exact ⟨k + 1, by omega, by go_num, _, _, by rw [H1.out, H2.out, HE.out]; exact HST.out⟩
          case measure => simp [intOf]; omega
    · obtain rfl : n = k := by omega
      have hkn : ¬ ((n : Int) < (n : Int)) := by omega
      go_wp2_with fail
      go_ret
      have h := HM.out
      rw [show (moN l x n).1 = moE l x by unfold moE; rw [HL.out]] at h
      rw [← HN1.out] at h ⊢
      obtain ⟨A', n', c', e, hl⟩ := rowM h.o h.r
      exact ⟨⟨A', n', c', congrArg Ending.returned e, hl⟩, h.below⟩
end Ss
end Go.Proofs.Yteaanngagcflhaa
