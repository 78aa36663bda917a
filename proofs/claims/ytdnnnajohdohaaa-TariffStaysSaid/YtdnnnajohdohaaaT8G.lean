/-
  Tariffs as data: what a value in memory says, whatever its addresses. No condition.
-/
import Derived.Test.YtdnnnajohdohaaaT8W
import Derived.Test.YtdnnnajohdohaaaFam
import Derived.BigQuiet
import Derived.StillTailTactics
import Derived.Lib.Overlaps
import Derived.Deep.DeepCutAuto
import Derived.Deep.RegionWith
import Derived.Laws.RangeAny
set_option maxRecDepth 100000
set_option linter.unusedVariables false
set_option linter.unusedSimpArgs false
namespace Go.Proofs.Ytdnnnajohdohaaa
open Go.RowKit

namespace Cv
open Xp Ck
/-! ### slices are determined by the memory -/
theorem Sl.det_ {α : Type} [Flat α] (hinj : ∀ x y : α, Flat.cells x = Flat.cells y → x = y) {w : World} {A : Option Addr} {n c c' : Nat} {xs ys : List α} (h : Sl w A n c xs) (k : Sl w A n c' ys) : xs = ys := by
  have hl : xs.length = ys.length := by rw [h.len, k.len]
  refine List.ext_getElem? fun i => ?_
  by_cases hi : i < n
  · obtain ⟨b, off, e, _, hc⟩ := h.base (by omega)
    obtain ⟨b', off', e', _, hc'⟩ := k.base (by omega)
    rw [e] at e'
    cases e'
    obtain ⟨x, hx⟩ := h.get hi
    obtain ⟨y, hy⟩ := k.get hi
    rw [hx, hy]
    refine congrArg some (hinj x y (List.ext_getElem? fun j => ?_))
    by_cases hj : j < Flat.sz α
    · have h1 : (Flat.cells x)[j]? = some ((Flat.cells x)[j]'(by rw [Flat.len]; exact hj)) := List.getElem?_eq_getElem _
      have h2 : (Flat.cells y)[j]? = some ((Flat.cells y)[j]'(by rw [Flat.len]; exact hj)) := List.getElem?_eq_getElem _
      have h3 := hc i x hx j _ h1
      have h4 := hc' i y hy j _ h2
      rw [h3] at h4
      rw [h1, h2]
      exact h4
    · rw [List.getElem?_eq_none (by rw [Flat.len]; omega), List.getElem?_eq_none (by rw [Flat.len]; omega)]
  · rw [List.getElem?_eq_none (by have := h.len; omega), List.getElem?_eq_none (by have := k.len; omega)]
theorem inj_str (x y : ByteArray) (h : Flat.cells x = Flat.cells y) : x = y := by
  have h : [Value.string x] = [Value.string y] := h
  injection h with h _; injection h
theorem inj_slt (x y : Slt) (h : Flat.cells x = Flat.cells y) : x = y := by
  obtain ⟨a, b, c⟩ := x
  obtain ⟨a', b', c'⟩ := y
  have h : [Value.int .i64 a, .int .i64 b, .int .i64 c] = [Value.int .i64 a', .int .i64 b', .int .i64 c'] := h
  injection h with h1 h; injection h with h2 h; injection h with h3 h
  injection h1 with _ h1; injection h2 with _ h2; injection h3 with _ h3
  subst h1 h2 h3; rfl
theorem inj_stp (x y : Stp) (h : Flat.cells x = Flat.cells y) : x = y := by
  obtain ⟨a, b, c⟩ := x
  obtain ⟨a', b', c'⟩ := y
  have h : [Value.int .i64 a, .int .i64 b, .int .i64 c] = [Value.int .i64 a', .int .i64 b', .int .i64 c'] := h
  injection h with h1 h; injection h with h2 h; injection h with h3 h
  injection h1 with _ h1; injection h2 with _ h2; injection h3 with _ h3
  subst h1 h2 h3; rfl
theorem inj_it (x y : It) (h : Flat.cells x = Flat.cells y) : x = y := by
  obtain ⟨a, b, c, A, n, m⟩ := x
  obtain ⟨a', b', c', A', n', m'⟩ := y
  have h : [Value.int .i64 a, .int .i64 b, .string c, .slice A n m] = [Value.int .i64 a', .int .i64 b', .string c', .slice A' n' m'] := h
  injection h with h1 h; injection h with h2 h; injection h with h3 h; injection h with h4 h
  injection h1 with _ h1; injection h2 with _ h2; injection h3 with h3; injection h4 with h4 h5 h6
  subst h1 h2 h3 h4 h5 h6; rfl
theorem Rp.det_ {w : World} {e : Ex} {x : It} (h : Rp w e x) : ∀ e', Rp w e' x → e = e' := by
  induction h with
  | mk op num text args A n c items hsl hl hnil hc ih =>
    intro e' h'
    obtain ⟨op', num', text', args', A', n', c', items', rfl, hx, hsl', hl', _, hc'⟩ := h'.inv
    injection hx with h1 h2 h3 h4 h5 h6
    subst h1 h2 h3 h4 h5 h6
    have hit := Sl.det_ inj_it hsl hsl'
    subst hit
    refine congrArg _ (List.ext_getElem? fun i => ?_)
    by_cases hi : i < items.length
    · have e1 : args[i]? = some (args[i]'(by omega)) := List.getElem?_eq_getElem _
      have e2 : args'[i]? = some (args'[i]'(by omega)) := List.getElem?_eq_getElem _
      have e0 : items[i]? = some (items[i]) := List.getElem?_eq_getElem _
      rw [e1, e2]
      exact congrArg some (ih i _ _ e0 e1 _ (hc' i _ _ e0 e2))
    · rw [List.getElem?_eq_none (by omega), List.getElem?_eq_none (by omega)]

/-! ### the data -/
abbrev Zd := ByteArray × List ByteArray
abbrev Bd := ByteArray × List Slt
structure Rd where
  kind : Int
  zone : ByteArray
  band : ByteArray
  setup : Int
  steps : List Stp
structure Dd_ where
  name : ByteArray
  ex : Ex
  pts : Int
structure Td where
  name : ByteArray
  from_ : Int
  split : Bool
  zs : List Zd
  bs : List Bd
  rs : List Rd
  ds : List Dd_
def nlE (l : List ByteArray) (u : ByteArray) : Bool := l.any (fun x => x.toList == u.toList)
def knownD (l : List ByteArray) (u : ByteArray) : Bool := nlE l u || (u.toList == [])
def prefD (zs : List Zd) (i : Nat) (ps : List ByteArray) (k : Nat) : Int :=
  match ps[k]? with
  | none => 0
  | some p => if Dg.valid p.data.toList = false then 12 else if ((zs.take i).any (fun y => y.2.any (pEq p)) || (ps.take k).any (pEq p)) = true then 10 else 0
def zoneD (zs : List Zd) (i : Nat) : Int :=
  match zs[i]? with
  | none => 0
  | some z => if nameB z.1 = false then 8 else if nlE ((zs.take i).map (·.1)) z.1 = true then 10 else if z.2.length = 0 then 8 else if 64 < z.2.length then 5 else firstE z.2.length (prefD zs i z.2)
def zonesD (zs : List Zd) : Int := if 64 < zs.length then 5 else firstE zs.length (zoneD zs)
def bandD (bs : List Bd) (i : Nat) : Int :=
  match bs[i]? with
  | none => 0
  | some b => if nameB b.1 = false then 8 else if nlE ((bs.take i).map (·.1)) b.1 = true then 10 else if i + 1 = bs.length then (if 0 < b.2.length then 8 else 0) else slotsE b.2
def bandsD (bs : List Bd) : Int := if bs.length = 0 then 8 else if 64 < bs.length then 5 else firstE bs.length (bandD bs)
def rateD (zn bn : List ByteArray) (r : Rd) : Int :=
  if r.kind < 1 ∨ 4 < r.kind then 7 else if knownD zn r.zone = false ∨ knownD bn r.band = false then 11 else if r.setup < 0 ∨ 1125899906842624 < r.setup then 6 else stepsE r.steps
def ratesG (zn bn : List ByteArray) (rs : List Rd) (i : Nat) : Int := match rs[i]? with
  | none => 0
  | some r => rateD zn bn r
def ratesD (zn bn : List ByteArray) (rs : List Rd) : Int := if 64 < rs.length then 5 else firstE rs.length (ratesG zn bn rs)
def discD (ds : List Dd_) (i : Nat) : Int :=
  match ds[i]? with
  | none => 0
  | some d => if nameB d.name = false then 8 else if nlE ((ds.take i).map (·.name)) d.name = true then 10 else oneE d.ex d.pts
def discsD (ds : List Dd_) : Int := if 64 < ds.length then 5 else firstE ds.length (discD ds)
def restD (T : Td) : Int := if zonesD T.zs ≠ 0 then zonesD T.zs else if bandsD T.bs ≠ 0 then bandsD T.bs else if ratesD (T.zs.map (·.1)) (T.bs.map (·.1)) T.rs ≠ 0 then ratesD (T.zs.map (·.1)) (T.bs.map (·.1)) T.rs else discsD T.ds
def tarD (T : Td) : Int := if nameB T.name = false then 8 else if T.from_ < 0 ∨ 12622780800 ≤ T.from_ then 15 else restD T

theorem firstE_congr {f g : Nat → Int} (h : ∀ i, f i = g i) (n : Nat) : firstE n f = firstE n g := by rw [show f = g from funext h]
theorem nmEq_map (l : List Nm) (u : ByteArray) : l.any (nmEq u) = nlE (l.map (·.name)) u := by unfold nlE; rw [List.any_map]; rfl
theorem dqEq_map (l : List Dq) (u : ByteArray) : l.any (dqEq u) = nlE (l.map (·.name)) u := by unfold nlE; rw [List.any_map]; rfl
theorem prefE_map (PZ : Nm → List ByteArray) (zs : List Nm) (i : Nat) (z : Nm) (k : Nat) : prefE PZ zs i z k = prefD (zs.map fun x => (x.name, PZ x)) i (PZ z) k := by
  unfold prefE prefD seenB
  simp only [← List.map_take, List.any_map]
  rfl
theorem zonesE_map (PZ : Nm → List ByteArray) (zs : List Nm) (hn : ∀ x ∈ zs, x.n = (PZ x).length) : zonesE PZ zs = zonesD (zs.map fun x => (x.name, PZ x)) := by
  unfold zonesE zonesD
  rw [List.length_map]
  refine congrArg _ (firstE_congr (fun i => ?_) _)
  unfold zoneE zoneD
  rw [List.getElem?_map]
  cases hz : zs[i]? with
  | none => rfl
  | some z =>
    simp only [Option.map_some]
    rw [hn z (List.mem_of_getElem? hz), nmEq_map, List.map_take, List.map_take, List.map_map, firstE_congr (prefE_map PZ zs i z)]
    rfl
theorem bandsE_map (S : Nm → List Slt) (bs : List Nm) (hn : ∀ x ∈ bs, x.n = (S x).length) : bandsE S bs = bandsD (bs.map fun x => (x.name, S x)) := by
  unfold bandsE bandsD
  rw [List.length_map]
  refine congrArg _ (congrArg _ (firstE_congr (fun i => ?_) _))
  unfold bandE bandD
  rw [List.getElem?_map, List.length_map]
  cases hz : bs[i]? with
  | none => rfl
  | some z =>
    simp only [Option.map_some]
    rw [hn z (List.mem_of_getElem? hz), nmEq_map, List.map_take, List.map_take, List.map_map]
    rfl
theorem knownB_map (l : List Nm) (u : ByteArray) : knownB l u = knownD (l.map (·.name)) u := by unfold knownB knownD; rw [nmEq_map]
theorem ratesE_map (S : Rt → List Stp) (zs bs : List Nm) (rs : List Rt) : ratesE S zs bs rs = ratesD (zs.map (·.name)) (bs.map (·.name)) (rs.map fun r => ⟨r.kind, r.zone, r.band, r.setup, S r⟩) := by
  unfold ratesE ratesD
  rw [List.length_map]
  refine congrArg _ (firstE_congr (fun i => ?_) _)
  unfold ratesF ratesG
  rw [List.getElem?_map]
  cases hz : rs[i]? with
  | none => rfl
  | some z =>
    simp only [Option.map_some]
    unfold rateE rateD
    rw [knownB_map, knownB_map]
theorem discsE_map (E : Dq → Ex) (ds : List Dq) : discsE E ds = discsD (ds.map fun d => ⟨d.name, E d, d.pts⟩) := by
  unfold discsE discsD
  rw [List.length_map]
  refine congrArg _ (firstE_congr (fun i => ?_) _)
  unfold discE discD
  rw [List.getElem?_map]
  cases hz : ds[i]? with
  | none => rfl
  | some z =>
    simp only [Option.map_some]
    rw [dqEq_map, List.map_take, List.map_take, List.map_map]
    rfl

/-! ### in memory -/
def ZR (w : World) (x : Nm) (d : Zd) : Prop := x.name = d.1 ∧ d.1.size ≤ maxLen ∧ (x.A = none → x.c = 0) ∧ Sl w x.A x.n x.c d.2 ∧ ∀ p ∈ d.2, p.size ≤ maxLen
def BR (w : World) (x : Nm) (d : Bd) : Prop := x.name = d.1 ∧ d.1.size ≤ maxLen ∧ (x.A = none → x.c = 0) ∧ Sl w x.A x.n x.c d.2
def RR (w : World) (x : Rt) (d : Rd) : Prop := x.kind = d.kind ∧ x.zone = d.zone ∧ x.band = d.band ∧ x.setup = d.setup ∧ (x.A = none → x.c = 0) ∧ Sl w x.A x.n x.c d.steps
def DR (w : World) (x : Dq) (d : Dd_) : Prop := x.name = d.name ∧ d.name.size ≤ maxLen ∧ x.pts = d.pts ∧ Rp w d.ex x.it
theorem ZR.on {w w' : World} {x : Nm} {d : Zd} (h : ZR w x d) (hb : Below w.heap.size w w') : ZR w' x d := ⟨h.1, h.2.1, h.2.2.1, h.2.2.2.1.below hb, h.2.2.2.2⟩
theorem BR.on {w w' : World} {x : Nm} {d : Bd} (h : BR w x d) (hb : Below w.heap.size w w') : BR w' x d := ⟨h.1, h.2.1, h.2.2.1, h.2.2.2.below hb⟩
theorem RR.on {w w' : World} {x : Rt} {d : Rd} (h : RR w x d) (hb : Below w.heap.size w w') : RR w' x d := ⟨h.1, h.2.1, h.2.2.1, h.2.2.2.1, h.2.2.2.2.1, h.2.2.2.2.2.below hb⟩
theorem DR.on {w w' : World} {x : Dq} {d : Dd_} (h : DR w x d) (hb : Below w.heap.size w w') : DR w' x d := ⟨h.1, h.2.1, h.2.2.1, h.2.2.2.on hb⟩
/-- a slice whose items have data -/
def LS {α β : Type} [Flat α] (R : World → α → β → Prop) (w : World) (A : Option Addr) (n c : Nat) (ds : List β) : Prop := (A = none → c = 0) ∧ ∃ xs : List α, Sl w A n c xs ∧ All2 (R w) xs ds
theorem LS.on {α β : Type} [Flat α] {R : World → α → β → Prop} (hR : ∀ w w' x y, R w x y → Below w.heap.size w w' → R w' x y) {w w' : World} {A : Option Addr} {n c : Nat} {ds : List β} (h : LS R w A n c ds) (hb : Below w.heap.size w w') : LS R w' A n c ds := by
  obtain ⟨h0, xs, h1, h2⟩ := h
  exact ⟨h0, xs, h1.below hb, h2.imp fun x y h => hR _ _ _ _ h hb⟩
theorem LS.len {α β : Type} [Flat α] {R : World → α → β → Prop} {w : World} {A : Option Addr} {n c : Nat} {ds : List β} (h : LS R w A n c ds) : ds.length = n := by
  obtain ⟨h0, xs, h1, h2⟩ := h
  rw [← h2.1, h1.len]
structure TD (w : World) (t : Tv) (T : Td) : Prop where
  name : t.name = T.name
  nm : T.name.size ≤ maxLen
  from_ : t.from_ = T.from_
  split : t.split = T.split
  z : LS ZR w t.Az t.nz t.cz T.zs
  b : LS BR w t.Ab t.nb t.cb T.bs
  r : LS RR w t.Ar t.nr t.cr T.rs
  d : LS DR w t.Ad t.nd t.cd T.ds
theorem TD.on {w w' : World} {t : Tv} {T : Td} (h : TD w t T) (hb : Below w.heap.size w w') : TD w' t T :=
  ⟨h.name, h.nm, h.from_, h.split, h.z.on (fun _ _ _ _ h hb => h.on hb) hb, h.b.on (fun _ _ _ _ h hb => h.on hb) hb, h.r.on (fun _ _ _ _ h hb => h.on hb) hb, h.d.on (fun _ _ _ _ h hb => h.on hb) hb⟩
instance : Flat Tv where
  sz := 7
  pos := by decide
  cells t := [.string t.name, .int .i64 t.from_, .bool t.split, .slice t.Az t.nz t.cz, .slice t.Ab t.nb t.cb, .slice t.Ar t.nr t.cr, .slice t.Ad t.nd t.cd]
  len _ := rfl
  one _ := by simp [Value.oneCell']
abbrev LT (w : World) (A : Option Addr) (n c : Nat) (Ts : List Td) : Prop := LS TD w A n c Ts
theorem LT.on_ {w w' : World} {A : Option Addr} {n c : Nat} {Ts : List Td} (h : LT w A n c Ts) (hb : Below w.heap.size w w') : LT w' A n c Ts := LS.on (fun _ _ _ _ h hb => h.on hb) h hb

/-! ### what both Tariff answer -/
theorem pickF {α β : Type} [Inhabited β] {l : List α} {P : α → β → Prop} (h : ∀ x ∈ l, ∃ y, P x y) : ∃ f : α → β, ∀ x ∈ l, P x (f x) := by
  classical
  refine ⟨fun x => if hx : x ∈ l then (h x hx).choose else default, fun x hx => ?_⟩
  show P x (if hx : x ∈ l then (h x hx).choose else default)
  rw [dif_pos hx]
  exact (h x hx).choose_spec
theorem TD.ts {w : World} {t : Tv} {T : Td} (h : TD w t T) : ∃ (PZ : Nm → List ByteArray) (SB : Nm → List Slt) (SR : Rt → List Stp) (E : Dq → Ex) (zs bs : List Nm) (rs : List Rt) (ds : List Dq),
    TS w t.name t.Az t.nz t.cz t.Ab t.nb t.cb t.Ar t.nr t.cr t.Ad t.nd t.cd PZ SB SR E zs bs rs ds ∧ tarE t.name t.from_ PZ SB SR E zs bs rs ds = tarD T := by
  obtain ⟨_, zs, hz, az⟩ := h.z
  obtain ⟨_, bs, hb, ab⟩ := h.b
  obtain ⟨_, rs, hr, ar⟩ := h.r
  obtain ⟨_, ds, hd, ad⟩ := h.d
  haveI : Inhabited Ex := ⟨.mk 0 0 ⟨#[]⟩ []⟩
  obtain ⟨PZ, hPZ⟩ := pickF (l := zs) (P := fun x (ps : List ByteArray) => Sl w x.A x.n x.c ps ∧ ∀ p ∈ ps, p.size ≤ maxLen) fun x hx => by
    obtain ⟨d, _, hd⟩ := az.mem_ hx
    exact ⟨d.2, hd.2.2.2.1, hd.2.2.2.2⟩
  obtain ⟨SB, hSB⟩ := pickF (l := bs) (P := fun x (ps : List Slt) => Sl w x.A x.n x.c ps) fun x hx => by
    obtain ⟨d, _, hd⟩ := ab.mem_ hx
    exact ⟨d.2, hd.2.2.2⟩
  obtain ⟨SR, hSR⟩ := pickF (l := rs) (P := fun x (ps : List Stp) => Sl w x.A x.n x.c ps) fun x hx => by
    obtain ⟨d, _, hd⟩ := ar.mem_ hx
    exact ⟨d.steps, hd.2.2.2.2.2⟩
  obtain ⟨E, hE⟩ := pickF (l := ds) (P := fun x e => Rp w e x.it) fun x hx => by
    obtain ⟨d, _, hd⟩ := ad.mem_ hx
    exact ⟨d.ex, hd.2.2.2⟩
  have mz : zs.map (fun x => (x.name, PZ x)) = T.zs := by
    rw [← List.map_id T.zs]
    refine az.map_eq fun x d hx hr => ?_
    rw [hr.1, Sl.det_ inj_str (hPZ x hx).1 hr.2.2.2.1]
    rfl
  have mb : bs.map (fun x => (x.name, SB x)) = T.bs := by
    rw [← List.map_id T.bs]
    refine ab.map_eq fun x d hx hr => ?_
    rw [hr.1, Sl.det_ inj_slt (hSB x hx) hr.2.2.2]
    rfl
  have mr : rs.map (fun r => (⟨r.kind, r.zone, r.band, r.setup, SR r⟩ : Rd)) = T.rs := by
    rw [← List.map_id T.rs]
    refine ar.map_eq fun x d hx hr => ?_
    rw [hr.1, hr.2.1, hr.2.2.1, hr.2.2.2.1, Sl.det_ inj_stp (hSR x hx) hr.2.2.2.2.2]
    rfl
  have md : ds.map (fun d => (⟨d.name, E d, d.pts⟩ : Dd_)) = T.ds := by
    rw [← List.map_id T.ds]
    refine ad.map_eq fun x d hx hr => ?_
    rw [hr.1, hr.2.2.1, Rp.det_ (hE x hx) _ hr.2.2.2]
    rfl
  have nz : zs.map (·.name) = T.zs.map (·.1) := by rw [← mz, List.map_map]; rfl
  have nb : bs.map (·.name) = T.bs.map (·.1) := by rw [← mb, List.map_map]; rfl
  refine ⟨PZ, SB, SR, E, zs, bs, rs, ds, ⟨by rw [h.name]; exact h.nm, hz, fun x hx => (hPZ x hx).1, fun x hx => ?_, fun x hx => (hPZ x hx).2, hb, hSB, fun x hx => ?_, hr, hSR, hd, hE, fun x hx => ?_⟩, ?_⟩
  · obtain ⟨d, _, k⟩ := az.mem_ hx
    rw [k.1]; exact k.2.1
  · obtain ⟨d, _, k⟩ := ab.mem_ hx
    rw [k.1]; exact k.2.1
  · obtain ⟨d, _, k⟩ := ad.mem_ hx
    rw [k.1]; exact k.2.1
  · unfold tarE restT tarD restD
    rw [zonesE_map PZ zs fun x hx => ((hPZ x hx).1.len).symm, bandsE_map SB bs fun x hx => ((hSB x hx).len).symm, ratesE_map, discsE_map, mz, mb, mr, md, nz, nb, h.name, h.from_]
theorem tariff_D {t : Tv} {T : Td} {w : World} (h : TD w t T) : Calls Try.prog 24 #[t.val] w fun e w' => e = .returned (.int .i64 (tarD T)) ∧ Below w.heap.size w w' := by
  obtain ⟨PZ, SB, SR, E, zs, bs, rs, ds, hT, he⟩ := h.ts
  rw [← he]
  exact tariff_any t.name t.from_ t.split t.Az t.nz t.cz t.Ab t.nb t.cb t.Ar t.nr t.cr t.Ad t.nd t.cd PZ SB SR E zs bs rs ds w hT
theorem reftariff_D {t : Tv} {T : Td} {w : World} (h : TD w t T) : Calls Try.prog 26 #[t.val] w fun e w' => e = .returned (.int .i64 (tarD T)) ∧ Below w.heap.size w w' := by
  obtain ⟨PZ, SB, SR, E, zs, bs, rs, ds, hT, he⟩ := h.ts
  rw [← he]
  exact reftariff_any t.name t.from_ t.split t.Az t.nz t.cz t.Ab t.nb t.cb t.Ar t.nr t.cr t.Ad t.nd t.cd PZ SB SR E zs bs rs ds w hT
end Cv
end Go.Proofs.Ytdnnnajohdohaaa
