/-
  Maps as functions of their keys: what is looked up, stored and deleted, at the operation, guarded or not. No condition.
-/
import Derived.Test.YteaanngagcflhaaComB
import Derived.Test.YteaanngagcflhaaFam
import Derived.Maps.OwnSet
import Derived.StringKeys
import Derived.OrdersHeld
set_option maxRecDepth 100000
set_option linter.unusedVariables false
set_option linter.unusedSimpArgs false
namespace Go.Proofs.Yteaanngagcflhaa
open Go Go.RowKit
section
variable {P : Program} {md : Region.Mode} {ops : Array Oper} {Q : Exit → Act → World → Prop} {S : World → Prop}
theorem tk (i : Nat) {oi : Oper} {v : Value} {fuel : Nat} {listed : Array Bool} {a : Act} {w : World} (hy : ∀ w, S w → (execOp a.eval oi).run P w = .ok (.value v) w)
    (h : wpAnyH P md ops Q S fuel (listed.setIfInBounds i true) (a.put oi.dst v) w)
    (hi : ops[i]? = some oi := by rfl) (hs : Region.noSelect ops = true := by kernel_rfl) (hf : Region.free md ops listed i = true := by kernel_rfl) (hr : (Region.ready md ops listed).contains i = true := by kernel_rfl)
    (hQ : ∀ c a w, Q (.panic c) (a.put oi.dst v) w → Q (.panic c) a w := by exact fun _ _ _ h => h) (hw : Region.wanted oi (yielded ops a.tmps) = true := by rfl) (hS : S w := by assumption) : wpAnyH P md ops Q S (fuel + 1) listed a w :=
  wpAnyH_take hi hs hf hr hQ (.inl ⟨hw, hy⟩) hS h
theorem tko (i : Nat) {oi : Oper} {fuel : Nat} {listed : Array Bool} {a : Act} {w : World} (h : wpAnyH P md ops Q S fuel (listed.setIfInBounds i true) (a.put oi.dst undef) w)
    (hi : ops[i]? = some oi := by rfl) (hs : Region.noSelect ops = true := by kernel_rfl) (hf : Region.free md ops listed i = true := by kernel_rfl) (hr : (Region.ready md ops listed).contains i = true := by kernel_rfl)
    (hQ : ∀ c a w, Q (.panic c) (a.put oi.dst undef) w → Q (.panic c) a w := by exact fun _ _ _ h => h) (hw : Region.wanted oi (yielded ops a.tmps) = false := by rfl) (hS : S w := by assumption) : wpAnyH P md ops Q S (fuel + 1) listed a w :=
  wpAnyH_take hi hs hf hr hQ (.inr ⟨hw, rfl⟩) hS h
end
instance : Flat Int where
  sz := 1
  cells c := [.int .i64 c]
  len _ := rfl
  one _ := by simp [Value.oneCell']
  pos := by decide
instance : Flat ByteArray where
  sz := 1
  cells s := [.string s]
  len _ := rfl
  one _ := by simp [Value.oneCell']
  pos := by decide
namespace Cu
open Go.Maps
/-- an element is read as itself -/
def Rid (v : Value) : Option (DataW Value × List MemPlace) := some (.held v, [])
open Classical in
noncomputable def setM (f : Lit → Option Value) (l : Lit) (v : Option Value) : Lit → Option Value := fun l' => if l' = l then v else f l'
theorem setM_same (f : Lit → Option Value) (l : Lit) (v : Option Value) : setM f l v l = v := if_pos rfl
theorem setM_other (f : Lit → Option Value) {l l' : Lit} (h : l' ≠ l) (v : Option Value) : setM f l v l' = f l' := if_neg h
/-- block b is a map of at most n entries; f tells the element at each key -/
def Mf (P : Program) (k : TypeId) (w : World) (b n : Nat) (f : Lit → Option Value) : Prop :=
  ∃ D : DataW Value, w.ownsMap P k Rid b n D ∧ ∀ l, KeysOf P k l → Maps.has D l = (f l).isSome ∧ ∀ z, D.atKey l (.held z) = .held ((f l).getD z)
section
variable {P : Program} {k : TypeId} {w w' : World} {b n : Nat} {f g : Lit → Option Value}
theorem Mf.made (w : World) (P : Program) (k : TypeId) : Mf P k (w.alloc (.map #[] 0)) w.heap.size 0 (fun _ => none) := ⟨_, World.ownsMap_made w P k Rid, fun l _ => ⟨rfl, fun z => rfl⟩⟩
theorem Mf.lt (h : Mf P k w b n f) : b < w.heap.size := by obtain ⟨D, hD, _⟩ := h; exact hD.lt
theorem Mf.mono (h : Mf P k w b n f) {m : Nat} (hm : n ≤ m) : Mf P k w b m f := by obtain ⟨D, hD, hf⟩ := h; exact ⟨D, hD.mono hm, hf⟩
theorem Mf.congr (h : Mf P k w b n f) (hfg : ∀ l, KeysOf P k l → f l = g l) : Mf P k w b n g := by
  obtain ⟨D, hD, hf⟩ := h
  exact ⟨D, hD, fun l hl => by rw [← hfg l hl]; exact hf l hl⟩
theorem Mf.kept (h : Mf P k w b n f) {row : Option Nat} (hg : w.grownBy w' row) (hne : some b ≠ row) : Mf P k w' b n f := by
  obtain ⟨D, hD, hf⟩ := h; exact ⟨D, hD.kept hg hne, hf⟩
theorem Mf.below (h : Mf P k w b n f) (hb : Below w.heap.size w w') : Mf P k w' b n f := h.kept (row := none) ⟨hb.os, hb.tape, hb.output, hb.size, fun k hk _ => hb.block k hk⟩ (by simp)
theorem Mf.alloc (h : Mf P k w b n f) (o : Obj) : Mf P k (w.alloc o) b n f := by obtain ⟨D, hD, hf⟩ := h; exact ⟨D, hD.alloc o, hf⟩
theorem Mf.drew (h : Mf P k w b n f) : Mf P k w.drew b n f := h
theorem Mf.setCell (h : Mf P k w b n f) {a : Addr} (ha : b ≠ a.block) (u : Value) : Mf P k (w.setCell a u) b n f := by obtain ⟨D, hD, hf⟩ := h; exact ⟨D, hD.setCell ha u, hf⟩
/-- a map's block holds no cells -/
theorem Mf.nocell (h : Mf P k w b n f) (o : Nat) : w.cell? ⟨b, o, none⟩ = none := by
  obtain ⟨D, ⟨es, clock, hb, r⟩, hf⟩ := h
  simp [World.cell?, hb]
/-- what a store into a map leaves -/
theorem turned_below {w w' w0 : World} {b B : Nat} (h : w.mapTurned w' b) (hb : Below B w0 w) (hB : B ≤ b) : Below B w0 w' := hb.grown h.grown (by
  obtain ⟨es, clock, es', clock', hh, rfl⟩ := h
  have := (Array.getElem?_eq_some_iff.1 hh).1
  omega) (fun k e => by cases e; exact hB)
theorem turned_cell {w w' : World} {b : Nat} (h : w.mapTurned w' b) (a : Addr) : w'.cell? a = w.cell? a := by
  obtain ⟨es, clock, es', clock', hh, rfl⟩ := h
  by_cases ha : a.block = b
  · have e1 : (Go.ChangeMaps.setBlock w b (Obj.map es' clock')).heap[a.block]? = some (.map es' clock') := by rw [ha]; exact Go.ChangeMaps.heap_setBlock_same hh _
    have e2 : w.heap[a.block]? = some (.map es clock) := by rw [ha]; exact hh
    simp [World.cell?, e1, e2]
  · have e1 : (Go.ChangeMaps.setBlock w b (Obj.map es' clock')).heap[a.block]? = w.heap[a.block]? := Go.ChangeMaps.heap_setBlock_other hh _ ha
    simp only [World.cell?, e1]
theorem turned_keeps {w w' : World} {b : Nat} (h : w.mapTurned w' b) {p : Nat → Prop} : Keeps p w w' := ⟨h.grown.size, fun b o _ _ => turned_cell h _⟩
variable {ops : Array Oper} {rest : List Oper} {o : Oper} {a : Act} {Q : Exit → Act → World → Prop} {t e : TypeId}
/-- 'm[k]' -/
theorem wpl_look (hw : Region.wanted o (yielded ops a.tmps) = true) (m x : Operand) (hop : o.op = Op.lookup t m x false) (K : Keyed P k) (ht : P.underlying t = some (.map k e)) {z : Value} (hz : (zeroValue e).run P w = .ok z w)
    (hm : a.eval m = .map (some b)) (h : Mf P k w b n f) (key : Value) (l : Lit) (hx : a.eval x = key) (hkey : keyOf P k key = some l) (v : Value) (hv : (f l).getD z = v) (hK : wpList P ops Q rest (a.put o.dst v) w) : wpList P ops Q (o :: rest) a w := by
  obtain ⟨D, hD, hf⟩ := h
  obtain ⟨v', ps, hrun, hv'⟩ := hD.lookup K ht hz (zd := .held z) (zp := []) rfl hkey
  have e1 : v' = v := by
    unfold Rid at hv'
    injection hv' with hv'
    injection hv' with h1 _
    rw [(hf l ⟨key, hkey⟩).2 z, hv] at h1
    injection h1
  subst e1
  refine wpList_step fun K' hK' => ?_
  rw [if_pos hw]
  unfold Oper.wp
  simp [execOp, hop, hm, hx, hrun, Result.andThen]
  exact hK' _ _ hK
/-- 'v, ok := m[k]' -/
theorem wpl_look_ok (hw : Region.wanted o (yielded ops a.tmps) = true) (m x : Operand) (hop : o.op = Op.lookup t m x true) (K : Keyed P k) (ht : P.underlying t = some (.map k e)) {z : Value} (hz : (zeroValue e).run P w = .ok z w)
    (hm : a.eval m = .map (some b)) (h : Mf P k w b n f) (key : Value) (l : Lit) (hx : a.eval x = key) (hkey : keyOf P k key = some l) (v : Value) (c : Bool) (hv : (f l).getD z = v) (hc : (f l).isSome = c) (hK : wpList P ops Q rest (a.put o.dst (.tuple #[v, .bool c])) w) : wpList P ops Q (o :: rest) a w := by
  obtain ⟨D, hD, hf⟩ := h
  obtain ⟨v', ps, hrun, hv'⟩ := hD.look_ok K ht hz (zd := .held z) (zp := []) rfl hkey
  have e1 : v' = v := by
    unfold Rid at hv'
    injection hv' with hv'
    injection hv' with h1 _
    rw [(hf l ⟨key, hkey⟩).2 z, hv] at h1
    injection h1
  subst e1
  rw [(hf l ⟨key, hkey⟩).1, hc] at hrun
  refine wpList_step fun K' hK' => ?_
  rw [if_pos hw]
  unfold Oper.wp
  simp [execOp, hop, hm, hx, hrun, Result.andThen]
  exact hK' _ _ hK
theorem store_run (K : Keyed P k) (ht : P.underlying t = some (.map k e)) (h : Mf P k w b n f) (hn : n < maxLen) (key val : Value) (l : Lit) (hkey : keyOf P k key = some l) :
    ∃ w', (Instr.mapUpdate t (.map (some b)) key val).run P w = .ok () w' ∧ Mf P k w' b (n + 1) (setM f l (some val)) ∧ w.mapTurned w' b := by
  obtain ⟨D, hD, hf⟩ := h
  obtain ⟨w', hrun, hD', hturn⟩ := hD.store K ht hn hkey (val := val) (d := .held val) (ps := []) rfl
  refine ⟨w', hrun, ⟨_, hD', fun l' hl' => ?_⟩, hturn⟩
  by_cases he : l' = l
  · subst he
    rw [setM_same]
    exact ⟨has_put_same hD.isMap (K.key hkey) _, fun z => atKey_put_same hD.isMap (K.key hkey) _ _⟩
  · rw [setM_other f he]
    exact ⟨(has_put_other he _).trans (hf l' hl').1, fun z => (atKey_put_other he _ _).trans ((hf l' hl').2 z)⟩
/-- 'm[k] = v' -/
theorem wpl_put (hw : Region.wanted o (yielded ops a.tmps) = true) (m x v : Operand) (hop : o.op = Op.mapUpdate t m x v) (K : Keyed P k) (ht : P.underlying t = some (.map k e))
    (hm : a.eval m = .map (some b)) (h : Mf P k w b n f) (hn : n < maxLen) (key val : Value) (l : Lit) (hx : a.eval x = key) (hv : a.eval v = val) (hkey : keyOf P k key = some l)
    (hK : ∀ w', Mf P k w' b (n + 1) (setM f l (some val)) → w.mapTurned w' b → wpList P ops Q rest (a.put o.dst undef) w') : wpList P ops Q (o :: rest) a w := by
  obtain ⟨w', hrun, r1, r2⟩ := store_run K ht h hn key val l hkey
  refine wpList_step fun K' hK' => ?_
  rw [if_pos hw]
  unfold Oper.wp
  simp [execOp, hop, hm, hx, hv, hrun, Result.andThen]
  exact hK' _ _ (hK w' r1 r2)
/-- 'delete(m, k)' -/
theorem wpl_del (hw : Region.wanted o (yielded ops a.tmps) = true) (m x : Operand) (hop : o.op = Op.call { callee := Callee.builtin Builtin.delete, args := #[m, x], argTypes := #[t, k] }) (K : Keyed P k) (ht : P.underlying t = some (.map k e))
    (hm : a.eval m = .map (some b)) (h : Mf P k w b n f) (key : Value) (l : Lit) (hx : a.eval x = key) (hkey : keyOf P k key = some l)
    (hK : ∀ w', Mf P k w' b n (setM f l none) → w.mapTurned w' b → wpList P ops Q rest (a.put o.dst (.tuple #[])) w') : wpList P ops Q (o :: rest) a w := by
  obtain ⟨D, hD, hf⟩ := h
  obtain ⟨w', hrun, hD', hturn⟩ := hD.drop K ht hkey o.type
  refine wpList_step fun K' hK' => ?_
  rw [if_pos hw]
  unfold Oper.wp
  simp [execOp, hop, resolve, invoke, builtin, hm, hx, hrun, Result.andThen]
  refine hK' _ _ (hK w' ⟨_, hD', fun l' hl' => ?_⟩ hturn)
  by_cases he : l' = l
  · subst he
    rw [setM_same]
    exact ⟨has_del_same, fun z => atKey_del_same _⟩
  · rw [setM_other f he]
    exact ⟨(has_del_other he).trans (hf l' hl').1, fun z => (atKey_del_other he _).trans ((hf l' hl').2 z)⟩
end
end Cu
end Go.Proofs.Yteaanngagcflhaa
