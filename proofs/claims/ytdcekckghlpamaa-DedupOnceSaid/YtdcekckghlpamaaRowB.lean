/-
  Append of a row that was just written out, beside a block that is kept. No condition.
-/
import Derived.Test.YtdcekckghlpamaaRow
import Derived.BigQuiet
import Derived.StillTailTactics
import Derived.Lib.Overlaps
import Derived.Deep.DeepCutAuto
set_option maxRecDepth 100000
set_option linter.unusedVariables false
set_option linter.unusedSimpArgs false
namespace Go.Proofs.Ytdcekckghlpamaa
open Go.RowKit


theorem size_alloc1 (w : World) (o : Obj) : w.heap.size + 1 = (w.alloc o).heap.size := by simp
/-- append of a list that was just laid; another block stays -/
theorem wpl_append_new0 {α : Type} [Flat α] {P : Program} (W : World) (cs : Array Value) {ops : Array Oper} {rest : List Oper} {o : Oper} {a : Act} {Q : Exit → Act → World → Prop} (hgd : o.guard = none) (s x : Operand) (t : TypeId)
    (ho : o.op = .call { callee := .builtin .append, args := #[s, x], argTypes := #[t, t] })
    (w : World) (e : TypeId) (z : Value) (bytes : Nat) (ht : P.underlying t = some (.slice e)) (hi : (P.info? e).map (fun i => (i.zero, i.size, i.bytes)) = some (some z, Flat.sz α, bytes)) (hzs : z.cells.size = Flat.sz α)
    (v : Value) (xs : List α) (hs : a.eval s = v) (hown : Ow W w.heap.size e v xs) (m : Nat) (ys : List α) (hx : a.eval x = .slice (some ⟨W.heap.size, 0, none⟩) m m)
    (hm : ys.length = m) (hmm : m ≤ 2) (hcs : cs.toList = ys.flatMap Flat.cells) (hlen : xs.length + 2 ≤ 2000000) (hby : bytes ≤ 4096) (hb : Below w.heap.size w W)
    (g : Nat) (ob : Obj) (hg : W.heap[g]? = some ob) (hne : v.ownBlock ≠ some g)
    (h : ∀ v' w', Ow w' w.heap.size e v' (xs ++ ys) → Below w.heap.size w w' → w'.heap[g]? = some ob → v'.ownBlock ≠ some g → wpList P ops Q rest (a.put o.dst v') w') :
    wpList P ops Q (o :: rest) a (W.alloc (.cells cs e)) := by
  have hs0 := hb.size
  have hgl := (Array.getElem?_eq_some_iff.1 hg).1
  have hown' := hown.alloc (.cells cs e)
  have hb' : Below w.heap.size w (W.alloc (.cells cs e)) := hb.alloc hs0 _
  have hg' : (W.alloc (.cells cs e)).heap[g]? = some ob := by
    exact (Below.heap_alloc W (.cells cs e) g hgl).trans hg
  refine wpl_appendS _ hgd s x t ho w.heap.size e z bytes ht hi hzs v xs hs hown' (some ⟨W.heap.size, 0, none⟩) m m ys hx (fun h => nomatch h)
    (Sl.new W cs e W.heap.size rfl ys m hm (by unfold maxLen; omega) hcs) (by omega) hby (by simp; omega) ?_
  intro v2 w2 ho2 hu2
  refine h v2 w2 ho2 (hu2.belowBase hown' hb' (by simp; omega)) ?_ ?_
  · exact (hu2.grew.block g (by simp; omega) (fun e => hne e.symm)).trans hg'
  · rcases hu2.at_ with h1 | ⟨j, h1, h2⟩
    · rw [h1]; exact hne
    · rw [h1]; intro e; injection e with e; simp at h2; omega


/-- append of a list that was just laid behind another block; a third block stays -/
theorem wpl_append_new {α : Type} [Flat α] {P : Program} (W : World) (X : Obj) (cs : Array Value) {ops : Array Oper} {rest : List Oper} {o : Oper} {a : Act} {Q : Exit → Act → World → Prop} (hgd : o.guard = none) (s x : Operand) (t : TypeId)
    (ho : o.op = .call { callee := .builtin .append, args := #[s, x], argTypes := #[t, t] })
    (w : World) (e : TypeId) (z : Value) (bytes : Nat) (ht : P.underlying t = some (.slice e)) (hi : (P.info? e).map (fun i => (i.zero, i.size, i.bytes)) = some (some z, Flat.sz α, bytes)) (hzs : z.cells.size = Flat.sz α)
    (v : Value) (xs : List α) (hs : a.eval s = v) (hown : Ow W w.heap.size e v xs) (m : Nat) (ys : List α) (hx : a.eval x = .slice (some ⟨W.heap.size + 1, 0, none⟩) m m)
    (hm : ys.length = m) (hmm : m ≤ 2) (hcs : cs.toList = ys.flatMap Flat.cells) (hlen : xs.length + 2 ≤ 2000000) (hby : bytes ≤ 4096) (hb : Below w.heap.size w W)
    (g : Nat) (ob : Obj) (hg : W.heap[g]? = some ob) (hne : v.ownBlock ≠ some g)
    (h : ∀ v' w', Ow w' w.heap.size e v' (xs ++ ys) → Below w.heap.size w w' → w'.heap[g]? = some ob → v'.ownBlock ≠ some g → wpList P ops Q rest (a.put o.dst v') w') :
    wpList P ops Q (o :: rest) a ((W.alloc X).alloc (.cells cs e)) := by
  have hs0 := hb.size
  have hgl := (Array.getElem?_eq_some_iff.1 hg).1
  have hown' := (hown.alloc X).alloc (.cells cs e)
  have hb' : Below w.heap.size w ((W.alloc X).alloc (.cells cs e)) := (hb.alloc hs0 _).alloc (by simp; omega) _
  have hg' : ((W.alloc X).alloc (.cells cs e)).heap[g]? = some ob := by
    refine (Below.heap_alloc (W.alloc X) (.cells cs e) g (by simp; omega)).trans ((Below.heap_alloc W X g hgl).trans hg)
  refine wpl_appendS _ hgd s x t ho w.heap.size e z bytes ht hi hzs v xs hs hown' (some ⟨W.heap.size + 1, 0, none⟩) m m ys hx (fun h => nomatch h)
    (Sl.new (W.alloc X) cs e (W.heap.size + 1) (by simp) ys m hm (by unfold maxLen; omega) hcs) (by omega) hby (by simp; omega) ?_
  intro v2 w2 ho2 hu2
  refine h v2 w2 ho2 (hu2.belowBase hown' hb' (by simp; omega)) ?_ ?_
  · exact (hu2.grew.block g (by simp; omega) (fun e => hne e.symm)).trans hg'
  · rcases hu2.at_ with h1 | ⟨j, h1, h2⟩
    · rw [h1]; exact hne
    · rw [h1]; intro e; injection e with e; simp at h2; omega

end Go.Proofs.Ytdcekckghlpamaa
