/-
  Expressions in memory: a tree that lies there, and how an argument is opened. No condition.
-/
import Derived.Test.YtdnnnajohdohaaaCom
import Derived.Test.YtdnnnajohdohaaaExP
set_option maxRecDepth 100000
set_option linter.unusedVariables false
set_option linter.unusedSimpArgs false
namespace Go.Proofs.Ytdnnnajohdohaaa
open Go.RowKit
namespace Xp

/-- the cells of an expression -/
structure It where
  op : Int
  num : Int
  text : ByteArray
  A : Option Addr
  n : Nat
  c : Nat
instance : Flat It where
  sz := 4
  cells x := [.int .i64 x.op, .int .i64 x.num, .string x.text, .slice x.A x.n x.c]
  len _ := rfl
  one _ := by simp [Value.oneCell']
  pos := by decide
def It.val (x : It) : Value := .agg #[.int .i64 x.op, .int .i64 x.num, .string x.text, .slice x.A x.n x.c]

/-- an expression lies in memory -/
inductive Rp (w : World) : Ex → It → Prop
  | mk (op num : Int) (text : ByteArray) (args : List Ex) (A : Option Addr) (n c : Nat) (items : List It) (hs : Sl w A n c items) (hl : items.length = args.length) (hnil : A = none → c = 0)
      (hc : ∀ (i : Nat) (x : It) (e : Ex), items[i]? = some x → args[i]? = some e → Rp w e x) : Rp w (.mk op num text args) ⟨op, num, text, A, n, c⟩
theorem Rp.keep {w w' : World} {e : Ex} {x : It} (h : Rp w e x) (hs : w.heap.size ≤ w'.heap.size) (hk : ∀ b o, b < w.heap.size → w'.cell? ⟨b, o, none⟩ = w.cell? ⟨b, o, none⟩) : Rp w' e x := by
  induction h with
  | mk op num text args A n c items hsl hl hnil hc ih => exact .mk op num text args A n c items (hsl.keep hs hk) hl hnil ih
theorem Rp.on {w w' : World} {e : Ex} {x : It} (h : Rp w e x) (hb : Below w.heap.size w w') : Rp w' e x := h.keep hb.size fun _ _ hl => hb.cell (p := ⟨_, _, none⟩) hl
/-- taken apart -/
theorem Rp.inv {w : World} {e : Ex} {x : It} (h : Rp w e x) : ∃ op num text args A n c items, e = .mk op num text args ∧ x = ⟨op, num, text, A, n, c⟩ ∧ Sl w A n c items ∧ items.length = args.length ∧ (A = none → c = 0) ∧ ∀ (i : Nat) (y : It) (a : Ex), items[i]? = some y → args[i]? = some a → Rp w a y := by
  cases h with
  | mk op num text args A n c items hsl hl hnil hc => exact ⟨op, num, text, args, A, n, c, items, rfl, rfl, hsl, hl, hnil, hc⟩
/-- no operands -/
theorem Rp.leaf (w : World) (op num : Int) (text : ByteArray) : Rp w (.mk op num text []) ⟨op, num, text, none, 0, 0⟩ :=
  .mk op num text [] none 0 0 [] (Sl.nil_ w) rfl (fun _ => rfl) (fun i x e h => by simp at h)
/-- one, or two, in a slice -/
theorem Rp.one {w : World} {op num : Int} {text : ByteArray} {A : Option Addr} {c : Nat} {a : Ex} {x : It} (hs : Sl w A 1 c [x]) (hA : A = none → c = 0) (ha : Rp w a x) : Rp w (.mk op num text [a]) ⟨op, num, text, A, 1, c⟩ :=
  .mk op num text [a] A 1 c [x] hs rfl hA (fun i y e h1 h2 => by
    cases i with
    | zero => cases h1; cases h2; exact ha
    | succ i => simp at h1)
theorem Rp.two {w : World} {op num : Int} {text : ByteArray} {A : Option Addr} {c : Nat} {a b : Ex} {x y : It} (hs : Sl w A 2 c [x, y]) (hA : A = none → c = 0) (ha : Rp w a x) (hb : Rp w b y) : Rp w (.mk op num text [a, b]) ⟨op, num, text, A, 2, c⟩ :=
  .mk op num text [a, b] A 2 c [x, y] hs rfl hA (fun i z e h1 h2 => by
    match i with
    | 0 => cases h1; cases h2; exact ha
    | 1 => cases h1; cases h2; exact hb
    | i + 2 => simp at h1)

/-- the cells of one operand, and what they lead to -/
theorem Rp.arg {w : World} {op num : Int} {text : ByteArray} {args : List Ex} {x : It} (h : Rp w (.mk op num text args) x) {i : Nat} {a : Ex} (ha : args[i]? = some a) : ∃ b off y, x.A = some ⟨b, off, none⟩ ∧ b < w.heap.size ∧ x.n = args.length ∧ Rp w a y ∧
    w.cell? ⟨b, off + i * 4, none⟩ = some (.int .i64 y.op) ∧ w.cell? ⟨b, off + i * 4 + 1, none⟩ = some (.int .i64 y.num) ∧ w.cell? ⟨b, off + i * 4 + 2, none⟩ = some (.string y.text) ∧ w.cell? ⟨b, off + i * 4 + 3, none⟩ = some (.slice y.A y.n y.c) := by
  obtain ⟨op', num', text', args', A, n, c, items, he, rfl, hsl, hl, hnil, hc⟩ := h.inv
  cases he
  have hi := (List.getElem?_eq_some_iff.1 ha).1
  have hin : i < items.length := by omega
  have hy := List.getElem?_eq_getElem hin
  have hnl := hsl.len
  obtain ⟨b, off, e, hb, hcell⟩ := hsl.base (by omega)
  exact ⟨b, off, items[i], e, hb, by dsimp only; omega, hc i _ _ hy ha, hcell i _ hy 0 _ rfl, hcell i _ hy 1 _ rfl, hcell i _ hy 2 _ rfl, hcell i _ hy 3 _ rfl⟩
/-- the first operand, and the second one, at the addresses that a walk reckons -/
theorem Rp.arg0 {w : World} {op num : Int} {text : ByteArray} {a : Ex} {l : List Ex} {x : It} (h : Rp w (.mk op num text (a :: l)) x) : ∃ b off y, x.A = some ⟨b, off, none⟩ ∧ b < w.heap.size ∧ x.n = l.length + 1 ∧ Rp w a y ∧
    w.cell? ⟨b, off, none⟩ = some (.int .i64 y.op) ∧ w.cell? ⟨b, off + 1, none⟩ = some (.int .i64 y.num) ∧ w.cell? ⟨b, off + 2, none⟩ = some (.string y.text) ∧ w.cell? ⟨b, off + 3, none⟩ = some (.slice y.A y.n y.c) := by
  obtain ⟨b, off, y, h1, h2, h3, h4, h5, h6, h7, h8⟩ := h.arg (i := 0) rfl
  rw [Nat.zero_mul] at h5 h6 h7 h8
  exact ⟨b, off, y, h1, h2, h3, h4, h5, h6, h7, h8⟩
theorem Rp.arg1 {w : World} {op num : Int} {text : ByteArray} {a a2 : Ex} {l : List Ex} {x : It} {b off : Nat} (h : Rp w (.mk op num text (a :: a2 :: l)) x) (hA : x.A = some ⟨b, off, none⟩) : ∃ y, Rp w a2 y ∧
    w.cell? ⟨b, off + 4, none⟩ = some (.int .i64 y.op) ∧ w.cell? ⟨b, off + 4 + 1, none⟩ = some (.int .i64 y.num) ∧ w.cell? ⟨b, off + 4 + 2, none⟩ = some (.string y.text) ∧ w.cell? ⟨b, off + 4 + 3, none⟩ = some (.slice y.A y.n y.c) := by
  obtain ⟨b', off', y, h1, h2, h3, h4, h5, h6, h7, h8⟩ := h.arg (i := 1) rfl
  rw [hA] at h1
  injection h1 with h1
  injection h1 with h1 h1'
  subst h1 h1'
  rw [Nat.one_mul] at h5 h6 h7 h8
  exact ⟨y, h4, h5, h6, h7, h8⟩
theorem Rp.len {w : World} {e : Ex} {x : It} (h : Rp w e x) : x.n = e.args.length ∧ x.op = e.op ∧ x.num = e.num ∧ x.text = e.text := by
  obtain ⟨op, num, text, args, A, n, c, items, rfl, rfl, hsl, hl, _, _⟩ := h.inv
  exact ⟨by have := hsl.len; dsimp only [Ex.args]; omega, rfl, rfl, rfl⟩

end Xp
end Go.Proofs.Ytdnnnajohdohaaa
