/-
  Disputes: plain words; small functions. No condition.
-/
import Derived.Test.YthidlakkpdbeaaaRow
import Derived.Test.YthidlakkpdbeaaaComB
import Derived.Test.YthidlakkpdbeaaaChecked
import Derived.BigQuiet
import Derived.StillTailTactics
import Derived.Lib.Overlaps
import Derived.Deep.DeepCutAuto
import Derived.Deep.RegionWith
import Derived.Laws.Rows
set_option maxRecDepth 100000
set_option linter.unusedVariables false
set_option linter.unusedSimpArgs false
namespace Go.Proofs.Ythidlakkpdbeaaa
open Go.RowKit

namespace Dp
structure Dsp where
  id : Int
  acc : Int
  use : Int
  amt : Int
  st : Int
  cr : Int
  at_ : Int
instance : Flat Dsp where
  sz := 7
  pos := by decide
  cells d := [.int .i64 d.id, .int .i64 d.acc, .int .i64 d.use, .int .i64 d.amt, .int .i64 d.st, .int .i64 d.cr, .int .i64 d.at_]
  len _ := rfl
  one _ := by simp [Value.oneCell']
instance : DecidableEq Dsp := fun a b => if h : a.id = b.id ∧ a.acc = b.acc ∧ a.use = b.use ∧ a.amt = b.amt ∧ a.st = b.st ∧ a.cr = b.cr ∧ a.at_ = b.at_ then .isTrue (by obtain ⟨h1, h2, h3, h4, h5, h6, h7⟩ := h; cases a; cases b; cases h1; cases h2; cases h3; cases h4; cases h5; cases h6; cases h7; rfl) else .isFalse (fun e => h (by rw [e]; exact ⟨rfl, rfl, rfl, rfl, rfl, rfl, rfl⟩))
def Dsp.val (d : Dsp) : Value := .agg #[.int .i64 d.id, .int .i64 d.acc, .int .i64 d.use, .int .i64 d.amt, .int .i64 d.st, .int .i64 d.cr, .int .i64 d.at_]
theorem info_dsp : (Try.prog.info? 24).map (fun i => (i.zero, i.size, i.bytes)) = some (some (.agg #[.int .i64 0, .int .i64 0, .int .i64 0, .int .i64 0, .int .i64 0, .int .i64 0, .int .i64 0]), 7, 56) := by kernel_rfl
/-- the numbers of a dispute are in their ranges -/
def numB (d : Dsp) : Bool := decide (1 ≤ d.id) && decide (d.id ≤ 999999999) && decide (1 ≤ d.acc) && decide (d.acc ≤ 9999) && decide (1 ≤ d.use) && decide (1 ≤ d.amt) && decide (d.amt ≤ 1125899906842624)
theorem numB_iff {d : Dsp} : numB d = true ↔ 1 ≤ d.id ∧ d.id ≤ 999999999 ∧ 1 ≤ d.acc ∧ d.acc ≤ 9999 ∧ 1 ≤ d.use ∧ 1 ≤ d.amt ∧ d.amt ≤ 1125899906842624 := by simp [numB, and_assoc]
def insB (t : Int) : Bool := decide (0 ≤ t) && decide (t < 12622780800)
theorem insB_iff {t : Int} : insB t = true ↔ 0 ≤ t ∧ t < 12622780800 := by simp [insB]
def propB (d : Dsp) : Bool := numB d && insB d.at_ && (if d.st = 1 ∨ d.st = 3 then decide (d.cr = 0) else if d.st = 2 then decide (1 ≤ d.cr) && decide (d.cr ≤ d.amt) else false)
/-- is there an open dispute about a usage -/
def dispB (ds : List Dsp) (u : Int) : Bool := ds.any fun d => decide (d.st = 1) && decide (d.use = u)
/-- a list is valid -/
def Vd (ds : List Dsp) : Prop := ∀ i d, ds[i]? = some d → propB d = true ∧ (∀ p, 0 < i → ds[i - 1]? = some p → p.id < d.id) ∧ (d.st = 1 → dispB (ds.take i) d.use = false)
end Dp
end Go.Proofs.Ythidlakkpdbeaaa
