/-
  Expressions: trees, their sorts and values, in plain words. No condition.
-/
import GoSem.Op.String
import Derived.Lib.Strings
set_option linter.unusedVariables false
set_option linter.unusedSimpArgs false
namespace Go.Proofs.Ytdnnnajohdohaaa
namespace Xp
open Go.Op (bytesLess)

inductive Ex where
  | mk (op num : Int) (text : ByteArray) (args : List Ex)
def Ex.op : Ex → Int | .mk op _ _ _ => op
def Ex.num : Ex → Int | .mk _ n _ _ => n
def Ex.text : Ex → ByteArray | .mk _ _ t _ => t
def Ex.args : Ex → List Ex | .mk _ _ _ a => a

def nKind : ByteArray := ⟨#[107, 105, 110, 100]⟩
def nUnits : ByteArray := ⟨#[117, 110, 105, 116, 115]⟩
def nWeekday : ByteArray := ⟨#[119, 101, 101, 107, 100, 97, 121]⟩
def nMinute : ByteArray := ⟨#[109, 105, 110, 117, 116, 101]⟩
def nTotal : ByteArray := ⟨#[116, 111, 116, 97, 108]⟩
def nSpent : ByteArray := ⟨#[115, 112, 101, 110, 116]⟩
def nZone : ByteArray := ⟨#[122, 111, 110, 101]⟩
def nBand : ByteArray := ⟨#[98, 97, 110, 100]⟩
def nFamily : ByteArray := ⟨#[102, 97, 109, 105, 108, 121]⟩

/-- the sort of an attribute; 0: there is none -/
def attrSort (t : ByteArray) : Int :=
  if t = nKind ∨ t = nUnits ∨ t = nWeekday ∨ t = nMinute ∨ t = nTotal ∨ t = nSpent then 1 else if t = nZone ∨ t = nBand then 2 else if t = nFamily then 3 else 0
def arity (op : Int) : Int := if 1 ≤ op ∧ op ≤ 3 then 0 else if op = 4 then 1 else if 4 < op ∧ op < 16 then 2 else -1
def combOk (op a b : Int) : Bool :=
  if op = 4 then decide (a = 3) else if op = 5 ∨ op = 6 then decide (a = 3 ∧ b = 3) else if op = 7 ∨ op = 8 then decide (a = b ∧ a ≠ 3) else decide (a = 1 ∧ b = 1)
def comb (op a b : Int) : Int × Int := if combOk op a b = true then (if 4 ≤ op ∧ op ≤ 10 then 3 else 1, 0) else (0, 7)
def leaf (op num : Int) (text : ByteArray) : Int × Int :=
  if op = 1 then (if 0 ≤ num ∧ num ≤ 1099511627776 then (1, 0) else (0, 6)) else if op = 2 then (if 200 < text.size then (0, 5) else (2, 0)) else (if attrSort text ≠ 0 then (attrSort text, 0) else (0, 11))
def un (op : Int) (p : Int × Int) : Int × Int := if p.2 ≠ 0 then (0, p.2) else comb op p.1 0
def bin (op : Int) (p q : Int × Int) : Int × Int := if p.2 ≠ 0 then (0, p.2) else if q.2 ≠ 0 then (0, q.2) else comb op p.1 q.1
def nodeS (op num : Int) (text : ByteArray) : List (Int × Int) → Int × Int
  | [] => leaf op num text
  | [p] => un op p
  | p :: q :: _ => bin op p q
/-- the sort and the error, with so many levels left -/
def srt : Nat → Ex → Int × Int
  | 0, _ => (0, 24)
  | d + 1, .mk op num text args => if arity op ≠ (args.length : Int) then (0, 7) else nodeS op num text (args.map (srt d))

theorem attr_pos {t : ByteArray} (h : attrSort t ≠ 0) : attrSort t = 1 ∨ attrSort t = 2 ∨ attrSort t = 3 := by
  unfold attrSort at *
  split
  · exact .inl rfl
  · split
    · exact .inr (.inl rfl)
    · split
      · exact .inr (.inr rfl)
      · simp_all
theorem comb_res (op a b : Int) : (comb op a b).2 = 0 ∧ ((comb op a b).1 = 1 ∨ (comb op a b).1 = 3) ∨ (comb op a b) = (0, 7) := by
  unfold comb
  split
  · split <;> simp
  · simp
/-- a sort is one of three, or there is an error and the sort is 0 -/
theorem srt_res : ∀ (d : Nat) (e : Ex), ((srt d e).2 = 0 ∧ ((srt d e).1 = 1 ∨ (srt d e).1 = 2 ∨ (srt d e).1 = 3)) ∨ ((srt d e).2 ≠ 0 ∧ (srt d e).1 = 0)
  | 0, _ => by simp [srt]
  | d + 1, .mk op num text args => by
    rw [srt.eq_2]
    split
    · simp
    · match args with
      | [] =>
        simp only [List.map_nil, nodeS, leaf]
        split
        · split <;> simp
        · split
          · split <;> simp
          · split
            · rename_i h; have := attr_pos h; simp; omega
            · simp
      | [a] =>
        simp only [List.map_cons, List.map_nil, nodeS, un]
        split
        · rename_i h; simp [h]
        · rcases comb_res op (srt d a).1 0 with h | h
          · left; omega
          · rw [h]; simp
      | a :: b :: _ =>
        simp only [List.map_cons, nodeS, bin]
        split
        · rename_i h; simp [h]
        · split
          · rename_i h; simp [h]
          · rcases comb_res op (srt d a).1 (srt d b).1 with h | h
            · left; omega
            · rw [h]; simp
theorem srt_succ (d : Nat) : ∀ (e : Ex), (srt d e).2 = 0 → srt (d + 1) e = srt d e := by
  induction d with
  | zero => intro e h; simp [srt] at h
  | succ d ih =>
    intro e h
    obtain ⟨op, num, text, args⟩ := e
    rw [srt.eq_2] at h ⊢
    rw [srt.eq_2]
    split
    · rfl
    · rename_i ha
      rw [if_neg ha] at h
      match args with
      | [] => rfl
      | [a] =>
        simp only [List.map_cons, List.map_nil, nodeS, un] at h ⊢
        by_cases h1 : (srt d a).2 = 0
        · rw [ih a h1]
        · rw [if_pos h1] at h; exact absurd h h1
      | a :: b :: _ =>
        simp only [List.map_cons, nodeS, bin] at h ⊢
        by_cases h1 : (srt d a).2 = 0
        · by_cases h2 : (srt d b).2 = 0
          · rw [ih a h1, ih b h2]
          · rw [if_neg (by simpa using h1), if_pos h2] at h; exact absurd h h2
        · rw [if_pos h1] at h; exact absurd h h1
theorem srt_mono {d k : Nat} (e : Ex) (h : (srt d e).2 = 0) (hk : d ≤ k) : srt k e = srt d e := by
  induction k with
  | zero =>
    obtain rfl : d = 0 := by omega
    rfl
  | succ k ih =>
    by_cases hd : d = k + 1
    · rw [hd]
    · have h1 := ih (by omega)
      rw [srt_succ k e (by rw [h1]; exact h), h1]

/-! ### what a valid expression is -/
theorem arity_args {d : Nat} {op num : Int} {text : ByteArray} {args : List Ex} (h : (srt (d + 1) (.mk op num text args)).2 = 0) :
    (args = [] ∧ (op = 1 ∨ op = 2 ∨ op = 3)) ∨ (∃ a, args = [a] ∧ op = 4 ∧ srt d a = (3, 0)) ∨ (∃ a b, args = [a, b] ∧ 5 ≤ op ∧ op ≤ 15 ∧ (srt d a).2 = 0 ∧ (srt d b).2 = 0 ∧ combOk op (srt d a).1 (srt d b).1 = true) := by
  rw [srt.eq_2] at h
  split at h
  · simp at h
  · rename_i ha
    have ha : arity op = (args.length : Int) := by simpa using ha
    unfold arity at ha
    match args, ha, h with
    | [], ha, _ =>
      refine .inl ⟨rfl, ?_⟩
      split at ha
      · omega
      · split at ha
        · simp at ha
        · split at ha <;> simp at ha
    | [a], ha, h =>
      refine .inr (.inl ⟨a, rfl, ?_⟩)
      have h4 : op = 4 := by
        split at ha
        · simp at ha
        · split at ha
          · assumption
          · split at ha <;> simp at ha
      subst h4
      refine ⟨rfl, ?_⟩
      simp only [List.map_cons, List.map_nil, nodeS, un] at h
      split at h
      · rename_i h1; exact absurd h h1
      · rename_i h1
        have h1 : (srt d a).2 = 0 := by simpa using h1
        unfold comb combOk at h
        by_cases h3 : (srt d a).1 = 3
        · rw [← h3, ← h1]
        · simp [h3] at h
    | [a, b], ha, h =>
      refine .inr (.inr ⟨a, b, rfl, ?_⟩)
      have hop : 5 ≤ op ∧ op ≤ 15 := by
        split at ha
        · simp at ha
        · split at ha
          · simp at ha
          · split at ha
            · omega
            · simp at ha
      refine ⟨hop.1, hop.2, ?_⟩
      simp only [List.map_cons, nodeS, bin] at h
      split at h
      · rename_i h1; exact absurd h h1
      · rename_i h1
        split at h
        · rename_i h2; exact absurd h h2
        · rename_i h2
          refine ⟨by simpa using h1, by simpa using h2, ?_⟩
          unfold comb at h
          split at h
          · assumption
          · simp at h
    | a :: b :: c :: l, ha, _ =>
      exfalso
      simp only [List.length_cons] at ha
      split at ha
      · omega
      · split at ha
        · omega
        · split at ha <;> omega
theorem srt_leaf {d : Nat} {op num : Int} {text : ByteArray} (h : op = 1 ∨ op = 2 ∨ op = 3) : srt (d + 1) (.mk op num text []) = leaf op num text := by
  rw [srt.eq_2, if_neg]
  · rfl
  · rcases h with rfl | rfl | rfl <;> simp [arity]
theorem srt_not {d : Nat} {num : Int} {text : ByteArray} {a : Ex} : srt (d + 1) (.mk 4 num text [a]) = un 4 (srt d a) := by
  rw [srt.eq_2, if_neg]
  · rfl
  · simp [arity]
theorem srt_bin {d : Nat} {op num : Int} {text : ByteArray} {a b : Ex} (h : 5 ≤ op ∧ op ≤ 15) : srt (d + 1) (.mk op num text [a, b]) = bin op (srt d a) (srt d b) := by
  rw [srt.eq_2, if_neg]
  · rfl
  · unfold arity
    rw [if_neg (by omega), if_neg (by omega), if_pos (by omega)]; simp

/-! ### values -/
structure Env where
  kind : Int
  units : Int
  weekday : Int
  minute : Int
  total : Int
  spent : Int
  zone : ByteArray
  band : ByteArray
  family : Bool
def lim : Int := 4611686018427387904
def rng (n : Int) : Option Int := if n < -lim ∨ lim < n then none else some n
def attrV (v : Env) (t : ByteArray) : Int :=
  if t = nKind then v.kind else if t = nUnits then v.units else if t = nWeekday then v.weekday else if t = nMinute then v.minute else if t = nTotal then v.total else v.spent
def addE (x y : Int) : Option Int := rng (x + y)
def mulE (x y : Int) : Option Int := rng (x * y)
def arith (op x y : Int) : Option Int :=
  if op = 11 then addE x y else if op = 12 then addE x (-y) else if op = 13 then mulE x y else if y = 0 then none else if op = 14 then rng (x.tdiv y) else rng (x.tmod y)
def both (op : Int) : Option Int → Option Int → Option Int
  | some x, some y => arith op x y
  | _, _ => none
def nodeN (op : Int) : List (Option Int) → Option Int
  | p :: q :: _ => both op p q
  | _ => none
def numE (v : Env) : Nat → Ex → Option Int
  | 0, _ => none
  | d + 1, .mk op num text args => if op = 1 then rng num else if op = 3 then rng (attrV v text) else nodeN op (args.map (numE v d))
def txtE (v : Env) (e : Ex) : ByteArray := if e.op = 2 then e.text else if e.text = nZone then v.zone else v.band
def ordT (a b : List UInt8) : Int := if bytesLess a b = true then -1 else if bytesLess b a = true then 1 else 0
def ordI (a b : Int) : Int := if a < b then -1 else if b < a then 1 else 0
def test (op n : Int) : Bool := if op = 7 then decide (n = 0) else if op = 8 then decide (n ≠ 0) else if op = 9 then decide (n < 0) else decide (n ≤ 0)
/-- the order of the operands of a comparison, if they have values -/
def ordE (v : Env) (d : Nat) (a b : Ex) : Option Int :=
  if (srt 16 a).1 = 2 then some (ordT (txtE v a).data.toList (txtE v b).data.toList) else
    match numE v d a, numE v d b with
    | some x, some y => some (ordI x y)
    | _, _ => none
def cmpE (v : Env) (d : Nat) (op : Int) (a b : Ex) : Bool := match ordE v d a b with | some n => test op n | none => false
def cmpL (v : Env) (d : Nat) (op : Int) : List Ex → Bool
  | a :: b :: _ => cmpE v d op a b
  | _ => false
def nodeH (op : Int) (c : Bool) : List Bool → Bool
  | [p] => !p
  | p :: q :: _ => if op = 5 then p && q else if op = 6 then p || q else c
  | _ => false
def holE (v : Env) : Nat → Ex → Bool
  | 0, _ => false
  | d + 1, .mk op num text args => if op = 3 then v.family else nodeH op (cmpL v d op args) (args.map (holE v d))

theorem rng_bd {n x : Int} (h : rng n = some x) : x = n ∧ -lim ≤ x ∧ x ≤ lim := by
  unfold rng at h
  split at h
  · simp at h
  · injection h with h; subst h; omega
theorem numE_bd {v : Env} : ∀ {d : Nat} {e : Ex} {x : Int}, numE v d e = some x → -lim ≤ x ∧ x ≤ lim
  | 0, _, _, h => by simp [numE] at h
  | d + 1, .mk op num text args, x, h => by
    rw [numE.eq_2] at h
    split at h
    · have := rng_bd h; omega
    · split at h
      · have := rng_bd h; omega
      · unfold nodeN at h
        split at h
        · unfold both at h
          split at h
          · unfold arith addE mulE at h
            split at h
            · have := rng_bd h; omega
            · split at h
              · have := rng_bd h; omega
              · split at h
                · have := rng_bd h; omega
                · split at h
                  · simp at h
                  · split at h <;> (have := rng_bd h; omega)
          · simp at h
        · simp at h

end Xp
end Go.Proofs.Ytdnnnajohdohaaa
