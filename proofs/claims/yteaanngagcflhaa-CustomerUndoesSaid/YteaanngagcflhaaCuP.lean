/-
  Customers in plain words: events, what the reference's book holds, what the program's world holds. No condition.
-/
import Derived.Test.YteaanngagcflhaaCom
import Derived.Test.YteaanngagcflhaaDigP
set_option maxRecDepth 100000
set_option linter.unusedVariables false
set_option linter.unusedSimpArgs false
namespace Go.Proofs.Yteaanngagcflhaa
open Go Go.RowKit
namespace Cu
structure Ev where
  at_ : Int
  kind : Int
  acc : Int
  sub : Int
  num : ByteArray
  name : ByteArray
  val : Int
instance : Flat Ev where
  sz := 7
  cells x := [.int .i64 x.at_, .int .i64 x.kind, .int .i64 x.acc, .int .i64 x.sub, .string x.num, .string x.name, .int .i64 x.val]
  len x := rfl
  one x := by intro v hv; simp at hv; rcases hv with rfl | rfl | rfl | rfl | rfl | rfl | rfl <;> rfl
  pos := by decide
def Ev.v (x : Ev) : Value := .agg #[.int .i64 x.at_, .int .i64 x.kind, .int .i64 x.acc, .int .i64 x.sub, .string x.num, .string x.name, .int .i64 x.val]
structure Ac where
  id : Int
  since : Int
  anchor : Int
  prepaid : Bool
  closed : Bool
structure Sb where
  id : Int
  acc : Int
  since : Int
  plan : ByteArray
  nums : List ByteArray
  prods : List ByteArray
  susp : Bool
  fam : Bool
structure Bk where
  accs : List Ac
  subs : List Sb
  ended : List Int
/-! ### an event by itself -/
def seq_ (a b : ByteArray) : Bool := a.toList == b.toList
def uA (k : Int) : Bool := k == 1 || k == 2 || k == 3 || k == 14 || k == 15
def uS (k : Int) : Bool := !(k == 1 || k == 2 || k == 14 || k == 15)
def uN (k : Int) : Bool := k == 5 || k == 6
def uM (k : Int) : Bool := k == 1 || k == 3 || k == 7 || k == 8 || k == 9
def uV (k : Int) : Bool := k == 1 || k == 14 || k == 15
def nmC (c : UInt8) : Bool := (decide (97 ≤ c.toNat) && decide (c.toNat ≤ 122)) || (decide (48 ≤ c.toNat) && decide (c.toNat ≤ 57)) || c.toNat == 45
def nmB (l : List UInt8) : Bool := match l with
  | [] => false
  | c :: r => decide (l.length ≤ 24) && (decide (97 ≤ c.toNat) && decide (c.toNat ≤ 122)) && r.all nmC
def idB (n : Int) : Bool := decide (1 ≤ n) && decide (n ≤ 9999)
def valB (k v : Int) : Bool := if k = 1 then decide (1 ≤ v) && decide (v ≤ 28) else if k = 14 then decide (1 ≤ v) && decide (v ≤ 1125899906842624) else decide (-1125899906842624 ≤ v) && decide (v ≤ 0)
def nPre : ByteArray := ⟨#[112, 114, 101, 112, 97, 105, 100]⟩
def nPost : ByteArray := ⟨#[112, 111, 115, 116, 112, 97, 105, 100]⟩
def nEmpty : ByteArray := ⟨#[]⟩
def fldBad (e : Ev) : Bool := (!uA e.kind && e.acc != 0) || (!uS e.kind && e.sub != 0) || (!uN e.kind && !seq_ e.num nEmpty) || (!uM e.kind && !seq_ e.name nEmpty) || (!uV e.kind && e.val != 0)
def idBad (e : Ev) : Bool := (uA e.kind && !idB e.acc) || (uS e.kind && !idB e.sub)
def nameBad (e : Ev) : Bool := (uM e.kind && !nmB e.name.data.toList) || (e.kind == 1 && !seq_ e.name nPre && !seq_ e.name nPost)
def formT (e : Ev) : Int := if fldBad e = true then 8 else if idBad e = true then 6 else if nameBad e = true then 8 else if (uN e.kind && !Dg.valid e.num.data.toList) = true then 12 else if (uV e.kind && !valB e.kind e.val) = true then 6 else 0
def formR (e : Ev) (last : Int) : Int := if e.kind < 1 ∨ 15 < e.kind then 7 else if e.at_ < 0 ∨ 12622780800 ≤ e.at_ then 15 else if e.at_ < last then 9 else formT e
def formP (e : Ev) : Int := if e.kind < 1 ∨ 16 ≤ e.kind then 7 else if e.at_ < 0 ∨ 12622780800 ≤ e.at_ then 15 else formT e
theorem form_eq (e : Ev) (last : Int) : (if formP e ≠ 7 ∧ formP e ≠ 15 ∧ e.at_ < last then 9 else formP e) = formR e last := by
  unfold formP formR
  by_cases h1 : e.kind < 1 ∨ 16 ≤ e.kind
  · have h1' : e.kind < 1 ∨ 15 < e.kind := by omega
    rw [if_pos h1, if_pos h1']; simp
  · have h1' : ¬ (e.kind < 1 ∨ 15 < e.kind) := by omega
    rw [if_neg h1, if_neg h1']
    by_cases h2 : e.at_ < 0 ∨ 12622780800 ≤ e.at_
    · rw [if_pos h2, if_pos h2]; simp
    · rw [if_neg h2, if_neg h2]
      by_cases h3 : e.at_ < last
      · rw [if_pos h3, if_pos]
        refine ⟨?_, ?_, h3⟩ <;> (unfold formT; repeat' split) <;> decide
      · rw [if_neg h3, if_neg (fun h => h3 h.2.2)]
theorem form_first (e : Ev) : formP e = formR e 0 := by
  unfold formP formR
  by_cases h1 : e.kind < 1 ∨ 16 ≤ e.kind
  · have h1' : e.kind < 1 ∨ 15 < e.kind := by omega
    rw [if_pos h1, if_pos h1']
  · have h1' : ¬ (e.kind < 1 ∨ 15 < e.kind) := by omega
    rw [if_neg h1, if_neg h1']
    by_cases h2 : e.at_ < 0 ∨ 12622780800 ≤ e.at_
    · rw [if_pos h2, if_pos h2]
    · rw [if_neg h2, if_neg h2, if_neg (by omega)]
/-! ### lists in ascending order -/
def insS (l : List ByteArray) (x : ByteArray) : List ByteArray := match l with
  | [] => [x]
  | y :: l => if Op.bytesLess y.toList x.toList = true then y :: insS l x else x :: y :: l
def insI (l : List Int) (x : Int) : List Int := match l with
  | [] => [x]
  | y :: l => if y < x then y :: insI l x else x :: y :: l
def remS (l : List ByteArray) (x : ByteArray) : List ByteArray := l.filter fun y => !seq_ y x
def hasS (l : List ByteArray) (x : ByteArray) : Bool := l.any fun y => seq_ y x
/-! ### the reference's book -/
def findA (b : Bk) (n : Int) : Option Ac := b.accs.find? fun a => a.id == n
def findS (b : Bk) (n : Int) : Option Sb := b.subs.find? fun s => s.id == n
def endedB (b : Bk) (n : Int) : Bool := b.ended.any fun x => x == n
def takenB (b : Bk) (x : ByteArray) : Bool := b.subs.any fun s => hasS s.nums x
def busyB (b : Bk) (n : Int) : Bool := b.subs.any fun s => s.acc == n && !endedB b s.id
def ofAcc (b : Bk) (e : Ev) : Int := match findA b e.acc with
  | none => if e.kind = 1 then 0 else 11
  | some a => if e.kind = 1 then 10 else if a.closed = true then 17 else if e.kind = 3 ∧ (findS b e.sub).isSome = true then 10 else if (e.kind = 2 ∧ busyB b e.acc = true) ∨ (13 < e.kind ∧ a.prepaid = false) then 22 else 0
def ofSub (b : Bk) (e : Ev) : Int := match findS b e.sub with
  | none => 11
  | some s => if endedB b e.sub = true then 17 else
    if e.kind = 5 then (if takenB b e.num = true then 12 else 0) else
    if e.kind = 6 then (if hasS s.nums e.num = true then 0 else 12) else
    if e.kind = 8 then (if hasS s.prods e.name = true then 10 else 0) else
    if e.kind = 9 then (if hasS s.prods e.name = true then 0 else 11) else
    if e.kind = 10 ∨ e.kind = 11 then (if s.susp = decide (e.kind = 10) then 22 else 0) else
    if e.kind = 12 ∨ e.kind = 13 then (if s.fam = decide (e.kind = 12) then 22 else 0) else 0
def faultR (b : Bk) (e : Ev) (last : Int) : Int := if formR e last ≠ 0 then formR e last else if uA e.kind = true then ofAcc b e else ofSub b e
def chgR (s : Sb) (e : Ev) : Sb :=
  if e.kind = 4 then { s with nums := [], prods := [] } else
  if e.kind = 5 then { s with nums := insS s.nums e.num } else
  if e.kind = 6 then { s with nums := remS s.nums e.num } else
  if e.kind = 7 then { s with plan := e.name } else
  if e.kind = 8 then { s with prods := insS s.prods e.name } else
  if e.kind = 9 then { s with prods := remS s.prods e.name } else
  if e.kind = 10 then { s with susp := true } else
  if e.kind = 11 then { s with susp := false } else
  if e.kind = 12 then { s with fam := true } else
  if e.kind = 13 then { s with fam := false } else s
def mapFirst {α : Type} (p : α → Bool) (f : α → α) : List α → List α
  | [] => []
  | x :: l => if p x = true then f x :: l else x :: mapFirst p f l
def applyR (b : Bk) (e : Ev) : Bk :=
  if e.kind = 1 then { b with accs := b.accs ++ [⟨e.acc, e.at_, e.val, seq_ e.name nPre, false⟩] } else
  if e.kind = 2 then { b with accs := mapFirst (fun a => a.id == e.acc) (fun a => { a with closed := true }) b.accs } else
  if e.kind = 3 then { b with subs := b.subs ++ [⟨e.sub, e.acc, e.at_, e.name, [], [], false, false⟩] } else
  if e.kind = 14 ∨ e.kind = 15 then b else
  { b with subs := mapFirst (fun s => s.id == e.sub) (fun s => chgR s e) b.subs, ended := if e.kind = 4 then b.ended ++ [e.sub] else b.ended }
/-! ### the program's world -/
structure St where
  acc : Int → Option Ac
  sub : Int → Option Sb
  ever : Int → Bool
  own : List UInt8 → Option Int
  live : Int → Int
  opened : List Int
  added : List Int
def st0 : St := ⟨fun _ => none, fun _ => none, fun _ => false, fun _ => none, fun _ => 0, [], []⟩
def upd {κ α : Type} [DecidableEq κ] (f : κ → α) (k : κ) (v : α) : κ → α := fun x => if x = k then v else f x
def accP (s : St) (e : Ev) : Int := match s.acc e.acc with
  | none => 11
  | some a => if a.closed = true then 17 else if e.kind = 2 ∧ 0 < s.live e.acc then 22 else if (e.kind = 14 ∨ e.kind = 15) ∧ a.prepaid = false then 22 else if e.kind = 3 ∧ s.ever e.sub = true then 10 else 0
def chgE (sb : Sb) (k : Int) : Int :=
  if (k = 10 ∧ sb.susp = true) ∨ (k = 11 ∧ sb.susp = false) ∨ (k = 12 ∧ sb.fam = true) ∨ (k = 13 ∧ sb.fam = false) then 22 else 0
def checkP (s : St) (e : Ev) : Int :=
  if e.kind = 1 then (if (s.acc e.acc).isSome = true then 10 else 0) else
  if e.kind = 2 ∨ e.kind = 14 ∨ e.kind = 15 ∨ e.kind = 3 then accP s e else
  match s.sub e.sub with
  | none => if s.ever e.sub = true then 17 else 11
  | some sb =>
    if e.kind = 5 then (if (s.own e.num.toList).isSome = true then 12 else 0) else
    if e.kind = 6 then (if s.own e.num.toList = some e.sub then 0 else 12) else
    if e.kind = 8 then (if hasS sb.prods e.name = true then 10 else 0) else
    if e.kind = 9 then (if hasS sb.prods e.name = true then 0 else 11) else chgE sb e.kind
def chgS (sb : Sb) (e : Ev) : Sb :=
  if e.kind = 5 then { sb with nums := insS sb.nums e.num } else
  if e.kind = 6 then { sb with nums := remS sb.nums e.num } else
  if e.kind = 7 then { sb with plan := e.name } else
  if e.kind = 8 then { sb with prods := insS sb.prods e.name } else
  if e.kind = 9 then { sb with prods := remS sb.prods e.name } else
  if e.kind = 10 then { sb with susp := true } else
  if e.kind = 11 then { sb with susp := false } else
  if e.kind = 12 then { sb with fam := true } else
  if e.kind = 13 then { sb with fam := false } else sb
def ac0 : Ac := ⟨0, 0, 0, false, false⟩
def sb0 : Sb := ⟨0, 0, 0, nEmpty, [], [], false, false⟩
def delAll (f : List UInt8 → Option Int) (l : List ByteArray) : List UInt8 → Option Int := fun x => if l.any (fun y => y.toList == x) = true then none else f x
def applyP (s : St) (e : Ev) : St :=
  if e.kind = 1 then { s with acc := upd s.acc e.acc (some ⟨e.acc, e.at_, e.val, seq_ e.name nPre, false⟩), opened := if (s.acc e.acc).isSome = true then s.opened else insI s.opened e.acc } else
  if e.kind = 2 then { s with acc := upd s.acc e.acc (some { (s.acc e.acc).getD ac0 with closed := true }) } else
  if e.kind = 3 then { s with added := if s.ever e.sub = true then s.added else insI s.added e.sub, ever := upd s.ever e.sub true, live := upd s.live e.acc (s.live e.acc + 1), sub := upd s.sub e.sub (some ⟨e.sub, e.acc, e.at_, e.name, [], [], false, false⟩) } else
  if e.kind = 4 then { s with own := delAll s.own ((s.sub e.sub).getD sb0).nums, live := upd s.live ((s.sub e.sub).getD sb0).acc (s.live ((s.sub e.sub).getD sb0).acc - 1), sub := upd s.sub e.sub none } else
  if e.kind = 14 ∨ e.kind = 15 then s else
  match s.sub e.sub with
  | none => s
  | some sb => { s with sub := upd s.sub e.sub (some (chgS sb e)), own := if e.kind = 5 then upd s.own e.num.toList (some e.sub) else if e.kind = 6 then upd s.own e.num.toList none else s.own }
end Cu
end Go.Proofs.Yteaanngagcflhaa
