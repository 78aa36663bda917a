/-
  Tariffs: the cells of a tariff; both rated. No condition.
-/
import Derived.Test.YtdnnnajohdohaaaCkA
import Derived.Test.YtdnnnajohdohaaaExD
import Derived.BigQuiet
import Derived.StillTailTactics
import Derived.Lib.Overlaps
import Derived.Deep.DeepCutAuto
import Derived.Deep.RegionWith
import Derived.Laws.RangeAny
set_option maxRecDepth 100000
set_option linter.unusedVariables false
set_option linter.unusedSimpArgs false
namespace Go.Proofs.Ytdnnnajohdohaaa
open Go.RowKit

namespace Cv
open Xp Ck
structure Nm where
  name : ByteArray
  A : Option Addr
  n : Nat
  c : Nat
instance : Flat Nm where
  sz := 2
  pos := by decide
  cells x := [.string x.name, .slice x.A x.n x.c]
  len _ := rfl
  one _ := by simp [Value.oneCell']
structure Rt where
  kind : Int
  zone : ByteArray
  band : ByteArray
  setup : Int
  A : Option Addr
  n : Nat
  c : Nat
instance : Flat Rt where
  sz := 5
  pos := by decide
  cells r := [.int .i64 r.kind, .string r.zone, .string r.band, .int .i64 r.setup, .slice r.A r.n r.c]
  len _ := rfl
  one _ := by simp [Value.oneCell']
structure Dq where
  name : ByteArray
  it : It
  pts : Int
instance : Flat Dq where
  sz := 6
  pos := by decide
  cells d := [.string d.name, .int .i64 d.it.op, .int .i64 d.it.num, .string d.it.text, .slice d.it.A d.it.n d.it.c, .int .i64 d.pts]
  len _ := rfl
  one _ := by simp [Value.oneCell']
structure Slt where
  days : Int
  from_ : Int
  to_ : Int
instance : Flat Slt where
  sz := 3
  pos := by decide
  cells s := [.int .i64 s.days, .int .i64 s.from_, .int .i64 s.to_]
  len _ := rfl
  one _ := by simp [Value.oneCell']
structure Tv where
  name : ByteArray
  from_ : Int
  split : Bool
  Az : Option Addr
  nz : Nat
  cz : Nat
  Ab : Option Addr
  nb : Nat
  cb : Nat
  Ar : Option Addr
  nr : Nat
  cr : Nat
  Ad : Option Addr
  nd : Nat
  cd : Nat
def Tv.val (t : Tv) : Value := .agg #[.string t.name, .int .i64 t.from_, .bool t.split, .slice t.Az t.nz t.cz, .slice t.Ab t.nb t.cb, .slice t.Ar t.nr t.cr, .slice t.Ad t.nd t.cd]
structure Tok (w : World) (t : Tv) (zs bs : List Nm) (rs : List Rt) (ds : List Dq) : Prop where
  z : Sl w t.Az t.nz t.cz zs
  zk : ∀ x ∈ zs, ∃ ps : List ByteArray, Sl w x.A x.n x.c ps
  b : Sl w t.Ab t.nb t.cb bs
  bk : ∀ x ∈ bs, ∃ ps : List Slt, Sl w x.A x.n x.c ps
  r : Sl w t.Ar t.nr t.cr rs
  rk : ∀ x ∈ rs, ∃ ps : List Stp, Sl w x.A x.n x.c ps
  d : Sl w t.Ad t.nd t.cd ds
  dk : ∀ x ∈ ds, ∃ e : Ex, Rp w e x.it
theorem Tok.on {w w' : World} {t : Tv} {zs bs : List Nm} {rs : List Rt} {ds : List Dq} (h : Tok w t zs bs rs ds) (hb : Below w.heap.size w w') : Tok w' t zs bs rs ds :=
  ⟨h.z.below hb, fun x hx => (h.zk x hx).imp fun _ p => p.below hb, h.b.below hb, fun x hx => (h.bk x hx).imp fun _ p => p.below hb, h.r.below hb, fun x hx => (h.rk x hx).imp fun _ p => p.below hb, h.d.below hb, fun x hx => (h.dk x hx).imp fun _ p => p.on hb⟩
end Cv
end Go.Proofs.Ytdnnnajohdohaaa
