/-
  Dedup: records and rejects, what Filter computes; three rows of the call's own. No condition.
-/
import Derived.Test.YtdcekckghlpamaaDedJ
import Derived.Test.YtdcekckghlpamaaSlc
import Derived.Test.YtdcekckghlpamaaComB
import Derived.BigQuiet
import Derived.StillTailTactics
import Derived.Lib.Overlaps
import Derived.Deep.DeepCutAuto
import Derived.Lib.BufferOwn
set_option maxRecDepth 100000
set_option linter.unusedVariables false
set_option linter.unusedSimpArgs false
namespace Go.Proofs.Ytdcekckghlpamaa
open Go.RowKit

namespace Dd
structure Rec where
  src : Int
  ser : Int
  kind : Int
  a : ByteArray
  b : ByteArray
  start : Int
  units : Int
  call : Int
  part : Int
  last : Bool
  trunk : Int
  inb : Bool
instance : Flat Rec where
  sz := 12
  pos := by decide
  cells r := [.int .i64 r.src, .int .i64 r.ser, .int .i64 r.kind, .string r.a, .string r.b, .int .i64 r.start, .int .i64 r.units, .int .i64 r.call, .int .i64 r.part, .bool r.last, .int .i64 r.trunk, .bool r.inb]
  len _ := rfl
  one _ := by simp [Value.oneCell']
structure Rej where
  src : Int
  ser : Int
  idx : Int
  err : Int
instance : Flat Rej where
  sz := 4
  pos := by decide
  cells r := [.int .i64 r.src, .int .i64 r.ser, .int .i64 r.idx, .int .i64 r.err]
  len _ := rfl
  one _ := by simp [Value.oneCell']
theorem info_rec : (Try.prog.info? 44).map (fun i => (i.zero, i.size, i.bytes)) = some (some (.agg #[.int .i64 0, .int .i64 0, .int .i64 0, .string ⟨#[]⟩, .string ⟨#[]⟩, .int .i64 0, .int .i64 0, .int .i64 0, .int .i64 0, .bool false, .int .i64 0, .bool false]), 12, 112) := by kernel_rfl
theorem info_rej : (Try.prog.info? 52).map (fun i => (i.zero, i.size, i.bytes)) = some (some (.agg #[.int .i64 0, .int .i64 0, .int .i64 0, .int .i64 0]), 4, 32) := by kernel_rfl
abbrev Fst := List Rng × List Rec × List Rej
def fstep (s : Fst) (i : Nat) (r : Rec) : Fst :=
  if addOk s.1 r.src r.ser = true then (refAdd s.1 r.src r.ser, s.2.1 ++ [r], s.2.2)
  else (s.1, s.2.1, s.2.2 ++ [⟨r.src, r.ser, i, if ident r.src r.ser = true then 13 else 6⟩])
def filtK (xs : List Rng) (l : List Rec) : Nat → Fst
  | 0 => (xs, [], [])
  | k + 1 => match l[k]? with
    | none => filtK xs l k
    | some r => fstep (filtK xs l k) k r
def filt (xs : List Rng) (l : List Rec) : Fst := filtK xs l l.length
theorem filtK_succ {xs : List Rng} {l : List Rec} {k : Nat} {r : Rec} (h : l[k]? = some r) : filtK xs l (k + 1) = fstep (filtK xs l k) k r := by rw [filtK, h]
theorem addOk_parts {xs : List Rng} {s n : Int} (h : addOk xs s n = true) : ident s n = true ∧ hasL xs s n = false := by
  unfold addOk at h
  rw [Bool.and_eq_true, Bool.not_eq_true'] at h
  exact h
theorem filtK_inv {xs : List Rng} {l : List Rec} (hc : Can xs) : ∀ k, k ≤ l.length → Can (filtK xs l k).1 ∧ (filtK xs l k).1.length ≤ xs.length + k ∧ (filtK xs l k).2.1.length + (filtK xs l k).2.2.length = k
  | 0, _ => ⟨hc, Nat.le_refl _, rfl⟩
  | k + 1, hk => by
    obtain ⟨h1, h2, h3⟩ := filtK_inv (l := l) hc k (by omega)
    obtain ⟨r, hr⟩ : ∃ r, l[k]? = some r := ⟨_, List.getElem?_eq_getElem (show k < l.length by omega)⟩
    rw [filtK_succ hr]
    unfold fstep
    split
    · rename_i ha
      obtain ⟨i1, i2⟩ := addOk_parts ha
      refine ⟨refAdd_can h1 i1 i2, ?_, ?_⟩
      · have := refAdd_len h1 i1 i2; dsimp only; omega
      · dsimp only; rw [List.length_append, List.length_singleton]; omega
    · refine ⟨h1, ?_, ?_⟩
      · dsimp only; omega
      · dsimp only; rw [List.length_append, List.length_singleton]; omega
theorem fstep_yes {s : Fst} {i : Nat} {r : Rec} (h : addOk s.1 r.src r.ser = true) : fstep s i r = (refAdd s.1 r.src r.ser, s.2.1 ++ [r], s.2.2) := by rw [fstep, if_pos h]
theorem fstep_range {s : Fst} {i : Nat} {r : Rec} (h : ident r.src r.ser = false) : fstep s i r = (s.1, s.2.1, s.2.2 ++ [⟨r.src, r.ser, i, 6⟩]) := by
  rw [fstep, if_neg (by simp [addOk, h]), if_neg (by simp [h])]
theorem fstep_dup {s : Fst} {i : Nat} {r : Rec} (h : ident r.src r.ser = true) (h2 : hasL s.1 r.src r.ser = true) : fstep s i r = (s.1, s.2.1, s.2.2 ++ [⟨r.src, r.ser, i, 13⟩]) := by
  rw [fstep, if_neg (by simp [addOk, h2]), if_pos h]
/-! three rows of the call's own, apart from each other and from the blocks K -/
def Sep (u v : Value) : Prop := u.ownBlock = none ∨ u.ownBlock ≠ v.ownBlock
theorem Sep.symm {u v : Value} (h : Sep u v) : Sep v u := by
  unfold Sep at *
  cases hv : v.ownBlock with
  | none => exact .inl rfl
  | some g =>
    refine .inr fun e => ?_
    rcases h with h | h
    · rw [h] at e; cases e
    · rw [hv] at h; exact h e.symm
structure FS (B : Nat) (w0 wr : World) (K : List Nat) (v1 v2 v3 : Value) (F : Fst) : Prop where
  a1 : Ow wr B 30 v1 F.1
  a2 : Ow wr B 44 v2 F.2.1
  a3 : Ow wr B 52 v3 F.2.2
  hb : Below B w0 wr
  bs : B ≤ wr.heap.size
  s12 : Sep v1 v2
  s13 : Sep v1 v3
  s23 : Sep v2 v3
  ap : ∀ b ∈ K, b < wr.heap.size ∧ v1.ownBlock ≠ some b ∧ v2.ownBlock ≠ some b ∧ v3.ownBlock ≠ some b
section
variable {B : Nat} {w0 wr w' : World} {K : List Nat} {v1 v2 v3 u : Value} {F : Fst}
theorem upd_ne {wr w' : World} {v u : Value} (hu : Upd wr w' v u) {b : Nat} (hb : b < wr.heap.size) (hne : v.ownBlock ≠ some b) : u.ownBlock ≠ some b := by
  rcases hu.at_ with h | ⟨g, h, h2⟩
  · rw [h]; exact hne
  · rw [h]; intro e; injection e with e; omega
theorem FS.below (h : FS B w0 wr K v1 v2 v3 F) (hb : Below wr.heap.size wr w') : FS B w0 w' K v1 v2 v3 F :=
  ⟨h.a1.below hb, h.a2.below hb, h.a3.below hb, h.hb.trans (hb.mono h.bs), Nat.le_trans h.bs hb.size, h.s12, h.s13, h.s23, fun b hk => ⟨Nat.lt_of_lt_of_le (h.ap b hk).1 hb.size, (h.ap b hk).2⟩⟩
theorem FS.sub (h : FS B w0 wr K v1 v2 v3 F) {K' : List Nat} (hs : ∀ b ∈ K', b ∈ K) : FS B w0 wr K' v1 v2 v3 F :=
  ⟨h.a1, h.a2, h.a3, h.hb, h.bs, h.s12, h.s13, h.s23, fun b hk => h.ap b (hs b hk)⟩
theorem ow_ne {α : Type} [Flat α] {e : TypeId} {v : Value} {xs : List α} (h : Ow wr B e v xs) {b : Nat} (hb : wr.heap.size ≤ b) : v.ownBlock ≠ some b := fun e => by have := (h.lt b e).2; omega
/-- a block that was just laid is apart -/
theorem FS.push (h : FS B w0 wr K v1 v2 v3 F) (hb : Below wr.heap.size wr w') (hlt : wr.heap.size < w'.heap.size) : FS B w0 w' (wr.heap.size :: K) v1 v2 v3 F :=
  have k := h.below hb
  ⟨k.a1, k.a2, k.a3, k.hb, k.bs, k.s12, k.s13, k.s23, fun b hk => by
    rcases List.mem_cons.1 hk with rfl | hk
    · exact ⟨hlt, ow_ne h.a1 (Nat.le_refl _), ow_ne h.a2 (Nat.le_refl _), ow_ne h.a3 (Nat.le_refl _)⟩
    · exact k.ap b hk⟩
theorem FS.up1 (h : FS B w0 wr K v1 v2 v3 F) (hu : Upd wr w' v1 u) {L : List Rng} (ho : Ow w' B 30 u L) : FS B w0 w' K u v2 v3 (L, F.2.1, F.2.2) :=
  ⟨ho, hu.other h.a2 h.s12.symm, hu.other h.a3 h.s13.symm, hu.belowBase h.a1 h.hb h.bs, Nat.le_trans h.bs hu.size, Sep.symm (hu.apart h.a2 h.s12.symm), Sep.symm (hu.apart h.a3 h.s13.symm), h.s23,
    fun b hk => ⟨Nat.lt_of_lt_of_le (h.ap b hk).1 hu.size, upd_ne hu (h.ap b hk).1 (h.ap b hk).2.1, (h.ap b hk).2.2⟩⟩
theorem FS.up2 (h : FS B w0 wr K v1 v2 v3 F) (hu : Upd wr w' v2 u) {L : List Rec} (ho : Ow w' B 44 u L) : FS B w0 w' K v1 u v3 (F.1, L, F.2.2) :=
  ⟨hu.other h.a1 h.s12, ho, hu.other h.a3 h.s23.symm, hu.belowBase h.a2 h.hb h.bs, Nat.le_trans h.bs hu.size, hu.apart h.a1 h.s12, h.s13, Sep.symm (hu.apart h.a3 h.s23.symm),
    fun b hk => ⟨Nat.lt_of_lt_of_le (h.ap b hk).1 hu.size, (h.ap b hk).2.1, upd_ne hu (h.ap b hk).1 (h.ap b hk).2.2.1, (h.ap b hk).2.2.2⟩⟩
theorem FS.up3 (h : FS B w0 wr K v1 v2 v3 F) (hu : Upd wr w' v3 u) {L : List Rej} (ho : Ow w' B 52 u L) : FS B w0 w' K v1 v2 u (F.1, F.2.1, L) :=
  ⟨hu.other h.a1 h.s13, hu.other h.a2 h.s23, ho, hu.belowBase h.a3 h.hb h.bs, Nat.le_trans h.bs hu.size, h.s12, hu.apart h.a1 h.s13, hu.apart h.a2 h.s23,
    fun b hk => ⟨Nat.lt_of_lt_of_le (h.ap b hk).1 hu.size, (h.ap b hk).2.1, (h.ap b hk).2.2.1, upd_ne hu (h.ap b hk).1 (h.ap b hk).2.2.2⟩⟩
/-- a new list in the place of the first row -/
theorem FS.new1 (h : FS B w0 wr K v1 v2 v3 F) (hb : Below wr.heap.size wr w') {L : List Rng} (ho : Ow w' wr.heap.size 30 u L) : FS B w0 w' K u v2 v3 (L, F.2.1, F.2.2) :=
  have k := h.below hb
  have hn : ∀ g, g < wr.heap.size → u.ownBlock ≠ some g := fun g hg e => by have := (ho.lt g e).1; omega
  have hs : ∀ {α : Type} [Flat α] {e : TypeId} {v : Value} {xs : List α}, Ow wr B e v xs → Sep v u := fun {α} _ {e v xs} hv => by
    unfold Sep
    cases hq : v.ownBlock with
    | none => exact .inl rfl
    | some g => exact .inr fun e => hn g (hv.lt g hq).2 e.symm
  ⟨ho.lower h.bs, k.a2, k.a3, k.hb, k.bs, (hs h.a2).symm, (hs h.a3).symm, k.s23, fun b hk => ⟨(k.ap b hk).1, hn b (h.ap b hk).1, (k.ap b hk).2.2⟩⟩
/-- a store into one of the blocks K -/
theorem FS.store (h : FS B w0 wr K v1 v2 v3 F) {g : Nat} (hg : g ∈ K) (hB : B ≤ g) (o : Nat) (x : Value) : FS B w0 (wr.setCell ⟨g, o, none⟩ x) K v1 v2 v3 F := by
  have hgr : wr.grownBy (wr.setCell ⟨g, o, none⟩ x) (some g) := Lib.grownBy_setCell wr g o x
  obtain ⟨_, n1, n2, n3⟩ := h.ap g hg
  have hz : (wr.setCell ⟨g, o, none⟩ x).heap.size = wr.heap.size := by simp [World.setCell]
  exact ⟨World.ownsRow.kept h.a1 hgr (.inr n1), World.ownsRow.kept h.a2 hgr (.inr n2), World.ownsRow.kept h.a3 hgr (.inr n3), h.hb.setCell hB _, by rw [hz]; exact h.bs, h.s12, h.s13, h.s23, fun b hk => by rw [hz]; exact h.ap b hk⟩
theorem upd_cell {wr w' : World} {v u : Value} (hu : Upd wr w' v u) {b o : Nat} {x : Value} (hb : b < wr.heap.size) (hne : v.ownBlock ≠ some b) (h : wr.cell? ⟨b, o, none⟩ = some x) : w'.cell? ⟨b, o, none⟩ = some x :=
  (World.cell?_of_block (a := ⟨b, o, none⟩) (hu.grew.block b hb (fun e => hne e.symm))).trans h
theorem upd_frozen {wr w' : World} {v u : Value} (hu : Upd wr w' v u) {b o : Nat} (hb : b < wr.heap.size) (hne : v.ownBlock ≠ some b) : w'.frozen? ⟨b, o, none⟩ = wr.frozen? ⟨b, o, none⟩ :=
  World.frozen?_of_block (a := ⟨b, o, none⟩) (hu.grew.block b hb (fun e => hne e.symm))
end
end Dd
end Go.Proofs.Ytdcekckghlpamaa
