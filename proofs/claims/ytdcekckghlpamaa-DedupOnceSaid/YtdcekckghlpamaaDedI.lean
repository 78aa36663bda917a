/-
  Dedup: Has and Add. No condition.
-/
import Derived.Test.YtdcekckghlpamaaDedQ
import Derived.BigQuiet
import Derived.StillTailTactics
import Derived.Lib.Overlaps
import Derived.Deep.DeepCutAuto
set_option maxRecDepth 100000
set_option linter.unusedVariables false
set_option linter.unusedSimpArgs false
namespace Go.Proofs.Ytdcekckghlpamaa
open Go.RowKit

namespace Dd

theorem has_any (A : Option Addr) (n c : Nat) (xs : List Rng) (src ser : Int) (w : World) (h : Sl w A n c xs) (hc : Can xs) (hn : n ≤ 1000000) :
    Calls Try.prog 12 #[.slice A n c, .int .i64 src, .int .i64 ser] w fun e w' => e = .returned (.bool (hasL xs src ser)) ∧ Below w.heap.size w w' :=
  (has_at A n c xs src ser w h hn).mono fun e w' ⟨i, ⟨h1, h2, h3, h4⟩, he⟩ => ⟨by rw [he, hasAt_eq hc h1 h2 h3], h4⟩

/-- whether it is added, and the list -/
def addOk (xs : List Rng) (src ser : Int) : Bool := ident src ser && !hasL xs src ser
def addL (xs : List Rng) (src ser : Int) : List Rng := if addOk xs src ser = true then refAdd xs src ser else []
def AddPost (w : World) (xs : List Rng) (src ser : Int) (e : Ending) (w' : World) : Prop :=
  ∃ v, e = .returned (.tuple #[v, .bool (addOk xs src ser)]) ∧ Ow w' w.heap.size 30 v (addL xs src ser) ∧ Below w.heap.size w w'

theorem AddPost.no {w w' : World} {xs : List Rng} {src ser : Int} (h : addOk xs src ser = false) (hb : Below w.heap.size w w') : AddPost w xs src ser (.returned (.tuple #[.slice none 0 0, .bool false])) w' :=
  ⟨.slice none 0 0, by rw [h], by rw [addL, h]; exact Ow.nil_ _ _ _, hb⟩
theorem AddPost.yes {w w' : World} {xs : List Rng} {src ser : Int} {v : Value} (h : addOk xs src ser = true) (ho : Ow w' w.heap.size 30 v (refAdd xs src ser)) (hb : Below w.heap.size w w') : AddPost w xs src ser (.returned (.tuple #[v, .bool true])) w' :=
  ⟨v, by rw [h], by rw [addL, h]; exact ho, hb⟩

set_option maxHeartbeats 400000 in
theorem add_any (A : Option Addr) (n c : Nat) (xs : List Rng) (src ser : Int) (w : World) (h : Sl w A n c xs) (hA : NilOk A c) (hc : Can xs) (hn : n ≤ 10000) :
    Calls Try.prog 21 #[.slice A n c, .int .i64 src, .int .i64 ser] w (AddPost w xs src ser) := by
  have H := Lib.hid h
  have HA := Lib.hid hA
  have HC := Lib.hid hc
  clear h hA hc
  by_cases hid : ident src ser = true
  · by_cases hh : hasL xs src ser = true
    · go_enter Try.func21, Try.ntmps21
      go_wp2_with (first
        | (go_at_call 28; refine (identity_any _ _ _).mono ?_; rintro e w' ⟨rfl, rfl⟩)
        | (go_at_call 12; go_must (
            refine (has_any A n c xs src ser _ H.out HC.out (by omega)).mono ?_
            rintro e w1 ⟨rfl, hb1⟩)))
      go_ret2
      exact AddPost.no (by simp [addOk, hh]) hb1
    · have hh' : hasL xs src ser = false := by simpa using hh
      clear hh
      go_enter Try.func21, Try.ntmps21
      go_wp2_with (first
        | (go_at_call 28; refine (identity_any _ _ _).mono ?_; rintro e w' ⟨rfl, rfl⟩)
        | (go_at_call 12; go_must (
            refine (has_any A n c xs src ser _ H.out HC.out (by omega)).mono ?_
            rintro e w1 ⟨rfl, hb1⟩)))
      refine (clone_any A n c xs _ (H.out.below hb1) HA.out (by omega)).mono ?_
      rintro e w2 ⟨v2, rfl, ho2, hb2⟩
      have hlen : xs.length ≤ 10000 := by have := H.out.len; omega
      have hid2 := ident_iff.1 hid
      go_wp2_with fail
      refine (ins_any w1.heap.size v2 xs src ser _ ho2 HC.out.bh (by omega) hlen hb2.size).mono ?_
      rintro e w3 ⟨i, hi1, hi2, hi3, v3, rfl, ho3, hu3⟩
      have HI := Lib.hid (ins_eq HC.out hid hh' hi1 hi2 hi3)
      have HO3 := Lib.hid (ho3.lower hb1.size)
      have hb3 := hb1.trans ((hu3.belowBase ho2 hb2 hb2.size).mono hb1.size)
      clear hi1 hi2 hi3 ho3 hu3 ho2 hid2
      go_wp2_with fail
      go_ret2
      exact AddPost.yes (by simp [addOk, hid, hh']) (by rw [← HI.out]; exact HO3.out) hb3
  · have hid' : ident src ser = false := by simpa using hid
    clear hid
    go_enter Try.func21, Try.ntmps21
    go_wp2_with (first
        | (go_at_call 28; refine (identity_any _ _ _).mono ?_; rintro e w' ⟨rfl, rfl⟩))
    go_ret2
    exact AddPost.no (by simp [addOk, hid']) (Below.refl _ _)

end Dd
end Go.Proofs.Ytdcekckghlpamaa
