/-
  Dedup: the law's own examples, and what is light. No condition.
-/
import Derived.Test.YtdcekckghlpamaaDedI
import Derived.Test.YtdcekckghlpamaaDedB
import Derived.BigQuiet
import Derived.StillTailTactics
import Derived.Lib.Overlaps
import Derived.Deep.DeepCutAuto
set_option maxRecDepth 100000
set_option linter.unusedVariables false
set_option linter.unusedSimpArgs false
namespace Go.Proofs.Ytdcekckghlpamaa
open Go.RowKit

namespace Dd

theorem AddPost.to {w w' : World} {xs L : List Rng} {src ser : Int} {e : Ending} {b : Bool} (h : AddPost w xs src ser e w') (n : Nat) (hn : L.length = n) (hL : addL xs src ser = L) (hb : addOk xs src ser = b) :
    ∃ A c, e = .returned (.tuple #[.slice A n c, .bool b]) ∧ Sl w' A n c L ∧ NilOk A c ∧ Below w.heap.size w w' := by
  subst hn
  obtain ⟨v, he, ho, hB⟩ := h
  rw [hL] at ho
  rw [hb] at he
  obtain ⟨A, c, hv, hs⟩ := ho.sl
  refine ⟨A, c, by rw [he, hv], hs, ?_, hB⟩
  rcases ho.2 with hn | ⟨g, cap, cur, hv2, hg, hr⟩
  · rw [hv] at hn
    intro hA
    obtain ⟨h1, h2⟩ := hn
    injection h1
  · rw [hv] at hv2
    intro hA
    rw [hA] at hv2
    injection hv2 with h3
    cases h3
theorem eql_rng (a1 a2 a3 b1 b2 b3 : Int) (w : World) :
    (binOp .eql 30 (.agg #[.int .i64 a1, .int .i64 a2, .int .i64 a3]) (.agg #[.int .i64 b1, .int .i64 b2, .int .i64 b3])).run Try.prog w = .ok (.bool (eqR a1 a2 a3 b1 b2 b3)) w := by
  have u3 := Try.underlying3
  have ia := Try.isAgg3
  have z3 := Try.sizeOf3
  have hS : Try.prog.underlying 30 = some (.struct (Try.prog.fieldsOf 30)) := by kernel_rfl
  have hp : Try.prog.stoodInHeld 30 = false := by kernel_rfl
  simp only [binOp, Op.equal, Op.maxDepth, Sem.run_bind]
  rw [show (10000 : Nat) = 9999 + 1 from rfl, run_equalIn_struct w 9999 30 _ _ hS hp]
  simp only [Program.fieldsOf, Try.underlying30]
  go_simp
  by_cases h1 : a1 = b1 <;> by_cases h2 : a2 = b2 <;> by_cases h3 : a3 = b3 <;> simp [h1, h2, h3, eqR]
theorem can_of {xs : List Rng} (h : canon xs = true) : Can xs := (canon_iff xs).1 h

set_option maxHeartbeats 1000000 in
theorem awake_any (w : World) : Calls Try.prog 11 #[] w fun e w' => e = .returned (.bool true) ∧ Below w.heap.size w w' := by
  go_enter Try.func11, Try.ntmps11
  go_wp2_with fail
  refine (add_any none 0 0 [] 1 5 _ (Sl.nil_ w) (fun _ => rfl) (can_of (by decide)) (by decide)).mono ?_
  intro e w1 hP
  obtain ⟨A1, c1, rfl, hs1, ha1, hb1⟩ := hP.to 1 rfl (L := [⟨1, 5, 5⟩]) (b := true) (by decide) (by decide)
  clear hP
  go_wp2_with fail
  refine (add_any A1 1 c1 [⟨1, 5, 5⟩] 1 7 _ hs1 ha1 (can_of (by decide)) (by decide)).mono ?_
  intro e w2 hP
  obtain ⟨A2, c2, rfl, hs2, ha2, hb2⟩ := hP.to 2 rfl (L := [⟨1, 5, 5⟩, ⟨1, 7, 7⟩]) (b := true) (by decide) (by decide)
  clear hP
  go_wp2_with fail
  refine (add_any A2 2 c2 [⟨1, 5, 5⟩, ⟨1, 7, 7⟩] 1 6 _ hs2 ha2 (can_of (by decide)) (by decide)).mono ?_
  intro e w3 hP
  obtain ⟨A3, c3, rfl, hs3, ha3, hb3⟩ := hP.to 1 rfl (L := [⟨1, 5, 7⟩]) (b := true) (by decide) (by decide)
  clear hP
  go_wp2_with fail
  refine (add_any A3 1 c3 [⟨1, 5, 7⟩] 1 6 _ hs3 ha3 (can_of (by decide)) (by decide)).mono ?_
  intro e w4 hP
  obtain ⟨A4, c4, rfl, hs4, ha4, hb4⟩ := hP.to 0 rfl (L := []) (b := false) (by decide) (by decide)
  clear hP
  go_wp2_with fail
  refine (add_any A3 1 c3 [⟨1, 5, 7⟩] 1 0 _ (hs3.below hb4) ha3 (can_of (by decide)) (by decide)).mono ?_
  intro e w5 hP
  obtain ⟨A5, c5, rfl, hs5, ha5, hb5⟩ := hP.to 0 rfl (L := []) (b := false) (by decide) (by decide)
  clear hP
  go_wp2_with fail
  have hsm := Lib.hid (Sl.new w5 #[.int .i64 1, .int .i64 5, .int .i64 7, .int .i64 1, .int .i64 9, .int .i64 9] 30 w5.heap.size rfl ([⟨1, 5, 7⟩, ⟨1, 9, 9⟩] : List Rng) 2 rfl (by unfold maxLen; decide) rfl)
  refine (missing_any (some ⟨w5.heap.size, 0, none⟩) 2 2 [⟨1, 5, 7⟩, ⟨1, 9, 9⟩] 1 _ hsm.out (can_of (by decide)).bd (by decide)).mono ?_
  rintro e w6 ⟨v6, rfl, ho6, hb6⟩
  obtain ⟨A6, c6, hv6, hs6⟩ := ho6.sl
  have hs6' : Sl w6 A6 2 c6 ([⟨1, 1, 4⟩, ⟨1, 8, 8⟩] : List Rng) := hs6
  have hv6' : v6 = .slice A6 2 c6 := hv6
  clear hs6 ho6 hv6
  subst hv6'
  have hz1 := hb1.size
  have hz2 := hb2.size
  have hz3 := hb3.size
  have hz4 := hb4.size
  have hz5 := hb5.size
  have hb6' : Below w5.heap.size w5 w6 := ((Below.refl w5.heap.size w5).alloc (Nat.le_refl _) _).trans (hb6.mono (by simp))
  have hs3' := ((hs3.below hb4).below hb5).below hb6'
  have hbb := (((((hb1.trans (hb2.mono (by omega))).trans (hb3.mono (by omega))).trans (hb4.mono (by omega))).trans (hb5.mono (by omega))).trans (hb6'.mono (by omega)))
  obtain ⟨p3, o3, rfl, hp3, hc3⟩ := hs3'.base (by decide)
  obtain ⟨p6, o6, rfl, hp6, hc6⟩ := hs6'.base (by decide)
  have k0 : w6.cell? ⟨p3, o3, none⟩ = some (.int .i64 1) := Sl.at_ hc3 (i := 0) rfl 0 rfl
  have k1 : w6.cell? ⟨p3, o3 + 1, none⟩ = some (.int .i64 5) := Sl.at_ hc3 (i := 0) rfl 1 rfl
  have k2 : w6.cell? ⟨p3, o3 + 2, none⟩ = some (.int .i64 7) := Sl.at_ hc3 (i := 0) rfl 2 rfl
  have m0 : w6.cell? ⟨p6, o6, none⟩ = some (.int .i64 1) := Sl.at_ hc6 (i := 0) rfl 0 rfl
  have m1 : w6.cell? ⟨p6, o6 + 1, none⟩ = some (.int .i64 1) := Sl.at_ hc6 (i := 0) rfl 1 rfl
  have m2 : w6.cell? ⟨p6, o6 + 2, none⟩ = some (.int .i64 4) := Sl.at_ hc6 (i := 0) rfl 2 rfl
  have m3 : w6.cell? ⟨p6, o6 + 3, none⟩ = some (.int .i64 1) := Sl.at_ hc6 (i := 1) rfl 0 rfl
  have m4 : w6.cell? ⟨p6, o6 + 3 + 1, none⟩ = some (.int .i64 8) := Sl.at_ hc6 (i := 1) rfl 1 rfl
  have m5 : w6.cell? ⟨p6, o6 + 3 + 2, none⟩ = some (.int .i64 8) := Sl.at_ hc6 (i := 1) rfl 2 rfl
  have e1 : ∀ w, (binOp .eql 30 (.agg #[.int .i64 1, .int .i64 5, .int .i64 7]) (.agg #[.int .i64 1, .int .i64 5, .int .i64 7])).run Try.prog w = .ok (.bool true) w := fun w => eql_rng _ _ _ _ _ _ w
  have e2 : ∀ w, (binOp .eql 30 (.agg #[.int .i64 1, .int .i64 1, .int .i64 4]) (.agg #[.int .i64 1, .int .i64 1, .int .i64 4])).run Try.prog w = .ok (.bool true) w := fun w => eql_rng _ _ _ _ _ _ w
  have e3 : ∀ w, (binOp .eql 30 (.agg #[.int .i64 1, .int .i64 8, .int .i64 8]) (.agg #[.int .i64 1, .int .i64 8, .int .i64 8])).run Try.prog w = .ok (.bool true) w := fun w => eql_rng _ _ _ _ _ _ w
  have HS3 := Lib.hid hs3'
  clear hc3 hc6 hs3' hs6' hs1 hs2 hs3 hs4 hs5 ha1 ha2 ha3 ha4 ha5
  go_wp2_with fail
  refine (has_any _ _ _ [⟨1, 5, 7⟩] 1 6 _ HS3.out (can_of (by decide)) (by decide)).mono ?_
  rintro e w7 ⟨rfl, hb7⟩
  have hh7 : hasL ([⟨1, 5, 7⟩] : List Rng) 1 6 = true := by decide
  have HS7 := Lib.hid (HS3.out.below hb7)
  go_wp2_with fail
  refine (has_any _ _ _ [⟨1, 5, 7⟩] 2 6 _ HS7.out (can_of (by decide)) (by decide)).mono ?_
  rintro e w8 ⟨rfl, hb8⟩
  have hh8 : hasL ([⟨1, 5, 7⟩] : List Rng) 2 6 = false := by decide
  have HS8 := Lib.hid (HS7.out.below hb8)
  go_wp2_with fail
  refine (count_any _ _ _ [⟨1, 5, 7⟩] _ HS8.out (can_of (by decide)).bd (by decide)).mono ?_
  rintro e w9 ⟨rfl, hb9⟩
  have hh9 : cnt ([⟨1, 5, 7⟩] : List Rng) = 3 := by decide
  have hz6 := hbb.size
  have hz7 := hb7.size
  have hz8 := hb8.size
  have hbe := ((hbb.trans (hb7.mono (by omega))).trans (hb8.mono (by omega))).trans (hb9.mono (by omega))
  go_wp2_with fail
  go_ret
  exact ⟨rfl, hbe⟩

/-- what is light -/
def lightB (xs : List Rng) : Bool := decide (xs.length ≤ 100) && canon xs
theorem light_any (A : Option Addr) (n c : Nat) (xs : List Rng) (w : World) (h : Sl w A n c xs) :
    Calls Try.prog 10 #[.slice A n c] w fun e w' => e = .returned (.bool (lightB xs)) ∧ Below w.heap.size w w' := by
  have hlen := h.len
  have HL := Lib.hid h.len
  have hn := h.nmax
  have H := Lib.hid h
  clear h hlen
  by_cases h1 : n ≤ 100
  · have f1 : decide ((n : Int) ≤ 100) = true := by simp; omega
    have f2 : lightB xs = canon xs := by simp [lightB, HL.out, h1]
    go_enter Try.func10, Try.ntmps10
    go_wp2_with (go_at_call 20; go_must (
      refine (refcheck_any A n c xs _ H.out).mono ?_
      rintro e w1 ⟨rfl, hb1⟩))
    go_ret
    exact ⟨by rw [f2]; rfl, hb1⟩
  · have f1 : decide ((n : Int) ≤ 100) = false := by simp; omega
    have f2 : lightB xs = false := by simp [lightB, HL.out, h1]
    go_enter Try.func10, Try.ntmps10
    go_wp2_with fail
    go_ret
    exact ⟨by rw [f2]; rfl, Below.refl _ _⟩

end Dd
end Go.Proofs.Ytdcekckghlpamaa
