/-
  Numbers: the reference's Spells; Numbers: the reference's Free. No condition.
-/
import Derived.Test.YteaanngagcflhaaKa22
import Derived.Test.YteaanngagcflhaaKa23
import Derived.Test.YteaanngagcflhaaKa00
import Derived.Test.YteaanngagcflhaaKa17
import Derived.Test.YteaanngagcflhaaKa21
import Derived.BigQuiet
import Derived.StillTailTactics
import Derived.Lib.Overlaps
import Derived.Deep.DeepCutAuto
import Derived.Deep.RegionWith
import Derived.Laws.RangeAny
import Derived.ProofKit
import Derived.WideKeyArgs
import Derived.Deep.Slices
import Derived.Deep.Fields
import Derived.ChangeMaps5
import Derived.Laws.IdiomArrays
import Derived.Test.YteaanngagcflhaaChecked
import Derived.Test.YteaanngagcflhaaRows
import Derived.JoinedOf
set_option maxRecDepth 100000
set_option linter.unusedVariables false
set_option linter.unusedSimpArgs false
namespace Go.Proofs.Yteaanngagcflhaa
open Go.RowKit
namespace Nb
open Cu
def stepO (ow : Option Int) (out : List Od) (f t : Int) : List Od := match ow with
  | none => out
  | some m => addR out m f t
theorem stepR_O {l : List Ev} {x : ByteArray} {k : Nat} {e : Ev} {out : List Od} : stepR l x k e out = if e.at_ = toN l (k + 1) then out else stepO (ownB (bkAt l e.at_) x) out e.at_ (toN l (k + 1)) := by
  unfold stepR stepO
  rfl
end Nb
end Go.Proofs.Yteaanngagcflhaa
namespace Go.Proofs.Yteaanngagcflhaa
open Go.RowKit
namespace Nb
open Cu
theorem sq (a b : ByteArray) : seq_ a b = (a.data.toList == b.data.toList) := by unfold seq_; rw [Lib.toList_data, Lib.toList_data]
def nA : ByteArray := ⟨#[97]⟩
def n49 : ByteArray := ⟨#[52, 57]⟩
def y1 : Ev := ⟨0, 1, 1, 0, nEmpty, nPost, 1⟩
def y2 : Ev := ⟨0, 3, 1, 7, nEmpty, nA, 0⟩
def y3 : Ev := ⟨0, 3, 1, 8, nEmpty, nA, 0⟩
def y4 : Ev := ⟨100, 5, 0, 7, n49, nEmpty, 0⟩
def y5 : Ev := ⟨200, 6, 0, 7, n49, nEmpty, 0⟩
def y6 : Ev := ⟨200, 5, 0, 8, n49, nEmpty, 0⟩
def l6 : List Ev := [y1, y2, y3, y4, y5, y6]
def a1 : Ac := ⟨1, 0, 1, false, false⟩
def s7 : Sb := ⟨7, 1, 0, nA, [], [], false, false⟩
def s7n : Sb := ⟨7, 1, 0, nA, [n49], [], false, false⟩
def s8 : Sb := ⟨8, 1, 0, nA, [], [], false, false⟩
def s8n : Sb := ⟨8, 1, 0, nA, [n49], [], false, false⟩
theorem hv49 : Dg.valid n49.data.toList = true := by decide
theorem g1 : faultR bk0 y1 0 = 0 := by
  simp [faultR, formR, formT, fldBad, idBad, nameBad, uA, uS, uN, uM, uV, idB, valB, nmB, nmC, sq, ofAcc, findA, bk0, y1, nPre, nPost, nEmpty]
theorem h1 : applyR bk0 y1 = ⟨[a1], [], []⟩ := by simp [applyR, bk0, y1, sq, nPre, nPost, a1]
theorem g2 : faultR ⟨[a1], [], []⟩ y2 0 = 0 := by
  simp [faultR, formR, formT, fldBad, idBad, nameBad, uA, uS, uN, uM, uV, idB, valB, nmB, nmC, sq, ofAcc, findA, findS, y2, nPre, nPost, nEmpty, nA, a1]
theorem h2 : applyR ⟨[a1], [], []⟩ y2 = ⟨[a1], [s7], []⟩ := by simp [applyR, y2, s7]
theorem g3 : faultR ⟨[a1], [s7], []⟩ y3 0 = 0 := by
  simp [faultR, formR, formT, fldBad, idBad, nameBad, uA, uS, uN, uM, uV, idB, valB, nmB, nmC, sq, ofAcc, findA, findS, y3, nPre, nPost, nEmpty, nA, a1, s7]
theorem h3 : applyR ⟨[a1], [s7], []⟩ y3 = ⟨[a1], [s7, s8], []⟩ := by simp [applyR, y3, s8]
theorem g4 : faultR ⟨[a1], [s7, s8], []⟩ y4 0 = 0 := by
  simp [faultR, formR, formT, fldBad, idBad, nameBad, uA, uS, uN, uM, uV, idB, valB, sq, ofSub, findS, endedB, takenB, hasS, y4, nEmpty, hv49, s7, s8]
theorem h4 : applyR ⟨[a1], [s7, s8], []⟩ y4 = ⟨[a1], [s7n, s8], []⟩ := by simp [applyR, mapFirst, chgR, insS, y4, s7, s7n, s8]
theorem g5 : faultR ⟨[a1], [s7n, s8], []⟩ y5 100 = 0 := by
  simp [faultR, formR, formT, fldBad, idBad, nameBad, uA, uS, uN, uM, uV, idB, valB, sq, ofSub, findS, endedB, takenB, hasS, y5, nEmpty, hv49, s7n, s8]
theorem h5 : applyR ⟨[a1], [s7n, s8], []⟩ y5 = ⟨[a1], [s7, s8], []⟩ := by simp [applyR, mapFirst, chgR, remS, sq, y5, s7, s7n, s8]
theorem g6 : faultR ⟨[a1], [s7, s8], []⟩ y6 200 = 0 := by
  simp [faultR, formR, formT, fldBad, idBad, nameBad, uA, uS, uN, uM, uV, idB, valB, sq, ofSub, findS, endedB, takenB, hasS, y6, nEmpty, hv49, s7, s8]
theorem h6 : applyR ⟨[a1], [s7, s8], []⟩ y6 = ⟨[a1], [s7, s8n], []⟩ := by simp [applyR, mapFirst, chgR, insS, y6, s7, s8, s8n]
theorem e1 : bkN l6 1 = ⟨[a1], [], []⟩ := h1
theorem e2 : bkN l6 2 = ⟨[a1], [s7], []⟩ := by show applyR (applyR bk0 y1) y2 = _; rw [h1, h2]
theorem e3 : bkN l6 3 = ⟨[a1], [s7, s8], []⟩ := by show applyR (applyR (applyR bk0 y1) y2) y3 = _; rw [h1, h2, h3]
theorem e4 : bkN l6 4 = ⟨[a1], [s7n, s8], []⟩ := by show applyR (applyR (applyR (applyR bk0 y1) y2) y3) y4 = _; rw [h1, h2, h3, h4]
theorem e5 : bkN l6 5 = ⟨[a1], [s7, s8], []⟩ := by show applyR (applyR (applyR (applyR (applyR bk0 y1) y2) y3) y4) y5 = _; rw [h1, h2, h3, h4, h5]
theorem e6 : bkN l6 6 = ⟨[a1], [s7, s8n], []⟩ := by show applyR (applyR (applyR (applyR (applyR (applyR bk0 y1) y2) y3) y4) y5) y6 = _; rw [h1, h2, h3, h4, h5, h6]
theorem v6 : Vl l6 := by
  refine ⟨by decide, fun j hj => ?_⟩
  have hj' : j < 6 := hj
  have : j = 0 ∨ j = 1 ∨ j = 2 ∨ j = 3 ∨ j = 4 ∨ j = 5 := by omega
  rcases this with rfl | rfl | rfl | rfl | rfl | rfl
  · exact g1
  · show faultR (bkN l6 1) y2 0 = 0; rw [e1]; exact g2
  · show faultR (bkN l6 2) y3 0 = 0; rw [e2]; exact g3
  · show faultR (bkN l6 3) y4 0 = 0; rw [e3]; exact g4
  · show faultR (bkN l6 4) y5 100 = 0; rw [e4]; exact g5
  · show faultR (bkN l6 5) y6 200 = 0; rw [e5]; exact g6
theorem sz6 : SzOk l6 := fun e he => by
  have h : e = y1 ∨ e = y2 ∨ e = y3 ∨ e = y4 ∨ e = y5 ∨ e = y6 := by simpa [l6] using he
  have m : (8 : Nat) ≤ maxLen := by unfold maxLen; omega
  rcases h with rfl | rfl | rfl | rfl | rfl | rfl <;> exact ⟨Nat.le_trans (by decide) m, Nat.le_trans (by decide) m⟩
theorem at199 : bkAt l6 199 = ⟨[a1], [s7n, s8], []⟩ := by
  rw [(bkAt_N v6 199).1, show cutN l6 199 = 4 by simp [cutN, l6, y1, y2, y3, y4, y5, y6], e4]
theorem at150 : bkAt l6 150 = ⟨[a1], [s7n, s8], []⟩ := by
  rw [(bkAt_N v6 150).1, show cutN l6 150 = 4 by simp [cutN, l6, y1, y2, y3, y4, y5, y6], e4]
theorem at200 : bkAt l6 200 = ⟨[a1], [s7, s8n], []⟩ := by
  rw [(bkAt_N v6 200).1, show cutN l6 200 = 6 by simp [cutN, l6, y1, y2, y3, y4, y5, y6], e6]
theorem own199 : ownB (bkAt l6 199) n49 = some 7 := by
  refine (ownB_some (at_inv v6 199).2).2 ⟨s7n, ?_, by simp [hasS, s7n, sq]⟩
  rw [at199]; simp [findS, s7n]
theorem own200 : ownB (bkAt l6 200) n49 = some 8 := by
  refine (ownB_some (at_inv v6 200).2).2 ⟨s8n, ?_, by simp [hasS, s8n, sq]⟩
  rw [at200]; simp [findS, s7, s8n]
theorem nums150 : ((cSubs (bkAt l6 150)).find? (fun y => y.id == 7)).getD sb0 = s7n := by
  rw [find_cSubs (at_inv v6 150).2, at150]
  simp [liveS, endedB, findS, s7n]
theorem sp6 : spE l6 n49 = [⟨7, 100, 200⟩, ⟨8, 200, 12622780800⟩] := by
  simp [spE, spP, stepP, nxt, toN, pend, l6, y1, y2, y3, y4, y5, y6, sq, n49]
theorem fr100 : frB 0 100 (spE l6 n49) = true := by rw [sp6]; simp [frB, ovB]
theorem fr101 : frB 0 101 (spE l6 n49) = false := by rw [sp6]; simp [frB, ovB]
end Nb
namespace Nb
open Cu
set_option maxHeartbeats 16000000 in
theorem awake18_any (w : World) : Calls Try.prog 40 #[] w fun e w' => e = .returned (.bool true) ∧ Below w.heap.size w w' := by
  go_enter Try.func40, Try.ntmps40
  go_upto_region 2 with (fail)
  have hS0 : Sl (w.alloc (.cells #[.int .i64 0, .int .i64 1, .int .i64 1, .int .i64 0, .string ⟨#[]⟩, .string ⟨#[112, 111, 115, 116, 112, 97, 105, 100]⟩, .int .i64 1, .int .i64 0, .int .i64 3, .int .i64 1, .int .i64 7, .string ⟨#[]⟩, .string ⟨#[97]⟩, .int .i64 0, .int .i64 0, .int .i64 3, .int .i64 1, .int .i64 8, .string ⟨#[]⟩, .string ⟨#[97]⟩, .int .i64 0, .int .i64 100, .int .i64 5, .int .i64 0, .int .i64 7, .string ⟨#[52, 57]⟩, .string ⟨#[]⟩, .int .i64 0, .int .i64 200, .int .i64 6, .int .i64 0, .int .i64 7, .string ⟨#[52, 57]⟩, .string ⟨#[]⟩, .int .i64 0, .int .i64 200, .int .i64 5, .int .i64 0, .int .i64 8, .string ⟨#[52, 57]⟩, .string ⟨#[]⟩, .int .i64 0] 36)) (some ⟨w.heap.size, 0, none⟩) 6 6 l6 := Sl.new w #[.int .i64 0, .int .i64 1, .int .i64 1, .int .i64 0, .string ⟨#[]⟩, .string ⟨#[112, 111, 115, 116, 112, 97, 105, 100]⟩, .int .i64 1, .int .i64 0, .int .i64 3, .int .i64 1, .int .i64 7, .string ⟨#[]⟩, .string ⟨#[97]⟩, .int .i64 0, .int .i64 0, .int .i64 3, .int .i64 1, .int .i64 8, .string ⟨#[]⟩, .string ⟨#[97]⟩, .int .i64 0, .int .i64 100, .int .i64 5, .int .i64 0, .int .i64 7, .string ⟨#[52, 57]⟩, .string ⟨#[]⟩, .int .i64 0, .int .i64 200, .int .i64 6, .int .i64 0, .int .i64 7, .string ⟨#[52, 57]⟩, .string ⟨#[]⟩, .int .i64 0, .int .i64 200, .int .i64 5, .int .i64 0, .int .i64 8, .string ⟨#[52, 57]⟩, .string ⟨#[]⟩, .int .i64 0] _ w.heap.size rfl l6 6 rfl (by unfold maxLen; omega) rfl
  obtain ⟨V, hV⟩ : ∃ V, V = w.alloc (.cells #[.int .i64 0, .int .i64 1, .int .i64 1, .int .i64 0, .string ⟨#[]⟩, .string ⟨#[112, 111, 115, 116, 112, 97, 105, 100]⟩, .int .i64 1, .int .i64 0, .int .i64 3, .int .i64 1, .int .i64 7, .string ⟨#[]⟩, .string ⟨#[97]⟩, .int .i64 0, .int .i64 0, .int .i64 3, .int .i64 1, .int .i64 8, .string ⟨#[]⟩, .string ⟨#[97]⟩, .int .i64 0, .int .i64 100, .int .i64 5, .int .i64 0, .int .i64 7, .string ⟨#[52, 57]⟩, .string ⟨#[]⟩, .int .i64 0, .int .i64 200, .int .i64 6, .int .i64 0, .int .i64 7, .string ⟨#[52, 57]⟩, .string ⟨#[]⟩, .int .i64 0, .int .i64 200, .int .i64 5, .int .i64 0, .int .i64 8, .string ⟨#[52, 57]⟩, .string ⟨#[]⟩, .int .i64 0] 36) := ⟨_, rfl⟩
  have hbV : Below w.heap.size w V := by rw [hV]; exact (Below.refl _ _).alloc (Nat.le_refl _) _
  rw [← hV] at hS0 ⊢
  have HS := Lib.hid hS0
  clear hV hS0
  go_upto_region 3 with (go_at_call 44; go_must (refine (Spells_any _ 6 6 l6 n49 _ HS.out (by omega)).mono ?_; rintro r w5 ⟨⟨A1, n1, c1, rfl, _, hs5⟩, hb5⟩; rw [sp6] at hs5))
  have hn1 : n1 = 2 := by have := hs5.len; simpa using this.symm
  subst hn1
  obtain ⟨b, off, rfl, hbl, hcells⟩ := hs5.base (by omega)
  have c0 : w5.cell? ⟨b, off, none⟩ = some (.int .i64 7) := by have := hcells 0 ⟨7, 100, 200⟩ rfl 0 _ rfl; simpa using this
  have c1' : w5.cell? ⟨b, off + 1, none⟩ = some (.int .i64 100) := by have := hcells 0 ⟨7, 100, 200⟩ rfl 1 _ rfl; simpa using this
  have c2 : w5.cell? ⟨b, off + 2, none⟩ = some (.int .i64 200) := by have := hcells 0 ⟨7, 100, 200⟩ rfl 2 _ rfl; simpa using this
  have c3' : w5.cell? ⟨b, off + 3, none⟩ = some (.int .i64 8) := hcells 1 ⟨8, 200, 12622780800⟩ rfl 0 _ rfl
  have c4 : w5.cell? ⟨b, off + 4, none⟩ = some (.int .i64 200) := hcells 1 ⟨8, 200, 12622780800⟩ rfl 1 _ rfl
  have c5 : w5.cell? ⟨b, off + 5, none⟩ = some (.int .i64 12622780800) := hcells 1 ⟨8, 200, 12622780800⟩ rfl 2 _ rfl
  have hbw5 := hbV.trans (hb5.mono hbV.size)
  have HS5 := Lib.hid (HS.out.below hb5)
  clear hcells hs5 hb5
  go_upto_region 4 with (go_at_call 41; go_must (refine (Owner_any _ 6 6 l6 n49 199 _ HS5.out v6 sz6 (by unfold maxLen; decide)).mono ?_; rintro r w6 ⟨rfl, hb6⟩; rw [own199]))
  have HS6 := Lib.hid (HS5.out.below hb6)
  have hs6 := hb6.size
  go_upto_region 5 with (go_at_call 41; go_must (refine (Owner_any _ 6 6 l6 n49 200 _ HS6.out v6 sz6 (by unfold maxLen; decide)).mono ?_; rintro r w7 ⟨rfl, hb7⟩; rw [own200]))
  have HS7 := Lib.hid (HS6.out.below hb7)
  have hb57 := hb6.trans (hb7.mono hs6)
  have hbw7 := hbw5.trans (hb57.mono hbw5.size)
  replace c0 := cl hb57 c0
  replace c1' := cl hb57 c1'
  replace c2 := cl hb57 c2
  replace c3' := cl hb57 c3'
  replace c4 := cl hb57 c4
  replace c5 := cl hb57 c5
  clear hb6 hb7 hb57
  go_wp2_with fail
  refine (Free_any _ 6 6 l6 n49 0 100 _ HS7.out (by omega)).mono ?_
  rintro r w8 ⟨rfl, hb8⟩
  rw [fr100]
  have HS8 := Lib.hid (HS7.out.below hb8)
  have hbw8 := hbw7.trans (hb8.mono hbw7.size)
  go_wp2_with fail
  refine (Free_any _ 6 6 l6 n49 0 101 _ HS8.out (by omega)).mono ?_
  rintro r w9 ⟨rfl, hb9⟩
  rw [fr101]
  have HS9 := Lib.hid (HS8.out.below hb9)
  have hbw9 := hbw8.trans (hb9.mono hbw8.size)
  go_wp2_with fail
  refine (Numbers_any _ 6 6 l6 7 150 _ HS9.out v6 sz6).mono ?_
  rintro r wA ⟨⟨A', n', c', rfl, hsA⟩, hbA⟩
  rw [nums150] at hsA
  have hn' : n' = 1 := by have := hsA.len; simpa [s7n] using this.symm
  subst hn'
  clear hsA
  go_wp2_with fail
  go_ret
  exact ⟨rfl, hbw9.trans (hbA.mono hbw9.size)⟩
end Nb
end Go.Proofs.Yteaanngagcflhaa
namespace Go.Proofs.Yteaanngagcflhaa
open Go.ChangeShapes Go.WideShapes Go.ChangeAt Go.RowKit
theorem lt_of_cell {w : World} {a : Addr} {v : Value} (h : w.cell? a = some v) : a.block < w.heap.size := by
  apply Decidable.byContradiction
  intro hn
  have h1 : w.heap[a.block]? = none := Array.getElem?_eq_none (by omega)
  simp [World.cell?, h1] at h
section
variable {H : Type} {enc : TypeId × Value → H} {P : Program}
theorem trodAll_stays (hl : laidOutB P = true) {W W' : World} {sp : Nat → Bool} : ∀ {ts : List TypeId} {vs : List Value} {ds : List (DataW H)} {ps : List MemPlace},
    (∀ t ∈ ts, P.readableRec t = true ∧ t < P.types.size) → DataW.TrodAll enc P W 0 (fun _ => true) true ts vs ds ps → (∀ p ∈ ps, W.sameAt W' p) → (∀ p ∈ ps, sp p.block = true) → DataW.TrodAll enc P W' 0 sp true ts vs ds ps
  | [], [], [], _, _, h, _, _ => h
  | t :: ts, v :: vs, d :: ds, _, hT, ⟨p, q, h1, h2, e⟩, hs, hp => by
    subst e
    exact ⟨p, q, WideElems.Trod_stays hl (hT t (List.mem_cons.2 (.inl rfl))).1 (hT t (List.mem_cons.2 (.inl rfl))).2 h1 (fun x hx => hs x (List.mem_append_left _ hx)) (fun x hx => hp x (List.mem_append_left _ hx)),
      trodAll_stays hl (fun t ht => hT t (List.mem_cons.2 (.inr ht))) h2 (fun x hx => hs x (List.mem_append_right _ hx)) (fun x hx => hp x (List.mem_append_right _ hx)), rfl⟩
theorem post_true {f : Func} {s : ChangeSpec} {W W' : World} {args : Array Value} {ds gs : List (DataW H)} {before : List MemPlace} {tb : TypeId}
    (hl : laidOutB P = true) (htb : P.underlying tb = some .bool) (hr : f.resultTypes = #[tb]) (hts : ∀ t ∈ f.params.toList, P.readableRec t = true ∧ t < P.types.size) (hsv : s.vars = [])
    (hW : DataW.Whole enc P f.params.toList s.vars false W args.toList ds gs before)
    (h1 : (s.fn H (ds ++ gs)).results = [.lit (.bool true)]) (h2 : (s.fn H (ds ++ gs)).args = ds) (h3 : (s.fn H (ds ++ gs)).vars = []) (hb : Below W.heap.size W W') :
    s.post enc P f false true false false W args (.bool true) W' := by
  have hlt : ∀ p ∈ before, p.block < W.heap.size := fun p hp => hW.lt p hp
  have hW0 := hW
  obtain ⟨p, q, hA, hV, hps, hz, hn⟩ := hW
  rw [hsv] at hV
  have hq : q = [] := by cases gs <;> simp [DataW.TrodVars] at hV; exact hV
  subst hq
  rw [List.append_nil] at hps
  subst hps
  have hres : ∀ (b : Nat) (sp : Nat → Bool) (hd : Bool), DataW.TrodAll enc P W' b sp hd f.resultTypes.toList ((Value.bool true).resultList f.resultTypes.size) (s.fn H (ds ++ gs)).results [] := by
    intro b sp hd
    rw [h1, hr]
    exact trodAll_mk1 (shut_bool htb _)
  have hargs : ∀ sp : Nat → Bool, (∀ x ∈ before, sp x.block = true) → DataW.TrodAll enc P W' 0 sp true f.params.toList args.toList (s.fn H (ds ++ gs)).args before := by
    intro sp hsp
    rw [h2]
    exact trodAll_stays hl hts hA (fun x hx => hb.same (hlt x hx)) hsp
  have hvars : ∀ sp : Nat → Bool, (∀ x ∈ before, sp x.block = true) → DataW.TrodVars enc P W' sp s.vars (s.fn H (ds ++ gs)).vars [] := by
    intro sp _
    rw [h3, hsv]
    rfl
  have hold : ∀ x ∈ before, (fun b => decide (b < W.heap.size)) x.block = true := fun x hx => by simpa using hlt x hx
  refine ⟨ds, gs, before, [], before, [], hW0, hres _ _ _, hargs _ hold, hvars _ hold, World.keptBut_mono (fun x hx => ⟨hx, .inr (by simpa using hx)⟩) (hb.frame (· ∈ before)), fun _ => ?_⟩
  refine ⟨ok_one hr rfl (okWide_bool_mk htb true), _, _, [] ++ before, ⟨[] ++ before, [], trodAll_append (hargs _ (fun _ _ => rfl)) (hres _ _ _), hvars _ (fun _ _ => rfl), by simp, ?_, ?_⟩, ?_⟩
  · intro b off hp
    have hin : MemPlace.cell b off ∈ before := by simpa using hp
    rw [hb.frozen (hlt _ hin)]
    exact hz b off hin
  · intro ha
    cases ha
  · intro x hx _
    simpa using hx
variable {w : World} {base : Nat} {spare : Nat → Bool} {held : Bool}
end
end Go.Proofs.Yteaanngagcflhaa
namespace Go.Proofs.Yteaanngagcflhaa
open Go.ChangeShapes Go.WideShapes Go.ChangeAt Go.RowKit
end Go.Proofs.Yteaanngagcflhaa
namespace Go.Proofs.Yteaanngagcflhaa
open Go.ChangeShapes Go.WideShapes Go.ChangeAt Go.RowKit
section
variable {H : Type} {enc : TypeId × Value → H} {P : Program} {w : World} {base : Nat} {spare : Nat → Bool} {held : Bool}
theorem sub_cells {e : TypeId} {fs : Array Field} {n : Nat} {cs : List Value} {y : DataW H × List MemPlace} (he : P.underlying e = some (.struct fs))
    (h : DataW.trod enc P w base spare held n e cs = some y) {i : Nat} {f : Field} (hf : fs[i]? = some f) : ∃ (m : Nat) (z : DataW H × List MemPlace), n = m + 1 ∧ DataW.trod enc P w base spare held m f.type ((cs.drop f.offset).take (P.cellsOf f.type)) = some z := by
  obtain ⟨ys, m, hm, _, _, hyl, hat⟩ := DataW.trod_struct he h
  have hil : i < fs.size := (Array.getElem?_eq_some_iff.1 hf).1
  exact ⟨m, ys[i]'(by omega), hm, (hat i f hf).trans (List.getElem?_eq_getElem (by omega))⟩
theorem sub_cell {e : TypeId} {fs : Array Field} {n : Nat} {cs : List Value} {y : DataW H × List MemPlace} (he : P.underlying e = some (.struct fs))
    (h : DataW.trod enc P w base spare held n e cs = some y) {i : Nat} {f : Field} (hf : fs[i]? = some f) {o : Nat} (ho : f.offset = o) (hc : P.cellsOf f.type = 1) (hi : o < cs.length) : ∃ (v : Value) (m : Nat) (z : DataW H × List MemPlace), n = m + 1 ∧ cs[o]? = some v ∧ DataW.trod enc P w base spare held m f.type [v] = some z := by
  obtain ⟨m, z, hm, hz⟩ := sub_cells he h hf
  rw [ho, hc, List.drop_eq_getElem_cons hi] at hz
  exact ⟨cs[o], m, z, hm, List.getElem?_eq_getElem hi, hz⟩
theorem sub_int {e : TypeId} {fs : Array Field} {n : Nat} {cs : List Value} {y : DataW H × List MemPlace} {k : IntKind} (he : P.underlying e = some (.struct fs))
    (h : DataW.trod enc P w base spare held n e cs = some y) {i : Nat} {f : Field} (hf : fs[i]? = some f) {o : Nat} (ho : f.offset = o) (hc : P.cellsOf f.type = 1) (hi : o < cs.length) (hk : P.underlying f.type = some (.int k)) : ∃ z : Int, cs[o]? = some (.int k z) ∧ (Lit.int k z).wf = true := by
  obtain ⟨v, m, y', _, hv, ht⟩ := sub_cell he h hf ho hc hi
  obtain ⟨z, hz, _, hw⟩ := DataW.trod_int hk ht
  cases hz
  exact ⟨z, hv, hw⟩
theorem sub_str {e : TypeId} {fs : Array Field} {n : Nat} {cs : List Value} {y : DataW H × List MemPlace} (he : P.underlying e = some (.struct fs))
    (h : DataW.trod enc P w base spare held n e cs = some y) {i : Nat} {f : Field} (hf : fs[i]? = some f) {o : Nat} (ho : f.offset = o) (hc : P.cellsOf f.type = 1) (hi : o < cs.length) (hk : P.underlying f.type = some .string) : ∃ s : ByteArray, cs[o]? = some (.string s) ∧ s.size ≤ maxLen := by
  obtain ⟨v, m, y', _, hv, ht⟩ := sub_cell he h hf ho hc hi
  obtain ⟨s, hs, _, hw⟩ := DataW.trod_string hk ht
  cases hs
  exact ⟨s, hv, hw⟩
end
end Go.Proofs.Yteaanngagcflhaa
namespace Go.Proofs.Yteaanngagcflhaa
open Go.RowKit
open Go.ChangeShapes Go.WideShapes Go.ChangeAt
section
variable {H : Type} {enc : TypeId × Value → H} {P : Program} {w : World} {base : Nat} {spare : Nat → Bool} {held : Bool}
theorem open_flatK {α : Type} [Flat α] (K : α → Prop) {t e : TypeId} {v : Value} {d : DataW H} {p : List MemPlace} {r : Reach} {b0 : Nat} (ht : P.underlying t = some (.slice e)) (hC : P.cellsOf e = Flat.sz α)
    (hread : ∀ (n : Nat) (cs : List Value) (y : DataW H × List MemPlace), cs.length = Flat.sz α → DataW.trod enc P w base spare held n e cs = some y → ∃ x : α, cs = Flat.cells x ∧ K x)
    (hv : Value.okWide P w r b0 t v) (h : DataW.Trod enc P w base spare held t v d p) : ∃ (A : Option Addr) (n c : Nat) (xs : List α), v = .slice A n c ∧ (A = none → c = 0) ∧ Sl w A n c xs ∧ ∀ x ∈ xs, K x := by
  obtain ⟨a0, n0, c0, rfl⟩ := okWide_slice ht hv
  obtain ⟨fuel, hf⟩ := h
  rcases Go.Deep.open_slice ht hf with ⟨h0, _⟩ | ⟨a, len, cap, m, n, D, Pl, hcs, hb, hl, hm, hmm, hx, hi⟩
  · simp [Value.cells] at h0
    obtain ⟨rfl, rfl, rfl⟩ := h0
    exact ⟨none, 0, 0, [], rfl, fun _ => rfl, Sl.nil_ _, fun x hx => by cases hx⟩
  · simp [Value.cells] at hcs
    obtain ⟨rfl, rfl, rfl⟩ := hcs
    have hlm : n0 ≤ m := by rw [hmm]; split <;> omega
    have key : ∀ i, i < n0 → ∃ x : α, (∀ j u, (Flat.cells x)[j]? = some u → w.cell? (a.add (i * Flat.sz α + j)) = some u) ∧ K x := by
      intro i hin
      obtain ⟨cs', hc, ht'⟩ := hi i (by omega)
      rw [hC] at hc
      obtain ⟨_, hcl, hat⟩ := World.cells?_some hc
      obtain ⟨x, hx, hK⟩ := hread _ _ _ hcl ht'
      refine ⟨x, fun j u hu => ?_, hK⟩
      have hj : j < Flat.sz α := by rw [← Flat.len x]; exact (List.getElem?_eq_some_iff.1 hu).1
      have h1 := hat j hj
      rw [Go.Deep.add_add, hx, hu] at h1
      exact h1
    by_cases hn : n0 = 0
    · subst hn
      exact ⟨some a, 0, c0, [], rfl, fun h => (by cases h), ⟨rfl, by omega, hm, fun h => absurd h (by omega)⟩, fun x hx => by cases hx⟩
    · have h0 : ∃ u, w.cell? a = some u := by
        obtain ⟨x, hx, _⟩ := key 0 (by omega)
        have hp := Flat.pos (α := α)
        have hl0 := Flat.len x
        have h1 := hx 0 _ (List.getElem?_eq_getElem (show 0 < (Flat.cells x).length by omega))
        exact ⟨(Flat.cells x)[0]'(by omega), by simpa [Addr.add] using h1⟩
      obtain ⟨u0, h0⟩ := h0
      have hsp := World.cell?_spot h0
      have hbl := lt_of_cell h0
      obtain ⟨b, off, spot⟩ := a
      dsimp only at hsp hbl
      subst hsp
      refine ⟨some ⟨b, off, none⟩, n0, c0, List.ofFn (fun i : Fin n0 => Classical.choose (key i.1 i.2)), rfl, fun h => (by cases h), ⟨by simp, hl, hm, fun _ => ⟨b, off, rfl, hbl, fun i x hx j u hu => ?_⟩⟩, ?_⟩
      · rw [List.getElem?_ofFn] at hx
        split at hx
        · rename_i hin
          cases hx
          have h1 := (Classical.choose_spec (key i hin)).1 j u hu
          rw [add_mk] at h1
          rw [Nat.add_assoc]
          exact h1
        · cases hx
      · intro x hx
        obtain ⟨i, rfl⟩ := List.mem_ofFn.1 hx
        exact (Classical.choose_spec (key i.1 i.2)).2
end
namespace Cu
def evOk (e : Ev) : Prop := e.num.size ≤ maxLen ∧ e.name.size ≤ maxLen
section
variable {H : Type} {enc : TypeId × Value → H} {w : World} {base : Nat} {spare : Nat → Bool} {held : Bool}
theorem ev_read (n : Nat) (cs : List Value) (y : DataW H × List MemPlace) (hl : cs.length = Flat.sz Ev)
    (h : DataW.trod enc Try.prog w base spare held n 36 cs = some y) : ∃ x : Ev, cs = Flat.cells x ∧ evOk x := by
  have h7 : cs.length = 7 := hl
  obtain ⟨a0, h0, _⟩ := sub_int Try.underlying36 h (i := 0) rfl (o := 0) rfl (by kernel_rfl) (by omega) Try.underlying3
  obtain ⟨a1, h1, _⟩ := sub_int Try.underlying36 h (i := 1) rfl (o := 1) rfl (by kernel_rfl) (by omega) Try.underlying3
  obtain ⟨a2, h2, _⟩ := sub_int Try.underlying36 h (i := 2) rfl (o := 2) rfl (by kernel_rfl) (by omega) Try.underlying3
  obtain ⟨a3, h3, _⟩ := sub_int Try.underlying36 h (i := 3) rfl (o := 3) rfl (by kernel_rfl) (by omega) Try.underlying3
  obtain ⟨a4, h4, k4⟩ := sub_str Try.underlying36 h (i := 4) rfl (o := 4) rfl (by kernel_rfl) (by omega) Try.underlying9
  obtain ⟨a5, h5, k5⟩ := sub_str Try.underlying36 h (i := 5) rfl (o := 5) rfl (by kernel_rfl) (by omega) Try.underlying9
  obtain ⟨a6, h6, _⟩ := sub_int Try.underlying36 h (i := 6) rfl (o := 6) rfl (by kernel_rfl) (by omega) Try.underlying3
  refine ⟨⟨a0, a1, a2, a3, a4, a5, a6⟩, ?_, k4, k5⟩
  match cs, h7 with
  | [_, _, _, _, _, _, _], _ =>
    cases h0; cases h1; cases h2; cases h3; cases h4; cases h5; cases h6
    rfl
theorem open_evs {v : Value} {d : DataW H} {p : List MemPlace} {r : Reach} {b0 : Nat} (hv : Value.okWide Try.prog w r b0 22 v) (h : DataW.Trod enc Try.prog w base spare held 22 v d p) :
    ∃ (A : Option Addr) (n c : Nat) (l : List Ev), v = .slice A n c ∧ (A = none → c = 0) ∧ Sl w A n c l ∧ SzOk l :=
  open_flatK evOk Try.underlying22 (by kernel_rfl) ev_read hv h
end
end Cu
end Go.Proofs.Yteaanngagcflhaa
namespace Go.Proofs.Yteaanngagcflhaa
open Go.RowKit
namespace Nb
open Cu
theorem cSubs_asc (b : Bk) : (cSubs b).Pairwise (fun s t => s.id < t.id) := by
  unfold cSubs
  rw [List.pairwise_filterMap]
  refine (rngK_asc 9999).imp fun {a c} h s hs t ht => ?_
  rw [liveS_id hs, liveS_id ht]; exact h
def cntB (l : List Sb) (x : ByteArray) (k : Nat) : Nat := ((l.take k).filter fun s => hasS s.nums x).length
theorem cnt_succ {l : List Sb} {x : ByteArray} {k : Nat} {s : Sb} (h : l[k]? = some s) : cntB l x (k + 1) = cntB l x k + (if hasS s.nums x = true then 1 else 0) := by
  unfold cntB
  rw [List.take_add_one, h, Option.toList_some, List.filter_append, List.length_append]
  congr 1
  by_cases hh : hasS s.nums x = true
  · rw [if_pos hh, List.filter_cons_of_pos (by simpa using hh)]; rfl
  · rw [if_neg hh, List.filter_cons_of_neg (by simpa using hh)]; rfl
theorem cnt_one {b : Bk} (hb : Bok b) (x : ByteArray) {k : Nat} (hk : (cSubs b).length = k) : cntB (cSubs b) x k = if (ownB b x).isSome = true then 1 else 0 := by
  subst hk
  unfold cntB ownB
  rw [List.take_length, ← List.head?_filter]
  have h1 := (cSubs_asc b).sublist (List.filter_sublist (p := fun s => hasS s.nums x) (l := cSubs b))
  have h2 : ∀ s ∈ (cSubs b).filter (fun s => hasS s.nums x), ∀ t ∈ (cSubs b).filter (fun s => hasS s.nums x), s.id = t.id := fun s hs t ht => by
    obtain ⟨a1, a2⟩ := List.mem_filter.1 hs
    obtain ⟨c1, c2⟩ := List.mem_filter.1 ht
    exact hb.dj _ _ _ _ x.toList ((mem_cSubs hb).1 a1).1 ((mem_cSubs hb).1 c1).1 a2 c2
  obtain ⟨F, hF⟩ : ∃ F, F = (cSubs b).filter (fun s => hasS s.nums x) := ⟨_, rfl⟩
  rw [← hF] at h1 h2 ⊢
  clear hF
  match F with
  | [] => rfl
  | [s] => rfl
  | s :: t :: r =>
    have h3 := (List.pairwise_cons.1 h1).1 t List.mem_cons_self
    have h4 := h2 s List.mem_cons_self t (List.mem_cons_of_mem _ List.mem_cons_self)
    omega
theorem own_mine {b : Bk} (hb : Bok b) {x : ByteArray} {k : Nat} {s : Sb} (h : (cSubs b)[k]? = some s) (hh : hasS s.nums x = true) : ownB b x = some s.id :=
  (ownB_some hb).2 ⟨s, ((mem_cSubs hb).1 (List.mem_of_getElem? h)).1, hh⟩
theorem find_mine {b : Bk} (hb : Bok b) {k : Nat} {s : Sb} (h : (cSubs b)[k]? = some s) : ((cSubs b).find? (fun y => y.id == s.id)).getD sb0 = s := by
  rw [find_cSubs hb]
  obtain ⟨h1, h2⟩ := (mem_cSubs hb).1 (List.mem_of_getElem? h)
  unfold liveS
  rw [if_neg (by rw [h2]; decide), h1]; rfl
end Nb
end Go.Proofs.Yteaanngagcflhaa
namespace Go.Proofs.Yteaanngagcflhaa
open Go.RowKit
namespace Nb
open Cu
set_option maxHeartbeats 16000000 in
theorem law_one (A : Option Addr) (n c : Nat) (l : List Ev) (x : ByteArray) (t : Int) (w : World) (hs : Sl w A n c l) (hz : SzOk l) (hx : x.size ≤ maxLen) :
    Calls Try.prog 13 #[.slice A n c, .string x, .int .i64 t] w fun r w' => r = .returned (.bool true) ∧ Below w.heap.size w w' := by
  have HS := Lib.hid hs
  have HZ := Lib.hid hz
  have HX := Lib.hid hx
  clear hs hz hx
  go_enter Try.func13, Try.ntmps13
  cases hvl : vlB l
  · have HVB := Lib.hid hvl
    clear hvl
    go_wp2_with (first
      | (go_at_call 25; go_must (refine (rValid_any A n c l _ HS.out HZ.out).mono ?_; rintro r w1 ⟨rfl, hb1⟩; rw [HVB.out]))
      | (go_at_call 40; go_must (refine (awake18_any _).mono ?_; rintro r w2 ⟨rfl, hb2⟩)))
    go_ret
    exact ⟨rfl, (hb1.trans (hb2.mono hb1.size))⟩
  have HVB := Lib.hid hvl
  have HV := Lib.hid (vlB_true hvl)
  have HBK := Lib.hid (at_inv HV.out t).2
  clear hvl
  go_upto_region 3 with (go_at_call 25; go_must (refine (rValid_any A n c l _ HS.out HZ.out).mono ?_; rintro r w1 ⟨rfl, hb1⟩; rw [HVB.out]))
  replace HS := Lib.hid (HS.out.below hb1)
  obtain ⟨ow, how⟩ : ∃ o, ownB (bkAt l t) x = o := ⟨_, rfl⟩
  have HOW := Lib.hid how
  clear how
  go_upto_region 4 with (go_at_call 41; go_must (refine (Owner_any A n c l x t _ HS.out HV.out HZ.out HX.out).mono ?_; rintro r w2 ⟨rfl, hb2⟩; rw [HOW.out]))
  replace HS := Lib.hid (HS.out.below hb2)
  obtain ⟨o, ho⟩ : ∃ z, ow.getD 0 = z := ⟨_, rfl⟩
  obtain ⟨q, hq⟩ : ∃ z, ow.isSome = z := ⟨_, rfl⟩
  rw [ho, hq]
  have HO := Lib.hid ho
  have HQ := Lib.hid hq
  clear ho hq
  go_upto_region 5 with (go_at_call 27; go_must (refine (State_vl A n c l t _ HS.out HV.out HZ.out).mono ?_; rintro r w5 ⟨Aa, na, ca, As, ns, cs, rfl, hla, hls, hb5⟩; have HLS := Lib.hid hls; clear hla hls))
  replace HS := Lib.hid (HS.out.below hb5)
  (obtain ⟨W, hWW, hbW, hzW, f1W, pfa⟩ := box1 w5 #[.slice Aa na ca, .slice As ns cs] 32; rw [← hWW]; have pa0 : W.cell? ⟨w5.heap.size, 0, none⟩ = some (.slice Aa na ca) := f1W 0 _ rfl; have pa1 : W.cell? ⟨w5.heap.size, 1, none⟩ = some (.slice As ns cs) := f1W 1 _ rfl; clear hWW f1W)
  replace HS := Lib.hid (HS.out.below hbW)
  have hbwW := (hb1.trans ((hb2.trans (hb5.mono hb2.size)).mono hb1.size)).trans (hbW.mono (by have := hb1.size; have := hb2.size; have := hb5.size; omega))
  obtain ⟨hN0, xs, hxs, hall⟩ := HLS.out
  have HXS := Lib.hid (hxs.below hbW)
  have HALL := Lib.hid (hall.imp fun _ _ h => h.on hbW)
  have hln : (cSubs (bkAt l t)).length = ns := HLS.out.len
  have hnm := hxs.nmax
  have HLN := Lib.hid hln
  have hw5 : w5.heap.size < W.heap.size := hzW
  clear hN0 hxs hall hln hb1 hb2 hb5 hbW
  go_wp2_with fail
  go_loopw [10, 11] (fun s10 i wr => ∃ k : Nat, k ≤ ns ∧ i = .int .i64 k ∧ s10 = .int .i64 (cntB (cSubs (bkAt l t)) x k) ∧ cntB (cSubs (bkAt l t)) x k ≤ k ∧ Below W.heap.size W wr) (fun _ i _ => ns - (intOf i).toNat)
  case atStart => exact ⟨0, Nat.zero_le _, rfl, rfl, Nat.le_refl _, Below.refl _ _⟩
  case round =>
    obtain ⟨k, hk, rfl, rfl, hck, hbr⟩ := hrel
    have hgr := hbr.size
    replace pa1 := cl hbr pa1
    obtain ⟨cn, hcn⟩ : ∃ z, cntB (cSubs (bkAt l t)) x k = z := ⟨_, rfl⟩
    rw [hcn] at hck ⊢
    have HCN := Lib.hid hcn
    clear hcn
    by_cases hlt : k < ns
    · obtain ⟨b0, off, hAe, hbl, hcells⟩ := HXS.out.baseIn hbr (by omega)
      obtain ⟨v, hv⟩ := HXS.out.get hlt
      obtain ⟨y, hy, hsr⟩ := HALL.out.at_ hv
      have ev0 : wr.cell? ⟨b0, off + k * 8, none⟩ = some (.int .i64 v.id) := Sl.at_ hcells hv 0 rfl
      have ev4 : wr.cell? ⟨b0, off + k * 8 + 4, none⟩ = some (.slice v.An v.nn v.cn) := Sl.at_ hcells hv 4 rfl
      have HSR := Lib.hid (hsr.on hbr)
      have HFM : Hid (((cSubs (bkAt l t)).find? (fun y => y.id == v.id)).getD sb0 = y) := Lib.hid (by rw [hsr.id]; exact find_mine HBK.out hy)
      have HCS := Lib.hid (cnt_succ (x := x) hy)
      have HMY : Hid (hasS y.nums x = true → o = v.id) := Lib.hid (fun h => by rw [hsr.id, ← HO.out, ← HOW.out, own_mine HBK.out hy h]; rfl)
      subst hAe
      clear hcells hv hsr hy
      cases hh : hasS y.nums x
      case false =>
        have HH := Lib.hid hh
        clear hh
        go_upto_region 10 with (first
          | (go_at_call 49; go_must (refine (Numbers_any A n c l v.id t _ (HS.out.below hbr) HV.out HZ.out).mono ?_; rintro r w6 ⟨⟨A6, n6, c6, rfl, hs6⟩, hb6⟩; rw [HFM.out] at hs6; have HS6 := Lib.hid hs6; clear hs6))
          | (go_at_call 39; go_must (refine (Has_any A6 n6 c6 y.nums x _ HS6.out).mono ?_; rintro r w7 ⟨rfl, rfl⟩; rw [HH.out])))
        replace ev0 := cl hb6 ev0
        replace ev4 := cl hb6 ev4
        replace pa1 := cl hb6 pa1
        replace HSR := Lib.hid (HSR.out.on hb6)
        replace hbr := hbr.trans (hb6.mono hbr.size)
        clear hb6
        have HC2 : Hid (cntB (cSubs (bkAt l t)) x (k + 1) = cn) := Lib.hid (by rw [HCS.out, HH.out, HCN.out]; rfl)
        go_wp2_with (go_at_call 39; go_must (refine (Has_any v.An v.nn v.cn y.nums x _ HSR.out.n).mono ?_; rintro r w7 ⟨rfl, rfl⟩; rw [HH.out]))
        go_roundw
        case rel => exact ⟨k + 1, by omega, by go_num, by rw [HC2.out], by rw [HC2.out]; omega, hbr⟩
        case measure => simp [intOf]; omega
      case true =>
        have HH := Lib.hid hh
        clear hh
        go_upto_region 10 with (first
          | (go_at_call 49; go_must (refine (Numbers_any A n c l v.id t _ (HS.out.below hbr) HV.out HZ.out).mono ?_; rintro r w6 ⟨⟨A6, n6, c6, rfl, hs6⟩, hb6⟩; rw [HFM.out] at hs6; have HS6 := Lib.hid hs6; clear hs6))
          | (go_at_call 39; go_must (refine (Has_any A6 n6 c6 y.nums x _ HS6.out).mono ?_; rintro r w7 ⟨rfl, rfl⟩; rw [HH.out])))
        replace ev0 := cl hb6 ev0
        replace ev4 := cl hb6 ev4
        replace pa1 := cl hb6 pa1
        replace HSR := Lib.hid (HSR.out.on hb6)
        replace hbr := hbr.trans (hb6.mono hbr.size)
        clear hb6
        have HC2 : Hid (cntB (cSubs (bkAt l t)) x (k + 1) = cn + 1) := Lib.hid (by rw [HCS.out, HH.out, HCN.out]; rfl)
        have hov := HMY.out HH.out
        subst hov
        have b1 : (v.id == v.id) = true := by simp
        have b2 : (v.id != v.id) = false := by simp
        go_wp2_with (go_at_call 39; go_must (refine (Has_any v.An v.nn v.cn y.nums x _ HSR.out.n).mono ?_; rintro r w7 ⟨rfl, rfl⟩; rw [HH.out]))
        go_roundw
        case rel => exact ⟨k + 1, by omega, by go_num, by rw [HC2.out]; go_num, by rw [HC2.out]; omega, hbr⟩
        case measure => simp [intOf]; omega
    · obtain rfl : ns = k := by omega
      have hkn : ¬ ((ns : Int) < (ns : Int)) := by omega
      have h1 := cnt_one HBK.out x HLN.out
      rw [HCN.out, HOW.out, HQ.out] at h1
      have hbwr := hbwW.trans (hbr.mono hbwW.size)
      cases q
      · obtain rfl : cn = 0 := by simpa using h1
        obtain rfl : o = 0 := by have h2 := HQ.out; rw [← HO.out]; cases ow with
          | none => rfl
          | some m => cases h2
        clear h1
        go_wp2_with (go_at_call 40; go_must (refine (awake18_any _).mono ?_; rintro r w8 ⟨rfl, hb8⟩))
        go_ret
        exact ⟨rfl, hbwr.trans (hb8.mono hbwr.size)⟩
      · obtain rfl : cn = 1 := by simpa using h1
        clear h1
        go_wp2_with (go_at_call 40; go_must (refine (awake18_any _).mono ?_; rintro r w8 ⟨rfl, hb8⟩))
        go_ret
        exact ⟨rfl, hbwr.trans (hb8.mono hbwr.size)⟩
end Nb
end Go.Proofs.Yteaanngagcflhaa
namespace Go.Proofs.Yteaanngagcflhaa
open Go
theorem join_enter : Program.mayEnter Try.prog = true := by kernel_rfl
theorem join_make : Try.prog.make = some Rows.customerChecksRow.make := by kernel_rfl
theorem join_lift : Try.prog.liftsFinal = Rows.customerChecksRow.lifted := by kernel_rfl
theorem join_laid : laidOutB Try.prog = true := by kernel_rfl
end Go.Proofs.Yteaanngagcflhaa
