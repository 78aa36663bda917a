/-
  Customers: world.apply. No condition.
-/
import Derived.Test.YteaanngagcflhaaCuL
import Derived.Test.YteaanngagcflhaaCuD
import Derived.Test.YteaanngagcflhaaCuB
import Derived.BigQuiet
import Derived.StillTailTactics
import Derived.Lib.Overlaps
import Derived.Deep.DeepCutAuto
import Derived.Deep.RegionWith
import Derived.Laws.RangeAny
import Derived.Deep.RegionHeld
import Derived.Deep.RegionHeldLaw
set_option maxRecDepth 100000
set_option linter.unusedVariables false
set_option linter.unusedSimpArgs false
namespace Go.Proofs.Yteaanngagcflhaa
open Go.RowKit

namespace Cu
open Go.Maps
theorem box1d (w : World) (cs : Array Value) (t : TypeId) : ∃ W, W = (w.alloc (.cells cs t)).drew ∧ Below w.heap.size w W ∧ w.heap.size < W.heap.size ∧ (∀ j u, cs.toList[j]? = some u → W.cell? ⟨w.heap.size, j, none⟩ = some u) ∧ (∀ j, W.frozen? ⟨w.heap.size, j, none⟩ = false) := by
  obtain ⟨V, hV, h1, h2, h3, h4⟩ := box1 w cs t
  exact ⟨V.drew, by rw [hV], h1.drew, h2, h3, h4⟩
section
variable {P : Program} {k e t : TypeId} {w : World} {b n : Nat} {f : Lit → Option Value} {o : Oper} {a : Act} {K' : Act → World → Prop} {Q : Exit → Act → World → Prop}
theorem op_put (m x v : Operand) (hop : o.op = Op.mapUpdate t m x v) (K : Keyed P k) (ht : P.underlying t = some (.map k e))
    (hm : a.eval m = .map (some b)) (h : Mf P k w b n f) (hn : n < maxLen) (key val : Value) (l : Lit) (hx : a.eval x = key) (hv : a.eval v = val) (hkey : keyOf P k key = some l)
    (hK : ∀ w', Mf P k w' b (n + 1) (setM f l (some val)) → w.mapTurned w' b → K' (a.put o.dst undef) w') : Oper.wp P o a w K' Q := by
  obtain ⟨w', hrun, r1, r2⟩ := store_run K ht h hn key val l hkey
  unfold Oper.wp
  simp [execOp, hop, hm, hx, hv, hrun, Result.andThen]
  exact hK w' r1 r2
theorem op_del (m x : Operand) (hop : o.op = Op.call { callee := Callee.builtin Builtin.delete, args := #[m, x], argTypes := #[t, k] }) (K : Keyed P k) (ht : P.underlying t = some (.map k e))
    (hm : a.eval m = .map (some b)) (h : Mf P k w b n f) (key : Value) (l : Lit) (hx : a.eval x = key) (hkey : keyOf P k key = some l)
    (hK : ∀ w', Mf P k w' b n (setM f l none) → w.mapTurned w' b → K' (a.put o.dst (.tuple #[])) w') : Oper.wp P o a w K' Q := by
  obtain ⟨D, hD, hf⟩ := h
  obtain ⟨w', hrun, hD', hturn⟩ := hD.drop K ht hkey o.type
  unfold Oper.wp
  simp [execOp, hop, resolve, invoke, builtin, hm, hx, hrun, Result.andThen]
  refine hK w' ⟨_, hD', fun l' hl' => ?_⟩ hturn
  by_cases he : l' = l
  · subst he
    rw [setM_same]
    exact ⟨has_del_same, fun z => atKey_del_same _⟩
  · rw [setM_other f he]
    exact ⟨(has_del_other he).trans (hf l' hl').1, fun z => (atKey_del_other he _).trans ((hf l' hl').2 z)⟩
end
theorem litI_ne {a b : Int} (h : a ≠ b) : (Lit.int IntKind.i64 a) ≠ (Lit.int IntKind.i64 b) := fun e => h (by injection e)
theorem insI_len (l : List Int) (x : Int) : (insI l x).length = l.length + 1 := by
  induction l with
  | nil => rfl
  | cons a l ih => unfold insI; split <;> simp [ih]
theorem insS_len (l : List ByteArray) (x : ByteArray) : (insS l x).length = l.length + 1 := by
  induction l with
  | nil => rfl
  | cons a l ih => unfold insS; split <;> simp [ih]
theorem fA_put {f : Lit → Option Value} {s : St} (h : fA f s) (x : Int) (v : Ac) : fA (setM f (.int .i64 x) (some (acV v))) { s with acc := upd s.acc x (some v) } := fun y => by
  show setM _ _ _ _ = (upd s.acc x (some v) y).map acV
  unfold upd
  by_cases hy : y = x
  · subst hy; rw [setM_same, if_pos rfl]; rfl
  · rw [setM_other _ (litI_ne hy), if_neg hy]; exact h y
theorem fE_put {f : Lit → Option Value} {s : St} (h : fE f s) (x : Int) : fE (setM f (.int .i64 x) (some (.bool true))) { s with ever := upd s.ever x true } := fun y => by
  show (setM _ _ _ _).getD _ = Value.bool (upd s.ever x true y)
  unfold upd
  by_cases hy : y = x
  · subst hy; rw [setM_same, if_pos rfl]; rfl
  · rw [setM_other _ (litI_ne hy), if_neg hy]; exact h y
theorem fL_put {N : Nat} {f : Lit → Option Value} {s : St} (h : fL N f s) (x z : Int) (h1 : -((N + 1 : Nat) : Int) ≤ z) (h2 : z ≤ (N + 1 : Nat)) : fL (N + 1) (setM f (.int .i64 x) (some (.int .i64 z))) { s with live := upd s.live x z } := fun y => by
  show (setM _ _ _ _).getD _ = Value.int .i64 (upd s.live x z y) ∧ _ ≤ upd s.live x z y ∧ upd s.live x z y ≤ _
  unfold upd
  by_cases hy : y = x
  · subst hy; rw [setM_same, if_pos rfl]; exact ⟨rfl, h1, h2⟩
  · rw [setM_other _ (litI_ne hy), if_neg hy]; exact (h.mono (Nat.le_succ N)) y
theorem fS_put {w : World} {q : Nat → Prop} {N : Nat} {f : Lit → Option Value} {s : St} (h : fS w q N f s) (x : Int) (v : Sv) (sb : Sb) (hv : SRP w q v sb) (h1 : sb.nums.length ≤ N + 1) (h2 : sb.prods.length ≤ N + 1) (h3 : ∀ u ∈ sb.nums, u.size ≤ maxLen) (h4 : (Lit.int .i64 sb.acc).wf = true) : fS w q (N + 1) (setM f (.int .i64 x) (some v.val)) { s with sub := upd s.sub x (some sb) } := fun y => by
  show match upd s.sub x (some sb) y with
    | none => _
    | some sb => _
  unfold upd
  by_cases hy : y = x
  · subst hy; rw [if_pos rfl]; exact ⟨v, setM_same _ _ _, hv, h1, h2, h3, h4⟩
  · rw [if_neg hy]
    have := h.mono (Nat.le_succ N) y
    cases hs : s.sub y with
    | none => rw [hs] at this; rw [setM_other _ (litI_ne hy)]; exact this
    | some t => rw [hs] at this; rw [setM_other _ (litI_ne hy)]; exact this
theorem fS_del {w : World} {q : Nat → Prop} {N : Nat} {f : Lit → Option Value} {s : St} (h : fS w q N f s) (x : Int) : fS w q N (setM f (.int .i64 x) none) { s with sub := upd s.sub x none } := fun y => by
  show match upd s.sub x none y with
    | none => _
    | some sb => _
  unfold upd
  by_cases hy : y = x
  · subst hy; rw [if_pos rfl]; exact setM_same _ _ _
  · rw [if_neg hy]
    have := h y
    cases hs : s.sub y with
    | none => rw [hs] at this; rw [setM_other _ (litI_ne hy)]; exact this
    | some t => rw [hs] at this; rw [setM_other _ (litI_ne hy)]; exact this
theorem lit_str {u y : ByteArray} : (Lit.string y.data.toList = Lit.string u.data.toList) ↔ u.toList = y.toList := by
  rw [Lib.toList_data, Lib.toList_data]
  constructor
  · intro h; injection h with h; exact h.symm
  · intro h; rw [h]
theorem fO_del {f : Lit → Option Value} {s : St} {o : List UInt8 → Option Int} {l : List ByteArray} {j : Nat} {u : ByteArray} (h : fO f { s with own := delAll o (l.take j) }) (hu : l[j]? = some u) : fO (setM f (.string u.data.toList) none) { s with own := delAll o (l.take (j + 1)) } := fun y => by
  have htk : l.take (j + 1) = l.take j ++ [u] := by rw [List.take_add_one, hu]; rfl
  have hy := h y
  show setM _ _ _ _ = (delAll o (l.take (j + 1)) y.toList).map (Value.int .i64 ·)
  have hy' : f (.string y.data.toList) = (delAll o (l.take j) y.toList).map (Value.int .i64 ·) := hy
  unfold delAll at hy' ⊢
  rw [htk, List.any_append]
  by_cases he : u.toList = y.toList
  · rw [lit_str.2 he, setM_same, if_pos (by simp [he])]; rfl
  · rw [setM_other _ (fun e => he (lit_str.1 e)), hy']
    have : ([u].any fun z => z.toList == y.toList) = false := by simpa using he
    rw [this, Bool.or_false]
set_option maxHeartbeats 16000000 in
theorem apply_1 (at_ acc sub val : Int) (num name : ByteArray) (B M NN : Nat) (k : Bl) (s : St) (w : World) (h : Rep w B M NN k s) (wa : (Lit.int .i64 acc).wf = true) (ws : (Lit.int .i64 sub).wf = true) (hnm : num.size ≤ maxLen) (hNN : NN ≤ 100000) :
    Calls Try.prog 71 #[.pointer (some ⟨k.p, 0, none⟩), .agg #[.int .i64 at_, .int .i64 1, .int .i64 acc, .int .i64 sub, .string num, .string name, .int .i64 val]] w fun r w' => (∃ u, r = .returned u) ∧ Rep w' B M (NN + 4) k (applyP s ⟨at_, 1, acc, sub, num, name, val⟩) ∧ Stp B M w w' := by
  have hBw : B ≤ w.heap.size := by have := h.lo; have := h.hi; have := h.m; omega
  have hmx : NN + 4 < maxLen := by unfold maxLen; omega
  have HR := Lib.hid h
  clear h
  go_enter Try.func71, Try.ntmps71
  go_upto_region 1 with (fail)
  (obtain ⟨W, hWW, hbW, hzW, f1W, qfa⟩ := box1 w #[.int .i64 at_, .int .i64 1, .int .i64 acc, .int .i64 sub, .string num, .string name, .int .i64 val] 36; rw [← hWW]; have qa0 : W.cell? ⟨w.heap.size, 0, none⟩ = some (.int .i64 at_) := f1W 0 _ rfl; have qa1 : W.cell? ⟨w.heap.size, 1, none⟩ = some (.int .i64 1) := f1W 1 _ rfl; have qa2 : W.cell? ⟨w.heap.size, 2, none⟩ = some (.int .i64 acc) := f1W 2 _ rfl; have qa3 : W.cell? ⟨w.heap.size, 3, none⟩ = some (.int .i64 sub) := f1W 3 _ rfl; have qa4 : W.cell? ⟨w.heap.size, 4, none⟩ = some (.string num) := f1W 4 _ rfl; have qa5 : W.cell? ⟨w.heap.size, 5, none⟩ = some (.string name) := f1W 5 _ rfl; have qa6 : W.cell? ⟨w.heap.size, 6, none⟩ = some (.int .i64 val) := f1W 6 _ rfl; clear hWW f1W)
  have HT := Lib.hid (Stp.below (M := M) hbW hBw)
  have hpw : k.p < w.heap.size := Nat.lt_of_lt_of_le HR.out.hi.1 HR.out.m
  have hpW : k.p < W.heap.size := Nat.lt_trans hpw hzW
  have hgW : w.heap.size < W.heap.size := hzW
  have hnp : w.heap.size ≠ k.p := by omega
  replace HR := Lib.hid (HR.out.below hbW)
  clear hbW hzW
  have c0 := HR.out.c0
  obtain ⟨fa, hMA, hFA⟩ := HR.out.acc
  have HMA := Lib.hid hMA
  have hfx := hFA acc
  clear hMA hFA
  go_upto_region 6 with (fail)
  cases hacc : s.acc acc
  case none =>
    rw [hacc] at hfx
    have HQ := Lib.hid (show applyP s ⟨at_, 1, acc, sub, num, name, val⟩ = { s with acc := upd s.acc acc (some ⟨acc, at_, val, seq_ name nPre, false⟩), opened := insI s.opened acc } by unfold applyP; simp [hacc])
    clear hacc
    refine wp_region_held_drew (S := fun w' => Below W.heap.size W w') (by kernel_rfl) ((Below.refl _ _).drew) (fun hHeld => ?_)
    refine tk 0 (v := ?_) ?_ ?_
    rotate_left
    · intro w' hSw; go_simp; (try with_reducible rfl)
    refine tk 1 (v := ?_) ?_ ?_
    rotate_left
    · intro w' hSw; go_simp; (try with_reducible rfl)
    refine tk 2 (v := ?_) ?_ ?_
    rotate_left
    · intro w' hSw; go_simp; (try with_reducible rfl)
    refine tk 3 (v := ?_) ?_ ?_
    rotate_left
    · intro w' hSw; have z0 := (hSw.cell (p := ⟨k.p, 0, none⟩) hpW).trans c0; have z2 := (hSw.cell (p := ⟨w.heap.size, 2, none⟩) hgW).trans qa2; go_simp; (try with_reducible rfl)
    refine tk 4 (v := ?_) ?_ ?_
    rotate_left
    · intro w' hSw; go_simp; (try with_reducible rfl)
    refine tk 5 (v := ?_) ?_ ?_
    rotate_left
    · intro w' hSw; have z0 := (hSw.cell (p := ⟨k.p, 0, none⟩) hpW).trans c0; have z2 := (hSw.cell (p := ⟨w.heap.size, 2, none⟩) hgW).trans qa2; go_simp; (try with_reducible rfl)
    refine tk 6 (v := ?_) ?_ ?_
    rotate_left
    · intro w' hSw; have hl := (HMA.out.below hSw).run_ok keyI Try.underlying123 (zeroA _) (kI wa) (v := .agg #[.int .i64 0, .int .i64 0, .int .i64 0, .bool false, .bool false, .slice none 0 0]) (c := false) (by rw [hfx]; rfl) (by rw [hfx]; rfl); go_simp; (try with_reducible rfl)
    refine tk 7 (v := ?_) ?_ ?_
    rotate_left
    · intro w' hSw; go_simp; (try with_reducible rfl)
    refine tk 8 (v := ?_) ?_ ?_
    rotate_left
    · intro w' hSw; go_simp; (try with_reducible rfl)
    refine tk 9 (v := ?_) ?_ ?_
    rotate_left
    · intro w' hSw; go_simp; (try with_reducible rfl)
    (try simp only [List.getElem_toArray, List.getElem_cons_succ, List.getElem_cons_zero, Act.put, List.setIfInBounds_toArray, List.set_cons_zero, List.set_cons_succ])
    refine wpAnyH_ready (rs := [10]) (by kernel_rfl) (by simp) ?_
    refine AllReadyH.cons rfl (fun K' hK => ?_) AllReadyH.nil
    go_simp
    refine hK.out _ _ (by (repeat (first | exact hHeld | exact Below.refl _ _ | (refine Below.alloc ?_ (by (try simp) <;> omega) _) | (refine Below.setCell ?_ (by (try simp) <;> omega) _) | refine Below.drew ?_ | refine below_drewN ?_ _))) (fun hHeld => ?_)
    clear hK K'
    (try simp only [List.getElem_toArray, List.getElem_cons_succ, List.getElem_cons_zero, Act.put, List.setIfInBounds_toArray, List.set_cons_zero, List.set_cons_succ])
    refine wpAnyH_ready (rs := [11]) (by kernel_rfl) (by simp) ?_
    refine AllReadyH.cons rfl (fun K' hK => ?_) AllReadyH.nil
    go_simp
    refine hK.out _ _ (by (repeat (first | exact hHeld | exact Below.refl _ _ | (refine Below.alloc ?_ (by (try simp) <;> omega) _) | (refine Below.setCell ?_ (by (try simp) <;> omega) _) | refine Below.drew ?_ | refine below_drewN ?_ _))) (fun hHeld => ?_)
    clear hK K'
    (try simp only [List.getElem_toArray, List.getElem_cons_succ, List.getElem_cons_zero, Act.put, List.setIfInBounds_toArray, List.set_cons_zero, List.set_cons_succ])
    refine tk 12 (v := ?_) ?_ ?_
    rotate_left
    · intro w' hSw; go_simp; (try with_reducible rfl)
    (try simp only [List.getElem_toArray, List.getElem_cons_succ, List.getElem_cons_zero, Act.put, List.setIfInBounds_toArray, List.set_cons_zero, List.set_cons_succ])
    refine wpAnyH_done (by kernel_rfl) ?_ _
    (try simp only [List.getElem_toArray, List.getElem_cons_succ, List.getElem_cons_zero, Act.put, List.setIfInBounds_toArray, List.set_cons_zero, List.set_cons_succ])
    obtain ⟨V, hVV, hbV, hzV, fV, ffV⟩ := box1d W #[.int .i64 0, .int .i64 0, .int .i64 0, .bool false, .bool false, .slice none 0 0] 46
    rw [← hVV]
    clear hHeld hVV
    (have hzhbV := hbV.size; replace qa0 := cl hbV qa0; replace qa1 := cl hbV qa1; replace qa2 := cl hbV qa2; replace qa3 := cl hbV qa3; replace qa4 := cl hbV qa4; replace qa5 := cl hbV qa5; replace qa6 := cl hbV qa6)
    replace HR := Lib.hid (HR.out.below hbV)
    have hpV : k.p < V.heap.size := by omega
    have hgV : w.heap.size < V.heap.size := by omega
    replace HT := Lib.hid (HT.out.trans (Stp.below hbV (by have := HT.out.1.size; omega)))
    clear HMA hfx c0 fV ffV hbV
    go_upto_region 8 with (fail)
    obtain ⟨A5, n5, c5, hc5, hs5, hn5, ho5, hl5⟩ := HR.out.opened
    have HS5 := Lib.hid hs5
    have HN5 := Lib.hid hn5
    have hln5 := hs5.len
    clear hs5 hn5 ho5
    refine wp_region_held_drew (S := fun w' => Keeps (fun b => b ≠ k.p) V w') (by kernel_rfl) (Keeps.ofBelow (Below.refl _ _).drew) (fun hHeld => ?_)
    refine tk 0 (v := ?_) ?_ ?_
    rotate_left
    · intro w' hSw; go_simp; (try with_reducible rfl)
    refine tk 1 (v := ?_) ?_ ?_
    rotate_left
    · intro w' hSw; go_simp; (try with_reducible rfl)
    refine tk 2 (v := ?_) ?_ ?_
    rotate_left
    · intro w' hSw; go_simp; (try with_reducible rfl)
    refine tk 3 (v := ?_) ?_ ?_
    rotate_left
    · intro w' hSw; go_simp; (try with_reducible rfl)
    refine tk 5 (v := ?_) ?_ ?_
    rotate_left
    · intro w' hSw; go_simp; (try with_reducible rfl)
    refine tk 6 (v := ?_) ?_ ?_
    rotate_left
    · intro w' hSw; have ze2 := (hSw.2 w.heap.size 2 hnp hgV).trans qa2; go_simp; (try with_reducible rfl)
    (try simp only [List.getElem_toArray, List.getElem_cons_succ, List.getElem_cons_zero, Act.put, List.setIfInBounds_toArray, List.set_cons_zero, List.set_cons_succ])
    refine wpAnyH_ready (rs := [4]) (by kernel_rfl) (by simp) ?_
    refine AllReadyH.cons rfl (fun K' hK => ?_) AllReadyH.nil
    go_simp
    refine hK.out _ _ (hHeld) (fun hHeld => ?_)
    clear hK K'
    (try simp only [List.getElem_toArray, List.getElem_cons_succ, List.getElem_cons_zero, Act.put, List.setIfInBounds_toArray, List.set_cons_zero, List.set_cons_succ])
    refine wpAnyH_ready (rs := [7]) (by kernel_rfl) (by simp) ?_
    refine AllReadyH.cons rfl (fun K' hK => ?_) AllReadyH.nil
    go_simp
    (go_at_call 100; refine (placeI_any A5 n5 c5 s.opened acc _ (HS5.out.below (Below.refl _ _).drew) HN5.out (by omega)).mono ?_; rintro r w5 ⟨v5, rfl, ho5, hb5⟩; obtain ⟨A6, c6, rfl, hn6, hs6⟩ := ho5.slN; have p5 := (hb5.cell (p := ⟨k.p, 5, none⟩) hpV).trans hc5; have pf := (hb5.frozen (p := ⟨k.p, 5, none⟩) hpV).trans (HR.out.fz 5); have HK6 := Lib.hid (And.intro hn6 (And.intro hs6 ho5.okA)); have HB5 := Lib.hid hb5; clear hn6 hs6 ho5 hb5)
    refine hK.out _ _ (hHeld.trans (Keeps.ofBelow HB5.out)) (fun hHeld => ?_)
    clear hK K'
    (try simp only [List.getElem_toArray, List.getElem_cons_succ, List.getElem_cons_zero, Act.put, List.setIfInBounds_toArray, List.set_cons_zero, List.set_cons_succ])
    refine tk 8 (v := ?_) ?_ ?_
    rotate_left
    · intro w' hSw; go_simp; (try with_reducible rfl)
    refine tk 9 (v := ?_) ?_ ?_
    rotate_left
    · intro w' hSw; go_simp; (try with_reducible rfl)
    (try simp only [List.getElem_toArray, List.getElem_cons_succ, List.getElem_cons_zero, Act.put, List.setIfInBounds_toArray, List.set_cons_zero, List.set_cons_succ])
    refine wpAnyH_ready (rs := [10]) (by kernel_rfl) (by simp) ?_
    refine AllReadyH.cons rfl (fun K' hK => ?_) AllReadyH.nil
    go_simp
    refine hK.out _ _ (hHeld.trans (Keeps.ofSet fun b hb => hb)) (fun hHeld => ?_)
    clear hK K'
    (try simp only [List.getElem_toArray, List.getElem_cons_succ, List.getElem_cons_zero, Act.put, List.setIfInBounds_toArray, List.set_cons_zero, List.set_cons_succ])
    refine wpAnyH_done (by kernel_rfl) ?_ _
    (try simp only [List.getElem_toArray, List.getElem_cons_succ, List.getElem_cons_zero, Act.put, List.setIfInBounds_toArray, List.set_cons_zero, List.set_cons_succ])
    have hb5 : Below V.heap.size V w5 := (Below.refl _ _).drew.trans HB5.out
    have hln6 : (insI s.opened acc).length = n5 + 1 := by rw [insI_len]; omega
    rw [hln6]
    have hset := (HR.out.below hb5).set_opened (A := A6) (n := n5 + 1) (c := c6) (l := insI s.opened acc) (by have := HK6.out.2.1; rw [hln6] at this; exact this) HK6.out.1 (by have := HK6.out.2.2; rw [hln6] at this; exact this.mono fun b hb => by have : V.heap.size ≤ b := hb; omega) (by omega)
    obtain ⟨Y, hY⟩ : ∃ Y, Y = w5.setCell ⟨k.p, 5, none⟩ (.slice A6 (n5 + 1) c6) := ⟨_, rfl⟩
    rw [← hY] at hset ⊢
    have hcY : ∀ j u, V.cell? ⟨w.heap.size, j, none⟩ = some u → Y.cell? ⟨w.heap.size, j, none⟩ = some u := fun j u h => by rw [hY]; exact (World.cell?_setCell_other _ _ _ _ (fun e => by injection e with e1 e2; omega)).trans ((hb5.cell (p := ⟨w.heap.size, j, none⟩) hgV).trans h)
    replace qa0 := hcY 0 _ qa0
    replace qa1 := hcY 1 _ qa1
    replace qa2 := hcY 2 _ qa2
    replace qa3 := hcY 3 _ qa3
    replace qa4 := hcY 4 _ qa4
    replace qa5 := hcY 5 _ qa5
    replace qa6 := hcY 6 _ qa6
    clear hcY
    have hszY : V.heap.size ≤ Y.heap.size := by rw [hY, World.size_setCell]; exact hb5.size
    have hST : Stp B M w5 Y := by rw [hY]; exact Stp.set_ HR.out.lo.1 HR.out.hi.1
    replace HT := Lib.hid (HT.out.trans ((Stp.below hb5 (by have := HT.out.1.size; omega)).trans hST))
    clear hST
    replace HR := Lib.hid hset
    have hpY : k.p < Y.heap.size := by omega
    have hgY : w.heap.size < Y.heap.size := by omega
    clear hset hY hb5 HB5 HK6 p5 pf hHeld hc5 hln6 hln5 HS5 HN5 hl5
    go_upto_region 9 with (fail)
    have c0 := HR.out.c0
    obtain ⟨fb, hMB, hFB⟩ := HR.out.acc
    have HMB := Lib.hid hMB
    clear hMB
    obtain ⟨pb, hpb⟩ : ∃ b, (name.toList == [112, 114, 101, 112, 97, 105, 100]) = b := ⟨_, rfl⟩
    refine wp_region_held_drew (S := fun w' => Keeps (fun _ => True) Y w') (by kernel_rfl) (Keeps.ofBelow (Below.refl _ _).drew) (fun hHeld => ?_)
    refine tk 0 (v := ?_) ?_ ?_
    rotate_left
    · intro w' hSw; go_simp; (try with_reducible rfl)
    refine tk 1 (v := ?_) ?_ ?_
    rotate_left
    · intro w' hSw; go_simp; (try with_reducible rfl)
    refine tk 2 (v := ?_) ?_ ?_
    rotate_left
    · intro w' hSw; go_simp; (try with_reducible rfl)
    refine tk 3 (v := ?_) ?_ ?_
    rotate_left
    · intro w' hSw; have zc0 := (hSw.2 k.p 0 trivial hpY).trans c0; have ze2 := (hSw.2 w.heap.size 2 trivial hgY).trans qa2; have ze0 := (hSw.2 w.heap.size 0 trivial hgY).trans qa0; have ze6 := (hSw.2 w.heap.size 6 trivial hgY).trans qa6; have ze5 := (hSw.2 w.heap.size 5 trivial hgY).trans qa5; go_simp; (try with_reducible rfl)
    refine tk 4 (v := ?_) ?_ ?_
    rotate_left
    · intro w' hSw; go_simp; (try with_reducible rfl)
    refine tk 5 (v := ?_) ?_ ?_
    rotate_left
    · intro w' hSw; have zc0 := (hSw.2 k.p 0 trivial hpY).trans c0; have ze2 := (hSw.2 w.heap.size 2 trivial hgY).trans qa2; have ze0 := (hSw.2 w.heap.size 0 trivial hgY).trans qa0; have ze6 := (hSw.2 w.heap.size 6 trivial hgY).trans qa6; have ze5 := (hSw.2 w.heap.size 5 trivial hgY).trans qa5; go_simp; (try with_reducible rfl)
    refine tk 6 (v := ?_) ?_ ?_
    rotate_left
    · intro w' hSw; go_simp; (try with_reducible rfl)
    refine tk 7 (v := ?_) ?_ ?_
    rotate_left
    · intro w' hSw; have zc0 := (hSw.2 k.p 0 trivial hpY).trans c0; have ze2 := (hSw.2 w.heap.size 2 trivial hgY).trans qa2; have ze0 := (hSw.2 w.heap.size 0 trivial hgY).trans qa0; have ze6 := (hSw.2 w.heap.size 6 trivial hgY).trans qa6; have ze5 := (hSw.2 w.heap.size 5 trivial hgY).trans qa5; go_simp; (try with_reducible rfl)
    refine tk 8 (v := ?_) ?_ ?_
    rotate_left
    · intro w' hSw; go_simp; (try with_reducible rfl)
    refine tk 9 (v := ?_) ?_ ?_
    rotate_left
    · intro w' hSw; have zc0 := (hSw.2 k.p 0 trivial hpY).trans c0; have ze2 := (hSw.2 w.heap.size 2 trivial hgY).trans qa2; have ze0 := (hSw.2 w.heap.size 0 trivial hgY).trans qa0; have ze6 := (hSw.2 w.heap.size 6 trivial hgY).trans qa6; have ze5 := (hSw.2 w.heap.size 5 trivial hgY).trans qa5; go_simp; (try with_reducible rfl)
    refine tk 10 (v := ?_) ?_ ?_
    rotate_left
    · intro w' hSw; go_simp; (try with_reducible rfl)
    refine tk 11 (v := ?_) ?_ ?_
    rotate_left
    · intro w' hSw; have zc0 := (hSw.2 k.p 0 trivial hpY).trans c0; have ze2 := (hSw.2 w.heap.size 2 trivial hgY).trans qa2; have ze0 := (hSw.2 w.heap.size 0 trivial hgY).trans qa0; have ze6 := (hSw.2 w.heap.size 6 trivial hgY).trans qa6; have ze5 := (hSw.2 w.heap.size 5 trivial hgY).trans qa5; go_simp; (try with_reducible rfl)
    refine tk 12 (v := ?_) ?_ ?_
    rotate_left
    · intro w' hSw; go_simp; (try with_reducible rfl)
    refine tk 13 (v := ?_) ?_ ?_
    rotate_left
    · intro w' hSw; have zc0 := (hSw.2 k.p 0 trivial hpY).trans c0; have ze2 := (hSw.2 w.heap.size 2 trivial hgY).trans qa2; have ze0 := (hSw.2 w.heap.size 0 trivial hgY).trans qa0; have ze6 := (hSw.2 w.heap.size 6 trivial hgY).trans qa6; have ze5 := (hSw.2 w.heap.size 5 trivial hgY).trans qa5; go_simp; (try with_reducible rfl)
    refine tk 14 (v := ?_) ?_ ?_
    rotate_left
    · intro w' hSw; go_simp; (try with_reducible rfl)
    refine tk 15 (v := ?_) ?_ ?_
    rotate_left
    · intro w' hSw; go_simp; (try with_reducible rfl)
    (try simp only [List.getElem_toArray, List.getElem_cons_succ, List.getElem_cons_zero, Act.put, List.setIfInBounds_toArray, List.set_cons_zero, List.set_cons_succ])
    refine wpAnyH_ready (rs := [16]) (by kernel_rfl) (by simp) ?_
    refine AllReadyH.cons rfl (fun K' hK => ?_) AllReadyH.nil
    rw [if_pos (by rfl)]
    refine op_put (.tmp 62) (.tmp 64) (.tmp 74) rfl keyI Try.underlying123 rfl HMB.out.drew (by omega) (.int .i64 acc) (.agg #[.int .i64 acc, .int .i64 at_, .int .i64 val, .bool pb, .bool false, .slice none 0 0]) (.int .i64 acc) rfl rfl (kI wa) ?_
    intro w7 hm7 ht7
    refine hK.out _ _ (hHeld.trans (turned_keeps ht7)) (fun hHeld => ?_)
    clear hK K'
    (try simp only [List.getElem_toArray, List.getElem_cons_succ, List.getElem_cons_zero, Act.put, List.setIfInBounds_toArray, List.set_cons_zero, List.set_cons_succ])
    refine wpAnyH_done (by kernel_rfl) ?_ _
    (try simp only [List.getElem_toArray, List.getElem_cons_succ, List.getElem_cons_zero, Act.put, List.setIfInBounds_toArray, List.set_cons_zero, List.set_cons_succ])
    clear hHeld
    have hd := (Below.refl Y.heap.size Y).drew
    replace HT := Lib.hid (HT.out.trans (Stp.drew.trans (Stp.turn ht7 HR.out.lo.2.1 HR.out.hi.2.1)))
    replace HR := Lib.hid ((HR.out.below hd).turn_acc ht7 _ hm7 (by omega) _ (fA_put hFB acc ⟨acc, at_, val, pb, false⟩))
    have hcT : ∀ j u, Y.cell? ⟨w.heap.size, j, none⟩ = some u → w7.cell? ⟨w.heap.size, j, none⟩ = some u := fun j u h => (turned_cell ht7 _).trans h
    replace qa0 := hcT 0 _ qa0
    replace qa1 := hcT 1 _ qa1
    replace qa2 := hcT 2 _ qa2
    replace qa3 := hcT 3 _ qa3
    replace qa4 := hcT 4 _ qa4
    replace qa5 := hcT 5 _ qa5
    replace qa6 := hcT 6 _ qa6
    clear hcT
    have hsz7 : Y.heap.size ≤ w7.heap.size := ht7.grown.size
    have hpw7 : k.p < w7.heap.size := by omega
    have hgw7 : w.heap.size < w7.heap.size := by omega
    clear ht7 hm7 hd
    have hpq : seq_ name nPre = pb := by unfold seq_; rw [hpre]; exact hpb
    go_wp2_with fail
    go_end0
    exact ⟨⟨_, rfl⟩, by rw [HQ.out, hpq]; exact HR.out.mono (by omega), HT.out⟩
  case some =>
    rename_i ac
    rw [hacc] at hfx
    have HQ := Lib.hid (show applyP s ⟨at_, 1, acc, sub, num, name, val⟩ = { s with acc := upd s.acc acc (some ⟨acc, at_, val, seq_ name nPre, false⟩), opened := s.opened } by unfold applyP; simp [hacc])
    clear hacc
    refine wp_region_held_drew (S := fun w' => Below W.heap.size W w') (by kernel_rfl) ((Below.refl _ _).drew) (fun hHeld => ?_)
    refine tk 0 (v := ?_) ?_ ?_
    rotate_left
    · intro w' hSw; go_simp; (try with_reducible rfl)
    refine tk 1 (v := ?_) ?_ ?_
    rotate_left
    · intro w' hSw; go_simp; (try with_reducible rfl)
    refine tk 2 (v := ?_) ?_ ?_
    rotate_left
    · intro w' hSw; go_simp; (try with_reducible rfl)
    refine tk 3 (v := ?_) ?_ ?_
    rotate_left
    · intro w' hSw; have z0 := (hSw.cell (p := ⟨k.p, 0, none⟩) hpW).trans c0; have z2 := (hSw.cell (p := ⟨w.heap.size, 2, none⟩) hgW).trans qa2; go_simp; (try with_reducible rfl)
    refine tk 4 (v := ?_) ?_ ?_
    rotate_left
    · intro w' hSw; go_simp; (try with_reducible rfl)
    refine tk 5 (v := ?_) ?_ ?_
    rotate_left
    · intro w' hSw; have z0 := (hSw.cell (p := ⟨k.p, 0, none⟩) hpW).trans c0; have z2 := (hSw.cell (p := ⟨w.heap.size, 2, none⟩) hgW).trans qa2; go_simp; (try with_reducible rfl)
    refine tk 6 (v := ?_) ?_ ?_
    rotate_left
    · intro w' hSw; have hl := (HMA.out.below hSw).run_ok keyI Try.underlying123 (zeroA _) (kI wa) (v := .agg #[.int .i64 ac.id, .int .i64 ac.since, .int .i64 ac.anchor, .bool ac.prepaid, .bool ac.closed, .slice none 0 0]) (c := true) (by rw [hfx]; rfl) (by rw [hfx]; rfl); go_simp; (try with_reducible rfl)
    refine tk 7 (v := ?_) ?_ ?_
    rotate_left
    · intro w' hSw; go_simp; (try with_reducible rfl)
    refine tk 8 (v := ?_) ?_ ?_
    rotate_left
    · intro w' hSw; go_simp; (try with_reducible rfl)
    refine tk 9 (v := ?_) ?_ ?_
    rotate_left
    · intro w' hSw; go_simp; (try with_reducible rfl)
    (try simp only [List.getElem_toArray, List.getElem_cons_succ, List.getElem_cons_zero, Act.put, List.setIfInBounds_toArray, List.set_cons_zero, List.set_cons_succ])
    refine wpAnyH_ready (rs := [10]) (by kernel_rfl) (by simp) ?_
    refine AllReadyH.cons rfl (fun K' hK => ?_) AllReadyH.nil
    go_simp
    refine hK.out _ _ (by (repeat (first | exact hHeld | exact Below.refl _ _ | (refine Below.alloc ?_ (by (try simp) <;> omega) _) | (refine Below.setCell ?_ (by (try simp) <;> omega) _) | refine Below.drew ?_ | refine below_drewN ?_ _))) (fun hHeld => ?_)
    clear hK K'
    (try simp only [List.getElem_toArray, List.getElem_cons_succ, List.getElem_cons_zero, Act.put, List.setIfInBounds_toArray, List.set_cons_zero, List.set_cons_succ])
    refine wpAnyH_ready (rs := [11]) (by kernel_rfl) (by simp) ?_
    refine AllReadyH.cons rfl (fun K' hK => ?_) AllReadyH.nil
    go_simp
    refine hK.out _ _ (by (repeat (first | exact hHeld | exact Below.refl _ _ | (refine Below.alloc ?_ (by (try simp) <;> omega) _) | (refine Below.setCell ?_ (by (try simp) <;> omega) _) | refine Below.drew ?_ | refine below_drewN ?_ _))) (fun hHeld => ?_)
    clear hK K'
    (try simp only [List.getElem_toArray, List.getElem_cons_succ, List.getElem_cons_zero, Act.put, List.setIfInBounds_toArray, List.set_cons_zero, List.set_cons_succ])
    refine tk 12 (v := ?_) ?_ ?_
    rotate_left
    · intro w' hSw; go_simp; (try with_reducible rfl)
    (try simp only [List.getElem_toArray, List.getElem_cons_succ, List.getElem_cons_zero, Act.put, List.setIfInBounds_toArray, List.set_cons_zero, List.set_cons_succ])
    refine wpAnyH_done (by kernel_rfl) ?_ _
    (try simp only [List.getElem_toArray, List.getElem_cons_succ, List.getElem_cons_zero, Act.put, List.setIfInBounds_toArray, List.set_cons_zero, List.set_cons_succ])
    obtain ⟨V, hVV, hbV, hzV, fV, ffV⟩ := box1d W #[.int .i64 ac.id, .int .i64 ac.since, .int .i64 ac.anchor, .bool ac.prepaid, .bool ac.closed, .slice none 0 0] 46
    rw [← hVV]
    clear hHeld hVV
    (have hzhbV := hbV.size; replace qa0 := cl hbV qa0; replace qa1 := cl hbV qa1; replace qa2 := cl hbV qa2; replace qa3 := cl hbV qa3; replace qa4 := cl hbV qa4; replace qa5 := cl hbV qa5; replace qa6 := cl hbV qa6)
    replace HR := Lib.hid (HR.out.below hbV)
    have hpV : k.p < V.heap.size := by omega
    have hgV : w.heap.size < V.heap.size := by omega
    replace HT := Lib.hid (HT.out.trans (Stp.below hbV (by have := HT.out.1.size; omega)))
    clear HMA hfx c0 fV ffV hbV
    go_upto_region 9 with (fail)
    have c0 := HR.out.c0
    obtain ⟨fb, hMB, hFB⟩ := HR.out.acc
    have HMB := Lib.hid hMB
    clear hMB
    obtain ⟨pb, hpb⟩ : ∃ b, (name.toList == [112, 114, 101, 112, 97, 105, 100]) = b := ⟨_, rfl⟩
    refine wp_region_held_drew (S := fun w' => Keeps (fun _ => True) V w') (by kernel_rfl) (Keeps.ofBelow (Below.refl _ _).drew) (fun hHeld => ?_)
    refine tk 0 (v := ?_) ?_ ?_
    rotate_left
    · intro w' hSw; go_simp; (try with_reducible rfl)
    refine tk 1 (v := ?_) ?_ ?_
    rotate_left
    · intro w' hSw; go_simp; (try with_reducible rfl)
    refine tk 2 (v := ?_) ?_ ?_
    rotate_left
    · intro w' hSw; go_simp; (try with_reducible rfl)
    refine tk 3 (v := ?_) ?_ ?_
    rotate_left
    · intro w' hSw; have zc0 := (hSw.2 k.p 0 trivial hpV).trans c0; have ze2 := (hSw.2 w.heap.size 2 trivial hgV).trans qa2; have ze0 := (hSw.2 w.heap.size 0 trivial hgV).trans qa0; have ze6 := (hSw.2 w.heap.size 6 trivial hgV).trans qa6; have ze5 := (hSw.2 w.heap.size 5 trivial hgV).trans qa5; go_simp; (try with_reducible rfl)
    refine tk 4 (v := ?_) ?_ ?_
    rotate_left
    · intro w' hSw; go_simp; (try with_reducible rfl)
    refine tk 5 (v := ?_) ?_ ?_
    rotate_left
    · intro w' hSw; have zc0 := (hSw.2 k.p 0 trivial hpV).trans c0; have ze2 := (hSw.2 w.heap.size 2 trivial hgV).trans qa2; have ze0 := (hSw.2 w.heap.size 0 trivial hgV).trans qa0; have ze6 := (hSw.2 w.heap.size 6 trivial hgV).trans qa6; have ze5 := (hSw.2 w.heap.size 5 trivial hgV).trans qa5; go_simp; (try with_reducible rfl)
    refine tk 6 (v := ?_) ?_ ?_
    rotate_left
    · intro w' hSw; go_simp; (try with_reducible rfl)
    refine tk 7 (v := ?_) ?_ ?_
    rotate_left
    · intro w' hSw; have zc0 := (hSw.2 k.p 0 trivial hpV).trans c0; have ze2 := (hSw.2 w.heap.size 2 trivial hgV).trans qa2; have ze0 := (hSw.2 w.heap.size 0 trivial hgV).trans qa0; have ze6 := (hSw.2 w.heap.size 6 trivial hgV).trans qa6; have ze5 := (hSw.2 w.heap.size 5 trivial hgV).trans qa5; go_simp; (try with_reducible rfl)
    refine tk 8 (v := ?_) ?_ ?_
    rotate_left
    · intro w' hSw; go_simp; (try with_reducible rfl)
    refine tk 9 (v := ?_) ?_ ?_
    rotate_left
    · intro w' hSw; have zc0 := (hSw.2 k.p 0 trivial hpV).trans c0; have ze2 := (hSw.2 w.heap.size 2 trivial hgV).trans qa2; have ze0 := (hSw.2 w.heap.size 0 trivial hgV).trans qa0; have ze6 := (hSw.2 w.heap.size 6 trivial hgV).trans qa6; have ze5 := (hSw.2 w.heap.size 5 trivial hgV).trans qa5; go_simp; (try with_reducible rfl)
    refine tk 10 (v := ?_) ?_ ?_
    rotate_left
    · intro w' hSw; go_simp; (try with_reducible rfl)
    refine tk 11 (v := ?_) ?_ ?_
    rotate_left
    · intro w' hSw; have zc0 := (hSw.2 k.p 0 trivial hpV).trans c0; have ze2 := (hSw.2 w.heap.size 2 trivial hgV).trans qa2; have ze0 := (hSw.2 w.heap.size 0 trivial hgV).trans qa0; have ze6 := (hSw.2 w.heap.size 6 trivial hgV).trans qa6; have ze5 := (hSw.2 w.heap.size 5 trivial hgV).trans qa5; go_simp; (try with_reducible rfl)
    refine tk 12 (v := ?_) ?_ ?_
    rotate_left
    · intro w' hSw; go_simp; (try with_reducible rfl)
    refine tk 13 (v := ?_) ?_ ?_
    rotate_left
    · intro w' hSw; have zc0 := (hSw.2 k.p 0 trivial hpV).trans c0; have ze2 := (hSw.2 w.heap.size 2 trivial hgV).trans qa2; have ze0 := (hSw.2 w.heap.size 0 trivial hgV).trans qa0; have ze6 := (hSw.2 w.heap.size 6 trivial hgV).trans qa6; have ze5 := (hSw.2 w.heap.size 5 trivial hgV).trans qa5; go_simp; (try with_reducible rfl)
    refine tk 14 (v := ?_) ?_ ?_
    rotate_left
    · intro w' hSw; go_simp; (try with_reducible rfl)
    refine tk 15 (v := ?_) ?_ ?_
    rotate_left
    · intro w' hSw; go_simp; (try with_reducible rfl)
    (try simp only [List.getElem_toArray, List.getElem_cons_succ, List.getElem_cons_zero, Act.put, List.setIfInBounds_toArray, List.set_cons_zero, List.set_cons_succ])
    refine wpAnyH_ready (rs := [16]) (by kernel_rfl) (by simp) ?_
    refine AllReadyH.cons rfl (fun K' hK => ?_) AllReadyH.nil
    rw [if_pos (by rfl)]
    refine op_put (.tmp 62) (.tmp 64) (.tmp 74) rfl keyI Try.underlying123 rfl HMB.out.drew (by omega) (.int .i64 acc) (.agg #[.int .i64 acc, .int .i64 at_, .int .i64 val, .bool pb, .bool false, .slice none 0 0]) (.int .i64 acc) rfl rfl (kI wa) ?_
    intro w7 hm7 ht7
    refine hK.out _ _ (hHeld.trans (turned_keeps ht7)) (fun hHeld => ?_)
    clear hK K'
    (try simp only [List.getElem_toArray, List.getElem_cons_succ, List.getElem_cons_zero, Act.put, List.setIfInBounds_toArray, List.set_cons_zero, List.set_cons_succ])
    refine wpAnyH_done (by kernel_rfl) ?_ _
    (try simp only [List.getElem_toArray, List.getElem_cons_succ, List.getElem_cons_zero, Act.put, List.setIfInBounds_toArray, List.set_cons_zero, List.set_cons_succ])
    clear hHeld
    have hd := (Below.refl V.heap.size V).drew
    replace HT := Lib.hid (HT.out.trans (Stp.drew.trans (Stp.turn ht7 HR.out.lo.2.1 HR.out.hi.2.1)))
    replace HR := Lib.hid ((HR.out.below hd).turn_acc ht7 _ hm7 (by omega) _ (fA_put hFB acc ⟨acc, at_, val, pb, false⟩))
    have hcT : ∀ j u, V.cell? ⟨w.heap.size, j, none⟩ = some u → w7.cell? ⟨w.heap.size, j, none⟩ = some u := fun j u h => (turned_cell ht7 _).trans h
    replace qa0 := hcT 0 _ qa0
    replace qa1 := hcT 1 _ qa1
    replace qa2 := hcT 2 _ qa2
    replace qa3 := hcT 3 _ qa3
    replace qa4 := hcT 4 _ qa4
    replace qa5 := hcT 5 _ qa5
    replace qa6 := hcT 6 _ qa6
    clear hcT
    have hsz7 : V.heap.size ≤ w7.heap.size := ht7.grown.size
    have hpw7 : k.p < w7.heap.size := by omega
    have hgw7 : w.heap.size < w7.heap.size := by omega
    clear ht7 hm7 hd
    have hpq : seq_ name nPre = pb := by unfold seq_; rw [hpre]; exact hpb
    go_wp2_with fail
    go_end0
    exact ⟨⟨_, rfl⟩, by rw [HQ.out, hpq]; exact HR.out.mono (by omega), HT.out⟩
set_option maxHeartbeats 16000000 in
theorem apply_2 (at_ acc sub val : Int) (num name : ByteArray) (B M NN : Nat) (k : Bl) (s : St) (w : World) (h : Rep w B M NN k s) (wa : (Lit.int .i64 acc).wf = true) (ws : (Lit.int .i64 sub).wf = true) (hnm : num.size ≤ maxLen) (hNN : NN ≤ 100000) :
    Calls Try.prog 71 #[.pointer (some ⟨k.p, 0, none⟩), .agg #[.int .i64 at_, .int .i64 2, .int .i64 acc, .int .i64 sub, .string num, .string name, .int .i64 val]] w fun r w' => (∃ u, r = .returned u) ∧ Rep w' B M (NN + 4) k (applyP s ⟨at_, 2, acc, sub, num, name, val⟩) ∧ Stp B M w w' := by
  have hBw : B ≤ w.heap.size := by have := h.lo; have := h.hi; have := h.m; omega
  have hmx : NN + 4 < maxLen := by unfold maxLen; omega
  have HR := Lib.hid h
  clear h
  go_enter Try.func71, Try.ntmps71
  go_upto_region 1 with (fail)
  (obtain ⟨W, hWW, hbW, hzW, f1W, qfa⟩ := box1 w #[.int .i64 at_, .int .i64 2, .int .i64 acc, .int .i64 sub, .string num, .string name, .int .i64 val] 36; rw [← hWW]; have qa0 : W.cell? ⟨w.heap.size, 0, none⟩ = some (.int .i64 at_) := f1W 0 _ rfl; have qa1 : W.cell? ⟨w.heap.size, 1, none⟩ = some (.int .i64 2) := f1W 1 _ rfl; have qa2 : W.cell? ⟨w.heap.size, 2, none⟩ = some (.int .i64 acc) := f1W 2 _ rfl; have qa3 : W.cell? ⟨w.heap.size, 3, none⟩ = some (.int .i64 sub) := f1W 3 _ rfl; have qa4 : W.cell? ⟨w.heap.size, 4, none⟩ = some (.string num) := f1W 4 _ rfl; have qa5 : W.cell? ⟨w.heap.size, 5, none⟩ = some (.string name) := f1W 5 _ rfl; have qa6 : W.cell? ⟨w.heap.size, 6, none⟩ = some (.int .i64 val) := f1W 6 _ rfl; clear hWW f1W)
  have HT := Lib.hid (Stp.below (M := M) hbW hBw)
  have hpw : k.p < w.heap.size := Nat.lt_of_lt_of_le HR.out.hi.1 HR.out.m
  have hpW : k.p < W.heap.size := Nat.lt_trans hpw hzW
  have hgW : w.heap.size < W.heap.size := hzW
  have hnp : w.heap.size ≠ k.p := by omega
  replace HR := Lib.hid (HR.out.below hbW)
  clear hbW hzW
  have c0 := HR.out.c0
  obtain ⟨fa, hMA, hFA⟩ := HR.out.acc
  have HMA := Lib.hid hMA
  have hfx := hFA acc
  clear hMA hFA
  have HRW := HR
  have HTW := HT
  go_upto_region 11 with (fail)
  cases hacc : s.acc acc
  case none =>
    rw [hacc] at hfx
    have HQ := Lib.hid (show applyP s ⟨at_, 2, acc, sub, num, name, val⟩ = { s with acc := upd s.acc acc (some { ac0 with closed := true }) } by unfold applyP; simp [hacc])
    clear hacc
    refine wp_region_held_drew (S := fun w' => Below W.heap.size W w') (by kernel_rfl) ((Below.refl _ _).drew) (fun hHeld => ?_)
    refine tk 0 (v := ?_) ?_ ?_
    rotate_left
    · intro w' hSw; go_simp; (try with_reducible rfl)
    refine tk 1 (v := ?_) ?_ ?_
    rotate_left
    · intro w' hSw; go_simp; (try with_reducible rfl)
    refine tk 2 (v := ?_) ?_ ?_
    rotate_left
    · intro w' hSw; go_simp; (try with_reducible rfl)
    refine tk 3 (v := ?_) ?_ ?_
    rotate_left
    · intro w' hSw; have z0 := (hSw.cell (p := ⟨k.p, 0, none⟩) hpW).trans c0; have z2 := (hSw.cell (p := ⟨w.heap.size, 2, none⟩) hgW).trans qa2; go_simp; (try with_reducible rfl)
    refine tk 4 (v := ?_) ?_ ?_
    rotate_left
    · intro w' hSw; go_simp; (try with_reducible rfl)
    refine tk 5 (v := ?_) ?_ ?_
    rotate_left
    · intro w' hSw; have z0 := (hSw.cell (p := ⟨k.p, 0, none⟩) hpW).trans c0; have z2 := (hSw.cell (p := ⟨w.heap.size, 2, none⟩) hgW).trans qa2; go_simp; (try with_reducible rfl)
    refine tk 6 (v := ?_) ?_ ?_
    rotate_left
    · intro w' hSw; have hl := (HMA.out.below hSw).run keyI Try.underlying123 (zeroA _) (kI wa) (v := .agg #[.int .i64 0, .int .i64 0, .int .i64 0, .bool false, .bool false, .slice none 0 0]) (by rw [hfx]; rfl); go_simp; (try with_reducible rfl)
    (try simp only [List.getElem_toArray, List.getElem_cons_succ, List.getElem_cons_zero, Act.put, List.setIfInBounds_toArray, List.set_cons_zero, List.set_cons_succ])
    refine wpAnyH_ready (rs := [7]) (by kernel_rfl) (by simp) ?_
    refine AllReadyH.cons rfl (fun K' hK => ?_) AllReadyH.nil
    go_simp
    refine hK.out _ _ (by (repeat (first | exact hHeld | exact Below.refl _ _ | (refine Below.alloc ?_ (by (try simp) <;> omega) _) | (refine Below.setCell ?_ (by (try simp) <;> omega) _) | refine Below.drew ?_ | refine below_drewN ?_ _))) (fun hHeld => ?_)
    clear hK K'
    (try simp only [List.getElem_toArray, List.getElem_cons_succ, List.getElem_cons_zero, Act.put, List.setIfInBounds_toArray, List.set_cons_zero, List.set_cons_succ])
    refine wpAnyH_ready (rs := [8]) (by kernel_rfl) (by simp) ?_
    refine AllReadyH.cons rfl (fun K' hK => ?_) AllReadyH.nil
    go_simp
    refine hK.out _ _ (by (repeat (first | exact hHeld | exact Below.refl _ _ | (refine Below.alloc ?_ (by (try simp) <;> omega) _) | (refine Below.setCell ?_ (by (try simp) <;> omega) _) | refine Below.drew ?_ | refine below_drewN ?_ _))) (fun hHeld => ?_)
    clear hK K'
    (try simp only [List.getElem_toArray, List.getElem_cons_succ, List.getElem_cons_zero, Act.put, List.setIfInBounds_toArray, List.set_cons_zero, List.set_cons_succ])
    refine wpAnyH_done (by kernel_rfl) ?_ _
    (try simp only [List.getElem_toArray, List.getElem_cons_succ, List.getElem_cons_zero, Act.put, List.setIfInBounds_toArray, List.set_cons_zero, List.set_cons_succ])
    obtain ⟨V, hVV, hbV, hzV, fV, ffV⟩ := box1d W #[.int .i64 0, .int .i64 0, .int .i64 0, .bool false, .bool false, .slice none 0 0] 46
    rw [← hVV]
    clear hHeld hVV
    (have hzhbV := hbV.size; replace qa0 := cl hbV qa0; replace qa1 := cl hbV qa1; replace qa2 := cl hbV qa2; replace qa3 := cl hbV qa3; replace qa4 := cl hbV qa4; replace qa5 := cl hbV qa5; replace qa6 := cl hbV qa6)
    replace HR := Lib.hid (HR.out.below hbV)
    have hpV : k.p < V.heap.size := by omega
    have hgV : w.heap.size < V.heap.size := by omega
    replace HT := Lib.hid (HT.out.trans (Stp.below hbV (by have := HT.out.1.size; omega)))
    have vb0 := fV 0 _ rfl
    have vb1 := fV 1 _ rfl
    have vb2 := fV 2 _ rfl
    have vb3 := fV 3 _ rfl
    have vb4 := fV 4 _ rfl
    have vb5 := fV 5 _ rfl
    clear HMA hfx c0 fV
    go_upto_region 13 with (fail)
    obtain ⟨X, hX, hnX, hfarX, hfrX, hblX, hszX⟩ := set1 W.heap.size 4 (u := .bool true) vb4
    rw [← hX]
    replace qa0 := (hfarX w.heap.size 0 (by omega)).trans qa0
    replace qa1 := (hfarX w.heap.size 1 (by omega)).trans qa1
    replace qa2 := (hfarX w.heap.size 2 (by omega)).trans qa2
    replace qa3 := (hfarX w.heap.size 3 (by omega)).trans qa3
    replace qa4 := (hfarX w.heap.size 4 (by omega)).trans qa4
    replace qa5 := (hfarX w.heap.size 5 (by omega)).trans qa5
    replace qa6 := (hfarX w.heap.size 6 (by omega)).trans qa6
    replace vb0 := (hfarX W.heap.size 0 (by omega)).trans vb0
    replace vb1 := (hfarX W.heap.size 1 (by omega)).trans vb1
    replace vb2 := (hfarX W.heap.size 2 (by omega)).trans vb2
    replace vb3 := (hfarX W.heap.size 3 (by omega)).trans vb3
    replace vb5 := (hfarX W.heap.size 5 (by omega)).trans vb5
    replace vb4 := hnX
    have hbX : Below W.heap.size W X := hbV.trans (hblX _ (Nat.le_refl _))
    replace HR := Lib.hid (HRW.out.below hbX)
    replace HT := Lib.hid (HTW.out.trans (Stp.below hbX (by have := HTW.out.1.size; omega)))
    have hpX : k.p < X.heap.size := by omega
    have hgX : w.heap.size < X.heap.size := by omega
    have hgX2 : W.heap.size < X.heap.size := by omega
    clear hX hnX hfarX hfrX hblX hbX hbV HRW HTW ffV
    have c0 := HR.out.c0
    obtain ⟨fb, hMB, hFB⟩ := HR.out.acc
    have HMB := Lib.hid hMB
    clear hMB
    refine wp_region_held_drew (S := fun w' => Keeps (fun _ => True) X w') (by kernel_rfl) (Keeps.ofBelow (Below.refl _ _).drew) (fun hHeld => ?_)
    refine tk 0 (v := ?_) ?_ ?_
    rotate_left
    · intro w' hSw; go_simp; (try with_reducible rfl)
    refine tk 1 (v := ?_) ?_ ?_
    rotate_left
    · intro w' hSw; go_simp; (try with_reducible rfl)
    refine tk 2 (v := ?_) ?_ ?_
    rotate_left
    · intro w' hSw; go_simp; (try with_reducible rfl)
    refine tk 3 (v := ?_) ?_ ?_
    rotate_left
    · intro w' hSw; have zc0 := (hSw.2 k.p 0 trivial hpX).trans c0; have ze2 := (hSw.2 w.heap.size 2 trivial hgX).trans qa2; have zb0 := (hSw.2 W.heap.size 0 trivial hgX2).trans vb0; have zb1 := (hSw.2 W.heap.size 1 trivial hgX2).trans vb1; have zb2 := (hSw.2 W.heap.size 2 trivial hgX2).trans vb2; have zb3 := (hSw.2 W.heap.size 3 trivial hgX2).trans vb3; have zb4 := (hSw.2 W.heap.size 4 trivial hgX2).trans vb4; have zb5 := (hSw.2 W.heap.size 5 trivial hgX2).trans vb5; go_simp; (try with_reducible rfl)
    refine tk 4 (v := ?_) ?_ ?_
    rotate_left
    · intro w' hSw; go_simp; (try with_reducible rfl)
    refine tk 5 (v := ?_) ?_ ?_
    rotate_left
    · intro w' hSw; have zc0 := (hSw.2 k.p 0 trivial hpX).trans c0; have ze2 := (hSw.2 w.heap.size 2 trivial hgX).trans qa2; have zb0 := (hSw.2 W.heap.size 0 trivial hgX2).trans vb0; have zb1 := (hSw.2 W.heap.size 1 trivial hgX2).trans vb1; have zb2 := (hSw.2 W.heap.size 2 trivial hgX2).trans vb2; have zb3 := (hSw.2 W.heap.size 3 trivial hgX2).trans vb3; have zb4 := (hSw.2 W.heap.size 4 trivial hgX2).trans vb4; have zb5 := (hSw.2 W.heap.size 5 trivial hgX2).trans vb5; go_simp; (try with_reducible rfl)
    refine tk 6 (v := ?_) ?_ ?_
    rotate_left
    · intro w' hSw; have zc0 := (hSw.2 k.p 0 trivial hpX).trans c0; have ze2 := (hSw.2 w.heap.size 2 trivial hgX).trans qa2; have zb0 := (hSw.2 W.heap.size 0 trivial hgX2).trans vb0; have zb1 := (hSw.2 W.heap.size 1 trivial hgX2).trans vb1; have zb2 := (hSw.2 W.heap.size 2 trivial hgX2).trans vb2; have zb3 := (hSw.2 W.heap.size 3 trivial hgX2).trans vb3; have zb4 := (hSw.2 W.heap.size 4 trivial hgX2).trans vb4; have zb5 := (hSw.2 W.heap.size 5 trivial hgX2).trans vb5; go_simp; (try with_reducible rfl)
    (try simp only [List.getElem_toArray, List.getElem_cons_succ, List.getElem_cons_zero, Act.put, List.setIfInBounds_toArray, List.set_cons_zero, List.set_cons_succ])
    refine wpAnyH_ready (rs := [7]) (by kernel_rfl) (by simp) ?_
    refine AllReadyH.cons rfl (fun K' hK => ?_) AllReadyH.nil
    rw [if_pos (by rfl)]
    refine op_put (.tmp 88) (.tmp 90) (.tmp 91) rfl keyI Try.underlying123 rfl HMB.out.drew (by omega) (.int .i64 acc) (.agg #[.int .i64 0, .int .i64 0, .int .i64 0, .bool false, .bool true, .slice none 0 0]) (.int .i64 acc) rfl rfl (kI wa) ?_
    intro w7 hm7 ht7
    refine hK.out _ _ (hHeld.trans (turned_keeps ht7)) (fun hHeld => ?_)
    clear hK K'
    (try simp only [List.getElem_toArray, List.getElem_cons_succ, List.getElem_cons_zero, Act.put, List.setIfInBounds_toArray, List.set_cons_zero, List.set_cons_succ])
    refine wpAnyH_done (by kernel_rfl) ?_ _
    (try simp only [List.getElem_toArray, List.getElem_cons_succ, List.getElem_cons_zero, Act.put, List.setIfInBounds_toArray, List.set_cons_zero, List.set_cons_succ])
    clear hHeld
    have hd := (Below.refl X.heap.size X).drew
    replace HT := Lib.hid (HT.out.trans (Stp.drew.trans (Stp.turn ht7 HR.out.lo.2.1 HR.out.hi.2.1)))
    replace HR := Lib.hid ((HR.out.below hd).turn_acc ht7 _ hm7 (by omega) _ (fA_put hFB acc { ac0 with closed := true }))
    have hcT : ∀ j u, X.cell? ⟨w.heap.size, j, none⟩ = some u → w7.cell? ⟨w.heap.size, j, none⟩ = some u := fun j u h => (turned_cell ht7 _).trans h
    replace qa0 := hcT 0 _ qa0
    replace qa1 := hcT 1 _ qa1
    replace qa2 := hcT 2 _ qa2
    replace qa3 := hcT 3 _ qa3
    replace qa4 := hcT 4 _ qa4
    replace qa5 := hcT 5 _ qa5
    replace qa6 := hcT 6 _ qa6
    clear hcT
    have hsz7 : X.heap.size ≤ w7.heap.size := ht7.grown.size
    have hpw7 : k.p < w7.heap.size := by omega
    have hgw7 : w.heap.size < w7.heap.size := by omega
    clear ht7 hm7 hd
    go_wp2_with fail
    go_end0
    exact ⟨⟨_, rfl⟩, by rw [HQ.out]; exact HR.out.mono (by omega), HT.out⟩
  case some =>
    rename_i ac
    rw [hacc] at hfx
    have HQ := Lib.hid (show applyP s ⟨at_, 2, acc, sub, num, name, val⟩ = { s with acc := upd s.acc acc (some { ac with closed := true }) } by unfold applyP; simp [hacc])
    clear hacc
    refine wp_region_held_drew (S := fun w' => Below W.heap.size W w') (by kernel_rfl) ((Below.refl _ _).drew) (fun hHeld => ?_)
    refine tk 0 (v := ?_) ?_ ?_
    rotate_left
    · intro w' hSw; go_simp; (try with_reducible rfl)
    refine tk 1 (v := ?_) ?_ ?_
    rotate_left
    · intro w' hSw; go_simp; (try with_reducible rfl)
    refine tk 2 (v := ?_) ?_ ?_
    rotate_left
    · intro w' hSw; go_simp; (try with_reducible rfl)
    refine tk 3 (v := ?_) ?_ ?_
    rotate_left
    · intro w' hSw; have z0 := (hSw.cell (p := ⟨k.p, 0, none⟩) hpW).trans c0; have z2 := (hSw.cell (p := ⟨w.heap.size, 2, none⟩) hgW).trans qa2; go_simp; (try with_reducible rfl)
    refine tk 4 (v := ?_) ?_ ?_
    rotate_left
    · intro w' hSw; go_simp; (try with_reducible rfl)
    refine tk 5 (v := ?_) ?_ ?_
    rotate_left
    · intro w' hSw; have z0 := (hSw.cell (p := ⟨k.p, 0, none⟩) hpW).trans c0; have z2 := (hSw.cell (p := ⟨w.heap.size, 2, none⟩) hgW).trans qa2; go_simp; (try with_reducible rfl)
    refine tk 6 (v := ?_) ?_ ?_
    rotate_left
    · intro w' hSw; have hl := (HMA.out.below hSw).run keyI Try.underlying123 (zeroA _) (kI wa) (v := .agg #[.int .i64 ac.id, .int .i64 ac.since, .int .i64 ac.anchor, .bool ac.prepaid, .bool ac.closed, .slice none 0 0]) (by rw [hfx]; rfl); go_simp; (try with_reducible rfl)
    (try simp only [List.getElem_toArray, List.getElem_cons_succ, List.getElem_cons_zero, Act.put, List.setIfInBounds_toArray, List.set_cons_zero, List.set_cons_succ])
    refine wpAnyH_ready (rs := [7]) (by kernel_rfl) (by simp) ?_
    refine AllReadyH.cons rfl (fun K' hK => ?_) AllReadyH.nil
    go_simp
    refine hK.out _ _ (by (repeat (first | exact hHeld | exact Below.refl _ _ | (refine Below.alloc ?_ (by (try simp) <;> omega) _) | (refine Below.setCell ?_ (by (try simp) <;> omega) _) | refine Below.drew ?_ | refine below_drewN ?_ _))) (fun hHeld => ?_)
    clear hK K'
    (try simp only [List.getElem_toArray, List.getElem_cons_succ, List.getElem_cons_zero, Act.put, List.setIfInBounds_toArray, List.set_cons_zero, List.set_cons_succ])
    refine wpAnyH_ready (rs := [8]) (by kernel_rfl) (by simp) ?_
    refine AllReadyH.cons rfl (fun K' hK => ?_) AllReadyH.nil
    go_simp
    refine hK.out _ _ (by (repeat (first | exact hHeld | exact Below.refl _ _ | (refine Below.alloc ?_ (by (try simp) <;> omega) _) | (refine Below.setCell ?_ (by (try simp) <;> omega) _) | refine Below.drew ?_ | refine below_drewN ?_ _))) (fun hHeld => ?_)
    clear hK K'
    (try simp only [List.getElem_toArray, List.getElem_cons_succ, List.getElem_cons_zero, Act.put, List.setIfInBounds_toArray, List.set_cons_zero, List.set_cons_succ])
    refine wpAnyH_done (by kernel_rfl) ?_ _
    (try simp only [List.getElem_toArray, List.getElem_cons_succ, List.getElem_cons_zero, Act.put, List.setIfInBounds_toArray, List.set_cons_zero, List.set_cons_succ])
    obtain ⟨V, hVV, hbV, hzV, fV, ffV⟩ := box1d W #[.int .i64 ac.id, .int .i64 ac.since, .int .i64 ac.anchor, .bool ac.prepaid, .bool ac.closed, .slice none 0 0] 46
    rw [← hVV]
    clear hHeld hVV
    (have hzhbV := hbV.size; replace qa0 := cl hbV qa0; replace qa1 := cl hbV qa1; replace qa2 := cl hbV qa2; replace qa3 := cl hbV qa3; replace qa4 := cl hbV qa4; replace qa5 := cl hbV qa5; replace qa6 := cl hbV qa6)
    replace HR := Lib.hid (HR.out.below hbV)
    have hpV : k.p < V.heap.size := by omega
    have hgV : w.heap.size < V.heap.size := by omega
    replace HT := Lib.hid (HT.out.trans (Stp.below hbV (by have := HT.out.1.size; omega)))
    have vb0 := fV 0 _ rfl
    have vb1 := fV 1 _ rfl
    have vb2 := fV 2 _ rfl
    have vb3 := fV 3 _ rfl
    have vb4 := fV 4 _ rfl
    have vb5 := fV 5 _ rfl
    clear HMA hfx c0 fV
    go_upto_region 13 with (fail)
    obtain ⟨X, hX, hnX, hfarX, hfrX, hblX, hszX⟩ := set1 W.heap.size 4 (u := .bool true) vb4
    rw [← hX]
    replace qa0 := (hfarX w.heap.size 0 (by omega)).trans qa0
    replace qa1 := (hfarX w.heap.size 1 (by omega)).trans qa1
    replace qa2 := (hfarX w.heap.size 2 (by omega)).trans qa2
    replace qa3 := (hfarX w.heap.size 3 (by omega)).trans qa3
    replace qa4 := (hfarX w.heap.size 4 (by omega)).trans qa4
    replace qa5 := (hfarX w.heap.size 5 (by omega)).trans qa5
    replace qa6 := (hfarX w.heap.size 6 (by omega)).trans qa6
    replace vb0 := (hfarX W.heap.size 0 (by omega)).trans vb0
    replace vb1 := (hfarX W.heap.size 1 (by omega)).trans vb1
    replace vb2 := (hfarX W.heap.size 2 (by omega)).trans vb2
    replace vb3 := (hfarX W.heap.size 3 (by omega)).trans vb3
    replace vb5 := (hfarX W.heap.size 5 (by omega)).trans vb5
    replace vb4 := hnX
    have hbX : Below W.heap.size W X := hbV.trans (hblX _ (Nat.le_refl _))
    replace HR := Lib.hid (HRW.out.below hbX)
    replace HT := Lib.hid (HTW.out.trans (Stp.below hbX (by have := HTW.out.1.size; omega)))
    have hpX : k.p < X.heap.size := by omega
    have hgX : w.heap.size < X.heap.size := by omega
    have hgX2 : W.heap.size < X.heap.size := by omega
    clear hX hnX hfarX hfrX hblX hbX hbV HRW HTW ffV
    have c0 := HR.out.c0
    obtain ⟨fb, hMB, hFB⟩ := HR.out.acc
    have HMB := Lib.hid hMB
    clear hMB
    refine wp_region_held_drew (S := fun w' => Keeps (fun _ => True) X w') (by kernel_rfl) (Keeps.ofBelow (Below.refl _ _).drew) (fun hHeld => ?_)
    refine tk 0 (v := ?_) ?_ ?_
    rotate_left
    · intro w' hSw; go_simp; (try with_reducible rfl)
    refine tk 1 (v := ?_) ?_ ?_
    rotate_left
    · intro w' hSw; go_simp; (try with_reducible rfl)
    refine tk 2 (v := ?_) ?_ ?_
    rotate_left
    · intro w' hSw; go_simp; (try with_reducible rfl)
    refine tk 3 (v := ?_) ?_ ?_
    rotate_left
    · intro w' hSw; have zc0 := (hSw.2 k.p 0 trivial hpX).trans c0; have ze2 := (hSw.2 w.heap.size 2 trivial hgX).trans qa2; have zb0 := (hSw.2 W.heap.size 0 trivial hgX2).trans vb0; have zb1 := (hSw.2 W.heap.size 1 trivial hgX2).trans vb1; have zb2 := (hSw.2 W.heap.size 2 trivial hgX2).trans vb2; have zb3 := (hSw.2 W.heap.size 3 trivial hgX2).trans vb3; have zb4 := (hSw.2 W.heap.size 4 trivial hgX2).trans vb4; have zb5 := (hSw.2 W.heap.size 5 trivial hgX2).trans vb5; go_simp; (try with_reducible rfl)
    refine tk 4 (v := ?_) ?_ ?_
    rotate_left
    · intro w' hSw; go_simp; (try with_reducible rfl)
    refine tk 5 (v := ?_) ?_ ?_
    rotate_left
    · intro w' hSw; have zc0 := (hSw.2 k.p 0 trivial hpX).trans c0; have ze2 := (hSw.2 w.heap.size 2 trivial hgX).trans qa2; have zb0 := (hSw.2 W.heap.size 0 trivial hgX2).trans vb0; have zb1 := (hSw.2 W.heap.size 1 trivial hgX2).trans vb1; have zb2 := (hSw.2 W.heap.size 2 trivial hgX2).trans vb2; have zb3 := (hSw.2 W.heap.size 3 trivial hgX2).trans vb3; have zb4 := (hSw.2 W.heap.size 4 trivial hgX2).trans vb4; have zb5 := (hSw.2 W.heap.size 5 trivial hgX2).trans vb5; go_simp; (try with_reducible rfl)
    refine tk 6 (v := ?_) ?_ ?_
    rotate_left
    · intro w' hSw; have zc0 := (hSw.2 k.p 0 trivial hpX).trans c0; have ze2 := (hSw.2 w.heap.size 2 trivial hgX).trans qa2; have zb0 := (hSw.2 W.heap.size 0 trivial hgX2).trans vb0; have zb1 := (hSw.2 W.heap.size 1 trivial hgX2).trans vb1; have zb2 := (hSw.2 W.heap.size 2 trivial hgX2).trans vb2; have zb3 := (hSw.2 W.heap.size 3 trivial hgX2).trans vb3; have zb4 := (hSw.2 W.heap.size 4 trivial hgX2).trans vb4; have zb5 := (hSw.2 W.heap.size 5 trivial hgX2).trans vb5; go_simp; (try with_reducible rfl)
    (try simp only [List.getElem_toArray, List.getElem_cons_succ, List.getElem_cons_zero, Act.put, List.setIfInBounds_toArray, List.set_cons_zero, List.set_cons_succ])
    refine wpAnyH_ready (rs := [7]) (by kernel_rfl) (by simp) ?_
    refine AllReadyH.cons rfl (fun K' hK => ?_) AllReadyH.nil
    rw [if_pos (by rfl)]
    refine op_put (.tmp 88) (.tmp 90) (.tmp 91) rfl keyI Try.underlying123 rfl HMB.out.drew (by omega) (.int .i64 acc) (.agg #[.int .i64 ac.id, .int .i64 ac.since, .int .i64 ac.anchor, .bool ac.prepaid, .bool true, .slice none 0 0]) (.int .i64 acc) rfl rfl (kI wa) ?_
    intro w7 hm7 ht7
    refine hK.out _ _ (hHeld.trans (turned_keeps ht7)) (fun hHeld => ?_)
    clear hK K'
    (try simp only [List.getElem_toArray, List.getElem_cons_succ, List.getElem_cons_zero, Act.put, List.setIfInBounds_toArray, List.set_cons_zero, List.set_cons_succ])
    refine wpAnyH_done (by kernel_rfl) ?_ _
    (try simp only [List.getElem_toArray, List.getElem_cons_succ, List.getElem_cons_zero, Act.put, List.setIfInBounds_toArray, List.set_cons_zero, List.set_cons_succ])
    clear hHeld
    have hd := (Below.refl X.heap.size X).drew
    replace HT := Lib.hid (HT.out.trans (Stp.drew.trans (Stp.turn ht7 HR.out.lo.2.1 HR.out.hi.2.1)))
    replace HR := Lib.hid ((HR.out.below hd).turn_acc ht7 _ hm7 (by omega) _ (fA_put hFB acc { ac with closed := true }))
    have hcT : ∀ j u, X.cell? ⟨w.heap.size, j, none⟩ = some u → w7.cell? ⟨w.heap.size, j, none⟩ = some u := fun j u h => (turned_cell ht7 _).trans h
    replace qa0 := hcT 0 _ qa0
    replace qa1 := hcT 1 _ qa1
    replace qa2 := hcT 2 _ qa2
    replace qa3 := hcT 3 _ qa3
    replace qa4 := hcT 4 _ qa4
    replace qa5 := hcT 5 _ qa5
    replace qa6 := hcT 6 _ qa6
    clear hcT
    have hsz7 : X.heap.size ≤ w7.heap.size := ht7.grown.size
    have hpw7 : k.p < w7.heap.size := by omega
    have hgw7 : w.heap.size < w7.heap.size := by omega
    clear ht7 hm7 hd
    go_wp2_with fail
    go_end0
    exact ⟨⟨_, rfl⟩, by rw [HQ.out]; exact HR.out.mono (by omega), HT.out⟩
set_option maxHeartbeats 16000000 in
theorem apply_3 (at_ acc sub val : Int) (num name : ByteArray) (B M NN : Nat) (k : Bl) (s : St) (w : World) (h : Rep w B M NN k s) (wa : (Lit.int .i64 acc).wf = true) (ws : (Lit.int .i64 sub).wf = true) (hnm : num.size ≤ maxLen) (hNN : NN ≤ 100000) :
    Calls Try.prog 71 #[.pointer (some ⟨k.p, 0, none⟩), .agg #[.int .i64 at_, .int .i64 3, .int .i64 acc, .int .i64 sub, .string num, .string name, .int .i64 val]] w fun r w' => (∃ u, r = .returned u) ∧ Rep w' B M (NN + 4) k (applyP s ⟨at_, 3, acc, sub, num, name, val⟩) ∧ Stp B M w w' := by
  have hBw : B ≤ w.heap.size := by have := h.lo; have := h.hi; have := h.m; omega
  have hmx : NN + 4 < maxLen := by unfold maxLen; omega
  have HR := Lib.hid h
  clear h
  go_enter Try.func71, Try.ntmps71
  go_upto_region 1 with (fail)
  (obtain ⟨W, hWW, hbW, hzW, f1W, qfa⟩ := box1 w #[.int .i64 at_, .int .i64 3, .int .i64 acc, .int .i64 sub, .string num, .string name, .int .i64 val] 36; rw [← hWW]; have qa0 : W.cell? ⟨w.heap.size, 0, none⟩ = some (.int .i64 at_) := f1W 0 _ rfl; have qa1 : W.cell? ⟨w.heap.size, 1, none⟩ = some (.int .i64 3) := f1W 1 _ rfl; have qa2 : W.cell? ⟨w.heap.size, 2, none⟩ = some (.int .i64 acc) := f1W 2 _ rfl; have qa3 : W.cell? ⟨w.heap.size, 3, none⟩ = some (.int .i64 sub) := f1W 3 _ rfl; have qa4 : W.cell? ⟨w.heap.size, 4, none⟩ = some (.string num) := f1W 4 _ rfl; have qa5 : W.cell? ⟨w.heap.size, 5, none⟩ = some (.string name) := f1W 5 _ rfl; have qa6 : W.cell? ⟨w.heap.size, 6, none⟩ = some (.int .i64 val) := f1W 6 _ rfl; clear hWW f1W)
  have HT := Lib.hid (Stp.below (M := M) hbW hBw)
  have hpw : k.p < w.heap.size := Nat.lt_of_lt_of_le HR.out.hi.1 HR.out.m
  have hpW : k.p < W.heap.size := Nat.lt_trans hpw hzW
  have hgW : w.heap.size < W.heap.size := hzW
  have hnp : w.heap.size ≠ k.p := by omega
  replace HR := Lib.hid (HR.out.below hbW)
  clear hbW hzW
  have c2 := HR.out.c2
  obtain ⟨fe, hME, hFE⟩ := HR.out.ever
  have HME := Lib.hid hME
  have hlv := hFE sub
  clear hME hFE
  have hl := fun z : Wd (Below W.heap.size W) => (HME.out.below z.h).run keyI Try.underlying125 (zeroB _) (kI ws) (v := .bool (s.ever sub)) hlv
  clear hlv
  go_upto_region 15 with (fail)
  cases hev : s.ever sub
  case false =>
    rw [hev] at hl
    have HQ := Lib.hid (show applyP s ⟨at_, 3, acc, sub, num, name, val⟩ = { s with added := insI s.added sub, ever := upd s.ever sub true, live := upd s.live acc (s.live acc + 1), sub := upd s.sub sub (some ⟨sub, acc, at_, name, [], [], false, false⟩) } by unfold applyP; simp [hev])
    clear hev
    ((with_reducible refine wp_region_class (Below W.heap.size W) ?_ ?_ ?_ ?_); kernel_rfl; kernel_rfl; (exact (Below.refl _ _).drew); (intro hnonemp); (have zqa0 := fun z : Wd (Below W.heap.size W) => cl z.h qa0; have zqa1 := fun z : Wd (Below W.heap.size W) => cl z.h qa1; have zqa2 := fun z : Wd (Below W.heap.size W) => cl z.h qa2; have zqa3 := fun z : Wd (Below W.heap.size W) => cl z.h qa3; have zqa4 := fun z : Wd (Below W.heap.size W) => cl z.h qa4; have zqa5 := fun z : Wd (Below W.heap.size W) => cl z.h qa5; have zqa6 := fun z : Wd (Below W.heap.size W) => cl z.h qa6; have zc2 := fun z : Wd (Below W.heap.size W) => cl z.h c2); (repeat (any_goals (first | go_big_quiet_step (((first | fail))) | (refine wpQuiet_step (fun K hK => ?_); go_simp; (first | (refine hK _ ?_; clear hK K) | (split <;> rename_i hg <;> (refine hK _ ?_; clear hK K) <;> (try simp only [Bool.not_eq_true] at hg) <;> (first | simp only [Int.not_lt.2 hg, decide_false] | simp only [Int.not_le.1 hg, decide_true] | simp only [hg, decide_true, decide_false] | skip)))))));  all_goals (refine wpQuiet_nil ?_; intro wq hgq))
    (have hzhgq := hgq.size; replace qa0 := cl hgq qa0; replace qa1 := cl hgq qa1; replace qa2 := cl hgq qa2; replace qa3 := cl hgq qa3; replace qa4 := cl hgq qa4; replace qa5 := cl hgq qa5; replace qa6 := cl hgq qa6)
    replace HR := Lib.hid (HR.out.below hgq)
    replace HT := Lib.hid (HT.out.trans (Stp.below hgq (by have := HT.out.1.size; omega)))
    have hpwq : k.p < wq.heap.size := by omega
    have hgwq : w.heap.size < wq.heap.size := by omega
    clear hl zc2 c2 HME hgq zqa0 zqa1 zqa2 zqa3 zqa4 zqa5 zqa6
    go_upto_region 16 with (fail)
    obtain ⟨A5, n5, c5, hc5, hs5, hn5, ho5, hl5⟩ := HR.out.added
    have HS5 := Lib.hid hs5
    have HN5 := Lib.hid hn5
    have hln5 := hs5.len
    clear hs5 hn5 ho5
    refine wp_region_held_drew (S := fun w' => Keeps (fun b => b ≠ k.p) wq w') (by kernel_rfl) (Keeps.ofBelow (Below.refl _ _).drew) (fun hHeld => ?_)
    refine tk 0 (v := ?_) ?_ ?_
    rotate_left
    · intro w' hSw; go_simp; (try with_reducible rfl)
    refine tk 1 (v := ?_) ?_ ?_
    rotate_left
    · intro w' hSw; go_simp; (try with_reducible rfl)
    refine tk 2 (v := ?_) ?_ ?_
    rotate_left
    · intro w' hSw; go_simp; (try with_reducible rfl)
    refine tk 3 (v := ?_) ?_ ?_
    rotate_left
    · intro w' hSw; go_simp; (try with_reducible rfl)
    refine tk 5 (v := ?_) ?_ ?_
    rotate_left
    · intro w' hSw; go_simp; (try with_reducible rfl)
    refine tk 6 (v := ?_) ?_ ?_
    rotate_left
    · intro w' hSw; have ze3 := (hSw.2 w.heap.size 3 hnp hgwq).trans qa3; go_simp; (try with_reducible rfl)
    (try simp only [List.getElem_toArray, List.getElem_cons_succ, List.getElem_cons_zero, Act.put, List.setIfInBounds_toArray, List.set_cons_zero, List.set_cons_succ])
    refine wpAnyH_ready (rs := [4]) (by kernel_rfl) (by simp) ?_
    refine AllReadyH.cons rfl (fun K' hK => ?_) AllReadyH.nil
    go_simp
    refine hK.out _ _ (hHeld) (fun hHeld => ?_)
    clear hK K'
    (try simp only [List.getElem_toArray, List.getElem_cons_succ, List.getElem_cons_zero, Act.put, List.setIfInBounds_toArray, List.set_cons_zero, List.set_cons_succ])
    refine wpAnyH_ready (rs := [7]) (by kernel_rfl) (by simp) ?_
    refine AllReadyH.cons rfl (fun K' hK => ?_) AllReadyH.nil
    go_simp
    (go_at_call 100; refine (placeI_any A5 n5 c5 s.added sub _ (HS5.out.below (Below.refl _ _).drew) HN5.out (by omega)).mono ?_; rintro r w5 ⟨v5, rfl, ho5, hb5⟩; obtain ⟨A6, c6, rfl, hn6, hs6⟩ := ho5.slN; have p5 := (hb5.cell (p := ⟨k.p, 6, none⟩) hpwq).trans hc5; have pf := (hb5.frozen (p := ⟨k.p, 6, none⟩) hpwq).trans (HR.out.fz 6); have HK6 := Lib.hid (And.intro hn6 (And.intro hs6 ho5.okA)); have HB5 := Lib.hid hb5; clear hn6 hs6 ho5 hb5)
    refine hK.out _ _ (hHeld.trans (Keeps.ofBelow HB5.out)) (fun hHeld => ?_)
    clear hK K'
    (try simp only [List.getElem_toArray, List.getElem_cons_succ, List.getElem_cons_zero, Act.put, List.setIfInBounds_toArray, List.set_cons_zero, List.set_cons_succ])
    refine tk 8 (v := ?_) ?_ ?_
    rotate_left
    · intro w' hSw; go_simp; (try with_reducible rfl)
    refine tk 9 (v := ?_) ?_ ?_
    rotate_left
    · intro w' hSw; go_simp; (try with_reducible rfl)
    (try simp only [List.getElem_toArray, List.getElem_cons_succ, List.getElem_cons_zero, Act.put, List.setIfInBounds_toArray, List.set_cons_zero, List.set_cons_succ])
    refine wpAnyH_ready (rs := [10]) (by kernel_rfl) (by simp) ?_
    refine AllReadyH.cons rfl (fun K' hK => ?_) AllReadyH.nil
    go_simp
    refine hK.out _ _ (hHeld.trans (Keeps.ofSet fun b hb => hb)) (fun hHeld => ?_)
    clear hK K'
    (try simp only [List.getElem_toArray, List.getElem_cons_succ, List.getElem_cons_zero, Act.put, List.setIfInBounds_toArray, List.set_cons_zero, List.set_cons_succ])
    refine wpAnyH_done (by kernel_rfl) ?_ _
    (try simp only [List.getElem_toArray, List.getElem_cons_succ, List.getElem_cons_zero, Act.put, List.setIfInBounds_toArray, List.set_cons_zero, List.set_cons_succ])
    have hb5 : Below wq.heap.size wq w5 := (Below.refl _ _).drew.trans HB5.out
    have hln6 : (insI s.added sub).length = n5 + 1 := by rw [insI_len]; omega
    rw [hln6]
    have hset := (HR.out.below hb5).set_added (A := A6) (n := n5 + 1) (c := c6) (l := insI s.added sub) (by have := HK6.out.2.1; rw [hln6] at this; exact this) HK6.out.1 (by have := HK6.out.2.2; rw [hln6] at this; exact this.mono fun b hb => by have : wq.heap.size ≤ b := hb; omega) (by omega)
    obtain ⟨Y, hY⟩ : ∃ Y, Y = w5.setCell ⟨k.p, 6, none⟩ (.slice A6 (n5 + 1) c6) := ⟨_, rfl⟩
    rw [← hY] at hset ⊢
    have hcY : ∀ j u, wq.cell? ⟨w.heap.size, j, none⟩ = some u → Y.cell? ⟨w.heap.size, j, none⟩ = some u := fun j u h => by rw [hY]; exact (World.cell?_setCell_other _ _ _ _ (fun e => by injection e with e1 e2; omega)).trans ((hb5.cell (p := ⟨w.heap.size, j, none⟩) hgwq).trans h)
    replace qa0 := hcY 0 _ qa0
    replace qa1 := hcY 1 _ qa1
    replace qa2 := hcY 2 _ qa2
    replace qa3 := hcY 3 _ qa3
    replace qa4 := hcY 4 _ qa4
    replace qa5 := hcY 5 _ qa5
    replace qa6 := hcY 6 _ qa6
    clear hcY
    have hszY : wq.heap.size ≤ Y.heap.size := by rw [hY, World.size_setCell]; exact hb5.size
    have hST : Stp B M w5 Y := by rw [hY]; exact Stp.set_ HR.out.lo.1 HR.out.hi.1
    replace HT := Lib.hid (HT.out.trans ((Stp.below hb5 (by have := HT.out.1.size; omega)).trans hST))
    clear hST
    replace HR := Lib.hid hset
    have hpY : k.p < Y.heap.size := by omega
    have hgY : w.heap.size < Y.heap.size := by omega
    clear hset hY hb5 HB5 HK6 p5 pf hHeld hc5 hln6 hln5 HS5 HN5 hl5
    go_upto_region 17 with (fail)
    have c2 := HR.out.c2
    obtain ⟨fe, hME, hFE⟩ := HR.out.ever
    have HME := Lib.hid hME
    clear hME
    refine wp_region_held_drew (S := fun w' => Keeps (fun _ => True) Y w') (by kernel_rfl) (Keeps.ofBelow (Below.refl _ _).drew) (fun hHeld => ?_)
    refine tk 0 (v := ?_) ?_ ?_
    rotate_left
    · intro w' hSw; go_simp; (try with_reducible rfl)
    refine tk 1 (v := ?_) ?_ ?_
    rotate_left
    · intro w' hSw; go_simp; (try with_reducible rfl)
    refine tk 2 (v := ?_) ?_ ?_
    rotate_left
    · intro w' hSw; go_simp; (try with_reducible rfl)
    refine tk 3 (v := ?_) ?_ ?_
    rotate_left
    · intro w' hSw; have zc2 := (hSw.2 k.p 2 trivial hpY).trans c2; have ze3 := (hSw.2 w.heap.size 3 trivial hgY).trans qa3; go_simp; (try with_reducible rfl)
    refine tk 4 (v := ?_) ?_ ?_
    rotate_left
    · intro w' hSw; go_simp; (try with_reducible rfl)
    refine tk 5 (v := ?_) ?_ ?_
    rotate_left
    · intro w' hSw; have zc2 := (hSw.2 k.p 2 trivial hpY).trans c2; have ze3 := (hSw.2 w.heap.size 3 trivial hgY).trans qa3; go_simp; (try with_reducible rfl)
    (try simp only [List.getElem_toArray, List.getElem_cons_succ, List.getElem_cons_zero, Act.put, List.setIfInBounds_toArray, List.set_cons_zero, List.set_cons_succ])
    refine wpAnyH_ready (rs := [6]) (by kernel_rfl) (by simp) ?_
    refine AllReadyH.cons rfl (fun K' hK => ?_) AllReadyH.nil
    rw [if_pos (by rfl)]
    refine op_put (.tmp 115) (.tmp 117) (.const (.bool true)) rfl keyI Try.underlying125 rfl HME.out.drew (by omega) (.int .i64 sub) (.bool true) (.int .i64 sub) rfl rfl (kI ws) ?_
    intro w7 hm7 ht7
    refine hK.out _ _ (hHeld.trans (turned_keeps ht7)) (fun hHeld => ?_)
    clear hK K'
    (try simp only [List.getElem_toArray, List.getElem_cons_succ, List.getElem_cons_zero, Act.put, List.setIfInBounds_toArray, List.set_cons_zero, List.set_cons_succ])
    refine wpAnyH_done (by kernel_rfl) ?_ _
    (try simp only [List.getElem_toArray, List.getElem_cons_succ, List.getElem_cons_zero, Act.put, List.setIfInBounds_toArray, List.set_cons_zero, List.set_cons_succ])
    clear hHeld
    have hd := (Below.refl Y.heap.size Y).drew
    replace HT := Lib.hid (HT.out.trans (Stp.drew.trans (Stp.turn ht7 HR.out.lo.2.2.2.1 HR.out.hi.2.2.2.1)))
    replace HR := Lib.hid ((HR.out.below hd).turn_ever ht7 _ hm7 (by omega) _ (fE_put hFE sub))
    have hcT : ∀ j u, Y.cell? ⟨w.heap.size, j, none⟩ = some u → w7.cell? ⟨w.heap.size, j, none⟩ = some u := fun j u h => (turned_cell ht7 _).trans h
    replace qa0 := hcT 0 _ qa0
    replace qa1 := hcT 1 _ qa1
    replace qa2 := hcT 2 _ qa2
    replace qa3 := hcT 3 _ qa3
    replace qa4 := hcT 4 _ qa4
    replace qa5 := hcT 5 _ qa5
    replace qa6 := hcT 6 _ qa6
    clear hcT
    have hsz7 : Y.heap.size ≤ w7.heap.size := ht7.grown.size
    have hpw7 : k.p < w7.heap.size := by omega
    have hgw7 : w.heap.size < w7.heap.size := by omega
    clear ht7 hm7 hd
    clear c2 HME hFE
    go_upto_region 18 with (fail)
    have c4 := HR.out.c4
    obtain ⟨fl, hML, hFL⟩ := HR.out.live
    have HML := Lib.hid hML
    have hlv := hFL acc
    clear hML
    have hl := (HML.out.drew).run keyI Try.underlying126 (zeroI _) (kI wa) (v := .int .i64 (s.live acc)) hlv.1
    have hwr : IntKind.i64.wrap (s.live acc + 1) = s.live acc + 1 := IntWalk.i64_in _ (by have := hlv.2; dsimp only at this; omega)
    have hl1 := hlv.2.1
    have hl2 := hlv.2.2
    dsimp only at hl1 hl2
    clear hlv
    refine wp_region_held_drew (S := fun w' => Keeps (fun _ => True) w7 w') (by kernel_rfl) (Keeps.ofBelow (Below.refl _ _).drew) (fun hHeld => ?_)
    refine tk 0 (v := ?_) ?_ ?_
    rotate_left
    · intro w' hSw; go_simp; (try with_reducible rfl)
    refine tk 1 (v := ?_) ?_ ?_
    rotate_left
    · intro w' hSw; go_simp; (try with_reducible rfl)
    refine tk 2 (v := ?_) ?_ ?_
    rotate_left
    · intro w' hSw; go_simp; (try with_reducible rfl)
    refine tk 3 (v := ?_) ?_ ?_
    rotate_left
    · intro w' hSw; have zc4 := (hSw.2 k.p 4 trivial hpw7).trans c4; have ze2 := (hSw.2 w.heap.size 2 trivial hgw7).trans qa2; go_simp; (try with_reducible rfl)
    refine tk 4 (v := ?_) ?_ ?_
    rotate_left
    · intro w' hSw; go_simp; (try with_reducible rfl)
    refine tk 5 (v := ?_) ?_ ?_
    rotate_left
    · intro w' hSw; have zc4 := (hSw.2 k.p 4 trivial hpw7).trans c4; have ze2 := (hSw.2 w.heap.size 2 trivial hgw7).trans qa2; go_simp; (try with_reducible rfl)
    (try simp only [List.getElem_toArray, List.getElem_cons_succ, List.getElem_cons_zero, Act.put, List.setIfInBounds_toArray, List.set_cons_zero, List.set_cons_succ])
    refine wpAnyH_ready (rs := [6]) (by kernel_rfl) (by simp) ?_
    refine AllReadyH.cons rfl (fun K' hK => ?_) AllReadyH.nil
    go_simp
    refine hK.out _ _ (hHeld) (fun hHeld => ?_)
    clear hK K'
    (try simp only [List.getElem_toArray, List.getElem_cons_succ, List.getElem_cons_zero, Act.put, List.setIfInBounds_toArray, List.set_cons_zero, List.set_cons_succ])
    refine tk 7 (v := ?_) ?_ ?_
    rotate_left
    · intro w' hSw; go_simp; (try with_reducible rfl)
    (try simp only [List.getElem_toArray, List.getElem_cons_succ, List.getElem_cons_zero, Act.put, List.setIfInBounds_toArray, List.set_cons_zero, List.set_cons_succ])
    refine wpAnyH_ready (rs := [8]) (by kernel_rfl) (by simp) ?_
    refine AllReadyH.cons rfl (fun K' hK => ?_) AllReadyH.nil
    rw [if_pos (by rfl)]
    refine op_put (.tmp 121) (.tmp 123) (.tmp 125) rfl keyI Try.underlying126 rfl HML.out.drew (by omega) (.int .i64 acc) (.int .i64 (s.live acc + 1)) (.int .i64 acc) rfl rfl (kI wa) ?_
    intro w8 hm7 ht7
    refine hK.out _ _ (hHeld.trans (turned_keeps ht7)) (fun hHeld => ?_)
    clear hK K'
    (try simp only [List.getElem_toArray, List.getElem_cons_succ, List.getElem_cons_zero, Act.put, List.setIfInBounds_toArray, List.set_cons_zero, List.set_cons_succ])
    refine wpAnyH_done (by kernel_rfl) ?_ _
    (try simp only [List.getElem_toArray, List.getElem_cons_succ, List.getElem_cons_zero, Act.put, List.setIfInBounds_toArray, List.set_cons_zero, List.set_cons_succ])
    clear hHeld
    have hd := (Below.refl w7.heap.size w7).drew
    replace HT := Lib.hid (HT.out.trans (Stp.drew.trans (Stp.turn ht7 HR.out.lo.2.2.2.2.2 HR.out.hi.2.2.2.2.2)))
    replace HR := Lib.hid ((HR.out.below hd).turn_live ht7 _ hm7 (by omega) _ (fL_put hFL acc (s.live acc + 1) (by push_cast; omega) (by push_cast; omega)))
    have hcT : ∀ j u, w7.cell? ⟨w.heap.size, j, none⟩ = some u → w8.cell? ⟨w.heap.size, j, none⟩ = some u := fun j u h => (turned_cell ht7 _).trans h
    replace qa0 := hcT 0 _ qa0
    replace qa1 := hcT 1 _ qa1
    replace qa2 := hcT 2 _ qa2
    replace qa3 := hcT 3 _ qa3
    replace qa4 := hcT 4 _ qa4
    replace qa5 := hcT 5 _ qa5
    replace qa6 := hcT 6 _ qa6
    clear hcT
    have hsz7 : w7.heap.size ≤ w8.heap.size := ht7.grown.size
    have hpw8 : k.p < w8.heap.size := by omega
    have hgw8 : w.heap.size < w8.heap.size := by omega
    clear ht7 hm7 hd
    clear c4 HML hFL hl hwr hl1 hl2
    go_upto_region 19 with (fail)
    have c1 := HR.out.c1
    obtain ⟨fs, hMS, hFS⟩ := HR.out.sub
    have HMS := Lib.hid hMS
    clear hMS
    refine wp_region_held_drew (S := fun w' => Keeps (fun _ => True) w8 w') (by kernel_rfl) (Keeps.ofBelow (Below.refl _ _).drew) (fun hHeld => ?_)
    refine tk 0 (v := ?_) ?_ ?_
    rotate_left
    · intro w' hSw; go_simp; (try with_reducible rfl)
    refine tk 1 (v := ?_) ?_ ?_
    rotate_left
    · intro w' hSw; go_simp; (try with_reducible rfl)
    refine tk 2 (v := ?_) ?_ ?_
    rotate_left
    · intro w' hSw; go_simp; (try with_reducible rfl)
    refine tk 3 (v := ?_) ?_ ?_
    rotate_left
    · intro w' hSw; have zc1 := (hSw.2 k.p 1 trivial hpw8).trans c1; have ze3 := (hSw.2 w.heap.size 3 trivial hgw8).trans qa3; have ze2 := (hSw.2 w.heap.size 2 trivial hgw8).trans qa2; have ze0 := (hSw.2 w.heap.size 0 trivial hgw8).trans qa0; have ze5 := (hSw.2 w.heap.size 5 trivial hgw8).trans qa5; go_simp; (try with_reducible rfl)
    refine tk 4 (v := ?_) ?_ ?_
    rotate_left
    · intro w' hSw; go_simp; (try with_reducible rfl)
    refine tk 5 (v := ?_) ?_ ?_
    rotate_left
    · intro w' hSw; have zc1 := (hSw.2 k.p 1 trivial hpw8).trans c1; have ze3 := (hSw.2 w.heap.size 3 trivial hgw8).trans qa3; have ze2 := (hSw.2 w.heap.size 2 trivial hgw8).trans qa2; have ze0 := (hSw.2 w.heap.size 0 trivial hgw8).trans qa0; have ze5 := (hSw.2 w.heap.size 5 trivial hgw8).trans qa5; go_simp; (try with_reducible rfl)
    refine tk 6 (v := ?_) ?_ ?_
    rotate_left
    · intro w' hSw; go_simp; (try with_reducible rfl)
    refine tk 7 (v := ?_) ?_ ?_
    rotate_left
    · intro w' hSw; have zc1 := (hSw.2 k.p 1 trivial hpw8).trans c1; have ze3 := (hSw.2 w.heap.size 3 trivial hgw8).trans qa3; have ze2 := (hSw.2 w.heap.size 2 trivial hgw8).trans qa2; have ze0 := (hSw.2 w.heap.size 0 trivial hgw8).trans qa0; have ze5 := (hSw.2 w.heap.size 5 trivial hgw8).trans qa5; go_simp; (try with_reducible rfl)
    refine tk 8 (v := ?_) ?_ ?_
    rotate_left
    · intro w' hSw; go_simp; (try with_reducible rfl)
    refine tk 9 (v := ?_) ?_ ?_
    rotate_left
    · intro w' hSw; have zc1 := (hSw.2 k.p 1 trivial hpw8).trans c1; have ze3 := (hSw.2 w.heap.size 3 trivial hgw8).trans qa3; have ze2 := (hSw.2 w.heap.size 2 trivial hgw8).trans qa2; have ze0 := (hSw.2 w.heap.size 0 trivial hgw8).trans qa0; have ze5 := (hSw.2 w.heap.size 5 trivial hgw8).trans qa5; go_simp; (try with_reducible rfl)
    refine tk 10 (v := ?_) ?_ ?_
    rotate_left
    · intro w' hSw; go_simp; (try with_reducible rfl)
    refine tk 11 (v := ?_) ?_ ?_
    rotate_left
    · intro w' hSw; have zc1 := (hSw.2 k.p 1 trivial hpw8).trans c1; have ze3 := (hSw.2 w.heap.size 3 trivial hgw8).trans qa3; have ze2 := (hSw.2 w.heap.size 2 trivial hgw8).trans qa2; have ze0 := (hSw.2 w.heap.size 0 trivial hgw8).trans qa0; have ze5 := (hSw.2 w.heap.size 5 trivial hgw8).trans qa5; go_simp; (try with_reducible rfl)
    refine tk 12 (v := ?_) ?_ ?_
    rotate_left
    · intro w' hSw; go_simp; (try with_reducible rfl)
    refine tk 13 (v := ?_) ?_ ?_
    rotate_left
    · intro w' hSw; have zc1 := (hSw.2 k.p 1 trivial hpw8).trans c1; have ze3 := (hSw.2 w.heap.size 3 trivial hgw8).trans qa3; have ze2 := (hSw.2 w.heap.size 2 trivial hgw8).trans qa2; have ze0 := (hSw.2 w.heap.size 0 trivial hgw8).trans qa0; have ze5 := (hSw.2 w.heap.size 5 trivial hgw8).trans qa5; go_simp; (try with_reducible rfl)
    refine tk 14 (v := ?_) ?_ ?_
    rotate_left
    · intro w' hSw; go_simp; (try with_reducible rfl)
    (try simp only [List.getElem_toArray, List.getElem_cons_succ, List.getElem_cons_zero, Act.put, List.setIfInBounds_toArray, List.set_cons_zero, List.set_cons_succ])
    refine wpAnyH_ready (rs := [15]) (by kernel_rfl) (by simp) ?_
    refine AllReadyH.cons rfl (fun K' hK => ?_) AllReadyH.nil
    rw [if_pos (by rfl)]
    refine op_put (.tmp 129) (.tmp 131) (.tmp 140) rfl keyI Try.underlying124 rfl HMS.out.drew (by omega) (.int .i64 sub) (.agg #[.int .i64 sub, .int .i64 acc, .int .i64 at_, .string name, .slice none 0 0, .slice none 0 0, .bool false, .bool false]) (.int .i64 sub) rfl rfl (kI ws) ?_
    intro w9 hm7 ht7
    refine hK.out _ _ (hHeld.trans (turned_keeps ht7)) (fun hHeld => ?_)
    clear hK K'
    (try simp only [List.getElem_toArray, List.getElem_cons_succ, List.getElem_cons_zero, Act.put, List.setIfInBounds_toArray, List.set_cons_zero, List.set_cons_succ])
    refine wpAnyH_done (by kernel_rfl) ?_ _
    (try simp only [List.getElem_toArray, List.getElem_cons_succ, List.getElem_cons_zero, Act.put, List.setIfInBounds_toArray, List.set_cons_zero, List.set_cons_succ])
    clear hHeld
    have hd := (Below.refl w8.heap.size w8).drew
    replace HT := Lib.hid (HT.out.trans (Stp.drew.trans (Stp.turn ht7 HR.out.lo.2.2.1 HR.out.hi.2.2.1)))
    replace HR := Lib.hid ((HR.out.below hd).turn_sub ht7 _ hm7 (by omega) _ (fS_put (hFS.keep (turned_keeps ht7)) sub ⟨sub, acc, at_, name, none, 0, 0, none, 0, 0, false, false⟩ ⟨sub, acc, at_, name, [], [], false, false⟩ ⟨⟨rfl, rfl, rfl, rfl, fun _ => rfl, Sl.nil_ _, fun _ => rfl, Sl.nil_ _, rfl, rfl⟩, OkA.nil_, OkA.nil_⟩ (Nat.zero_le _) (Nat.zero_le _) (by intro u hu; cases hu) wa))
    have hcT : ∀ j u, w8.cell? ⟨w.heap.size, j, none⟩ = some u → w9.cell? ⟨w.heap.size, j, none⟩ = some u := fun j u h => (turned_cell ht7 _).trans h
    replace qa0 := hcT 0 _ qa0
    replace qa1 := hcT 1 _ qa1
    replace qa2 := hcT 2 _ qa2
    replace qa3 := hcT 3 _ qa3
    replace qa4 := hcT 4 _ qa4
    replace qa5 := hcT 5 _ qa5
    replace qa6 := hcT 6 _ qa6
    clear hcT
    have hsz7 : w8.heap.size ≤ w9.heap.size := ht7.grown.size
    have hpw9 : k.p < w9.heap.size := by omega
    have hgw9 : w.heap.size < w9.heap.size := by omega
    clear ht7 hm7 hd
    go_wp2_with fail
    go_end0
    exact ⟨⟨_, rfl⟩, by rw [HQ.out]; exact HR.out.mono (by omega), HT.out⟩
  case true =>
    rw [hev] at hl
    have HQ := Lib.hid (show applyP s ⟨at_, 3, acc, sub, num, name, val⟩ = { s with added := s.added, ever := upd s.ever sub true, live := upd s.live acc (s.live acc + 1), sub := upd s.sub sub (some ⟨sub, acc, at_, name, [], [], false, false⟩) } by unfold applyP; simp [hev])
    clear hev
    ((with_reducible refine wp_region_class (Below W.heap.size W) ?_ ?_ ?_ ?_); kernel_rfl; kernel_rfl; (exact (Below.refl _ _).drew); (intro hnonemp); (have zqa0 := fun z : Wd (Below W.heap.size W) => cl z.h qa0; have zqa1 := fun z : Wd (Below W.heap.size W) => cl z.h qa1; have zqa2 := fun z : Wd (Below W.heap.size W) => cl z.h qa2; have zqa3 := fun z : Wd (Below W.heap.size W) => cl z.h qa3; have zqa4 := fun z : Wd (Below W.heap.size W) => cl z.h qa4; have zqa5 := fun z : Wd (Below W.heap.size W) => cl z.h qa5; have zqa6 := fun z : Wd (Below W.heap.size W) => cl z.h qa6; have zc2 := fun z : Wd (Below W.heap.size W) => cl z.h c2); (repeat (any_goals (first | go_big_quiet_step (((first | fail))) | (refine wpQuiet_step (fun K hK => ?_); go_simp; (first | (refine hK _ ?_; clear hK K) | (split <;> rename_i hg <;> (refine hK _ ?_; clear hK K) <;> (try simp only [Bool.not_eq_true] at hg) <;> (first | simp only [Int.not_lt.2 hg, decide_false] | simp only [Int.not_le.1 hg, decide_true] | simp only [hg, decide_true, decide_false] | skip)))))));  all_goals (refine wpQuiet_nil ?_; intro wq hgq))
    (have hzhgq := hgq.size; replace qa0 := cl hgq qa0; replace qa1 := cl hgq qa1; replace qa2 := cl hgq qa2; replace qa3 := cl hgq qa3; replace qa4 := cl hgq qa4; replace qa5 := cl hgq qa5; replace qa6 := cl hgq qa6)
    replace HR := Lib.hid (HR.out.below hgq)
    replace HT := Lib.hid (HT.out.trans (Stp.below hgq (by have := HT.out.1.size; omega)))
    have hpwq : k.p < wq.heap.size := by omega
    have hgwq : w.heap.size < wq.heap.size := by omega
    clear hl zc2 c2 HME hgq zqa0 zqa1 zqa2 zqa3 zqa4 zqa5 zqa6
    go_upto_region 17 with (fail)
    have c2 := HR.out.c2
    obtain ⟨fe, hME, hFE⟩ := HR.out.ever
    have HME := Lib.hid hME
    clear hME
    refine wp_region_held_drew (S := fun w' => Keeps (fun _ => True) wq w') (by kernel_rfl) (Keeps.ofBelow (Below.refl _ _).drew) (fun hHeld => ?_)
    refine tk 0 (v := ?_) ?_ ?_
    rotate_left
    · intro w' hSw; go_simp; (try with_reducible rfl)
    refine tk 1 (v := ?_) ?_ ?_
    rotate_left
    · intro w' hSw; go_simp; (try with_reducible rfl)
    refine tk 2 (v := ?_) ?_ ?_
    rotate_left
    · intro w' hSw; go_simp; (try with_reducible rfl)
    refine tk 3 (v := ?_) ?_ ?_
    rotate_left
    · intro w' hSw; have zc2 := (hSw.2 k.p 2 trivial hpwq).trans c2; have ze3 := (hSw.2 w.heap.size 3 trivial hgwq).trans qa3; go_simp; (try with_reducible rfl)
    refine tk 4 (v := ?_) ?_ ?_
    rotate_left
    · intro w' hSw; go_simp; (try with_reducible rfl)
    refine tk 5 (v := ?_) ?_ ?_
    rotate_left
    · intro w' hSw; have zc2 := (hSw.2 k.p 2 trivial hpwq).trans c2; have ze3 := (hSw.2 w.heap.size 3 trivial hgwq).trans qa3; go_simp; (try with_reducible rfl)
    (try simp only [List.getElem_toArray, List.getElem_cons_succ, List.getElem_cons_zero, Act.put, List.setIfInBounds_toArray, List.set_cons_zero, List.set_cons_succ])
    refine wpAnyH_ready (rs := [6]) (by kernel_rfl) (by simp) ?_
    refine AllReadyH.cons rfl (fun K' hK => ?_) AllReadyH.nil
    rw [if_pos (by rfl)]
    refine op_put (.tmp 115) (.tmp 117) (.const (.bool true)) rfl keyI Try.underlying125 rfl HME.out.drew (by omega) (.int .i64 sub) (.bool true) (.int .i64 sub) rfl rfl (kI ws) ?_
    intro w7 hm7 ht7
    refine hK.out _ _ (hHeld.trans (turned_keeps ht7)) (fun hHeld => ?_)
    clear hK K'
    (try simp only [List.getElem_toArray, List.getElem_cons_succ, List.getElem_cons_zero, Act.put, List.setIfInBounds_toArray, List.set_cons_zero, List.set_cons_succ])
    refine wpAnyH_done (by kernel_rfl) ?_ _
    (try simp only [List.getElem_toArray, List.getElem_cons_succ, List.getElem_cons_zero, Act.put, List.setIfInBounds_toArray, List.set_cons_zero, List.set_cons_succ])
    clear hHeld
    have hd := (Below.refl wq.heap.size wq).drew
    replace HT := Lib.hid (HT.out.trans (Stp.drew.trans (Stp.turn ht7 HR.out.lo.2.2.2.1 HR.out.hi.2.2.2.1)))
    replace HR := Lib.hid ((HR.out.below hd).turn_ever ht7 _ hm7 (by omega) _ (fE_put hFE sub))
    have hcT : ∀ j u, wq.cell? ⟨w.heap.size, j, none⟩ = some u → w7.cell? ⟨w.heap.size, j, none⟩ = some u := fun j u h => (turned_cell ht7 _).trans h
    replace qa0 := hcT 0 _ qa0
    replace qa1 := hcT 1 _ qa1
    replace qa2 := hcT 2 _ qa2
    replace qa3 := hcT 3 _ qa3
    replace qa4 := hcT 4 _ qa4
    replace qa5 := hcT 5 _ qa5
    replace qa6 := hcT 6 _ qa6
    clear hcT
    have hsz7 : wq.heap.size ≤ w7.heap.size := ht7.grown.size
    have hpw7 : k.p < w7.heap.size := by omega
    have hgw7 : w.heap.size < w7.heap.size := by omega
    clear ht7 hm7 hd
    clear c2 HME hFE
    go_upto_region 18 with (fail)
    have c4 := HR.out.c4
    obtain ⟨fl, hML, hFL⟩ := HR.out.live
    have HML := Lib.hid hML
    have hlv := hFL acc
    clear hML
    have hl := (HML.out.drew).run keyI Try.underlying126 (zeroI _) (kI wa) (v := .int .i64 (s.live acc)) hlv.1
    have hwr : IntKind.i64.wrap (s.live acc + 1) = s.live acc + 1 := IntWalk.i64_in _ (by have := hlv.2; dsimp only at this; omega)
    have hl1 := hlv.2.1
    have hl2 := hlv.2.2
    dsimp only at hl1 hl2
    clear hlv
    refine wp_region_held_drew (S := fun w' => Keeps (fun _ => True) w7 w') (by kernel_rfl) (Keeps.ofBelow (Below.refl _ _).drew) (fun hHeld => ?_)
    refine tk 0 (v := ?_) ?_ ?_
    rotate_left
    · intro w' hSw; go_simp; (try with_reducible rfl)
    refine tk 1 (v := ?_) ?_ ?_
    rotate_left
    · intro w' hSw; go_simp; (try with_reducible rfl)
    refine tk 2 (v := ?_) ?_ ?_
    rotate_left
    · intro w' hSw; go_simp; (try with_reducible rfl)
    refine tk 3 (v := ?_) ?_ ?_
    rotate_left
    · intro w' hSw; have zc4 := (hSw.2 k.p 4 trivial hpw7).trans c4; have ze2 := (hSw.2 w.heap.size 2 trivial hgw7).trans qa2; go_simp; (try with_reducible rfl)
    refine tk 4 (v := ?_) ?_ ?_
    rotate_left
    · intro w' hSw; go_simp; (try with_reducible rfl)
    refine tk 5 (v := ?_) ?_ ?_
    rotate_left
    · intro w' hSw; have zc4 := (hSw.2 k.p 4 trivial hpw7).trans c4; have ze2 := (hSw.2 w.heap.size 2 trivial hgw7).trans qa2; go_simp; (try with_reducible rfl)
    (try simp only [List.getElem_toArray, List.getElem_cons_succ, List.getElem_cons_zero, Act.put, List.setIfInBounds_toArray, List.set_cons_zero, List.set_cons_succ])
    refine wpAnyH_ready (rs := [6]) (by kernel_rfl) (by simp) ?_
    refine AllReadyH.cons rfl (fun K' hK => ?_) AllReadyH.nil
    go_simp
    refine hK.out _ _ (hHeld) (fun hHeld => ?_)
    clear hK K'
    (try simp only [List.getElem_toArray, List.getElem_cons_succ, List.getElem_cons_zero, Act.put, List.setIfInBounds_toArray, List.set_cons_zero, List.set_cons_succ])
    refine tk 7 (v := ?_) ?_ ?_
    rotate_left
    · intro w' hSw; go_simp; (try with_reducible rfl)
    (try simp only [List.getElem_toArray, List.getElem_cons_succ, List.getElem_cons_zero, Act.put, List.setIfInBounds_toArray, List.set_cons_zero, List.set_cons_succ])
    refine wpAnyH_ready (rs := [8]) (by kernel_rfl) (by simp) ?_
    refine AllReadyH.cons rfl (fun K' hK => ?_) AllReadyH.nil
    rw [if_pos (by rfl)]
    refine op_put (.tmp 121) (.tmp 123) (.tmp 125) rfl keyI Try.underlying126 rfl HML.out.drew (by omega) (.int .i64 acc) (.int .i64 (s.live acc + 1)) (.int .i64 acc) rfl rfl (kI wa) ?_
    intro w8 hm7 ht7
    refine hK.out _ _ (hHeld.trans (turned_keeps ht7)) (fun hHeld => ?_)
    clear hK K'
    (try simp only [List.getElem_toArray, List.getElem_cons_succ, List.getElem_cons_zero, Act.put, List.setIfInBounds_toArray, List.set_cons_zero, List.set_cons_succ])
    refine wpAnyH_done (by kernel_rfl) ?_ _
    (try simp only [List.getElem_toArray, List.getElem_cons_succ, List.getElem_cons_zero, Act.put, List.setIfInBounds_toArray, List.set_cons_zero, List.set_cons_succ])
    clear hHeld
    have hd := (Below.refl w7.heap.size w7).drew
    replace HT := Lib.hid (HT.out.trans (Stp.drew.trans (Stp.turn ht7 HR.out.lo.2.2.2.2.2 HR.out.hi.2.2.2.2.2)))
    replace HR := Lib.hid ((HR.out.below hd).turn_live ht7 _ hm7 (by omega) _ (fL_put hFL acc (s.live acc + 1) (by push_cast; omega) (by push_cast; omega)))
    have hcT : ∀ j u, w7.cell? ⟨w.heap.size, j, none⟩ = some u → w8.cell? ⟨w.heap.size, j, none⟩ = some u := fun j u h => (turned_cell ht7 _).trans h
    replace qa0 := hcT 0 _ qa0
    replace qa1 := hcT 1 _ qa1
    replace qa2 := hcT 2 _ qa2
    replace qa3 := hcT 3 _ qa3
    replace qa4 := hcT 4 _ qa4
    replace qa5 := hcT 5 _ qa5
    replace qa6 := hcT 6 _ qa6
    clear hcT
    have hsz7 : w7.heap.size ≤ w8.heap.size := ht7.grown.size
    have hpw8 : k.p < w8.heap.size := by omega
    have hgw8 : w.heap.size < w8.heap.size := by omega
    clear ht7 hm7 hd
    clear c4 HML hFL hl hwr hl1 hl2
    go_upto_region 19 with (fail)
    have c1 := HR.out.c1
    obtain ⟨fs, hMS, hFS⟩ := HR.out.sub
    have HMS := Lib.hid hMS
    clear hMS
    refine wp_region_held_drew (S := fun w' => Keeps (fun _ => True) w8 w') (by kernel_rfl) (Keeps.ofBelow (Below.refl _ _).drew) (fun hHeld => ?_)
    refine tk 0 (v := ?_) ?_ ?_
    rotate_left
    · intro w' hSw; go_simp; (try with_reducible rfl)
    refine tk 1 (v := ?_) ?_ ?_
    rotate_left
    · intro w' hSw; go_simp; (try with_reducible rfl)
    refine tk 2 (v := ?_) ?_ ?_
    rotate_left
    · intro w' hSw; go_simp; (try with_reducible rfl)
    refine tk 3 (v := ?_) ?_ ?_
    rotate_left
    · intro w' hSw; have zc1 := (hSw.2 k.p 1 trivial hpw8).trans c1; have ze3 := (hSw.2 w.heap.size 3 trivial hgw8).trans qa3; have ze2 := (hSw.2 w.heap.size 2 trivial hgw8).trans qa2; have ze0 := (hSw.2 w.heap.size 0 trivial hgw8).trans qa0; have ze5 := (hSw.2 w.heap.size 5 trivial hgw8).trans qa5; go_simp; (try with_reducible rfl)
    refine tk 4 (v := ?_) ?_ ?_
    rotate_left
    · intro w' hSw; go_simp; (try with_reducible rfl)
    refine tk 5 (v := ?_) ?_ ?_
    rotate_left
    · intro w' hSw; have zc1 := (hSw.2 k.p 1 trivial hpw8).trans c1; have ze3 := (hSw.2 w.heap.size 3 trivial hgw8).trans qa3; have ze2 := (hSw.2 w.heap.size 2 trivial hgw8).trans qa2; have ze0 := (hSw.2 w.heap.size 0 trivial hgw8).trans qa0; have ze5 := (hSw.2 w.heap.size 5 trivial hgw8).trans qa5; go_simp; (try with_reducible rfl)
    refine tk 6 (v := ?_) ?_ ?_
    rotate_left
    · intro w' hSw; go_simp; (try with_reducible rfl)
    refine tk 7 (v := ?_) ?_ ?_
    rotate_left
    · intro w' hSw; have zc1 := (hSw.2 k.p 1 trivial hpw8).trans c1; have ze3 := (hSw.2 w.heap.size 3 trivial hgw8).trans qa3; have ze2 := (hSw.2 w.heap.size 2 trivial hgw8).trans qa2; have ze0 := (hSw.2 w.heap.size 0 trivial hgw8).trans qa0; have ze5 := (hSw.2 w.heap.size 5 trivial hgw8).trans qa5; go_simp; (try with_reducible rfl)
    refine tk 8 (v := ?_) ?_ ?_
    rotate_left
    · intro w' hSw; go_simp; (try with_reducible rfl)
    refine tk 9 (v := ?_) ?_ ?_
    rotate_left
    · intro w' hSw; have zc1 := (hSw.2 k.p 1 trivial hpw8).trans c1; have ze3 := (hSw.2 w.heap.size 3 trivial hgw8).trans qa3; have ze2 := (hSw.2 w.heap.size 2 trivial hgw8).trans qa2; have ze0 := (hSw.2 w.heap.size 0 trivial hgw8).trans qa0; have ze5 := (hSw.2 w.heap.size 5 trivial hgw8).trans qa5; go_simp; (try with_reducible rfl)
    refine tk 10 (v := ?_) ?_ ?_
    rotate_left
    · intro w' hSw; go_simp; (try with_reducible rfl)
    refine tk 11 (v := ?_) ?_ ?_
    rotate_left
    · intro w' hSw; have zc1 := (hSw.2 k.p 1 trivial hpw8).trans c1; have ze3 := (hSw.2 w.heap.size 3 trivial hgw8).trans qa3; have ze2 := (hSw.2 w.heap.size 2 trivial hgw8).trans qa2; have ze0 := (hSw.2 w.heap.size 0 trivial hgw8).trans qa0; have ze5 := (hSw.2 w.heap.size 5 trivial hgw8).trans qa5; go_simp; (try with_reducible rfl)
    refine tk 12 (v := ?_) ?_ ?_
    rotate_left
    · intro w' hSw; go_simp; (try with_reducible rfl)
    refine tk 13 (v := ?_) ?_ ?_
    rotate_left
    · intro w' hSw; have zc1 := (hSw.2 k.p 1 trivial hpw8).trans c1; have ze3 := (hSw.2 w.heap.size 3 trivial hgw8).trans qa3; have ze2 := (hSw.2 w.heap.size 2 trivial hgw8).trans qa2; have ze0 := (hSw.2 w.heap.size 0 trivial hgw8).trans qa0; have ze5 := (hSw.2 w.heap.size 5 trivial hgw8).trans qa5; go_simp; (try with_reducible rfl)
    refine tk 14 (v := ?_) ?_ ?_
    rotate_left
    · intro w' hSw; go_simp; (try with_reducible rfl)
    (try simp only [List.getElem_toArray, List.getElem_cons_succ, List.getElem_cons_zero, Act.put, List.setIfInBounds_toArray, List.set_cons_zero, List.set_cons_succ])
    refine wpAnyH_ready (rs := [15]) (by kernel_rfl) (by simp) ?_
    refine AllReadyH.cons rfl (fun K' hK => ?_) AllReadyH.nil
    rw [if_pos (by rfl)]
    refine op_put (.tmp 129) (.tmp 131) (.tmp 140) rfl keyI Try.underlying124 rfl HMS.out.drew (by omega) (.int .i64 sub) (.agg #[.int .i64 sub, .int .i64 acc, .int .i64 at_, .string name, .slice none 0 0, .slice none 0 0, .bool false, .bool false]) (.int .i64 sub) rfl rfl (kI ws) ?_
    intro w9 hm7 ht7
    refine hK.out _ _ (hHeld.trans (turned_keeps ht7)) (fun hHeld => ?_)
    clear hK K'
    (try simp only [List.getElem_toArray, List.getElem_cons_succ, List.getElem_cons_zero, Act.put, List.setIfInBounds_toArray, List.set_cons_zero, List.set_cons_succ])
    refine wpAnyH_done (by kernel_rfl) ?_ _
    (try simp only [List.getElem_toArray, List.getElem_cons_succ, List.getElem_cons_zero, Act.put, List.setIfInBounds_toArray, List.set_cons_zero, List.set_cons_succ])
    clear hHeld
    have hd := (Below.refl w8.heap.size w8).drew
    replace HT := Lib.hid (HT.out.trans (Stp.drew.trans (Stp.turn ht7 HR.out.lo.2.2.1 HR.out.hi.2.2.1)))
    replace HR := Lib.hid ((HR.out.below hd).turn_sub ht7 _ hm7 (by omega) _ (fS_put (hFS.keep (turned_keeps ht7)) sub ⟨sub, acc, at_, name, none, 0, 0, none, 0, 0, false, false⟩ ⟨sub, acc, at_, name, [], [], false, false⟩ ⟨⟨rfl, rfl, rfl, rfl, fun _ => rfl, Sl.nil_ _, fun _ => rfl, Sl.nil_ _, rfl, rfl⟩, OkA.nil_, OkA.nil_⟩ (Nat.zero_le _) (Nat.zero_le _) (by intro u hu; cases hu) wa))
    have hcT : ∀ j u, w8.cell? ⟨w.heap.size, j, none⟩ = some u → w9.cell? ⟨w.heap.size, j, none⟩ = some u := fun j u h => (turned_cell ht7 _).trans h
    replace qa0 := hcT 0 _ qa0
    replace qa1 := hcT 1 _ qa1
    replace qa2 := hcT 2 _ qa2
    replace qa3 := hcT 3 _ qa3
    replace qa4 := hcT 4 _ qa4
    replace qa5 := hcT 5 _ qa5
    replace qa6 := hcT 6 _ qa6
    clear hcT
    have hsz7 : w8.heap.size ≤ w9.heap.size := ht7.grown.size
    have hpw9 : k.p < w9.heap.size := by omega
    have hgw9 : w.heap.size < w9.heap.size := by omega
    clear ht7 hm7 hd
    go_wp2_with fail
    go_end0
    exact ⟨⟨_, rfl⟩, by rw [HQ.out]; exact HR.out.mono (by omega), HT.out⟩
set_option maxHeartbeats 16000000 in
theorem apply_4 (at_ acc sub val : Int) (num name : ByteArray) (B M NN : Nat) (k : Bl) (s : St) (w : World) (h : Rep w B M NN k s) (wa : (Lit.int .i64 acc).wf = true) (ws : (Lit.int .i64 sub).wf = true) (hnm : num.size ≤ maxLen) (hNN : NN ≤ 100000) :
    Calls Try.prog 71 #[.pointer (some ⟨k.p, 0, none⟩), .agg #[.int .i64 at_, .int .i64 4, .int .i64 acc, .int .i64 sub, .string num, .string name, .int .i64 val]] w fun r w' => (∃ u, r = .returned u) ∧ Rep w' B M (NN + 4) k (applyP s ⟨at_, 4, acc, sub, num, name, val⟩) ∧ Stp B M w w' := by
  have hBw : B ≤ w.heap.size := by have := h.lo; have := h.hi; have := h.m; omega
  have hmx : NN + 4 < maxLen := by unfold maxLen; omega
  have HR := Lib.hid h
  clear h
  go_enter Try.func71, Try.ntmps71
  go_upto_region 1 with (fail)
  (obtain ⟨W, hWW, hbW, hzW, f1W, qfa⟩ := box1 w #[.int .i64 at_, .int .i64 4, .int .i64 acc, .int .i64 sub, .string num, .string name, .int .i64 val] 36; rw [← hWW]; have qa0 : W.cell? ⟨w.heap.size, 0, none⟩ = some (.int .i64 at_) := f1W 0 _ rfl; have qa1 : W.cell? ⟨w.heap.size, 1, none⟩ = some (.int .i64 4) := f1W 1 _ rfl; have qa2 : W.cell? ⟨w.heap.size, 2, none⟩ = some (.int .i64 acc) := f1W 2 _ rfl; have qa3 : W.cell? ⟨w.heap.size, 3, none⟩ = some (.int .i64 sub) := f1W 3 _ rfl; have qa4 : W.cell? ⟨w.heap.size, 4, none⟩ = some (.string num) := f1W 4 _ rfl; have qa5 : W.cell? ⟨w.heap.size, 5, none⟩ = some (.string name) := f1W 5 _ rfl; have qa6 : W.cell? ⟨w.heap.size, 6, none⟩ = some (.int .i64 val) := f1W 6 _ rfl; clear hWW f1W)
  have HT := Lib.hid (Stp.below (M := M) hbW hBw)
  have hpw : k.p < w.heap.size := Nat.lt_of_lt_of_le HR.out.hi.1 HR.out.m
  have hpW : k.p < W.heap.size := Nat.lt_trans hpw hzW
  have hgW : w.heap.size < W.heap.size := hzW
  have hnp : w.heap.size ≠ k.p := by omega
  replace HR := Lib.hid (HR.out.below hbW)
  clear hbW hzW
  have c1 := HR.out.c1
  obtain ⟨fs, hMS, hFS⟩ := HR.out.sub
  have HMS := Lib.hid hMS
  have hfx := hFS sub
  clear hMS hFS
  obtain ⟨v, sb, hv, hsr, hsz, hwf, hsb⟩ : ∃ (v : Sv) (sb : Sb), (fs (.int .i64 sub)).getD (.agg #[.int .i64 0, .int .i64 0, .int .i64 0, .string ⟨#[]⟩, .slice none 0 0, .slice none 0 0, .bool false, .bool false]) = v.val ∧ SRP W (fun b => b ≠ k.p) v sb ∧ (∀ u ∈ sb.nums, u.size ≤ maxLen) ∧ (Lit.int .i64 sb.acc).wf = true ∧ (s.sub sub).getD sb0 = sb := by
    cases hs : s.sub sub with
    | none => rw [hs] at hfx; dsimp only at hfx; rw [hfx]; exact ⟨sv0, sb0, rfl, sv0_sr _ _, (by intro u hu; cases hu), (by decide), rfl⟩
    | some sb => rw [hs] at hfx; dsimp only at hfx; obtain ⟨v, h1, h2, _, _, h3, h4⟩ := hfx; rw [h1]; exact ⟨v, sb, rfl, h2, h3, h4, rfl⟩
  unfold Sv.val at hv
  have HSR := Lib.hid hsr
  have HSZ := Lib.hid hsz
  have hacc : v.acc = sb.acc := hsr.1.acc
  have HQ := Lib.hid (show applyP s ⟨at_, 4, acc, sub, num, name, val⟩ = { s with own := delAll s.own sb.nums, live := upd s.live sb.acc (s.live sb.acc - 1), sub := upd s.sub sub none } by unfold applyP; simp [hsb])
  clear hfx hsr hsz hsb
  rw [← hacc] at hwf HQ
  clear hacc
  go_upto_region 21 with (fail)
  refine wp_region_held_drew (S := fun w' => Below W.heap.size W w') (by kernel_rfl) ((Below.refl _ _).drew) (fun hHeld => ?_)
  refine tk 0 (v := ?_) ?_ ?_
  rotate_left
  · intro w' hSw; go_simp; (try with_reducible rfl)
  refine tk 1 (v := ?_) ?_ ?_
  rotate_left
  · intro w' hSw; go_simp; (try with_reducible rfl)
  refine tk 2 (v := ?_) ?_ ?_
  rotate_left
  · intro w' hSw; go_simp; (try with_reducible rfl)
  refine tk 3 (v := ?_) ?_ ?_
  rotate_left
  · intro w' hSw; have z0 := (hSw.cell (p := ⟨k.p, 1, none⟩) hpW).trans c1; have z2 := (hSw.cell (p := ⟨w.heap.size, 3, none⟩) hgW).trans qa3; go_simp; (try with_reducible rfl)
  refine tk 4 (v := ?_) ?_ ?_
  rotate_left
  · intro w' hSw; go_simp; (try with_reducible rfl)
  refine tk 5 (v := ?_) ?_ ?_
  rotate_left
  · intro w' hSw; have z0 := (hSw.cell (p := ⟨k.p, 1, none⟩) hpW).trans c1; have z2 := (hSw.cell (p := ⟨w.heap.size, 3, none⟩) hgW).trans qa3; go_simp; (try with_reducible rfl)
  refine tk 6 (v := ?_) ?_ ?_
  rotate_left
  · intro w' hSw; have hl := (HMS.out.below hSw).run keyI Try.underlying124 (zeroSb _) (kI ws) (v := .agg #[.int .i64 v.id, .int .i64 v.acc, .int .i64 v.since, .string v.plan, .slice v.An v.nn v.cn, .slice v.Ap v.np v.cp, .bool v.susp, .bool v.fam]) hv; go_simp; (try with_reducible rfl)
  (try simp only [List.getElem_toArray, List.getElem_cons_succ, List.getElem_cons_zero, Act.put, List.setIfInBounds_toArray, List.set_cons_zero, List.set_cons_succ])
  refine wpAnyH_ready (rs := [7]) (by kernel_rfl) (by simp) ?_
  refine AllReadyH.cons rfl (fun K' hK => ?_) AllReadyH.nil
  go_simp
  refine hK.out _ _ (by (repeat (first | exact hHeld | exact Below.refl _ _ | (refine Below.alloc ?_ (by (try simp) <;> omega) _) | (refine Below.setCell ?_ (by (try simp) <;> omega) _) | refine Below.drew ?_ | refine below_drewN ?_ _))) (fun hHeld => ?_)
  clear hK K'
  (try simp only [List.getElem_toArray, List.getElem_cons_succ, List.getElem_cons_zero, Act.put, List.setIfInBounds_toArray, List.set_cons_zero, List.set_cons_succ])
  refine wpAnyH_ready (rs := [8]) (by kernel_rfl) (by simp) ?_
  refine AllReadyH.cons rfl (fun K' hK => ?_) AllReadyH.nil
  go_simp
  refine hK.out _ _ (by (repeat (first | exact hHeld | exact Below.refl _ _ | (refine Below.alloc ?_ (by (try simp) <;> omega) _) | (refine Below.setCell ?_ (by (try simp) <;> omega) _) | refine Below.drew ?_ | refine below_drewN ?_ _))) (fun hHeld => ?_)
  clear hK K'
  (try simp only [List.getElem_toArray, List.getElem_cons_succ, List.getElem_cons_zero, Act.put, List.setIfInBounds_toArray, List.set_cons_zero, List.set_cons_succ])
  refine wpAnyH_done (by kernel_rfl) ?_ _
  (try simp only [List.getElem_toArray, List.getElem_cons_succ, List.getElem_cons_zero, Act.put, List.setIfInBounds_toArray, List.set_cons_zero, List.set_cons_succ])
  obtain ⟨V, hVV, hbV, hzV, fV, ffV⟩ := box1d W #[.int .i64 v.id, .int .i64 v.acc, .int .i64 v.since, .string v.plan, .slice v.An v.nn v.cn, .slice v.Ap v.np v.cp, .bool v.susp, .bool v.fam] 51
  rw [← hVV]
  clear hHeld hVV
  (have hzhbV := hbV.size; replace qa0 := cl hbV qa0; replace qa1 := cl hbV qa1; replace qa2 := cl hbV qa2; replace qa3 := cl hbV qa3; replace qa4 := cl hbV qa4; replace qa5 := cl hbV qa5; replace qa6 := cl hbV qa6)
  replace HR := Lib.hid (HR.out.below hbV)
  have hpV : k.p < V.heap.size := by omega
  have hgV : w.heap.size < V.heap.size := by omega
  replace HT := Lib.hid (HT.out.trans (Stp.below hbV (by have := HT.out.1.size; omega)))
  have vb0 := fV 0 _ rfl
  have vb1 := fV 1 _ rfl
  have vb2 := fV 2 _ rfl
  have vb3 := fV 3 _ rfl
  have vb4 := fV 4 _ rfl
  have vb5 := fV 5 _ rfl
  have vb6 := fV 6 _ rfl
  have vb7 := fV 7 _ rfl
  replace HSR := Lib.hid (famS.keep HSR.out (Keeps.ofBelow hbV))
  have hgV2 : W.heap.size < V.heap.size := hzV
  clear HMS c1 fV ffV hbV hv
  have hnl := HSR.out.1.n.nmax
  have HLN := Lib.hid HSR.out.1.n.len
  go_wp2_with fail
  go_loopw [153] (fun i wr => ∃ j : Nat, j ≤ v.nn ∧ i = .int .i64 j ∧ Rep wr B M NN k { s with own := delAll s.own (sb.nums.take j) } ∧ Stp B M V wr ∧ Keeps (fun _ => True) V wr) (fun i _ => v.nn - (intOf i).toNat)
  case atStart =>
    refine ⟨0, Nat.zero_le _, rfl, ?_, Stp.refl _ _ _, Keeps.refl_⟩
    have h := HR.out
    exact ⟨h.nq, h.lo, h.hi, h.m, h.ne, h.np, h.fz, h.c0, h.c1, h.c2, h.c3, h.c4, h.acc, h.sub, h.ever, h.own, h.live, h.opened, h.added⟩
  case round =>
    obtain ⟨j, hj, rfl, hrep, hstp, hkp⟩ := hrel
    have HRr := Lib.hid hrep
    have HST := Lib.hid hstp
    have HKP := Lib.hid hkp
    have hszr := hkp.1
    have hpr : k.p < wr.heap.size := by omega
    clear hrep hstp hkp
    by_cases hlt : j < v.nn
    · have hsl := HSR.out.1.n.keepP (fun _ _ _ _ => trivial) HKP.out
      obtain ⟨b, off, hAe, hbl, hcells⟩ := hsl.base (by omega)
      obtain ⟨u, hu⟩ := hsl.get hlt
      have e0 : wr.cell? ⟨b, off + j * 1, none⟩ = some (.string u) := Sl.at_ hcells hu 0 rfl
      rw [Nat.mul_one] at e0
      have hus : u.size ≤ maxLen := HSZ.out u (List.mem_of_getElem? hu)
      have c3 := HRr.out.c3
      obtain ⟨fo, hMO, hFO⟩ := HRr.out.own
      have HMO := Lib.hid hMO
      have HFO := Lib.hid (fO_del hFO hu)
      clear hMO hFO hcells hsl hu
      rw [hAe]
      go_wp2_with (at_delete; go_must (
        refine wpl_del rfl (.tmp 160) (.tmp 161) rfl keyS Try.underlying108 rfl HMO.out (.string u) (.string u.data.toList) rfl (kS hus) ?_
        intro w3 hm3 ht3
        have HM3 := Lib.hid hm3
        have HT3 := Lib.hid ht3
        clear hm3 ht3))
      have hrep3 := HRr.out.turn_own HT3.out _ HM3.out (Nat.le_refl _) _ HFO.out
      go_roundw
      case rel => exact ⟨j + 1, by omega, by go_num, hrep3, HST.out.trans (Stp.turn HT3.out HRr.out.lo.2.2.2.2.1 HRr.out.hi.2.2.2.2.1), HKP.out.trans (turned_keeps HT3.out)⟩
      case measure => simp [intOf]; omega
    · obtain rfl : v.nn = j := by omega
      have hkn : ¬ ((v.nn : Int) < (v.nn : Int)) := by omega
      have htk : sb.nums.take v.nn = sb.nums := List.take_of_length_le (by have := HLN.out; omega)
      replace HR := Lib.hid (by have h := HRr.out; rw [htk] at h; exact h)
      replace HT := Lib.hid (HT.out.trans HST.out)
      have hcK : ∀ b i u, V.cell? ⟨b, i, none⟩ = some u → b < V.heap.size → wr.cell? ⟨b, i, none⟩ = some u := fun b i u h hb => (HKP.out.2 b i trivial hb).trans h
      replace qa0 := hcK _ _ _ qa0 hgV
      replace qa1 := hcK _ _ _ qa1 hgV
      replace qa2 := hcK _ _ _ qa2 hgV
      replace qa3 := hcK _ _ _ qa3 hgV
      replace qa4 := hcK _ _ _ qa4 hgV
      replace qa5 := hcK _ _ _ qa5 hgV
      replace qa6 := hcK _ _ _ qa6 hgV
      replace vb1 := hcK _ _ _ vb1 hgV2
      have hgwr : w.heap.size < wr.heap.size := by omega
      have hpwr : k.p < wr.heap.size := hpr
      have hgwr2 : W.heap.size < wr.heap.size := by omega
      clear hcK HRr HST HKP htk vb0 vb2 vb3 vb4 vb5 vb6 vb7
      go_upto_region 27 with (fail)
      have c4 := HR.out.c4
      obtain ⟨fl, hML, hFL⟩ := HR.out.live
      have HML := Lib.hid hML
      have hlv := hFL v.acc
      clear hML
      have hl := (HML.out.drew).run keyI Try.underlying126 (zeroI _) (kI hwf) (v := .int .i64 (s.live v.acc)) hlv.1
      have hwrp : IntKind.i64.wrap (s.live v.acc - 1) = s.live v.acc - 1 := IntWalk.i64_in _ (by have := hlv.2; dsimp only at this; omega)
      have hl1 := hlv.2.1
      have hl2 := hlv.2.2
      dsimp only at hl1 hl2
      clear hlv
      refine wp_region_held_drew (S := fun w' => Keeps (fun _ => True) wr w') (by kernel_rfl) (Keeps.ofBelow (Below.refl _ _).drew) (fun hHeld => ?_)
      refine tk 0 (v := ?_) ?_ ?_
      rotate_left
      · intro w' hSw; go_simp; (try with_reducible rfl)
      refine tk 1 (v := ?_) ?_ ?_
      rotate_left
      · intro w' hSw; go_simp; (try with_reducible rfl)
      refine tk 2 (v := ?_) ?_ ?_
      rotate_left
      · intro w' hSw; go_simp; (try with_reducible rfl)
      refine tk 3 (v := ?_) ?_ ?_
      rotate_left
      · intro w' hSw; have zb1 := (hSw.2 W.heap.size 1 trivial hgwr2).trans vb1; have zc4 := (hSw.2 k.p 4 trivial hpwr).trans c4; go_simp; (try with_reducible rfl)
      refine tk 4 (v := ?_) ?_ ?_
      rotate_left
      · intro w' hSw; go_simp; (try with_reducible rfl)
      refine tk 5 (v := ?_) ?_ ?_
      rotate_left
      · intro w' hSw; have zb1 := (hSw.2 W.heap.size 1 trivial hgwr2).trans vb1; have zc4 := (hSw.2 k.p 4 trivial hpwr).trans c4; go_simp; (try with_reducible rfl)
      (try simp only [List.getElem_toArray, List.getElem_cons_succ, List.getElem_cons_zero, Act.put, List.setIfInBounds_toArray, List.set_cons_zero, List.set_cons_succ])
      refine wpAnyH_ready (rs := [6]) (by kernel_rfl) (by simp) ?_
      refine AllReadyH.cons rfl (fun K' hK => ?_) AllReadyH.nil
      go_simp
      refine hK.out _ _ (hHeld) (fun hHeld => ?_)
      clear hK K'
      (try simp only [List.getElem_toArray, List.getElem_cons_succ, List.getElem_cons_zero, Act.put, List.setIfInBounds_toArray, List.set_cons_zero, List.set_cons_succ])
      refine tk 7 (v := ?_) ?_ ?_
      rotate_left
      · intro w' hSw; go_simp; (try with_reducible rfl)
      (try simp only [List.getElem_toArray, List.getElem_cons_succ, List.getElem_cons_zero, Act.put, List.setIfInBounds_toArray, List.set_cons_zero, List.set_cons_succ])
      refine wpAnyH_ready (rs := [8]) (by kernel_rfl) (by simp) ?_
      refine AllReadyH.cons rfl (fun K' hK => ?_) AllReadyH.nil
      rw [if_pos (by rfl)]
      refine op_put (.tmp 166) (.tmp 168) (.tmp 170) rfl keyI Try.underlying126 rfl HML.out.drew (by omega) (.int .i64 v.acc) (.int .i64 (s.live v.acc - 1)) (.int .i64 v.acc) rfl rfl (kI hwf) ?_
      intro w8 hm7 ht7
      refine hK.out _ _ (hHeld.trans (turned_keeps ht7)) (fun hHeld => ?_)
      clear hK K'
      (try simp only [List.getElem_toArray, List.getElem_cons_succ, List.getElem_cons_zero, Act.put, List.setIfInBounds_toArray, List.set_cons_zero, List.set_cons_succ])
      refine wpAnyH_done (by kernel_rfl) ?_ _
      (try simp only [List.getElem_toArray, List.getElem_cons_succ, List.getElem_cons_zero, Act.put, List.setIfInBounds_toArray, List.set_cons_zero, List.set_cons_succ])
      clear hHeld
      have hd := (Below.refl wr.heap.size wr).drew
      replace HT := Lib.hid (HT.out.trans (Stp.drew.trans (Stp.turn ht7 HR.out.lo.2.2.2.2.2 HR.out.hi.2.2.2.2.2)))
      replace HR := Lib.hid ((HR.out.below hd).turn_live ht7 _ hm7 (by omega) _ (fL_put hFL v.acc (s.live v.acc - 1) (by push_cast; omega) (by push_cast; omega)))
      have hcT : ∀ j u, wr.cell? ⟨w.heap.size, j, none⟩ = some u → w8.cell? ⟨w.heap.size, j, none⟩ = some u := fun j u h => (turned_cell ht7 _).trans h
      replace qa0 := hcT 0 _ qa0
      replace qa1 := hcT 1 _ qa1
      replace qa2 := hcT 2 _ qa2
      replace qa3 := hcT 3 _ qa3
      replace qa4 := hcT 4 _ qa4
      replace qa5 := hcT 5 _ qa5
      replace qa6 := hcT 6 _ qa6
      clear hcT
      have hsz7 : wr.heap.size ≤ w8.heap.size := ht7.grown.size
      have hpw8 : k.p < w8.heap.size := by omega
      have hgw8 : w.heap.size < w8.heap.size := by omega
      clear ht7 hm7 hd
      clear c4 HML hFL hl hwrp hl1 hl2
      go_upto_region 28 with (fail)
      have c1 := HR.out.c1
      obtain ⟨fs, hMS, hFS⟩ := HR.out.sub
      have HMS := Lib.hid hMS
      clear hMS
      refine wp_region_held_drew (S := fun w' => Keeps (fun _ => True) w8 w') (by kernel_rfl) (Keeps.ofBelow (Below.refl _ _).drew) (fun hHeld => ?_)
      refine tk 0 (v := ?_) ?_ ?_
      rotate_left
      · intro w' hSw; go_simp; (try with_reducible rfl)
      refine tk 1 (v := ?_) ?_ ?_
      rotate_left
      · intro w' hSw; go_simp; (try with_reducible rfl)
      refine tk 2 (v := ?_) ?_ ?_
      rotate_left
      · intro w' hSw; go_simp; (try with_reducible rfl)
      refine tk 3 (v := ?_) ?_ ?_
      rotate_left
      · intro w' hSw; have zc1 := (hSw.2 k.p 1 trivial hpw8).trans c1; have ze3 := (hSw.2 w.heap.size 3 trivial hgw8).trans qa3; go_simp; (try with_reducible rfl)
      refine tk 4 (v := ?_) ?_ ?_
      rotate_left
      · intro w' hSw; go_simp; (try with_reducible rfl)
      refine tk 5 (v := ?_) ?_ ?_
      rotate_left
      · intro w' hSw; have zc1 := (hSw.2 k.p 1 trivial hpw8).trans c1; have ze3 := (hSw.2 w.heap.size 3 trivial hgw8).trans qa3; go_simp; (try with_reducible rfl)
      (try simp only [List.getElem_toArray, List.getElem_cons_succ, List.getElem_cons_zero, Act.put, List.setIfInBounds_toArray, List.set_cons_zero, List.set_cons_succ])
      refine wpAnyH_ready (rs := [6]) (by kernel_rfl) (by simp) ?_
      refine AllReadyH.cons rfl (fun K' hK => ?_) AllReadyH.nil
      rw [if_pos (by rfl)]
      refine op_del (.tmp 174) (.tmp 176) rfl keyI Try.underlying124 rfl HMS.out.drew (.int .i64 sub) (.int .i64 sub) rfl (kI ws) ?_
      intro w9 hm7 ht7
      refine hK.out _ _ (hHeld.trans (turned_keeps ht7)) (fun hHeld => ?_)
      clear hK K'
      (try simp only [List.getElem_toArray, List.getElem_cons_succ, List.getElem_cons_zero, Act.put, List.setIfInBounds_toArray, List.set_cons_zero, List.set_cons_succ])
      refine wpAnyH_done (by kernel_rfl) ?_ _
      (try simp only [List.getElem_toArray, List.getElem_cons_succ, List.getElem_cons_zero, Act.put, List.setIfInBounds_toArray, List.set_cons_zero, List.set_cons_succ])
      clear hHeld
      have hd := (Below.refl w8.heap.size w8).drew
      replace HT := Lib.hid (HT.out.trans (Stp.drew.trans (Stp.turn ht7 HR.out.lo.2.2.1 HR.out.hi.2.2.1)))
      replace HR := Lib.hid ((HR.out.below hd).turn_sub ht7 _ hm7 (by omega) _ (fS_del (hFS.keep (turned_keeps ht7)) sub))
      have hcT : ∀ j u, w8.cell? ⟨w.heap.size, j, none⟩ = some u → w9.cell? ⟨w.heap.size, j, none⟩ = some u := fun j u h => (turned_cell ht7 _).trans h
      replace qa0 := hcT 0 _ qa0
      replace qa1 := hcT 1 _ qa1
      replace qa2 := hcT 2 _ qa2
      replace qa3 := hcT 3 _ qa3
      replace qa4 := hcT 4 _ qa4
      replace qa5 := hcT 5 _ qa5
      replace qa6 := hcT 6 _ qa6
      clear hcT
      have hsz7 : w8.heap.size ≤ w9.heap.size := ht7.grown.size
      have hpw9 : k.p < w9.heap.size := by omega
      have hgw9 : w.heap.size < w9.heap.size := by omega
      clear ht7 hm7 hd
      go_wp2_with fail
      go_end0
      exact ⟨⟨_, rfl⟩, by rw [HQ.out]; exact HR.out.mono (by omega), HT.out⟩
set_option maxHeartbeats 16000000 in
theorem apply_14 (at_ acc sub val : Int) (num name : ByteArray) (B M NN : Nat) (k : Bl) (s : St) (w : World) (h : Rep w B M NN k s) (wa : (Lit.int .i64 acc).wf = true) (ws : (Lit.int .i64 sub).wf = true) (hnm : num.size ≤ maxLen) (hNN : NN ≤ 100000) :
    Calls Try.prog 71 #[.pointer (some ⟨k.p, 0, none⟩), .agg #[.int .i64 at_, .int .i64 14, .int .i64 acc, .int .i64 sub, .string num, .string name, .int .i64 val]] w fun r w' => (∃ u, r = .returned u) ∧ Rep w' B M (NN + 4) k (applyP s ⟨at_, 14, acc, sub, num, name, val⟩) ∧ Stp B M w w' := by
  have hBw : B ≤ w.heap.size := by have := h.lo; have := h.hi; have := h.m; omega
  have hmx : NN + 4 < maxLen := by unfold maxLen; omega
  have HR := Lib.hid h
  clear h
  go_enter Try.func71, Try.ntmps71
  go_upto_region 1 with (fail)
  (obtain ⟨W, hWW, hbW, hzW, f1W, qfa⟩ := box1 w #[.int .i64 at_, .int .i64 14, .int .i64 acc, .int .i64 sub, .string num, .string name, .int .i64 val] 36; rw [← hWW]; have qa0 : W.cell? ⟨w.heap.size, 0, none⟩ = some (.int .i64 at_) := f1W 0 _ rfl; have qa1 : W.cell? ⟨w.heap.size, 1, none⟩ = some (.int .i64 14) := f1W 1 _ rfl; have qa2 : W.cell? ⟨w.heap.size, 2, none⟩ = some (.int .i64 acc) := f1W 2 _ rfl; have qa3 : W.cell? ⟨w.heap.size, 3, none⟩ = some (.int .i64 sub) := f1W 3 _ rfl; have qa4 : W.cell? ⟨w.heap.size, 4, none⟩ = some (.string num) := f1W 4 _ rfl; have qa5 : W.cell? ⟨w.heap.size, 5, none⟩ = some (.string name) := f1W 5 _ rfl; have qa6 : W.cell? ⟨w.heap.size, 6, none⟩ = some (.int .i64 val) := f1W 6 _ rfl; clear hWW f1W)
  have HT := Lib.hid (Stp.below (M := M) hbW hBw)
  have hpw : k.p < w.heap.size := Nat.lt_of_lt_of_le HR.out.hi.1 HR.out.m
  have hpW : k.p < W.heap.size := Nat.lt_trans hpw hzW
  have hgW : w.heap.size < W.heap.size := hzW
  have hnp : w.heap.size ≠ k.p := by omega
  replace HR := Lib.hid (HR.out.below hbW)
  clear hbW hzW
  have HQ := Lib.hid (show applyP s ⟨at_, 14, acc, sub, num, name, val⟩ = s from rfl)
  go_wp2_with fail
  go_end0
  exact ⟨⟨_, rfl⟩, by rw [HQ.out]; exact HR.out.mono (by omega), HT.out⟩
set_option maxHeartbeats 16000000 in
theorem apply_15 (at_ acc sub val : Int) (num name : ByteArray) (B M NN : Nat) (k : Bl) (s : St) (w : World) (h : Rep w B M NN k s) (wa : (Lit.int .i64 acc).wf = true) (ws : (Lit.int .i64 sub).wf = true) (hnm : num.size ≤ maxLen) (hNN : NN ≤ 100000) :
    Calls Try.prog 71 #[.pointer (some ⟨k.p, 0, none⟩), .agg #[.int .i64 at_, .int .i64 15, .int .i64 acc, .int .i64 sub, .string num, .string name, .int .i64 val]] w fun r w' => (∃ u, r = .returned u) ∧ Rep w' B M (NN + 4) k (applyP s ⟨at_, 15, acc, sub, num, name, val⟩) ∧ Stp B M w w' := by
  have hBw : B ≤ w.heap.size := by have := h.lo; have := h.hi; have := h.m; omega
  have hmx : NN + 4 < maxLen := by unfold maxLen; omega
  have HR := Lib.hid h
  clear h
  go_enter Try.func71, Try.ntmps71
  go_upto_region 1 with (fail)
  (obtain ⟨W, hWW, hbW, hzW, f1W, qfa⟩ := box1 w #[.int .i64 at_, .int .i64 15, .int .i64 acc, .int .i64 sub, .string num, .string name, .int .i64 val] 36; rw [← hWW]; have qa0 : W.cell? ⟨w.heap.size, 0, none⟩ = some (.int .i64 at_) := f1W 0 _ rfl; have qa1 : W.cell? ⟨w.heap.size, 1, none⟩ = some (.int .i64 15) := f1W 1 _ rfl; have qa2 : W.cell? ⟨w.heap.size, 2, none⟩ = some (.int .i64 acc) := f1W 2 _ rfl; have qa3 : W.cell? ⟨w.heap.size, 3, none⟩ = some (.int .i64 sub) := f1W 3 _ rfl; have qa4 : W.cell? ⟨w.heap.size, 4, none⟩ = some (.string num) := f1W 4 _ rfl; have qa5 : W.cell? ⟨w.heap.size, 5, none⟩ = some (.string name) := f1W 5 _ rfl; have qa6 : W.cell? ⟨w.heap.size, 6, none⟩ = some (.int .i64 val) := f1W 6 _ rfl; clear hWW f1W)
  have HT := Lib.hid (Stp.below (M := M) hbW hBw)
  have hpw : k.p < w.heap.size := Nat.lt_of_lt_of_le HR.out.hi.1 HR.out.m
  have hpW : k.p < W.heap.size := Nat.lt_trans hpw hzW
  have hgW : w.heap.size < W.heap.size := hzW
  have hnp : w.heap.size ≠ k.p := by omega
  replace HR := Lib.hid (HR.out.below hbW)
  clear hbW hzW
  have HQ := Lib.hid (show applyP s ⟨at_, 15, acc, sub, num, name, val⟩ = s from rfl)
  go_wp2_with fail
  go_end0
  exact ⟨⟨_, rfl⟩, by rw [HQ.out]; exact HR.out.mono (by omega), HT.out⟩
end Cu
end Go.Proofs.Yteaanngagcflhaa
