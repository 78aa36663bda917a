/-
  Customers: world.apply, what changes a subscription. No condition.
-/
import Derived.Test.YteaanngagcflhaaCuO
import Derived.BigQuiet
import Derived.StillTailTactics
import Derived.Lib.Overlaps
import Derived.Deep.DeepCutAuto
import Derived.Deep.RegionWith
import Derived.Laws.RangeAny
import Derived.Deep.RegionHeld
import Derived.Deep.RegionHeldLaw
set_option maxRecDepth 100000
set_option linter.unusedVariables false
set_option linter.unusedSimpArgs false
namespace Go.Proofs.Yteaanngagcflhaa
open Go.RowKit

namespace Cu
open Go.Maps
def ownC (s : St) (K sub : Int) (num : ByteArray) : List UInt8 → Option Int := if K = 5 then upd s.own num.toList (some sub) else if K = 6 then upd s.own num.toList none else s.own
theorem changed_any (v : Sv) (sb : Sb) (at_ K acc sub val : Int) (num name : ByteArray) (B M NN : Nat) (k : Bl) (s : St) (w : World) (h : Rep w B M NN k s) (hsr : SRP w (fun b => b ≠ k.p) v sb) (ws : (Lit.int .i64 sub).wf = true) (hnm : num.size ≤ maxLen) (hNN : NN ≤ 100000) (hln : sb.nums.length ≤ NN) (hlp : sb.prods.length ≤ NN) (h5 : 5 ≤ K) (h13 : K ≤ 13) :
    Calls Try.prog 101 #[.pointer (some ⟨k.p, 0, none⟩), .agg #[.int .i64 v.id, .int .i64 v.acc, .int .i64 v.since, .string v.plan, .slice v.An v.nn v.cn, .slice v.Ap v.np v.cp, .bool v.susp, .bool v.fam], .agg #[.int .i64 at_, .int .i64 K, .int .i64 acc, .int .i64 sub, .string num, .string name, .int .i64 val]] w fun r w' => (∃ v' : Sv, r = .returned v'.val ∧ SRP w' (fun b => b ≠ k.p) v' (chgS sb ⟨at_, K, acc, sub, num, name, val⟩)) ∧ Rep w' B M (NN + 1) k { s with own := ownC s K sub num } ∧ Stp B M w w' ∧ Keeps (fun _ => True) w w' := by
  have hK : K = 5 ∨ K = 6 ∨ K = 7 ∨ K = 8 ∨ K = 9 ∨ K = 10 ∨ K = 11 ∨ K = 12 ∨ K = 13 := by omega
  unfold ownC
  rcases hK with rfl | rfl | rfl | rfl | rfl | rfl | rfl | rfl | rfl
  · exact changed_5 v sb at_ acc sub val num name B M NN k s w h hsr ws hnm hNN hln hlp
  · exact changed_6 v sb at_ acc sub val num name B M NN k s w h hsr ws hnm hNN hln hlp
  · exact changed_7 v sb at_ acc sub val num name B M NN k s w h hsr ws hnm hNN hln hlp
  · exact changed_8 v sb at_ acc sub val num name B M NN k s w h hsr ws hnm hNN hln hlp
  · exact changed_9 v sb at_ acc sub val num name B M NN k s w h hsr ws hnm hNN hln hlp
  · exact changed_10 v sb at_ acc sub val num name B M NN k s w h hsr ws hnm hNN hln hlp
  · exact changed_11 v sb at_ acc sub val num name B M NN k s w h hsr ws hnm hNN hln hlp
  · exact changed_12 v sb at_ acc sub val num name B M NN k s w h hsr ws hnm hNN hln hlp
  · exact changed_13 v sb at_ acc sub val num name B M NN k s w h hsr ws hnm hNN hln hlp
theorem insS_mem {l : List ByteArray} {x u : ByteArray} (h : u ∈ insS l x) : u = x ∨ u ∈ l := by
  induction l with
  | nil => simp [insS] at h; exact .inl h
  | cons a l ih =>
    unfold insS at h
    split at h
    · rcases List.mem_cons.1 h with rfl | h
      · exact .inr (by simp)
      · rcases ih h with h | h
        · exact .inl h
        · exact .inr (by simp [h])
    · rcases List.mem_cons.1 h with rfl | h
      · exact .inl rfl
      · exact .inr h
theorem remS_mem {l : List ByteArray} {x u : ByteArray} (h : u ∈ remS l x) : u ∈ l := by
  unfold remS at h; exact (List.mem_filter.1 h).1
theorem remS_len (l : List ByteArray) (x : ByteArray) : (remS l x).length ≤ l.length := by unfold remS; exact List.length_filter_le _ _
theorem chgS_ok {sb : Sb} {e : Ev} {N : Nat} (h1 : sb.nums.length ≤ N) (h2 : sb.prods.length ≤ N) (h3 : ∀ u ∈ sb.nums, u.size ≤ maxLen) (hn : e.num.size ≤ maxLen) : (chgS sb e).nums.length ≤ N + 1 ∧ (chgS sb e).prods.length ≤ N + 1 ∧ (∀ u ∈ (chgS sb e).nums, u.size ≤ maxLen) ∧ (chgS sb e).acc = sb.acc := by
  unfold chgS
  split
  · refine ⟨?_, by show sb.prods.length ≤ _; omega, fun u hu => ?_, rfl⟩
    · show (insS sb.nums e.num).length ≤ _; rw [insS_len]; omega
    · rcases insS_mem hu with rfl | hu
      · exact hn
      · exact h3 u hu
  split
  · refine ⟨?_, by show sb.prods.length ≤ _; omega, fun u hu => h3 u (remS_mem hu), rfl⟩
    show (remS sb.nums e.num).length ≤ _; have := remS_len sb.nums e.num; omega
  split
  · exact ⟨by show sb.nums.length ≤ _; omega, by show sb.prods.length ≤ _; omega, h3, rfl⟩
  split
  · refine ⟨by show sb.nums.length ≤ _; omega, ?_, h3, rfl⟩
    show (insS sb.prods e.name).length ≤ _; rw [insS_len]; omega
  split
  · refine ⟨by show sb.nums.length ≤ _; omega, ?_, h3, rfl⟩
    show (remS sb.prods e.name).length ≤ _; have := remS_len sb.prods e.name; omega
  split
  · exact ⟨by show sb.nums.length ≤ _; omega, by show sb.prods.length ≤ _; omega, h3, rfl⟩
  split
  · exact ⟨by show sb.nums.length ≤ _; omega, by show sb.prods.length ≤ _; omega, h3, rfl⟩
  split
  · exact ⟨by show sb.nums.length ≤ _; omega, by show sb.prods.length ≤ _; omega, h3, rfl⟩
  split
  · exact ⟨by show sb.nums.length ≤ _; omega, by show sb.prods.length ≤ _; omega, h3, rfl⟩
  · exact ⟨by show sb.nums.length ≤ _; omega, by show sb.prods.length ≤ _; omega, h3, rfl⟩
set_option maxHeartbeats 16000000 in
theorem apply_c (at_ K acc sub val : Int) (num name : ByteArray) (B M NN : Nat) (k : Bl) (s : St) (w : World) (h : Rep w B M NN k s) (wa : (Lit.int .i64 acc).wf = true) (ws : (Lit.int .i64 sub).wf = true) (hnm : num.size ≤ maxLen) (hNN : NN ≤ 100000) (h5 : 5 ≤ K) (h13 : K ≤ 13) :
    Calls Try.prog 71 #[.pointer (some ⟨k.p, 0, none⟩), .agg #[.int .i64 at_, .int .i64 K, .int .i64 acc, .int .i64 sub, .string num, .string name, .int .i64 val]] w fun r w' => (∃ u, r = .returned u) ∧ Rep w' B M (NN + 4) k (applyP s ⟨at_, K, acc, sub, num, name, val⟩) ∧ Stp B M w w' := by
  have hBw : B ≤ w.heap.size := by have := h.lo; have := h.hi; have := h.m; omega
  have hmx : NN + 4 < maxLen := by unfold maxLen; omega
  have HR := Lib.hid h
  clear h
  have kn1 : ¬ K = 1 := by omega
  have kn2 : ¬ K = 2 := by omega
  have kn3 : ¬ K = 3 := by omega
  have kn4 : ¬ K = 4 := by omega
  have kn14 : ¬ K = 14 := by omega
  have kn15 : ¬ K = 15 := by omega
  go_enter Try.func71, Try.ntmps71
  go_upto_region 1 with (fail)
  (obtain ⟨W, hWW, hbW, hzW, f1W, qfa⟩ := box1 w #[.int .i64 at_, .int .i64 K, .int .i64 acc, .int .i64 sub, .string num, .string name, .int .i64 val] 36; rw [← hWW]; have qa0 : W.cell? ⟨w.heap.size, 0, none⟩ = some (.int .i64 at_) := f1W 0 _ rfl; have qa1 : W.cell? ⟨w.heap.size, 1, none⟩ = some (.int .i64 K) := f1W 1 _ rfl; have qa2 : W.cell? ⟨w.heap.size, 2, none⟩ = some (.int .i64 acc) := f1W 2 _ rfl; have qa3 : W.cell? ⟨w.heap.size, 3, none⟩ = some (.int .i64 sub) := f1W 3 _ rfl; have qa4 : W.cell? ⟨w.heap.size, 4, none⟩ = some (.string num) := f1W 4 _ rfl; have qa5 : W.cell? ⟨w.heap.size, 5, none⟩ = some (.string name) := f1W 5 _ rfl; have qa6 : W.cell? ⟨w.heap.size, 6, none⟩ = some (.int .i64 val) := f1W 6 _ rfl; clear hWW f1W)
  have HT := Lib.hid (Stp.below (M := M) hbW hBw)
  have hpw : k.p < w.heap.size := Nat.lt_of_lt_of_le HR.out.hi.1 HR.out.m
  have hpW : k.p < W.heap.size := Nat.lt_trans hpw hzW
  have hgW : w.heap.size < W.heap.size := hzW
  have hnp : w.heap.size ≠ k.p := by omega
  replace HR := Lib.hid (HR.out.below hbW)
  clear hbW hzW
  have c1 := HR.out.c1
  obtain ⟨fs, hMS, hFS⟩ := HR.out.sub
  have HMS := Lib.hid hMS
  have hfx := hFS sub
  clear hMS hFS
  go_upto_region 2 with (fail)
  cases hs : s.sub sub
  case none =>
    rw [hs] at hfx
    dsimp only at hfx
    have HQ := Lib.hid (show applyP s ⟨at_, K, acc, sub, num, name, val⟩ = s by unfold applyP; simp [kn1, kn2, kn3, kn4, kn14, kn15, hs])
    clear hs
    refine wp_region_held_drew (S := fun w' => Below W.heap.size W w') (by kernel_rfl) ((Below.refl _ _).drew) (fun hHeld => ?_)
    refine tk 0 (v := ?_) ?_ ?_
    rotate_left
    · intro w' hSw; go_simp; (try with_reducible rfl)
    refine tk 1 (v := ?_) ?_ ?_
    rotate_left
    · intro w' hSw; go_simp; (try with_reducible rfl)
    refine tk 2 (v := ?_) ?_ ?_
    rotate_left
    · intro w' hSw; go_simp; (try with_reducible rfl)
    refine tk 3 (v := ?_) ?_ ?_
    rotate_left
    · intro w' hSw; have z0 := (hSw.cell (p := ⟨k.p, 1, none⟩) hpW).trans c1; have z2 := (hSw.cell (p := ⟨w.heap.size, 3, none⟩) hgW).trans qa3; go_simp; (try with_reducible rfl)
    refine tk 4 (v := ?_) ?_ ?_
    rotate_left
    · intro w' hSw; go_simp; (try with_reducible rfl)
    refine tk 5 (v := ?_) ?_ ?_
    rotate_left
    · intro w' hSw; have z0 := (hSw.cell (p := ⟨k.p, 1, none⟩) hpW).trans c1; have z2 := (hSw.cell (p := ⟨w.heap.size, 3, none⟩) hgW).trans qa3; go_simp; (try with_reducible rfl)
    refine tk 6 (v := ?_) ?_ ?_
    rotate_left
    · intro w' hSw; have hl := (HMS.out.below hSw).run_ok keyI Try.underlying124 (zeroSb _) (kI ws) (v := .agg #[.int .i64 0, .int .i64 0, .int .i64 0, .string ⟨#[]⟩, .slice none 0 0, .slice none 0 0, .bool false, .bool false]) (c := false) (by rw [hfx]; rfl) (by rw [hfx]; rfl); go_simp; (try with_reducible rfl)
    refine tk 7 (v := ?_) ?_ ?_
    rotate_left
    · intro w' hSw; go_simp; (try with_reducible rfl)
    refine tk 8 (v := ?_) ?_ ?_
    rotate_left
    · intro w' hSw; go_simp; (try with_reducible rfl)
    refine tk 9 (v := ?_) ?_ ?_
    rotate_left
    · intro w' hSw; go_simp; (try with_reducible rfl)
    (try simp only [List.getElem_toArray, List.getElem_cons_succ, List.getElem_cons_zero, Act.put, List.setIfInBounds_toArray, List.set_cons_zero, List.set_cons_succ])
    refine wpAnyH_ready (rs := [10]) (by kernel_rfl) (by simp) ?_
    refine AllReadyH.cons rfl (fun K' hK => ?_) AllReadyH.nil
    go_simp
    refine hK.out _ _ (by (repeat (first | exact hHeld | exact Below.refl _ _ | (refine Below.alloc ?_ (by (try simp) <;> omega) _) | (refine Below.setCell ?_ (by (try simp) <;> omega) _) | refine Below.drew ?_ | refine below_drewN ?_ _))) (fun hHeld => ?_)
    clear hK K'
    (try simp only [List.getElem_toArray, List.getElem_cons_succ, List.getElem_cons_zero, Act.put, List.setIfInBounds_toArray, List.set_cons_zero, List.set_cons_succ])
    refine wpAnyH_ready (rs := [11]) (by kernel_rfl) (by simp) ?_
    refine AllReadyH.cons rfl (fun K' hK => ?_) AllReadyH.nil
    go_simp
    refine hK.out _ _ (by (repeat (first | exact hHeld | exact Below.refl _ _ | (refine Below.alloc ?_ (by (try simp) <;> omega) _) | (refine Below.setCell ?_ (by (try simp) <;> omega) _) | refine Below.drew ?_ | refine below_drewN ?_ _))) (fun hHeld => ?_)
    clear hK K'
    (try simp only [List.getElem_toArray, List.getElem_cons_succ, List.getElem_cons_zero, Act.put, List.setIfInBounds_toArray, List.set_cons_zero, List.set_cons_succ])
    refine tk 12 (v := ?_) ?_ ?_
    rotate_left
    · intro w' hSw; go_simp; (try with_reducible rfl)
    (try simp only [List.getElem_toArray, List.getElem_cons_succ, List.getElem_cons_zero, Act.put, List.setIfInBounds_toArray, List.set_cons_zero, List.set_cons_succ])
    refine wpAnyH_done (by kernel_rfl) ?_ _
    (try simp only [List.getElem_toArray, List.getElem_cons_succ, List.getElem_cons_zero, Act.put, List.setIfInBounds_toArray, List.set_cons_zero, List.set_cons_succ])
    obtain ⟨V, hVV, hbV, hzV, fV, ffV⟩ := box1d W #[.int .i64 0, .int .i64 0, .int .i64 0, .string ⟨#[]⟩, .slice none 0 0, .slice none 0 0, .bool false, .bool false] 51
    rw [← hVV]
    clear hHeld hVV
    (have hzhbV := hbV.size; replace qa0 := cl hbV qa0; replace qa1 := cl hbV qa1; replace qa2 := cl hbV qa2; replace qa3 := cl hbV qa3; replace qa4 := cl hbV qa4; replace qa5 := cl hbV qa5; replace qa6 := cl hbV qa6)
    replace HR := Lib.hid (HR.out.below hbV)
    have hpV : k.p < V.heap.size := by omega
    have hgV : w.heap.size < V.heap.size := by omega
    replace HT := Lib.hid (HT.out.trans (Stp.below hbV (by have := HT.out.1.size; omega)))
    go_wp2_with fail
    go_end0
    exact ⟨⟨_, rfl⟩, by rw [HQ.out]; exact HR.out.mono (by omega), HT.out⟩
  case some =>
    rw [hs] at hfx
    dsimp only at hfx
    rename_i sb
    obtain ⟨v, hv, hsr, hln, hlp, hsz, hwf⟩ := hfx
    unfold Sv.val at hv
    have HSR := Lib.hid hsr
    have HSZ := Lib.hid hsz
    clear hsr hsz
    have HQ := Lib.hid (show applyP s ⟨at_, K, acc, sub, num, name, val⟩ = { s with sub := upd s.sub sub (some (chgS sb ⟨at_, K, acc, sub, num, name, val⟩)), own := ownC s K sub num } by unfold applyP ownC; simp [kn1, kn2, kn3, kn4, kn14, kn15, hs])
    clear hs
    refine wp_region_held_drew (S := fun w' => Below W.heap.size W w') (by kernel_rfl) ((Below.refl _ _).drew) (fun hHeld => ?_)
    refine tk 0 (v := ?_) ?_ ?_
    rotate_left
    · intro w' hSw; go_simp; (try with_reducible rfl)
    refine tk 1 (v := ?_) ?_ ?_
    rotate_left
    · intro w' hSw; go_simp; (try with_reducible rfl)
    refine tk 2 (v := ?_) ?_ ?_
    rotate_left
    · intro w' hSw; go_simp; (try with_reducible rfl)
    refine tk 3 (v := ?_) ?_ ?_
    rotate_left
    · intro w' hSw; have z0 := (hSw.cell (p := ⟨k.p, 1, none⟩) hpW).trans c1; have z2 := (hSw.cell (p := ⟨w.heap.size, 3, none⟩) hgW).trans qa3; go_simp; (try with_reducible rfl)
    refine tk 4 (v := ?_) ?_ ?_
    rotate_left
    · intro w' hSw; go_simp; (try with_reducible rfl)
    refine tk 5 (v := ?_) ?_ ?_
    rotate_left
    · intro w' hSw; have z0 := (hSw.cell (p := ⟨k.p, 1, none⟩) hpW).trans c1; have z2 := (hSw.cell (p := ⟨w.heap.size, 3, none⟩) hgW).trans qa3; go_simp; (try with_reducible rfl)
    refine tk 6 (v := ?_) ?_ ?_
    rotate_left
    · intro w' hSw; have hl := (HMS.out.below hSw).run_ok keyI Try.underlying124 (zeroSb _) (kI ws) (v := .agg #[.int .i64 v.id, .int .i64 v.acc, .int .i64 v.since, .string v.plan, .slice v.An v.nn v.cn, .slice v.Ap v.np v.cp, .bool v.susp, .bool v.fam]) (c := true) (by rw [hv]; rfl) (by rw [hv]; rfl); go_simp; (try with_reducible rfl)
    refine tk 7 (v := ?_) ?_ ?_
    rotate_left
    · intro w' hSw; go_simp; (try with_reducible rfl)
    refine tk 8 (v := ?_) ?_ ?_
    rotate_left
    · intro w' hSw; go_simp; (try with_reducible rfl)
    refine tk 9 (v := ?_) ?_ ?_
    rotate_left
    · intro w' hSw; go_simp; (try with_reducible rfl)
    (try simp only [List.getElem_toArray, List.getElem_cons_succ, List.getElem_cons_zero, Act.put, List.setIfInBounds_toArray, List.set_cons_zero, List.set_cons_succ])
    refine wpAnyH_ready (rs := [10]) (by kernel_rfl) (by simp) ?_
    refine AllReadyH.cons rfl (fun K' hK => ?_) AllReadyH.nil
    go_simp
    refine hK.out _ _ (by (repeat (first | exact hHeld | exact Below.refl _ _ | (refine Below.alloc ?_ (by (try simp) <;> omega) _) | (refine Below.setCell ?_ (by (try simp) <;> omega) _) | refine Below.drew ?_ | refine below_drewN ?_ _))) (fun hHeld => ?_)
    clear hK K'
    (try simp only [List.getElem_toArray, List.getElem_cons_succ, List.getElem_cons_zero, Act.put, List.setIfInBounds_toArray, List.set_cons_zero, List.set_cons_succ])
    refine wpAnyH_ready (rs := [11]) (by kernel_rfl) (by simp) ?_
    refine AllReadyH.cons rfl (fun K' hK => ?_) AllReadyH.nil
    go_simp
    refine hK.out _ _ (by (repeat (first | exact hHeld | exact Below.refl _ _ | (refine Below.alloc ?_ (by (try simp) <;> omega) _) | (refine Below.setCell ?_ (by (try simp) <;> omega) _) | refine Below.drew ?_ | refine below_drewN ?_ _))) (fun hHeld => ?_)
    clear hK K'
    (try simp only [List.getElem_toArray, List.getElem_cons_succ, List.getElem_cons_zero, Act.put, List.setIfInBounds_toArray, List.set_cons_zero, List.set_cons_succ])
    refine tk 12 (v := ?_) ?_ ?_
    rotate_left
    · intro w' hSw; go_simp; (try with_reducible rfl)
    (try simp only [List.getElem_toArray, List.getElem_cons_succ, List.getElem_cons_zero, Act.put, List.setIfInBounds_toArray, List.set_cons_zero, List.set_cons_succ])
    refine wpAnyH_done (by kernel_rfl) ?_ _
    (try simp only [List.getElem_toArray, List.getElem_cons_succ, List.getElem_cons_zero, Act.put, List.setIfInBounds_toArray, List.set_cons_zero, List.set_cons_succ])
    obtain ⟨V, hVV, hbV, hzV, fV, ffV⟩ := box1d W #[.int .i64 v.id, .int .i64 v.acc, .int .i64 v.since, .string v.plan, .slice v.An v.nn v.cn, .slice v.Ap v.np v.cp, .bool v.susp, .bool v.fam] 51
    rw [← hVV]
    clear hHeld hVV
    (have hzhbV := hbV.size; replace qa0 := cl hbV qa0; replace qa1 := cl hbV qa1; replace qa2 := cl hbV qa2; replace qa3 := cl hbV qa3; replace qa4 := cl hbV qa4; replace qa5 := cl hbV qa5; replace qa6 := cl hbV qa6)
    replace HR := Lib.hid (HR.out.below hbV)
    have hpV : k.p < V.heap.size := by omega
    have hgV : w.heap.size < V.heap.size := by omega
    replace HT := Lib.hid (HT.out.trans (Stp.below hbV (by have := HT.out.1.size; omega)))
    have vb0 := fV 0 _ rfl
    have vb1 := fV 1 _ rfl
    have vb2 := fV 2 _ rfl
    have vb3 := fV 3 _ rfl
    have vb4 := fV 4 _ rfl
    have vb5 := fV 5 _ rfl
    have vb6 := fV 6 _ rfl
    have vb7 := fV 7 _ rfl
    replace HSR := Lib.hid (famS.keep HSR.out (Keeps.ofBelow hbV))
    have hgV2 : W.heap.size < V.heap.size := hzV
    clear HMS c1 fV ffV hbV hv
    have c1 := HR.out.c1
    go_upto_region 4 with (fail)
    refine wp_region_held_drew (S := fun w' => Keeps (fun _ => True) V w') (by kernel_rfl) (Keeps.ofBelow (Below.refl _ _).drew) (fun hHeld => ?_)
    refine tk 0 (v := ?_) ?_ ?_
    rotate_left
    · intro w' hSw; go_simp; (try with_reducible rfl)
    refine tk 1 (v := ?_) ?_ ?_
    rotate_left
    · intro w' hSw; go_simp; (try with_reducible rfl)
    refine tk 2 (v := ?_) ?_ ?_
    rotate_left
    · intro w' hSw; go_simp; (try with_reducible rfl)
    refine tk 3 (v := ?_) ?_ ?_
    rotate_left
    · intro w' hSw; have zc1 := (hSw.2 k.p 1 trivial hpV).trans c1; have ze0 := (hSw.2 w.heap.size 0 trivial hgV).trans qa0; have ze1 := (hSw.2 w.heap.size 1 trivial hgV).trans qa1; have ze2 := (hSw.2 w.heap.size 2 trivial hgV).trans qa2; have ze3 := (hSw.2 w.heap.size 3 trivial hgV).trans qa3; have ze4 := (hSw.2 w.heap.size 4 trivial hgV).trans qa4; have ze5 := (hSw.2 w.heap.size 5 trivial hgV).trans qa5; have ze6 := (hSw.2 w.heap.size 6 trivial hgV).trans qa6; have zb0 := (hSw.2 W.heap.size 0 trivial hgV2).trans vb0; have zb1 := (hSw.2 W.heap.size 1 trivial hgV2).trans vb1; have zb2 := (hSw.2 W.heap.size 2 trivial hgV2).trans vb2; have zb3 := (hSw.2 W.heap.size 3 trivial hgV2).trans vb3; have zb4 := (hSw.2 W.heap.size 4 trivial hgV2).trans vb4; have zb5 := (hSw.2 W.heap.size 5 trivial hgV2).trans vb5; have zb6 := (hSw.2 W.heap.size 6 trivial hgV2).trans vb6; have zb7 := (hSw.2 W.heap.size 7 trivial hgV2).trans vb7; go_simp; (try with_reducible rfl)
    refine tk 4 (v := ?_) ?_ ?_
    rotate_left
    · intro w' hSw; go_simp; (try with_reducible rfl)
    refine tk 5 (v := ?_) ?_ ?_
    rotate_left
    · intro w' hSw; have zc1 := (hSw.2 k.p 1 trivial hpV).trans c1; have ze0 := (hSw.2 w.heap.size 0 trivial hgV).trans qa0; have ze1 := (hSw.2 w.heap.size 1 trivial hgV).trans qa1; have ze2 := (hSw.2 w.heap.size 2 trivial hgV).trans qa2; have ze3 := (hSw.2 w.heap.size 3 trivial hgV).trans qa3; have ze4 := (hSw.2 w.heap.size 4 trivial hgV).trans qa4; have ze5 := (hSw.2 w.heap.size 5 trivial hgV).trans qa5; have ze6 := (hSw.2 w.heap.size 6 trivial hgV).trans qa6; have zb0 := (hSw.2 W.heap.size 0 trivial hgV2).trans vb0; have zb1 := (hSw.2 W.heap.size 1 trivial hgV2).trans vb1; have zb2 := (hSw.2 W.heap.size 2 trivial hgV2).trans vb2; have zb3 := (hSw.2 W.heap.size 3 trivial hgV2).trans vb3; have zb4 := (hSw.2 W.heap.size 4 trivial hgV2).trans vb4; have zb5 := (hSw.2 W.heap.size 5 trivial hgV2).trans vb5; have zb6 := (hSw.2 W.heap.size 6 trivial hgV2).trans vb6; have zb7 := (hSw.2 W.heap.size 7 trivial hgV2).trans vb7; go_simp; (try with_reducible rfl)
    refine tk 6 (v := ?_) ?_ ?_
    rotate_left
    · intro w' hSw; go_simp; (try with_reducible rfl)
    refine tk 7 (v := ?_) ?_ ?_
    rotate_left
    · intro w' hSw; have zc1 := (hSw.2 k.p 1 trivial hpV).trans c1; have ze0 := (hSw.2 w.heap.size 0 trivial hgV).trans qa0; have ze1 := (hSw.2 w.heap.size 1 trivial hgV).trans qa1; have ze2 := (hSw.2 w.heap.size 2 trivial hgV).trans qa2; have ze3 := (hSw.2 w.heap.size 3 trivial hgV).trans qa3; have ze4 := (hSw.2 w.heap.size 4 trivial hgV).trans qa4; have ze5 := (hSw.2 w.heap.size 5 trivial hgV).trans qa5; have ze6 := (hSw.2 w.heap.size 6 trivial hgV).trans qa6; have zb0 := (hSw.2 W.heap.size 0 trivial hgV2).trans vb0; have zb1 := (hSw.2 W.heap.size 1 trivial hgV2).trans vb1; have zb2 := (hSw.2 W.heap.size 2 trivial hgV2).trans vb2; have zb3 := (hSw.2 W.heap.size 3 trivial hgV2).trans vb3; have zb4 := (hSw.2 W.heap.size 4 trivial hgV2).trans vb4; have zb5 := (hSw.2 W.heap.size 5 trivial hgV2).trans vb5; have zb6 := (hSw.2 W.heap.size 6 trivial hgV2).trans vb6; have zb7 := (hSw.2 W.heap.size 7 trivial hgV2).trans vb7; go_simp; (try with_reducible rfl)
    refine tk 8 (v := ?_) ?_ ?_
    rotate_left
    · intro w' hSw; have zc1 := (hSw.2 k.p 1 trivial hpV).trans c1; have ze0 := (hSw.2 w.heap.size 0 trivial hgV).trans qa0; have ze1 := (hSw.2 w.heap.size 1 trivial hgV).trans qa1; have ze2 := (hSw.2 w.heap.size 2 trivial hgV).trans qa2; have ze3 := (hSw.2 w.heap.size 3 trivial hgV).trans qa3; have ze4 := (hSw.2 w.heap.size 4 trivial hgV).trans qa4; have ze5 := (hSw.2 w.heap.size 5 trivial hgV).trans qa5; have ze6 := (hSw.2 w.heap.size 6 trivial hgV).trans qa6; have zb0 := (hSw.2 W.heap.size 0 trivial hgV2).trans vb0; have zb1 := (hSw.2 W.heap.size 1 trivial hgV2).trans vb1; have zb2 := (hSw.2 W.heap.size 2 trivial hgV2).trans vb2; have zb3 := (hSw.2 W.heap.size 3 trivial hgV2).trans vb3; have zb4 := (hSw.2 W.heap.size 4 trivial hgV2).trans vb4; have zb5 := (hSw.2 W.heap.size 5 trivial hgV2).trans vb5; have zb6 := (hSw.2 W.heap.size 6 trivial hgV2).trans vb6; have zb7 := (hSw.2 W.heap.size 7 trivial hgV2).trans vb7; go_simp; (try with_reducible rfl)
    (try simp only [List.getElem_toArray, List.getElem_cons_succ, List.getElem_cons_zero, Act.put, List.setIfInBounds_toArray, List.set_cons_zero, List.set_cons_succ])
    refine wpAnyH_ready (rs := [9]) (by kernel_rfl) (by simp) ?_
    refine AllReadyH.cons rfl (fun K' hK => ?_) AllReadyH.nil
    go_simp
    (go_at_call 101; refine (changed_any v sb at_ K acc sub val num name B M NN k s _ (HR.out.below (Below.refl _ _).drew) (famS.keep HSR.out (Keeps.ofBelow (Below.refl _ _).drew)) ws hnm hNN hln hlp h5 h13).mono ?_; rintro r w5 ⟨⟨v5, rfl, hsr5⟩, hrep5, hst5, hkp5⟩; obtain ⟨fs5, hMS5, hFS5⟩ := hrep5.sub; have HM5 := Lib.hid hMS5; have HF5 := Lib.hid hFS5; have HR5 := Lib.hid hrep5; have HSR5 := Lib.hid hsr5; have HST5 := Lib.hid hst5; have HKP5 := Lib.hid hkp5; clear hsr5 hrep5 hst5 hkp5 hMS5 hFS5; unfold Sv.val)
    refine hK.out _ _ (hHeld.trans HKP5.out) (fun hHeld => ?_)
    clear hK K'
    (try simp only [List.getElem_toArray, List.getElem_cons_succ, List.getElem_cons_zero, Act.put, List.setIfInBounds_toArray, List.set_cons_zero, List.set_cons_succ])
    refine wpAnyH_ready (rs := [10]) (by kernel_rfl) (by simp) ?_
    refine AllReadyH.cons rfl (fun K' hK => ?_) AllReadyH.nil
    rw [if_pos (by rfl)]
    refine op_put (.tmp 28) (.tmp 30) (.tmp 34) rfl keyI Try.underlying124 rfl HM5.out (by omega) (.int .i64 sub) v5.val (.int .i64 sub) rfl rfl (kI ws) ?_
    intro w7 hm7 ht7
    refine hK.out _ _ (hHeld.trans (turned_keeps ht7)) (fun hHeld => ?_)
    clear hK K'
    (try simp only [List.getElem_toArray, List.getElem_cons_succ, List.getElem_cons_zero, Act.put, List.setIfInBounds_toArray, List.set_cons_zero, List.set_cons_succ])
    refine wpAnyH_done (by kernel_rfl) ?_ _
    (try simp only [List.getElem_toArray, List.getElem_cons_succ, List.getElem_cons_zero, Act.put, List.setIfInBounds_toArray, List.set_cons_zero, List.set_cons_succ])
    clear hHeld
    have hok := chgS_ok (e := ⟨at_, K, acc, sub, num, name, val⟩) hln hlp HSZ.out hnm
    have hR7 := HR5.out.turn_sub ht7 _ hm7 (by omega) _ (fS_put (HF5.out.keep (turned_keeps ht7)) sub v5 _ (famS.keep HSR5.out (turned_keeps ht7)) (Nat.le_succ_of_le hok.1) (Nat.le_succ_of_le hok.2.1) hok.2.2.1 (by rw [hok.2.2.2]; exact hwf))
    have hT7 := HT.out.trans (Stp.drew.trans (HST5.out.trans (Stp.turn ht7 HR5.out.lo.2.2.1 HR5.out.hi.2.2.1)))
    go_wp2_with fail
    go_end0
    exact ⟨⟨_, rfl⟩, by rw [HQ.out]; exact hR7.mono (by omega), hT7⟩
theorem apply_any (at_ K acc sub val : Int) (num name : ByteArray) (B M NN : Nat) (k : Bl) (s : St) (w : World) (h : Rep w B M NN k s) (wa : (Lit.int .i64 acc).wf = true) (ws : (Lit.int .i64 sub).wf = true) (hnm : num.size ≤ maxLen) (hNN : NN ≤ 100000) (h1 : 1 ≤ K) (h15 : K ≤ 15) :
    Calls Try.prog 71 #[.pointer (some ⟨k.p, 0, none⟩), .agg #[.int .i64 at_, .int .i64 K, .int .i64 acc, .int .i64 sub, .string num, .string name, .int .i64 val]] w fun r w' => (∃ u, r = .returned u) ∧ Rep w' B M (NN + 4) k (applyP s ⟨at_, K, acc, sub, num, name, val⟩) ∧ Stp B M w w' := by
  have hK : K = 1 ∨ K = 2 ∨ K = 3 ∨ K = 4 ∨ (5 ≤ K ∧ K ≤ 13) ∨ K = 14 ∨ K = 15 := by omega
  rcases hK with rfl | rfl | rfl | rfl | hK | rfl | rfl
  · exact apply_1 at_ acc sub val num name B M NN k s w h wa ws hnm hNN
  · exact apply_2 at_ acc sub val num name B M NN k s w h wa ws hnm hNN
  · exact apply_3 at_ acc sub val num name B M NN k s w h wa ws hnm hNN
  · exact apply_4 at_ acc sub val num name B M NN k s w h wa ws hnm hNN
  · exact apply_c at_ K acc sub val num name B M NN k s w h wa ws hnm hNN hK.1 hK.2
  · exact apply_14 at_ acc sub val num name B M NN k s w h wa ws hnm hNN
  · exact apply_15 at_ acc sub val num name B M NN k s w h wa ws hnm hNN
end Cu
end Go.Proofs.Yteaanngagcflhaa
