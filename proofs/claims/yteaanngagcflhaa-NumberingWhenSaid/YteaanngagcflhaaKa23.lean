/-
  Numbers: spells, as an iterator; Numbers: Spells; Numbers: Free. No condition.
-/
import Derived.Test.YteaanngagcflhaaKa22
import Derived.Test.YteaanngagcflhaaKa18
import Derived.BigQuiet
import Derived.StillTailTactics
import Derived.Lib.Overlaps
import Derived.Deep.DeepCutAuto
import Derived.Deep.RegionWith
import Derived.RangeFuncNested
import Derived.RangeFuncBound
import Derived.RangeFuncCalls
import Derived.RangeFuncLeaves
import Derived.Shelf.Abstract
import Derived.Shelf.RegionOpen
import Derived.WalkKit
import Derived.OwnWalkIn
import Derived.TacticsInMore
import Derived.LoopNIn
import Derived.LoopIn
import Derived.Sort.BigQuietIn
import Derived.Sort.CutIn
set_option maxRecDepth 100000
set_option linter.unusedVariables false
set_option linter.unusedSimpArgs false
namespace Go.Proofs.Yteaanngagcflhaa
open Go.RowKit
open Go.Shelf
attribute [local go_sem] Oper.semAt_some
namespace Nb
open Cu Go.Maps
def odA (d : Od) : Array Value := #[.agg #[.int .i64 d.sub, .int .i64 d.from_, .int .i64 d.to_]]
theorem out_step {l : List Ev} {x : ByteArray} {k : Nat} : (spP l x k).out <+: (spP l x (k + 1)).out := by
  show _ <+: (match l[k]? with | some e => stepP l x k e (spP l x k) | none => spP l x k).out
  cases l[k]? with
  | none => exact List.prefix_refl _
  | some e =>
    dsimp only
    unfold stepP
    split
    · exact List.prefix_refl _
    · exact List.prefix_append _ _
theorem out_pre {l : List Ev} {x : ByteArray} {k : Nat} : ∀ m, k ≤ m → (spP l x k).out <+: (spP l x m).out
  | 0, h => by obtain rfl : k = 0 := by omega
               exact List.prefix_refl _
  | m + 1, h => by
    by_cases hk : k = m + 1
    · subst hk; exact List.prefix_refl _
    · exact (out_pre m (by omega)).trans out_step
theorem out_end {l : List Ev} {x : ByteArray} {k : Nat} (h : k ≤ l.length) : (spP l x k).out <+: spE l x := (out_pre l.length h).trans (List.prefix_append _ _)
theorem pend_len (s : Sp) (t : Int) : (pend s t).length ≤ 1 := by unfold pend; split <;> simp
theorem out_len {l : List Ev} {x : ByteArray} : ∀ k, (spP l x k).out.length ≤ k
  | 0 => Nat.le_refl _
  | k + 1 => by
    have ih := out_len (l := l) (x := x) k
    show (match l[k]? with | some e => stepP l x k e (spP l x k) | none => spP l x k).out.length ≤ k + 1
    cases l[k]? with
    | none => dsimp only; omega
    | some e =>
      dsimp only
      unfold stepP
      split
      · show (spP l x k).out.length ≤ _; omega
      · have := pend_len (spP l x k) e.at_
        show ((spP l x k).out ++ pend (spP l x k) e.at_).length ≤ _
        rw [List.length_append]; omega
def KE (W W' : World) : Prop := ∀ (b : Nat) (cs : Array Value), W.heap[b]? = some (Obj.cells cs 36 (0, 0)) → W'.heap[b]? = some (Obj.cells cs 36 (0, 0))
def KpE (B M Z : Nat) (W W' : World) : Prop := KpS B M Z W W' ∧ KE W W'
theorem KE.ofBelow {W W' : World} (h : Below W.heap.size W W') : KE W W' := fun b cs hb => (h.block b (Array.getElem?_eq_some_iff.1 hb).1).trans hb
theorem KpE.trans {B M Z : Nat} {W W1 W2 : World} (h : KpE B M Z W W1) (k : KpE B M Z W1 W2) : KpE B M Z W W2 := ⟨h.1.trans k.1, fun b cs hb => k.2 b cs (h.2 b cs hb)⟩
theorem KpE.below {B M Z : Nat} {W W' : World} (h : Below W.heap.size W W') (hB : B ≤ W.heap.size) : KpE B M Z W W' := ⟨KpS.below h hB, KE.ofBelow h⟩
theorem KpE.put {B M Z : Nat} {w : World} (hB : B ≤ w.heap.size) (hZ : Z ≤ w.heap.size) (W : World) (l : Nat) (o o' : Obj) (hl : w.heap.size ≤ l) (h : W.heap[l]? = some o) (h1 : o.isCells = false) (h2 : o.isWalk = false) : KpE B M Z W (W.putObj l o') :=
  ⟨KpS.put hB hZ W l o o' hl h h1 h2, fun b cs hb => ((grownBy_putObj' W l o').block b (Array.getElem?_eq_some_iff.1 hb).1 (fun e => by injection e with e; subst e; rw [h] at hb; cases hb; cases h1)).trans hb⟩
theorem KE.cell {W W' : World} (h : KE W W') {b o : Nat} {cs : Array Value} {v : Value} (hb : W.heap[b]? = some (.cells cs 36 (0, 0))) (hc : W.cell? ⟨b, o, none⟩ = some v) : W'.cell? ⟨b, o, none⟩ = some v := (World.cell?_of_block (a := ⟨b, o, none⟩) ((h b cs hb).trans hb.symm)).trans hc
theorem be_or {α : Type} [BEq α] [LawfulBEq α] [DecidableEq α] (x y : α) : (x = y ∧ (x == y) = true ∧ (x != y) = false) ∨ (¬ x = y ∧ (x == y) = false ∧ (x != y) = true) := by
  by_cases h : x = y
  · exact .inl ⟨h, be_t h⟩
  · exact .inr ⟨h, be_f h⟩
set_option maxHeartbeats 16000000 in
theorem spells1_in (F : Fence) (nn : Nat) (h108 : F.fn 108) (h109 : F.fn 109) (hro : F.round = none) (hn : 1 ≤ nn) (hcw : ∀ {n : Nat} {P : Program} {f : FuncId} {args : Array Value} {w : World} {R : Ending → World → Prop}, Calls P f args w R → CallsIn F n P f args w R)
    (l Bs Bn B M Z : Nat) (evs : List Ev) (x : ByteArray) (A : Option Addr) (n c : Nat) (hlen : evs.length = n) (hnm : n ≤ 900000) (J Jx : List Od → World → Prop) (W : World)
    (hY : ∀ pre d W, J pre W → pre.length < n + 1 → YieldAt F (nn - 1) Try.prog l (odA d) W fun e W' =>
      (e = .returned (.bool true) ∧ J (pre ++ [d]) W' ∧ KpE B M Z W W') ∨ (e = .returned (.bool false) ∧ Jx (pre ++ [d]) W'))
    (hJa : AbidesFrom W.heap.size J) (hB : B ≤ W.heap.size) (hsl : ∀ wr, Below B W wr → Sl wr A n c evs)
    (hZ : Z ≤ W.heap.size) (hs1 : M ≤ Bs ∧ Bs < Z) (ht1 : M ≤ Bn ∧ Bn < Z) (hcs : W.cell? ⟨Bs, 0, none⟩ = some (.slice A n c)) (hcn : W.cell? ⟨Bn, 0, none⟩ = some (.string x)) (h0 : J [] W) :
    CallsIn F nn Try.prog 108 #[.func (.yield l) #[] #[], .pointer (some ⟨Bs, 0, none⟩), .pointer (some ⟨Bn, 0, none⟩)] W fun e W' => (∃ v, e = .returned v) ∧
      ((∃ ys, ys = spE evs x ∧ J ys W') ∨ (∃ pre, pre <+: spE evs x ∧ Jx pre W')) := by
  refine callsIn_of_wp Try.func108 rfl h108 ?_ hro
  simp only [Try.ntmps108, List.size_toArray, List.length_cons, List.length_nil, Nat.reduceAdd, Nat.reduceSub, Array.replicate_succ, Array.replicate_zero, List.push_toArray, List.append_toArray, List.nil_append, List.cons_append]
  have HNX : Hid (∀ (o : Int) (e : Ev) (W : World), CallsIn F (nn - 1) Try.prog 109 #[.int .i64 o, .string x, .agg #[.int .i64 e.at_, .int .i64 e.kind, .int .i64 e.acc, .int .i64 e.sub, .string e.num, .string e.name, .int .i64 e.val]] W fun r w' => r = .returned (.int .i64 (nxt o x e)) ∧ Below W.heap.size W w') := Lib.hid (fun o e W => hcw (next_any o x e W))
  clear hcw
  gi_wp2
  gi_loopw [4, 5, 6, 11] (fun v4 v5 v6 i wr => ∃ k : Nat, k ≤ n ∧ i = .int .i64 k ∧ v4 = .int .i64 (spP evs x k).since ∧ v5 = .int .i64 (spP evs x k).owner ∧ v6 = .int .i64 (spP evs x k).now ∧ J (spP evs x k).out wr ∧ KpS B M Z W wr)
    (fun _ _ _ i _ => n - (intOf i).toNat)
  case atStart => exact ⟨0, Nat.zero_le _, rfl, rfl, rfl, rfl, h0, KpS.refl _ _ _ _⟩
  case round =>
    obtain ⟨k, hk, rfl, rfl, rfl, rfl, hJs, hnx⟩ := hrel
    have HJS := Lib.hid hJs
    have hszr := hnx.2.1
    have hcs2 := (hnx.2.2 Bs 0 hs1 (by omega)).trans hcs
    have hcn2 := (hnx.2.2 Bn 0 ht1 (by omega)).trans hcn
    have hbs : Bs < wr.heap.size := by omega
    have hbn : Bn < wr.heap.size := by omega
    clear hJs
    by_cases hlt : k < n
    · obtain ⟨b, off, hAe, hbl, hcells⟩ := (hsl wr hnx.1).base (by omega)
      obtain ⟨e, he⟩ : ∃ e, evs[k]? = some e := ⟨_, List.getElem?_eq_getElem (by omega)⟩
      have c0 : wr.cell? ⟨b, off + k * 7, none⟩ = some (.int .i64 e.at_) := Sl.at_ hcells he 0 rfl
      have c1 : wr.cell? ⟨b, off + k * 7 + 1, none⟩ = some (.int .i64 e.kind) := Sl.at_ hcells he 1 rfl
      have c2 : wr.cell? ⟨b, off + k * 7 + 2, none⟩ = some (.int .i64 e.acc) := Sl.at_ hcells he 2 rfl
      have c3 : wr.cell? ⟨b, off + k * 7 + 3, none⟩ = some (.int .i64 e.sub) := Sl.at_ hcells he 3 rfl
      have c4 : wr.cell? ⟨b, off + k * 7 + 4, none⟩ = some (.string e.num) := Sl.at_ hcells he 4 rfl
      have c5 : wr.cell? ⟨b, off + k * 7 + 5, none⟩ = some (.string e.name) := Sl.at_ hcells he 5 rfl
      have c6 : wr.cell? ⟨b, off + k * 7 + 6, none⟩ = some (.int .i64 e.val) := Sl.at_ hcells he 6 rfl
      have HE := Lib.hid he
      have HC := Lib.hid @hcells
      have hstep := spP_succ (x := x) he
      have hlenk := out_len (l := evs) (x := x) k
      have hpre1 := out_end (l := evs) (x := x) (k := k + 1) (by omega)
      obtain ⟨s, hs⟩ : ∃ s, spP evs x k = s := ⟨_, rfl⟩
      rw [hs] at hstep HJS hlenk ⊢
      obtain ⟨out, since, owner, now⟩ := s
      dsimp only at HJS hlenk ⊢
      have HSTEP := Lib.hid hstep
      have HPRE := Lib.hid hpre1
      subst hAe
      clear he hcells hs hstep hpre1
      gi_upto_region 4 with (fail)
      have hnew : (wr.alloc (.cells #[.int .i64 e.at_, .int .i64 e.kind, .int .i64 e.acc, .int .i64 e.sub, .string e.num, .string e.name, .int .i64 e.val] 36)).heap[wr.heap.size]? = some (.cells #[.int .i64 e.at_, .int .i64 e.kind, .int .i64 e.acc, .int .i64 e.sub, .string e.num, .string e.name, .int .i64 e.val] 36 (0, 0)) := World.alloc_heap_new _ _
      obtain ⟨V, hVV⟩ : ∃ V, V = wr.alloc (.cells #[.int .i64 e.at_, .int .i64 e.kind, .int .i64 e.acc, .int .i64 e.sub, .string e.num, .string e.name, .int .i64 e.val] 36) := ⟨_, rfl⟩
      rw [← hVV] at hnew ⊢
      have hbV : Below wr.heap.size wr V := by rw [hVV]; exact (Below.refl _ _).alloc (Nat.le_refl _) _
      have hzV : wr.heap.size < V.heap.size := (Array.getElem?_eq_some_iff.1 hnew).1
      have hcell : ∀ j v, #[.int .i64 e.at_, .int .i64 e.kind, .int .i64 e.acc, .int .i64 e.sub, .string e.num, .string e.name, .int .i64 e.val][j]? = some v → V.cell? ⟨wr.heap.size, j, none⟩ = some v := fun j v hv => by simp [World.cell?, hnew, hv]
      have qa0 : V.cell? ⟨wr.heap.size, 0, none⟩ = some (.int .i64 e.at_) := hcell 0 _ rfl
      have qa1 : V.cell? ⟨wr.heap.size, 1, none⟩ = some (.int .i64 e.kind) := hcell 1 _ rfl
      have qa2 : V.cell? ⟨wr.heap.size, 2, none⟩ = some (.int .i64 e.acc) := hcell 2 _ rfl
      have qa3 : V.cell? ⟨wr.heap.size, 3, none⟩ = some (.int .i64 e.sub) := hcell 3 _ rfl
      have qa4 : V.cell? ⟨wr.heap.size, 4, none⟩ = some (.string e.num) := hcell 4 _ rfl
      have qa5 : V.cell? ⟨wr.heap.size, 5, none⟩ = some (.string e.name) := hcell 5 _ rfl
      have qa6 : V.cell? ⟨wr.heap.size, 6, none⟩ = some (.int .i64 e.val) := hcell 6 _ rfl
      clear hVV hcell
      replace HJS := Lib.hid (hJa _ wr V none HJS.out ⟨hbV.os, hbV.tape, hbV.output, hbV.size, fun k hk _ => hbV.block k hk⟩ (fun r e => by cases e))
      have hnV := hnx.trans (KpS.below hbV (by omega))
      replace hcs2 := cl hbV hcs2
      replace hcn2 := cl hbV hcn2
      have hsV := hbV.size
      gi_upto_region 5 with (gi_at_call 109; refine (HNX.out now e V).mono ?_; rintro r w2 ⟨rfl, hb2⟩)
      have hsz2 := hb2.size
      replace HJS := Lib.hid (hJa _ V w2 none HJS.out ⟨hb2.os, hb2.tape, hb2.output, hb2.size, fun k hk _ => hb2.block k hk⟩ (fun r e => by cases e))
      have hn2 := hnV.trans (KpS.below hb2 (by omega))
      replace hcs2 := cl hb2 hcs2
      replace qa0 := cl hb2 qa0
      have hkw : IntKind.i64.wrap ((k : Int) + 1) = (k : Int) + 1 := IntWalk.i64_in _ (by omega)
      have hk0 : (0 : Int) ≤ (k : Int) + 1 := by omega
      have hkt : ((k : Int) + 1).toNat = k + 1 := by omega
      have HBV := Lib.hid ((hb2.block _ hzV).trans hnew)
      have HBW2 := Lib.hid ((hbV.trans (hb2.mono hbV.size)))
      clear c0 c1 c2 c3 c4 c5 c6 qa1 qa2 qa3 qa4 qa5 qa6 hbV hb2 hnew hnV hnx
      gi_cut [40] from 66 (fun v wx => v = .bool (decide (k + 1 < n ∧ toN evs (k + 1) = e.at_) || decide (nxt now x e = owner)) ∧ ∃ q, wx = w2.drewN q)
      case first =>
        clear hY hJa HPRE HNX HSTEP
        have HT : Hid (∀ e2, evs[k + 1]? = some e2 → toN evs (k + 1) = e2.at_) := Lib.hid (fun e2 h => toN_at h)
        rcases be_or (nxt now x e) owner with ⟨h3, b3, d3⟩ | ⟨h3, b3, d3⟩
        · have H3 := Lib.hid h3
          clear h3
          by_cases hq : k + 1 < n
          · have hqi : (k : Int) + 1 < (n : Int) := by omega
            have hqd : decide ((k : Int) + 1 < (n : Int)) = true := decide_eq_true hqi
            obtain ⟨e2, he2⟩ : ∃ e, evs[k + 1]? = some e := ⟨_, List.getElem?_eq_getElem (by omega)⟩
            have d0 : w2.cell? ⟨b, off + (k + 1) * 7, none⟩ = some (.int .i64 e2.at_) := cl (HBW2.out) (Sl.at_ HC.out he2 0 rfl)
            have HE2 := Lib.hid (HT.out e2 he2)
            have HQ := Lib.hid hq
            clear he2
            rcases be_or e2.at_ e.at_ with ⟨h2, b2, d2⟩ | ⟨h2, b2, d2⟩
            · have H2 := Lib.hid h2
              clear h2
              (refine wpIn_region_quiet_lit hro (by kernel_rfl) (by kernel_rfl) ?_; (repeat (gi_big_quiet_step (fail))); refine wpQuietIn_nil ?_; intro _ hw'; obtain ⟨nq, hw''⟩ := hw'; subst hw'')
              gi_wp2
              gi_meet
              refine ⟨congrArg Value.bool ?_, _, rfl⟩
              have h3 := H3.out
              have h2 := H2.out
              have hq := HQ.out
              rw [← HE2.out] at h2
              simp [hq, h3, h2]
            · have H2 := Lib.hid h2
              clear h2
              (refine wpIn_region_quiet_lit hro (by kernel_rfl) (by kernel_rfl) ?_; (repeat (gi_big_quiet_step (fail))); refine wpQuietIn_nil ?_; intro _ hw'; obtain ⟨nq, hw''⟩ := hw'; subst hw'')
              gi_wp2
              gi_meet
              refine ⟨congrArg Value.bool ?_, _, rfl⟩
              have h3 := H3.out
              have h2 := H2.out
              have hq := HQ.out
              rw [← HE2.out] at h2
              simp [hq, h3, h2]
          · have hqi : ¬ (k : Int) + 1 < (n : Int) := by omega
            have hqd : decide ((k : Int) + 1 < (n : Int)) = false := decide_eq_false hqi
            have HQ := Lib.hid hq
            (refine wpIn_region_quiet_lit hro (by kernel_rfl) (by kernel_rfl) ?_; (repeat (gi_big_quiet_step (fail))); refine wpQuietIn_nil ?_; intro _ hw'; obtain ⟨nq, hw''⟩ := hw'; subst hw'')
            gi_wp2
            gi_meet
            refine ⟨congrArg Value.bool ?_, _, rfl⟩
            have h3 := H3.out
            have hq := HQ.out
            simp [hq, h3]
        · have H3 := Lib.hid h3
          clear h3
          by_cases hq : k + 1 < n
          · have hqi : (k : Int) + 1 < (n : Int) := by omega
            have hqd : decide ((k : Int) + 1 < (n : Int)) = true := decide_eq_true hqi
            obtain ⟨e2, he2⟩ : ∃ e, evs[k + 1]? = some e := ⟨_, List.getElem?_eq_getElem (by omega)⟩
            have d0 : w2.cell? ⟨b, off + (k + 1) * 7, none⟩ = some (.int .i64 e2.at_) := cl (HBW2.out) (Sl.at_ HC.out he2 0 rfl)
            have HE2 := Lib.hid (HT.out e2 he2)
            have HQ := Lib.hid hq
            clear he2
            rcases be_or e2.at_ e.at_ with ⟨h2, b2, d2⟩ | ⟨h2, b2, d2⟩
            · have H2 := Lib.hid h2
              clear h2
              (refine wpIn_region_quiet_lit hro (by kernel_rfl) (by kernel_rfl) ?_; (repeat (gi_big_quiet_step (fail))); refine wpQuietIn_nil ?_; intro _ hw'; obtain ⟨nq, hw''⟩ := hw'; subst hw'')
              gi_wp2
              gi_meet
              refine ⟨congrArg Value.bool ?_, _, rfl⟩
              have h3 := H3.out
              have h2 := H2.out
              have hq := HQ.out
              rw [← HE2.out] at h2
              simp [hq, h3, h2]
            · have H2 := Lib.hid h2
              clear h2
              (refine wpIn_region_quiet_lit hro (by kernel_rfl) (by kernel_rfl) ?_; (repeat (gi_big_quiet_step (fail))); refine wpQuietIn_nil ?_; intro _ hw'; obtain ⟨nq, hw''⟩ := hw'; subst hw'')
              gi_wp2
              gi_meet
              refine ⟨congrArg Value.bool ?_, _, rfl⟩
              have h3 := H3.out
              have h2 := H2.out
              have hq := HQ.out
              rw [← HE2.out] at h2
              simp [hq, h3, h2]
          · have hqi : ¬ (k : Int) + 1 < (n : Int) := by omega
            have hqd : decide ((k : Int) + 1 < (n : Int)) = false := decide_eq_false hqi
            have HQ := Lib.hid hq
            (refine wpIn_region_quiet_lit hro (by kernel_rfl) (by kernel_rfl) ?_; (repeat (gi_big_quiet_step (fail))); refine wpQuietIn_nil ?_; intro _ hw'; obtain ⟨nq, hw''⟩ := hw'; subst hw'')
            gi_wp2
            gi_meet
            refine ⟨congrArg Value.bool ?_, _, rfl⟩
            have h3 := H3.out
            have hq := HQ.out
            simp [hq, h3]
      case rest =>
      obtain ⟨rfl, nq, rfl⟩ := hcut
      obtain ⟨U, hU⟩ : ∃ U, U = w2.drewN nq := ⟨_, rfl⟩
      rw [← hU]
      have hbU : Below w2.heap.size w2 U := by rw [hU]; exact below_drewN (Below.refl _ _) _
      have hszU := hbU.size
      replace HJS := Lib.hid (hJa _ w2 U none HJS.out ⟨hbU.os, hbU.tape, hbU.output, hbU.size, fun k hk _ => hbU.block k hk⟩ (fun r e => by cases e))
      have hnU := hn2.trans (KpS.below hbU (by omega))
      replace qa0 := cl hbU qa0
      have HBK := Lib.hid (((hbU.block _ (by omega)).trans (HBV.out)))
      have HNU := Lib.hid hnU
      clear hU hbU hcs2 hn2 hnU hkw hk0 hkt HC HBW2
      obtain ⟨sk, hsk⟩ : ∃ q, (decide (k + 1 < n ∧ toN evs (k + 1) = e.at_) || decide (nxt now x e = owner)) = q := ⟨_, rfl⟩
      rw [hsk]
      cases sk
      case true =>
        have HST := Lib.hid (HSTEP.out.trans (if_pos (by rw [hlen]; rw [Bool.or_eq_true, decide_eq_true_eq, decide_eq_true_eq] at hsk; exact hsk)))
        clear hsk HSTEP
        gi_wp2
        go_roundw
        case rel => exact ⟨k + 1, by omega, by go_num, by rw [HST.out], by rw [HST.out], by rw [HST.out], by rw [HST.out]; exact HJS.out, HNU.out⟩
        case measure => simp [intOf]; omega
      case false =>
        have HST := Lib.hid (HSTEP.out.trans (if_neg (by rw [hlen]; rw [Bool.or_eq_false_iff, decide_eq_false_iff_not, decide_eq_false_iff_not] at hsk; rintro (h | h); exact hsk.1 h; exact hsk.2 h)))
        clear hsk HSTEP
        rcases be_or owner 0 with ⟨h0o, b0, d0⟩ | ⟨h0o, b0, d0⟩
        · replace HST := Lib.hid (HST.out.trans (show (⟨out ++ pend ⟨out, since, owner, now⟩ e.at_, e.at_, nxt now x e, nxt now x e⟩ : Sp) = ⟨out, e.at_, nxt now x e, nxt now x e⟩ by rw [show pend ⟨out, since, owner, now⟩ e.at_ = [] from if_pos h0o, List.append_nil]))
          gi_wp2
          refine ⟨fun _ h => (by cases h), ?_⟩
          gi_wp2
          go_roundw
          case rel => exact ⟨k + 1, by omega, by go_num, by rw [HST.out], by rw [HST.out], by rw [HST.out], by rw [HST.out]; exact HJS.out, HNU.out⟩
          case measure => simp [intOf]; omega
        · replace HST := Lib.hid (HST.out.trans (show (⟨out ++ pend ⟨out, since, owner, now⟩ e.at_, e.at_, nxt now x e, nxt now x e⟩ : Sp) = ⟨out ++ [⟨owner, since, e.at_⟩], e.at_, nxt now x e, nxt now x e⟩ by rw [show pend ⟨out, since, owner, now⟩ e.at_ = [⟨owner, since, e.at_⟩] from if_neg h0o]))
          obtain ⟨fn, tmps, assign, body, hy, hR⟩ := hY _ ⟨owner, since, e.at_⟩ _ HJS.out (by omega)
          have HR := Lib.hid hR
          unfold odA at hy
          dsimp only at hy
          clear hR h0o
          gi_wp2
          refine HR.out.mono ?_
          rintro e' W3 (⟨rfl, hJ3, hk3⟩ | ⟨rfl, hJx3⟩)
          · replace qa0 := hk3.2.cell HBK.out qa0
            have HJ3 := Lib.hid hJ3
            have HN3 := Lib.hid (HNU.out.trans hk3.1)
            clear hJ3 hk3
            gi_wp2
            go_roundw
            case rel => exact ⟨k + 1, by omega, by go_num, by rw [HST.out], by rw [HST.out], by rw [HST.out], by rw [HST.out]; exact HJ3.out, HN3.out⟩
            case measure => simp [intOf]; omega
          · have HPX : Hid (out ++ [⟨owner, since, e.at_⟩] <+: spE evs x) := Lib.hid (by have := HPRE.out; rw [HST.out] at this; exact this)
            gi_wp2
            refine bodyPost_ret (results_none rfl _ _ _) rfl ?_
            exact ⟨⟨_, rfl⟩, .inr ⟨_, HPX.out, hJx3⟩⟩
    · obtain rfl : k = n := by omega
      obtain ⟨s, hs⟩ : ∃ s, spP evs x k = s := ⟨_, rfl⟩
      have hlenk := out_len (l := evs) (x := x) k
      have HSE : Hid (spE evs x = s.out ++ pend s 12622780800) := Lib.hid (by unfold spE; rw [hlen, hs])
      rw [hs] at HJS hlenk ⊢
      obtain ⟨out, since, owner, now⟩ := s
      dsimp only at HJS hlenk HSE ⊢
      have hkk : ¬ (k : Int) < (k : Int) := by omega
      rcases be_or owner 0 with ⟨h0o, b0, d0⟩ | ⟨h0o, b0, d0⟩
      · replace HSE := Lib.hid (HSE.out.trans (by rw [show pend ⟨out, since, owner, now⟩ 12622780800 = [] from if_pos h0o, List.append_nil]))
        clear h0o
        gi_wp2
        go_end0
        exact ⟨⟨_, rfl⟩, .inl (by first | exact ⟨_, HSE.out.symm, HJS.out⟩ | (rw [HSE.out]; exact HJS.out))⟩
      · replace HSE := Lib.hid (HSE.out.trans (by rw [show pend ⟨out, since, owner, now⟩ 12622780800 = [⟨owner, since, 12622780800⟩] from if_neg h0o]))
        obtain ⟨fn, tmps, assign, body, hy, hR⟩ := hY _ ⟨owner, since, 12622780800⟩ _ HJS.out (by omega)
        have HR := Lib.hid hR
        unfold odA at hy
        dsimp only at hy
        clear hR h0o
        gi_wp2
        refine HR.out.mono ?_
        rintro e' W3 (⟨rfl, hJ3, hk3⟩ | ⟨rfl, hJx3⟩)
        · have HJ3 := Lib.hid hJ3
          clear hJ3 hk3
          gi_wp2
          go_end0
          exact ⟨⟨_, rfl⟩, .inl (by first | exact ⟨_, HSE.out.symm, HJ3.out⟩ | (rw [HSE.out]; exact HJ3.out))⟩
        · gi_wp2
          go_end0
          exact ⟨⟨_, rfl⟩, .inr ⟨_, by rw [HSE.out]; exact List.prefix_refl _, hJx3⟩⟩
end Nb
open Go.Shelf
attribute [local go_sem] Oper.semAt_some
namespace Nb
open Cu Go.Maps
theorem wplIn_append1 {α : Type} [Flat α] {F : Fence} {nn : Nat} {P : Program} (w : World) {ops : Array Oper} {rest : List Oper} {o : Oper} {a : Act} {Q : Exit → Act → World → Prop} (hgd : o.guard = none) (s x : Operand) (t : TypeId)
    (ho : o.op = .call { callee := .builtin .append, args := #[s, x], argTypes := #[t, t] })
    (base : Nat) (e : TypeId) (z : Value) (bytes : Nat) (ht : P.underlying t = some (.slice e)) (hi : (P.info? e).map (fun i => (i.zero, i.size, i.bytes)) = some (some z, Flat.sz α, bytes)) (hzs : z.cells.size = Flat.sz α)
    (v : Value) (xs : List α) (hs : a.eval s = v) (hown : Ow w base e v xs)
    (g : Nat) (y : α) (hx : a.eval x = .slice (some ⟨g, 0, none⟩) 1 1) (hnew : ∀ j u, (Flat.cells y)[j]? = some u → w.cell? ((⟨g, 0, none⟩ : Addr).add j) = some u)
    (hlen : xs.length ≤ 1000000) (hby : bytes ≤ 4096) (hbase : base ≤ w.heap.size)
    (h : ∀ v' w', Ow w' base e v' (xs ++ [y]) → w.grownBy w' v.ownBlock → wpListIn F nn P ops Q rest (a.put o.dst v') w') : wpListIn F nn P ops Q (o :: rest) a w := by
  obtain ⟨i, hi0, hz0, hz1, hz2⟩ := info_parts hi
  have hbytes : (xs.length + 1) * bytes ≤ 140737488355328 := by
    have : (xs.length + 1) * bytes ≤ 1000001 * 4096 := Nat.mul_le_mul (by omega) hby
    omega
  refine wpListIn_append_own w hgd s x t ho base e i z (Flat.sz α) bytes ht hi0 hz0 hz1 hz2 hzs Flat.pos v xs.length _ hs hown ⟨g, 0, none⟩ 1 1 (Flat.cells y) hx (by rw [Flat.len]; omega) hnew (Flat.one y)
    (by unfold maxLen; omega) hbytes hbase fun v' w' h1 h2 _ => h v' w' ?_ h2
  unfold Ow
  rw [List.length_append, List.flatMap_append]
  simpa using h1
theorem spells_in (F : Fence) (nn : Nat) (h81 : F.fn 81) (hro : F.round = none) (A : Option Addr) (n c : Nat) (x : ByteArray) (w : World) :
    CallsIn F nn Try.prog 81 #[.slice A n c, .string x] w fun e w' => e = .returned (.func (.func 108) #[] #[.pointer (some ⟨w.heap.size, 0, none⟩), .pointer (some ⟨w.heap.size + 1, 0, none⟩)]) ∧ w' = (w.alloc (.cells #[.slice A n c] 22)).alloc (.cells #[.string x] 9) := by
  refine callsIn_of_wp Try.func81 rfl h81 ?_ hro
  simp only [Try.ntmps81, List.size_toArray, List.length_cons, List.length_nil, Nat.reduceAdd, Nat.reduceSub, Array.replicate_succ, Array.replicate_zero, List.push_toArray, List.append_toArray, List.nil_append, List.cons_append]
  gi_wp2
  go_ret
  exact ⟨rfl, rfl⟩
theorem spells_stops (F : Fence) (nn : Nat) (h108 : F.fn 108) (h109 : F.fn 109) (hro : F.round = none) (hn : 1 ≤ nn) (hcw : ∀ {n : Nat} {P : Program} {f : FuncId} {args : Array Value} {w : World} {R : Ending → World → Prop}, Calls P f args w R → CallsIn F n P f args w R)
    (Bs Bn B M Z : Nat) (evs : List Ev) (x : ByteArray) (A : Option Addr) (n c : Nat) (hlen : evs.length = n) (hnm : n ≤ 900000) (w : World)
    (hB : B ≤ w.heap.size) (hsl : ∀ wr, Below B w wr → Sl wr A n c evs) (hZ : Z ≤ w.heap.size) (hs1 : M ≤ Bs ∧ Bs < Z) (ht1 : M ≤ Bn ∧ Bn < Z) (hcs : w.cell? ⟨Bs, 0, none⟩ = some (.slice A n c)) (hcn : w.cell? ⟨Bn, 0, none⟩ = some (.string x)) :
    SeqStopsK F nn Try.prog 108 #[.pointer (some ⟨Bs, 0, none⟩), .pointer (some ⟨Bn, 0, none⟩)] odA (KpE B M Z) (fun ys => ys = spE evs x) (fun pre => pre <+: spE evs x) (n + 1) w := fun l J Jx W hW hJ _ hY h0 =>
  spells1_in F nn h108 h109 hro hn hcw l Bs Bn B M Z evs x A n c hlen hnm J Jx W hY hJ (Nat.le_trans hB hW.size) (fun wr hb => hsl wr ((hW.mono hB).trans hb)) (Nat.le_trans hZ hW.size) hs1 ht1 ((hW.cell (p := ⟨Bs, 0, none⟩) (by show Bs < _; omega)).trans hcs) ((hW.cell (p := ⟨Bn, 0, none⟩) (by show Bn < _; omega)).trans hcn) h0
theorem infoOd : (Try.prog.info? 74).map (fun i => (i.zero, i.size, i.bytes)) = some (some (.agg #[.int .i64 0, .int .i64 0, .int .i64 0]), 3, 24) := by kernel_rfl
structure SJ (w : World) (pre : List Od) (W : World) : Prop where
  row : ∃ A1 n1 c1, Ow W (w.heap.size + 3) 74 (.slice A1 n1 c1) pre ∧ W.heap[w.heap.size]? = some (.cells #[.slice A1 n1 c1] 63 (0, 0))
  hb : Below w.heap.size w W
  sz : w.heap.size + 3 ≤ W.heap.size
theorem ow_grown {α : Type} [Flat α] {w w' : World} {B : Nat} {e : TypeId} {v : Value} {xs : List α} {row : Option Nat} (h : Ow w B e v xs) (hg : w.grownBy w' row) (hr : ∀ r, row = some r → ∃ o : Obj, w.heap[r]? = some o ∧ o.isCells = false) : Ow w' B e v xs := by
  refine World.ownsRow.kept h hg ?_
  cases hv : v.ownBlock with
  | none => exact .inl rfl
  | some g =>
    refine .inr fun e => ?_
    obtain ⟨cs, hc⟩ := ow_obj h hv
    obtain ⟨o, ho, h1⟩ := hr g e.symm
    rw [hc] at ho; cases ho; cases h1
theorem blk_grown {w w' : World} {row : Option Nat} {b : Nat} {cs : Array Value} {t : TypeId} {fr : Nat × Nat} (h : w.heap[b]? = some (.cells cs t fr)) (hg : w.grownBy w' row) (hr : ∀ r, row = some r → ∃ o : Obj, w.heap[r]? = some o ∧ o.isCells = false) : w'.heap[b]? = some (.cells cs t fr) :=
  (hg.block b (Array.getElem?_eq_some_iff.1 h).1 (fun e => by obtain ⟨o, ho, h1⟩ := hr b e.symm; rw [h] at ho; cases ho; cases h1)).trans h
theorem SJ.own (w : World) (B : Nat) (hB : w.heap.size ≤ B) : OwnFrom B (SJ w) := fun s W W' row h hg hr => by
  obtain ⟨A1, n1, c1, ho, hx⟩ := h.row
  have hr' : ∀ r, row = some r → ∃ o : Obj, W.heap[r]? = some o ∧ o.isCells = false := fun r e => (hr r e).2
  exact ⟨⟨A1, n1, c1, ow_grown ho hg hr', blk_grown hx hg hr'⟩, ownFrom_below (β := Unit) (Nat.le_refl _) hB () _ _ _ h.hb hg hr, Nat.le_trans h.sz hg.size⟩
theorem SJ.below {w W W' : World} {pre : List Od} (h : SJ w pre W) (hb : Below W.heap.size W W') : SJ w pre W' := by
  obtain ⟨A1, n1, c1, ho, hx⟩ := h.row
  exact ⟨⟨A1, n1, c1, ho.below hb, (hb.block _ (Array.getElem?_eq_some_iff.1 hx).1).trans hx⟩, h.hb.trans (hb.mono (by have := h.hb.size; omega)), Nat.le_trans h.sz hb.size⟩
theorem KpE.row {W W' : World} {g B M Z : Nat} {cs : Array Value} {t : TypeId} {fr : Nat × Nat} (hx : W.heap[g]? = some (.cells cs t fr)) (hne : t ≠ 36) (hg : W.grownBy W' (some g)) (hBW : B ≤ W.heap.size) (hB : B ≤ g) (hM : g < M ∨ Z ≤ g) : KpE B M Z W W' :=
  ⟨⟨⟨hg.os, hg.tape, hg.output, hg.size, fun k hk => hg.block k (by omega) (fun e => by injection e with e; omega)⟩, hg.size, fun b o hb hl => World.cell?_of_block (a := ⟨b, o, none⟩) (hg.block b hl (fun e => by injection e with e; omega))⟩,
    fun b cs' hb => (hg.block b (Array.getElem?_eq_some_iff.1 hb).1 (fun e => by injection e with e; subst e; rw [hx] at hb; cases hb; exact hne rfl)).trans hb⟩
theorem KpE.grow {α : Type} [Flat α] {W W' : World} {v : Value} {B M Z base : Nat} {e : TypeId} {xs : List α} (ho : Ow W base e v xs) (hne : e ≠ 36) (hg : W.grownBy W' v.ownBlock) (hBW : B ≤ W.heap.size) (hB : B ≤ base) (hZ : Z ≤ base) : KpE B M Z W W' := by
  cases hv : v.ownBlock with
  | none => rw [hv] at hg; exact KpE.below ⟨hg.os, hg.tape, hg.output, hg.size, fun k hk => hg.block k hk (fun e => by cases e)⟩ hBW
  | some g =>
    rw [hv] at hg
    obtain ⟨cs, hc⟩ := ow_obj ho hv
    have := (ho.lt g hv).1
    exact KpE.row hc hne hg hBW (by omega) (.inr (by omega))
theorem ko_grow {α : Type} [Flat α] {W W' : World} {v : Value} {base : Nat} {e : TypeId} {xs : List α} (ho : Ow W base e v xs) (hg : W.grownBy W' v.ownBlock) : KeepsOthers W W' :=
  KeepsOthers.of_grownBy hg fun j o h1 h2 => by obtain ⟨cs, hc⟩ := ow_obj ho h1; rw [hc] at h2; cases h2; rfl
def BoxD (W : World) (Bx : Nat) (d : Od) : Prop := ∀ j u, [Value.int .i64 d.sub, .int .i64 d.from_, .int .i64 d.to_][j]? = some u → W.cell? ⟨Bx, j, none⟩ = some u
set_option maxHeartbeats 16000000 in
theorem Spells_any (A : Option Addr) (n c : Nat) (l : List Ev) (x : ByteArray) (w : World) (hs : Sl w A n c l) (hn : n ≤ 1000) :
    Calls Try.prog 44 #[.slice A n c, .string x] w fun r w' => (∃ A1 n1 c1, r = .returned (.slice A1 n1 c1) ∧ (A1 = none → c1 = 0) ∧ Sl w' A1 n1 c1 (spE l x)) ∧ Below w.heap.size w w' := by
  have HS := Lib.hid hs
  have hlen : l.length = n := hs.len
  clear hs
  refine (callsIn_wide (n := 9)).1 ?_
  obtain ⟨F, hF⟩ : ∃ F, F = Fence.wide := ⟨_, rfl⟩
  have hfn : ∀ f, F.fn f := fun f => by rw [hF]; trivial
  have hro : F.round = none := by rw [hF]; rfl
  have HF := Lib.hid hF
  rw [← hF]
  clear hF
  have hcw : ∀ {n : Nat} {P : Program} {f : FuncId} {args : Array Value} {w : World} {R : Ending → World → Prop}, Calls P f args w R → CallsIn F n P f args w R := fun h => by rw [HF.out]; exact callsIn_wide.2 h
  refine callsIn_of_wp_marks Try.func44 rfl (hfn _) ?_ hro
  simp only [Try.ntmps44, List.size_toArray, List.length_cons, List.length_nil, Nat.reduceAdd, Nat.reduceSub, Array.replicate_succ, Array.replicate_zero, List.push_toArray, List.append_toArray, List.nil_append, List.cons_append]
  have hf81 := hfn 81
  gi_wp2_with (gi_at_call 81; refine (spells_in F 8 (hfn _) hro _ _ _ _ _).mono ?_; rintro e w' ⟨rfl, rfl⟩)
  have hx0 : (w.alloc (.cells #[.slice none 0 0] 63)).heap[w.heap.size]? = some (.cells #[.slice none 0 0] 63 (0, 0)) := World.alloc_heap_new _ _
  have b1 := (Boxed.new (w.alloc (.cells #[.slice none 0 0] 63)) 22 (.slice A n c)).alloc (.cells #[.string x] 9)
  have b2 := Boxed.new ((w.alloc (.cells #[.slice none 0 0] 63)).alloc (.cells #[.slice A n c] 22)) 9 (.string x)
  simp only [World.size_alloc] at b1 b2
  have hb10 : Below (w.heap.size + 1) (w.alloc (.cells #[.slice none 0 0] 63)) (((w.alloc (.cells #[.slice none 0 0] 63)).alloc (.cells #[.slice A n c] 22)).alloc (.cells #[.string x] 9)) := ((Below.refl _ _).alloc (by simp) _).alloc (by simp <;> omega) _
  have hb00 : Below w.heap.size w (((w.alloc (.cells #[.slice none 0 0] 63)).alloc (.cells #[.slice A n c] 22)).alloc (.cells #[.string x] 9)) := (((Below.refl _ w).alloc (Nat.le_refl _) _).alloc (by simp) _).alloc (by simp <;> omega) _
  have hsz0 : (((w.alloc (.cells #[.slice none 0 0] 63)).alloc (.cells #[.slice A n c] 22)).alloc (.cells #[.string x] 9)).heap.size = w.heap.size + 3 := by simp
  obtain ⟨W0, hW0⟩ : ∃ W0, (((w.alloc (.cells #[.slice none 0 0] 63)).alloc (.cells #[.slice A n c] 22)).alloc (.cells #[.string x] 9)) = W0 := ⟨_, rfl⟩
  rw [hW0] at b1 b2 hb10 hb00 hsz0 ⊢
  replace hx0 := (hb10.block w.heap.size (by omega)).trans hx0
  clear hW0 hb10
  have hSJ0 : SJ w [] W0 := ⟨⟨none, 0, 0, Ow.nil_ _ _ _, hx0⟩, hb00, by omega⟩
  have hsl : ∀ wr, Below w.heap.size W0 wr → Sl wr A n c l := fun wr h => HS.out.below (hb00.trans h)
  refine wpIn_rangeFunc_ownH hro (by decide) (gf := 108) (lb := #[.pointer (some ⟨w.heap.size + 1, 0, none⟩), .pointer (some ⟨w.heap.size + 1 + 1, 0, none⟩)]) rfl (hfn _) (enters_of Try.func108 (by kernel_rfl) rfl)
    (spells_stops F (9 - 1) (hfn _) (hfn _) hro (by decide) hcw (w.heap.size + 1) (w.heap.size + 1 + 1) w.heap.size (w.heap.size + 1) (w.heap.size + 3) l x A n c hlen (by omega) W0 (by omega) hsl (by omega) ⟨by omega, by omega⟩ ⟨by omega, by omega⟩ b1.cell b2.cell)
    (fun h k => KpE.trans h k) (KpE.put (by omega) (by omega)) (Below.refl _ _) (fun _ => rfl)
    (SJ w) (fun _ _ _ => False) (SJ.own w _ (by omega)) (fun _ _ _ _ _ hs _ _ => hs) hSJ0
    (fun d a' W => ∃ Bx, W0.heap.size ≤ Bx ∧ Bx < W.heap.size ∧ BoxD W Bx d ∧ a' = { tmps := #[.slice A n c, .string x, undef, undef, .slice none 0 0, .pointer (some ⟨w.heap.size, 0, none⟩), .pointer (some ⟨Bx, 0, none⟩), .slice A n c, .string x, .func (.func 108) #[] #[.pointer (some ⟨w.heap.size + 1, 0, none⟩), .pointer (some ⟨w.heap.size + 1 + 1, 0, none⟩)], .agg #[.int .i64 d.sub, .int .i64 d.from_, .int .i64 d.to_], undef, undef, undef, undef, undef], defers := [] })
    (fun d a' _ X Y row h hg hr => by obtain ⟨Bx, h1, h2, h3, h4⟩ := h; exact ⟨Bx, h1, Nat.lt_of_lt_of_le h2 hg.size, fun j u hu => cell_kept (h3 j u hu) hg (fun r e => (hr r e).2), h4⟩)
    ?assign ?body ?done ?stop
  case assign =>
    rintro lx pre d W K hI hK
    have hsW := hI.sz
    unfold odA
    gi_wp2
    have hbn : Below W.heap.size W (W.alloc (.cells #[.int .i64 d.sub, .int .i64 d.from_, .int .i64 d.to_] 74)) := (Below.refl _ W).alloc (Nat.le_refl _) _
    obtain ⟨V, hV, _, hzV, fV, _⟩ := box1 W #[.int .i64 d.sub, .int .i64 d.from_, .int .i64 d.to_] 74
    exact hK _ _ ((KeepsOthers.alloc _ _).from _) (KpE.below hbn (by omega)) (hI.below hbn) ⟨W.heap.size, by omega, by rw [World.size_alloc]; omega, fun j u hu => by rw [← hV]; exact fV j u hu, rfl⟩
  case body =>
    rintro lx pre d a' W hl ⟨r, hr⟩ hI ⟨Bx, hBx, hBl, hbx, rfl⟩ hlt
    have e0 := hbx 0 _ rfl
    have e1 := hbx 1 _ rfl
    have e2 := hbx 2 _ rfl
    obtain ⟨A1, n1, c1, ho, hx⟩ := hI.row
    have HI := Lib.hid hI
    have HO := Lib.hid ho
    have HX := Lib.hid hx
    have hn1 : pre.length = n1 := (rowLS ho).2.len
    have HN1 := Lib.hid hn1
    have hbox : W.cell? ⟨w.heap.size, 0, none⟩ = some (.slice A1 n1 c1) := by simp [World.cell?, hx]
    have hsW := hI.sz
    have hpl : pre.length ≤ 1000 := by omega
    clear hbx hI ho hx
    have hbxl : w.heap.size < W.heap.size := by omega
    have HOW := Lib.hid (HO.out.alloc (.cells #[.int .i64 d.sub, .int .i64 d.from_, .int .i64 d.to_] 74))
    gi_wp2_with (gi_at_builtin; refine wplIn_append1 _ rfl (.tmp 11) (.tmp 13) 63 rfl (w.heap.size + 3) 74 _ 24 Try.underlying63 infoOd rfl (.slice A1 n1 c1) pre rfl HOW.out _ d rfl (fun j u hu => cells_new _ _ _ _ _ (by simp) u hu) (by omega) (by omega) (by rw [World.size_alloc]; omega) ?_; intro v6 w6 ho6 hg6; obtain ⟨A7, c7, rfl, _, _⟩ := ho6.val; have HO6 := Lib.hid ho6; have HG6 := Lib.hid hg6; have hx6 := Lib.hid ((hg6.block w.heap.size (by rw [World.size_alloc]; omega) (fun e => by have := (HOW.out.lt _ e.symm).1; omega)).trans ((((Below.refl W.heap.size W).alloc (Nat.le_refl _) _).block w.heap.size hbxl).trans HX.out)); have hc6 : w6.cell? ⟨w.heap.size, 0, none⟩ = some (.slice A1 n1 c1) := (by simp [World.cell?, hx6.out]); have hf6 : ∀ j, w6.frozen? ⟨w.heap.size, j, none⟩ = false := (fun j => by simp [World.frozen?, hx6.out]); clear ho6 hg6)
    have hs6 := HG6.out.size
    rw [World.size_alloc] at hs6
    have hgs := Lib.grownBy_setCell w6 w.heap.size 0 (.slice A7 (n1 + 1) c7)
    have hkA : KpE w.heap.size (w.heap.size + 1) (w.heap.size + 3) W (W.alloc (.cells #[.int .i64 d.sub, .int .i64 d.from_, .int .i64 d.to_] 74)) := KpE.below ((Below.refl _ _).alloc (Nat.le_refl _) _) (by omega)
    have hkB : KpE w.heap.size (w.heap.size + 1) (w.heap.size + 3) (W.alloc (.cells #[.int .i64 d.sub, .int .i64 d.from_, .int .i64 d.to_] 74)) w6 := KpE.grow HOW.out (by decide) HG6.out (by rw [World.size_alloc]; omega) (by omega) (by omega)
    have hkC := KpE.row (B := w.heap.size) (M := w.heap.size + 1) (Z := w.heap.size + 3) hx6.out (by decide) hgs (by omega) (by omega) (.inl (by omega))
    have hko : KeepsOthers W (w6.setCell ⟨w.heap.size, 0, none⟩ (.slice A7 (n1 + 1) c7)) := (KeepsOthers.alloc _ _).trans ((ko_grow HOW.out HG6.out).trans (KeepsOthers.setCell _ _ _))
    have ho7 : Ow w6 (w.heap.size + 3) 74 (.slice A7 (n1 + 1) c7) (pre ++ [d]) := by have h := HO6.out; rw [List.length_append, List.length_singleton, HN1.out] at h; exact h
    have hkk := hkA.trans (hkB.trans hkC)
    refine ⟨hko.from _, hkk, ⟨A7, n1 + 1, c7, ho7.setFar (fun e => by have := (ho7.lt _ e).1; dsimp only at this; omega) _, blk_setCell hx6.out 0 _⟩, HI.out.hb.trans hkk.1.1, by have := hkk.1.1.size; omega⟩
  case done =>
    rintro D zs W hD rfl hI hK
    obtain ⟨A1, n1, c1, ho, hx⟩ := hI.row
    have HI := Lib.hid hI
    have HO := Lib.hid ho
    have hbox : W.cell? ⟨w.heap.size, 0, none⟩ = some (.slice A1 n1 c1) := by simp [World.cell?, hx]
    have HK := Lib.hid hK
    clear hI ho hx hK
    gi_wp2
    refine ⟨by simp, .inl ⟨_, _, rfl, run_takeDeferred HK.out, ?_⟩⟩
    have hg := grownBy_putObj' W D (.deferred none)
    have ho2 := ow_grown HO.out hg (fun r e => by injection e with e; subst e; exact ⟨_, HK.out, rfl⟩)
    refine ⟨_, results_tmp rfl _ _ _, ?_⟩
    exact ⟨⟨A1, n1, c1, rfl, (rowLS ho2).1, (rowLS ho2).2⟩, HI.out.hb.trans (belowK_b (w := w) (Nat.le_refl _) W D _ _ (by omega) HK.out rfl rfl)⟩
  case stop =>
    rintro D c pre W _ _ h _
    exact h.elim
end Nb
open Go.Shelf
attribute [local go_sem] Oper.semAt_some
namespace Nb
open Cu Go.Maps
def ovB (f t : Int) (d : Od) : Bool := decide (d.from_ < t) && decide (f < d.to_)
def frB (f t : Int) (out : List Od) : Bool := if f < 0 ∨ t ≤ f ∨ 12622780800 < t then false else !(out.any (ovB f t))
theorem any_prefix {α : Type} {p : α → Bool} {a b : List α} (h : a <+: b) (ha : a.any p = true) : b.any p = true := by
  obtain ⟨c, rfl⟩ := h
  rw [List.any_append, ha, Bool.true_or]
theorem results_cell1 {P : Program} {fn : Func} {p : Tmp} {ty : TypeId} (h : fn.results = #[.cell p ty]) (tmps : Array Value) (w : World) (g : Nat) (v : Value) (d : TypeDesc)
    (hp : tmps.getD p undef = .pointer (some ⟨g, 0, none⟩)) (hc : w.cell? ⟨g, 0, none⟩ = some v)
    (hu : P.underlying ty = some d) (hd : (match d with | .struct _ | .array _ _ => true | _ => false) = false) :
    (results fn tmps).run P w = .ok v w := by
  have hp' : tmps[p]?.getD undef = .pointer (some ⟨g, 0, none⟩) := by simpa using hp
  have hagg : (isAgg ty).run P w = .ok false w := by
    unfold isAgg
    rw [Sem.run_bind, run_underlying hu w]
    cases d <;> simp_all
  have hrow : (loadVar ty ⟨g, 0, none⟩).run P w = .ok v w := by
    simp [loadVar, Sem.run_bind, hagg, Go.run_load, hc]
  simp [results, h, hp', asAddr, hrow]
structure FJ (w : World) (f t : Int) (pre : List Od) (W : World) : Prop where
  pb : W.heap[w.heap.size]? = some (.cells #[.int .i64 f, .int .i64 t] 68 (0, 0))
  rb : W.heap[w.heap.size + 1]? = some (.cells #[.bool false] 4 (0, 0))
  no : pre.any (ovB f t) = false
  hb : Below w.heap.size w W
  sz : w.heap.size + 4 ≤ W.heap.size
theorem FJ.own (w : World) (f t : Int) (B : Nat) (hB : w.heap.size ≤ B) : OwnFrom B (FJ w f t) := fun s W W' row h hg hr => by
  have hr' : ∀ r, row = some r → ∃ o : Obj, W.heap[r]? = some o ∧ o.isCells = false := fun r e => (hr r e).2
  exact ⟨blk_grown h.pb hg hr', blk_grown h.rb hg hr', h.no, ownFrom_below (β := Unit) (Nat.le_refl _) hB () _ _ _ h.hb hg hr, Nat.le_trans h.sz hg.size⟩
theorem FJ.below {w W W' : World} {f t : Int} {pre : List Od} (h : FJ w f t pre W) (hb : Below W.heap.size W W') : FJ w f t pre W' :=
  ⟨(hb.block _ (Array.getElem?_eq_some_iff.1 h.pb).1).trans h.pb, (hb.block _ (Array.getElem?_eq_some_iff.1 h.rb).1).trans h.rb, h.no, h.hb.trans (hb.mono (by have := h.hb.size; omega)), Nat.le_trans h.sz hb.size⟩
structure FX (w : World) (f t : Int) (c : Code) (pre : List Od) (W : World) : Prop where
  cr : c = .ret
  rb : W.heap[w.heap.size + 1]? = some (.cells #[.bool false] 4 (0, 0))
  yes : pre.any (ovB f t) = true
  hb : Below w.heap.size w W
  sz : w.heap.size + 4 ≤ W.heap.size
theorem FX.own (w : World) (f t : Int) (c : Code) (B : Nat) (hB : w.heap.size ≤ B) : OwnFrom B (FX w f t c) := fun s W W' row h hg hr => by
  have hr' : ∀ r, row = some r → ∃ o : Obj, W.heap[r]? = some o ∧ o.isCells = false := fun r e => (hr r e).2
  exact ⟨h.cr, blk_grown h.rb hg hr', h.yes, ownFrom_below (β := Unit) (Nat.le_refl _) hB () _ _ _ h.hb hg hr, Nat.le_trans h.sz hg.size⟩
set_option maxHeartbeats 16000000 in
theorem Free_any (A : Option Addr) (n c : Nat) (l : List Ev) (x : ByteArray) (f t : Int) (w : World) (hs : Sl w A n c l) (hn : n ≤ 1000) :
    Calls Try.prog 46 #[.slice A n c, .string x, .agg #[.int .i64 f, .int .i64 t]] w fun r w' => r = .returned (.bool (frB f t (spE l x))) ∧ Below w.heap.size w w' := by
  have HS := Lib.hid hs
  have hlen : l.length = n := hs.len
  have HFR : Hid (frB f t (spE l x) = if f < 0 ∨ t ≤ f ∨ 12622780800 < t then false else !((spE l x).any (ovB f t))) := Lib.hid rfl
  clear hs
  refine (callsIn_wide (n := 9)).1 ?_
  obtain ⟨F, hF⟩ : ∃ F, F = Fence.wide := ⟨_, rfl⟩
  have hfn : ∀ f, F.fn f := fun f => by rw [hF]; trivial
  have hro : F.round = none := by rw [hF]; rfl
  have HF := Lib.hid hF
  rw [← hF]
  clear hF
  have hcw : ∀ {n : Nat} {P : Program} {f : FuncId} {args : Array Value} {w : World} {R : Ending → World → Prop}, Calls P f args w R → CallsIn F n P f args w R := fun h => by rw [HF.out]; exact callsIn_wide.2 h
  refine callsIn_of_wp_marks Try.func46 rfl (hfn _) ?_ hro
  simp only [Try.ntmps46, List.size_toArray, List.length_cons, List.length_nil, Nat.reduceAdd, Nat.reduceSub, Array.replicate_succ, Array.replicate_zero, List.push_toArray, List.append_toArray, List.nil_append, List.cons_append]
  have hf81 := hfn 81
  have hpb : (w.alloc (.cells #[.int .i64 f, .int .i64 t] 68)).heap[w.heap.size]? = some (.cells #[.int .i64 f, .int .i64 t] 68 (0, 0)) := World.alloc_heap_new _ _
  have hrb : ((w.alloc (.cells #[.int .i64 f, .int .i64 t] 68)).alloc (.cells #[.bool false] 4)).heap[w.heap.size + 1]? = some (.cells #[.bool false] 4 (0, 0)) := by
    have h := World.alloc_heap_new (w.alloc (.cells #[.int .i64 f, .int .i64 t] 68)) (.cells #[.bool false] 4)
    rwa [World.size_alloc] at h
  replace hpb := (((Below.refl (w.heap.size + 1) (w.alloc (.cells #[.int .i64 f, .int .i64 t] 68))).alloc (by simp) (.cells #[.bool false] 4)).block w.heap.size (by omega)).trans hpb
  gi_upto_region 1 with (fail)
  obtain ⟨U, hU⟩ : ∃ U, ((w.alloc (.cells #[.int .i64 f, .int .i64 t] 68)).alloc (.cells #[.bool false] 4)) = U := ⟨_, rfl⟩
  have hbU : Below w.heap.size w U := by rw [← hU]; exact ((Below.refl _ w).alloc (Nat.le_refl _) _).alloc (by simp) _
  have hzU : U.heap.size = w.heap.size + 1 + 1 := by rw [← hU]; simp
  rw [hU] at hpb hrb ⊢
  clear hU
  have p0 : U.cell? ⟨w.heap.size, 0, none⟩ = some (.int .i64 f) := by simp [World.cell?, hpb]
  have p1 : U.cell? ⟨w.heap.size, 1, none⟩ = some (.int .i64 t) := by simp [World.cell?, hpb]
  have r0 : U.cell? ⟨w.heap.size + 1, 0, none⟩ = some (.bool false) := by simp [World.cell?, hrb]
  have rf : ∀ j, U.frozen? ⟨w.heap.size + 1, j, none⟩ = false := fun j => by simp [World.frozen?, hrb]
  have HPB := Lib.hid hpb
  have HRB := Lib.hid hrb
  clear hpb hrb
  by_cases h1 : f < 0
  · have HV := Lib.hid (HFR.out.trans (if_pos (.inl h1)))
    gi_wp2
    have hgs := Lib.grownBy_setCell U (w.heap.size + 1) 0 (.bool false)
    refine ⟨_, results_cell1 rfl _ _ (w.heap.size + 1) (.bool false) _ rfl (World.cell?_setCell_same _ _ _ r0) Try.underlying4 rfl, ?_⟩
    exact ⟨ret_bool HV.out.symm, hbU.setCell (show w.heap.size ≤ w.heap.size + 1 by omega) _⟩
  by_cases h2 : t ≤ f
  · have HV := Lib.hid (HFR.out.trans (if_pos (.inr (.inl h2))))
    gi_wp2
    have hgs := Lib.grownBy_setCell U (w.heap.size + 1) 0 (.bool false)
    refine ⟨_, results_cell1 rfl _ _ (w.heap.size + 1) (.bool false) _ rfl (World.cell?_setCell_same _ _ _ r0) Try.underlying4 rfl, ?_⟩
    exact ⟨ret_bool HV.out.symm, hbU.setCell (show w.heap.size ≤ w.heap.size + 1 by omega) _⟩
  by_cases h3 : 12622780800 < t
  · have HV := Lib.hid (HFR.out.trans (if_pos (.inr (.inr h3))))
    gi_wp2
    have hgs := Lib.grownBy_setCell U (w.heap.size + 1) 0 (.bool false)
    refine ⟨_, results_cell1 rfl _ _ (w.heap.size + 1) (.bool false) _ rfl (World.cell?_setCell_same _ _ _ r0) Try.underlying4 rfl, ?_⟩
    exact ⟨ret_bool HV.out.symm, hbU.setCell (show w.heap.size ≤ w.heap.size + 1 by omega) _⟩
  replace HFR := Lib.hid (HFR.out.trans (if_neg (by omega)))
  gi_wp2_with (gi_at_call 81; refine (spells_in F 8 (hfn _) hro _ _ _ _ _).mono ?_; rintro e w' ⟨rfl, rfl⟩)
  have b1 := (Boxed.new U 22 (.slice A n c)).alloc (.cells #[.string x] 9)
  have b2 := Boxed.new (U.alloc (.cells #[.slice A n c] 22)) 9 (.string x)
  simp only [World.size_alloc, hzU] at b1 b2
  have hbU0 : Below U.heap.size U ((U.alloc (.cells #[.slice A n c] 22)).alloc (.cells #[.string x] 9)) := ((Below.refl _ U).alloc (Nat.le_refl _) _).alloc (by simp) _
  have hsz0 : ((U.alloc (.cells #[.slice A n c] 22)).alloc (.cells #[.string x] 9)).heap.size = w.heap.size + 4 := by simp [hzU]
  obtain ⟨W0, hW0⟩ : ∃ W0, ((U.alloc (.cells #[.slice A n c] 22)).alloc (.cells #[.string x] 9)) = W0 := ⟨_, rfl⟩
  rw [hW0] at b1 b2 hbU0 hsz0 ⊢
  have hb00 : Below w.heap.size w W0 := hbU.trans (hbU0.mono (by omega))
  have hFJ0 : FJ w f t [] W0 := ⟨(hbU0.block _ (by omega)).trans HPB.out, (hbU0.block _ (by omega)).trans HRB.out, rfl, hb00, by omega⟩
  have hsl : ∀ wr, Below w.heap.size W0 wr → Sl wr A n c l := fun wr h => HS.out.below (hb00.trans h)
  clear hW0 hbU0 p0 p1 r0 rf
  refine wpIn_rangeFunc_ownH hro (by decide) (gf := 108) (lb := #[.pointer (some ⟨w.heap.size + 1 + 1, 0, none⟩), .pointer (some ⟨w.heap.size + 1 + 1 + 1, 0, none⟩)]) rfl (hfn _) (enters_of Try.func108 (by kernel_rfl) rfl)
    (spells_stops F (9 - 1) (hfn _) (hfn _) hro (by decide) hcw (w.heap.size + 1 + 1) (w.heap.size + 1 + 1 + 1) w.heap.size (w.heap.size + 2) (w.heap.size + 4) l x A n c hlen (by omega) W0 (by omega) hsl (by omega) ⟨by omega, by omega⟩ ⟨by omega, by omega⟩ b1.cell b2.cell)
    (fun h k => KpE.trans h k) (KpE.put (by omega) (by omega)) (Below.refl _ _) (fun _ => rfl)
    (FJ w f t) (FX w f t) (FJ.own w f t _ (by omega)) (fun c => FX.own w f t c _ (by omega)) hFJ0
    (fun d a' W => ∃ Bx, W0.heap.size ≤ Bx ∧ Bx < W.heap.size ∧ BoxD W Bx d ∧ a' = { tmps := #[.slice A n c, .string x, .agg #[.int .i64 f, .int .i64 t], undef, undef, .pointer (some ⟨w.heap.size, 0, none⟩), .pointer (some ⟨w.heap.size + 1, 0, none⟩), .pointer (some ⟨Bx, 0, none⟩), .pointer (some ⟨w.heap.size, 0, none⟩), .int .i64 f, .bool false, .bool false, .pointer (some ⟨w.heap.size, 0, none⟩), .int .i64 f, .pointer (some ⟨w.heap.size, 1, none⟩), .int .i64 t, .bool false, .bool false, .bool false, .pointer (some ⟨w.heap.size, 1, none⟩), .int .i64 t, .bool false, .bool false, .slice A n c, .string x, .func (.func 108) #[] #[.pointer (some ⟨w.heap.size + 1 + 1, 0, none⟩), .pointer (some ⟨w.heap.size + 1 + 1 + 1, 0, none⟩)], .agg #[.int .i64 d.sub, .int .i64 d.from_, .int .i64 d.to_], undef, undef, undef, undef, undef, undef, undef, undef, undef, undef, undef, undef, undef, undef], defers := [] })
    (fun d a' _ X Y row h hg hr => by obtain ⟨Bx, h1, h2, h3, h4⟩ := h; exact ⟨Bx, h1, Nat.lt_of_lt_of_le h2 hg.size, fun j u hu => cell_kept (h3 j u hu) hg (fun r e => (hr r e).2), h4⟩)
    ?assign ?body ?done ?stop
  case assign =>
    rintro lx pre d W K hI hK
    have hsW := hI.sz
    unfold odA
    gi_wp2
    have hbn : Below W.heap.size W (W.alloc (.cells #[.int .i64 d.sub, .int .i64 d.from_, .int .i64 d.to_] 74)) := (Below.refl _ W).alloc (Nat.le_refl _) _
    obtain ⟨V, hV, _, hzV, fV, _⟩ := box1 W #[.int .i64 d.sub, .int .i64 d.from_, .int .i64 d.to_] 74
    exact hK _ _ ((KeepsOthers.alloc _ _).from _) (KpE.below hbn (by omega)) (hI.below hbn) ⟨W.heap.size, by omega, by rw [World.size_alloc]; omega, fun j u hu => by rw [← hV]; exact fV j u hu, rfl⟩
  case body =>
    rintro lx pre d a' W hl ⟨r, hr⟩ hI ⟨Bx, hBx, hBl, hbx, rfl⟩ hlt
    have e0 := hbx 0 _ rfl
    have e1 := hbx 1 _ rfl
    have e2 := hbx 2 _ rfl
    have p0 : W.cell? ⟨w.heap.size, 0, none⟩ = some (.int .i64 f) := by simp [World.cell?, hI.pb]
    have p1 : W.cell? ⟨w.heap.size, 1, none⟩ = some (.int .i64 t) := by simp [World.cell?, hI.pb]
    have r0 : W.cell? ⟨w.heap.size + 1, 0, none⟩ = some (.bool false) := by simp [World.cell?, hI.rb]
    have rf : ∀ j, W.frozen? ⟨w.heap.size + 1, j, none⟩ = false := fun j => by simp [World.frozen?, hI.rb]
    have hsW := hI.sz
    have hbw := hI.hb
    have HI := Lib.hid hI
    clear hbx hI
    have HNO : ovB f t d = false → Hid (FJ w f t (pre ++ [d]) W) := fun h => Lib.hid ⟨HI.out.pb, HI.out.rb, by rw [List.any_append, HI.out.no]; simp [h], HI.out.hb, HI.out.sz⟩
    by_cases g1 : d.from_ < t
    · by_cases g2 : f < d.to_
      · have HYES : Hid ((pre ++ [d]).any (ovB f t) = true) := Lib.hid (by rw [List.any_append]; simp [ovB, g1, g2])
        clear HNO
        gi_wp2
        exact ⟨(KeepsOthers.setCell _ _ _).from _, rfl, blk_setCell HI.out.rb 0 _, HYES.out, hbw.setCell (show w.heap.size ≤ w.heap.size + 1 by omega) _, by simp; omega⟩
      · have HN := HNO (by simp [ovB, g2])
        clear HNO
        gi_wp2
        exact ⟨(KeepsOthers.refl _).from _, KpE.below (Below.refl _ _) (by omega), HN.out⟩
    · have HN := HNO (by simp [ovB, g1])
      clear HNO
      gi_wp2
      exact ⟨(KeepsOthers.refl _).from _, KpE.below (Below.refl _ _) (by omega), HN.out⟩
  case done =>
    rintro D zs W hD rfl hI hK
    have r0 : W.cell? ⟨w.heap.size + 1, 0, none⟩ = some (.bool false) := by simp [World.cell?, hI.rb]
    have rf : ∀ j, W.frozen? ⟨w.heap.size + 1, j, none⟩ = false := fun j => by simp [World.frozen?, hI.rb]
    have hsW := hI.sz
    have hbw := hI.hb
    have HI := Lib.hid hI
    have HK := Lib.hid hK
    have HV := Lib.hid (HFR.out.trans (show _ = true by rw [hI.no]; rfl))
    clear hI hK
    gi_wp2
    obtain ⟨Z, hZ⟩ : ∃ Z, Z = W.setCell ⟨w.heap.size + 1, 0, none⟩ (.bool true) := ⟨_, rfl⟩
    have z0 : Z.cell? ⟨w.heap.size + 1, 0, none⟩ = some (.bool true) := by rw [hZ]; exact World.cell?_setCell_same _ _ _ r0
    have hKZ : Z.heap[D]? = some (.deferred (some [])) := by rw [hZ]; exact (KeepsOthers.setCell _ _ _).same D _ HK.out rfl
    have hbZ : Below w.heap.size w Z := by rw [hZ]; exact hbw.setCell (show w.heap.size ≤ w.heap.size + 1 by omega) _
    rw [← hZ]
    refine ⟨by simp, .inl ⟨_, _, rfl, run_takeDeferred hKZ, ?_⟩⟩
    have hg := grownBy_putObj' Z D (.deferred none)
    refine ⟨_, results_cell1 rfl _ _ (w.heap.size + 1) (.bool true) _ rfl (cell_kept z0 hg (fun r e => by injection e with e; subst e; exact ⟨_, hKZ, rfl⟩)) Try.underlying4 rfl, ?_⟩
    exact ⟨ret_bool HV.out.symm, hbZ.trans (belowK_b (w := w) (Nat.le_refl _) Z D _ _ (by omega) hKZ rfl rfl)⟩
  case stop =>
    rintro D cc pre W hD hpre hX hK
    obtain ⟨rfl, hrb, hyes, hbw, hsW⟩ := hX
    have r0 : W.cell? ⟨w.heap.size + 1, 0, none⟩ = some (.bool false) := by simp [World.cell?, hrb]
    have HV := Lib.hid (HFR.out.trans (show _ = false by rw [any_prefix hpre hyes]; rfl))
    have HK := Lib.hid hK
    clear hrb hyes hpre hK
    gi_wp2
    refine ⟨by simp, .inl ⟨_, _, rfl, run_takeDeferred HK.out, ?_⟩⟩
    have hg := grownBy_putObj' W D (.deferred none)
    refine ⟨_, results_cell1 rfl _ _ (w.heap.size + 1) (.bool false) _ rfl (cell_kept r0 hg (fun r e => by injection e with e; subst e; exact ⟨_, HK.out, rfl⟩)) Try.underlying4 rfl, ?_⟩
    exact ⟨ret_bool HV.out.symm, hbw.trans (belowK_b (w := w) (Nat.le_refl _) W D _ _ (by omega) HK.out rfl rfl)⟩
end Nb
end Go.Proofs.Yteaanngagcflhaa
