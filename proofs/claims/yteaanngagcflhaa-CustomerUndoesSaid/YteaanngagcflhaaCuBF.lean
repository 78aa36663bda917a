/-
  Customers: law Undoes. No condition.
-/
import Derived.Test.YteaanngagcflhaaCuBE
import Derived.Test.YteaanngagcflhaaCuBD
import Derived.Test.YteaanngagcflhaaCuAM
import Derived.BigQuiet
import Derived.StillTailTactics
import Derived.Lib.Overlaps
import Derived.Deep.DeepCutAuto
import Derived.Deep.RegionWith
import Derived.Laws.RangeAny
import Derived.Deep.WholeRow
import Derived.Great.BuildSlice
import Derived.Great.Walk
set_option maxRecDepth 100000
set_option linter.unusedVariables false
set_option linter.unusedSimpArgs false
namespace Go.Proofs.Yteaanngagcflhaa
open Go.RowKit

namespace Cu
def uE (r : Nat) (t sub : Int) : Ev := match r with
  | 0 => ⟨t, 5, 0, sub, ⟨#[57, 56, 55, 54, 53, 52, 51, 50, 49]⟩, ⟨#[]⟩, 0⟩
  | 1 => ⟨t, 8, 0, sub, ⟨#[]⟩, ⟨#[113, 45, 116, 101, 115, 116]⟩, 0⟩
  | 2 => ⟨t, 10, 0, sub, ⟨#[]⟩, ⟨#[]⟩, 0⟩
  | _ => ⟨t, 12, 0, sub, ⟨#[]⟩, ⟨#[]⟩, 0⟩
theorem uE_k (r : Nat) (t sub : Int) : undK (uE r t sub).kind := by
  unfold undK uE; split <;> simp
theorem uE_at (r : Nat) (t sub : Int) : (uE r t sub).at_ = t := by unfold uE; split <;> rfl
theorem uE_sz (r : Nat) (t sub : Int) : (uE r t sub).num.size ≤ 9 ∧ (uE r t sub).name.size ≤ 9 := by unfold uE; split <;> exact ⟨Nat.le_of_ble_eq_true rfl, Nat.le_of_ble_eq_true rfl⟩
theorem szE {e : Ev} (h : e.num.size ≤ 9 ∧ e.name.size ≤ 9) : e.num.size ≤ maxLen ∧ e.name.size ≤ maxLen := by
  have m : (9 : Nat) ≤ maxLen := by unfold maxLen; omega
  exact ⟨Nat.le_trans h.1 m, Nat.le_trans h.2 m⟩
theorem sz_app {l : List Ev} {e : Ev} (h : SzOk l) (he : e.num.size ≤ maxLen ∧ e.name.size ≤ maxLen) : SzOk (l ++ [e]) := fun x hx => by
  rcases List.mem_append.1 hx with hx | hx
  · exact h x hx
  · rcases List.mem_singleton.1 hx with rfl
    exact he
theorem und_facts {l : List Ev} (hv : Vl l) (h30 : l.length ≤ 30) (e : Ev) (hk : undK e.kind) (ht : e.at_ = lastN l l.length) :
    insL l e = l ++ [e] ∧ ((chkL (insL l e)).2 = 0 → Vl (l ++ [e]) ∧ insL (l ++ [e]) (undoE e) = l ++ [e] ++ [undoE e] ∧ (chkL (insL (l ++ [e]) (undoE e))).2 = 0 ∧ Vl (l ++ [e] ++ [undoE e]) ∧
      bkAt (l ++ [e]) e.at_ = applyR (bkAt l e.at_) e ∧ bkAt (l ++ [e] ++ [undoE e]) e.at_ = bkAt l e.at_ ∧ cSubs (bkAt (l ++ [e]) e.at_) ≠ cSubs (bkAt l e.at_)) := by
  have hi := ins_last hv ht
  refine ⟨hi, fun hc => ?_⟩
  rw [hi, chk_app hv] at hc
  have hva := vl_app hv (by omega) hc
  have hb0 := bk_last hv e.at_ ht
  obtain ⟨hinv, hok⟩ := at_inv hv e.at_
  rw [hb0] at hinv hok
  obtain ⟨u1, u2, u3⟩ := undo_bk hok hinv hk (by omega) hc
  have hat : (undoE e).at_ = lastN (l ++ [e]) (l ++ [e]).length := by rw [lastN_snoc]; rfl
  have hi2 := ins_last hva hat
  have hf2 : faultR (bkN (l ++ [e]) (l ++ [e]).length) (undoE e) (lastN (l ++ [e]) (l ++ [e]).length) = 0 := by rw [bkN_snoc, lastN_snoc]; exact u1
  have hvb := vl_app hva (by simp; omega) hf2
  have hb1 : bkAt (l ++ [e]) e.at_ = applyR (bkAt l e.at_) e := by rw [bk_last hva e.at_ lastN_snoc.symm, bkN_snoc, hb0]
  refine ⟨hva, hi2, by rw [hi2, chk_app hva]; exact hf2, hvb, hb1, ?_, by rw [hb1, hb0]; exact u3⟩
  rw [bk_last hvb e.at_ (by rw [lastN_snoc]; rfl), bkN_snoc, bkN_snoc, u2, hb0]
def z56 : Array Value := #[.int .i64 0, .int .i64 0, .int .i64 0, .int .i64 0, .string ⟨#[]⟩, .string ⟨#[]⟩, .int .i64 0, .int .i64 0, .int .i64 0, .int .i64 0, .int .i64 0, .string ⟨#[]⟩, .string ⟨#[]⟩, .int .i64 0, .int .i64 0, .int .i64 0, .int .i64 0, .int .i64 0, .string ⟨#[]⟩, .string ⟨#[]⟩, .int .i64 0, .int .i64 0, .int .i64 0, .int .i64 0, .int .i64 0, .string ⟨#[]⟩, .string ⟨#[]⟩, .int .i64 0, .int .i64 0, .int .i64 0, .int .i64 0, .int .i64 0, .string ⟨#[]⟩, .string ⟨#[]⟩, .int .i64 0, .int .i64 0, .int .i64 0, .int .i64 0, .int .i64 0, .string ⟨#[]⟩, .string ⟨#[]⟩, .int .i64 0, .int .i64 0, .int .i64 0, .int .i64 0, .int .i64 0, .string ⟨#[]⟩, .string ⟨#[]⟩, .int .i64 0, .int .i64 0, .int .i64 0, .int .i64 0, .int .i64 0, .string ⟨#[]⟩, .string ⟨#[]⟩, .int .i64 0]
def c56 (t sub : Int) : Array Value := #[.int .i64 t, .int .i64 5, .int .i64 0, .int .i64 sub, .string ⟨#[57, 56, 55, 54, 53, 52, 51, 50, 49]⟩, .string ⟨#[]⟩, .int .i64 0, .int .i64 t, .int .i64 6, .int .i64 0, .int .i64 sub, .string ⟨#[57, 56, 55, 54, 53, 52, 51, 50, 49]⟩, .string ⟨#[]⟩, .int .i64 0, .int .i64 t, .int .i64 8, .int .i64 0, .int .i64 sub, .string ⟨#[]⟩, .string ⟨#[113, 45, 116, 101, 115, 116]⟩, .int .i64 0, .int .i64 t, .int .i64 9, .int .i64 0, .int .i64 sub, .string ⟨#[]⟩, .string ⟨#[113, 45, 116, 101, 115, 116]⟩, .int .i64 0, .int .i64 t, .int .i64 10, .int .i64 0, .int .i64 sub, .string ⟨#[]⟩, .string ⟨#[]⟩, .int .i64 0, .int .i64 t, .int .i64 11, .int .i64 0, .int .i64 sub, .string ⟨#[]⟩, .string ⟨#[]⟩, .int .i64 0, .int .i64 t, .int .i64 12, .int .i64 0, .int .i64 sub, .string ⟨#[]⟩, .string ⟨#[]⟩, .int .i64 0, .int .i64 t, .int .i64 13, .int .i64 0, .int .i64 sub, .string ⟨#[]⟩, .string ⟨#[]⟩, .int .i64 0]
theorem info56 : (Try.prog.info? 42).map (fun i => (i.zero, i.size)) = some (some (.agg z56), 56) := by kernel_rfl
theorem alloc8 (w : World) (ρ : Operand → Value) (o : Oper) (ho : o.op = .alloc 42) : (execOp ρ o).run Try.prog w = .ok (.value (.pointer (some ⟨w.heap.size, 0, none⟩))) (w.alloc (.cells z56 42)) := by
  have hz := (zero_of_info info56).1
  unfold execOp
  rw [ho]
  simp [Instr.alloc, hz, newVar, newRow, Value.cells]
def z14 : Array Value := #[.int .i64 0, .int .i64 0, .int .i64 0, .int .i64 0, .string ⟨#[]⟩, .string ⟨#[]⟩, .int .i64 0, .int .i64 0, .int .i64 0, .int .i64 0, .int .i64 0, .string ⟨#[]⟩, .string ⟨#[]⟩, .int .i64 0]
def c14 (e f : Ev) : Array Value := #[.int .i64 e.at_, .int .i64 e.kind, .int .i64 e.acc, .int .i64 e.sub, .string e.num, .string e.name, .int .i64 e.val, .int .i64 f.at_, .int .i64 f.kind, .int .i64 f.acc, .int .i64 f.sub, .string f.num, .string f.name, .int .i64 f.val]
theorem info14 : (Try.prog.info? 41).map (fun i => (i.zero, i.size)) = some (some (.agg z14), 14) := by kernel_rfl
theorem alloc9 (w : World) (ρ : Operand → Value) (o : Oper) (ho : o.op = .alloc 41) : (execOp ρ o).run Try.prog w = .ok (.value (.pointer (some ⟨w.heap.size, 0, none⟩))) (w.alloc (.cells z14 41)) := by
  have hz := (zero_of_info info14).1
  unfold execOp
  rw [ho]
  simp [Instr.alloc, hz, newVar, newRow, Value.cells]
def Cut8 (t sub : Int) (w : World) (v : Value) (wx : World) : Prop := v = .pointer (some ⟨w.heap.size, 0, none⟩) ∧ wx = w.alloc (.cells (c56 t sub) 42)
def Cut9 (e f : Ev) (w : World) (v : Value) (wx : World) : Prop := v = .pointer (some ⟨w.heap.size, 0, none⟩) ∧ wx = w.alloc (.cells (c14 e f) 41)
set_option maxHeartbeats 16000000 in
theorem law_undoes (A : Option Addr) (n c : Nat) (l : List Ev) (sub : Int) (m : Nat) (hm : m ≤ 255) (w : World) (hA : A = none → c = 0) (hs : Sl w A n c l) (hz : SzOk l) :
    Calls Try.prog 7 #[.slice A n c, .int .i64 sub, .int .u8 (m : Int)] w fun r w' => r = .returned (.bool true) ∧ Below w.heap.size w w' := by
  have HS := Lib.hid hs
  have HZ := Lib.hid hz
  have HN := Lib.hid hA
  have hnl : l.length = n := hs.len
  have hn63 := hs.nmax
  have hcn := hs.le
  clear hs hz hA
  go_enter Try.func7, Try.ntmps7
  by_cases h30 : (30 : Int) < (n : Int)
  · have hd : decide ((30 : Int) < (n : Int)) = true := decide_eq_true h30
    go_wp2_with (go_at_call 22; go_must (refine (awake_any _).mono ?_; rintro r w2 ⟨rfl, hb2⟩))
    go_ret
    exact ⟨rfl, hb2⟩
  have hd : decide ((30 : Int) < (n : Int)) = false := decide_eq_false h30
  cases hvl : vlB l
  · have HVB := Lib.hid hvl
    clear hvl
    go_wp2_with (first
      | (go_at_call 25; go_must (refine (rValid_any A n c l _ HS.out HZ.out).mono ?_; rintro r w1 ⟨rfl, hb1⟩; rw [HVB.out]))
      | (go_at_call 22; go_must (refine (awake_any _).mono ?_; rintro r w2 ⟨rfl, hb2⟩)))
    go_ret
    exact ⟨rfl, hb1.trans (hb2.mono hb1.size)⟩
  have HVB := Lib.hid hvl
  have HV := Lib.hid (vlB_true hvl)
  clear hvl
  go_upto_region 4 with (go_at_call 25; go_must (refine (rValid_any A n c l _ HS.out HZ.out).mono ?_; rintro r w1 ⟨rfl, hb1⟩; rw [HVB.out]))
  replace HS := Lib.hid (HS.out.below hb1)
  obtain ⟨t, ht⟩ : ∃ t, lastN l l.length = t := ⟨_, rfl⟩
  have HT := Lib.hid ht
  go_upto_if 25 with fail
  go_cut [7] (fun v wx => v = .int .i64 t ∧ wx = w1)
  case first =>
    by_cases h0 : n = 0
    · subst h0
      have ht0 : t = 0 := by rw [← ht, hnl]; rfl
      subst ht0
      go_wp2_with fail
      go_meet
      exact ⟨rfl, rfl⟩
    · have hpos : (0 : Int) < (n : Int) := by omega
      obtain ⟨b, off, rfl, hbl, hcells⟩ := HS.out.base (by omega)
      obtain ⟨y, hy⟩ := HS.out.get (k := n - 1) (by omega)
      have hty : t = y.at_ := by
        rw [← ht, hnl]
        obtain ⟨m, rfl⟩ : ∃ m, n = m + 1 := ⟨n - 1, by omega⟩
        show (match l[m]? with | some e => e.at_ | none => 0) = y.at_
        rw [show m = m + 1 - 1 from rfl, hy]
      have e0 : w1.cell? ⟨b, off + (n - 1) * 7, none⟩ = some (.int .i64 y.at_) := Sl.at_ hcells hy 0 rfl
      have hw1 : IntKind.i64.wrap ((n : Int) - 1) = (n : Int) - 1 := IntWalk.i64_in _ (by omega)
      have hnn : ((n : Int) - 1).toNat = n - 1 := by omega
      have hlt1 : (n : Int) - 1 < (n : Int) := by omega
      have hge1 : (0 : Int) ≤ (n : Int) - 1 := by omega
      have HTY := Lib.hid hty
      clear hcells hy hty ht
      go_wp2_with fail
      go_meet
      exact ⟨by rw [HTY.out], rfl⟩
  case rest =>
  obtain ⟨rfl, hw7⟩ := hcut
  obtain rfl := hw7.symm
  clear ht
  go_upto_region 6 with (fail)
  go_cut [8] (fun v wx => Cut8 t sub w1 v wx)
  case first =>
    go_wp2_with (first
      | (refine wpList_buildTo rfl 42 _ rfl (some 61) rfl (c56 t sub) (by as_aux_lemma => kernel_rfl) ?_)
      | (refine wpList_runTo rfl (some 8) rfl (.pointer (some ⟨w1.heap.size, 0, none⟩)) (w1.alloc (.cells z56 42)) (alloc8 w1 _ _ rfl) ?_)
      | (refine wpList_store_rowTo rfl 42 _ _ rfl rfl w1.heap.size (c56 t sub) rfl rfl 42 z56 (heap_alloc_last w1 _) (by kernel_rfl) rfl (by as_aux_lemma => kernel_rfl) ?_; rw [World.setRow_alloc_new]))
    go_meet
    exact ⟨rfl, rfl⟩
  case rest =>
  obtain ⟨hv8, hw8⟩ := hcut
  subst hv8
  rw [hw8]
  clear hw8
  obtain ⟨W, hW, hbW, hzW, f1W, qfa⟩ := box1 w1 (c56 t sub) 42
  rw [← hW]
  have HC := Lib.hid f1W
  clear hW f1W
  replace HS := Lib.hid (HS.out.below hbW)
  have hbw := hb1.trans (hbW.mono hb1.size)
  clear hb1 hbW
  obtain ⟨r, hr, hr4⟩ : ∃ r : Nat, m % 4 = r ∧ r < 4 := ⟨_, rfl, Nat.mod_lt _ (by decide)⟩
  obtain ⟨e, he⟩ : ∃ e, uE r t sub = e := ⟨_, rfl⟩
  have HE := Lib.hid he
  have HK : Hid (undK e.kind) := Lib.hid (he ▸ uE_k r t sub)
  have HAT : Hid (e.at_ = t) := Lib.hid (he ▸ uE_at r t sub)
  have HEZ : Hid (e.num.size ≤ maxLen ∧ e.name.size ≤ maxLen) := Lib.hid (szE (he ▸ uE_sz r t sub))
  clear he
  go_upto_region 7 with (fail)
  go_cut [9] (fun v wx => Cut9 e (undoE e) W v wx)
  case first =>
    have he := HE.out
    subst he
    clear HK HAT HEZ HS HZ HN HV HVB HT
    have hmod : (m : Int).tmod 4 = (r : Int) := by rw [Int.tmod_eq_emod_of_nonneg (by omega)]; omega
    have hr' : r = 0 ∨ r = 1 ∨ r = 2 ∨ r = 3 := by omega
    rcases hr' with rfl | rfl | rfl | rfl
    · have hww : IntKind.u8.wrap ((m : Int).tmod 4) = 0 := by rw [hmod]; decide
      have hmm : (m : Int).tmod 4 = 0 := hmod
      have qa0 : W.cell? ⟨w1.heap.size, 0, none⟩ = some (.int .i64 t) := HC.out 0 _ rfl; have qa1 : W.cell? ⟨w1.heap.size, 1, none⟩ = some (.int .i64 5) := HC.out 1 _ rfl; have qa2 : W.cell? ⟨w1.heap.size, 2, none⟩ = some (.int .i64 0) := HC.out 2 _ rfl; have qa3 : W.cell? ⟨w1.heap.size, 3, none⟩ = some (.int .i64 sub) := HC.out 3 _ rfl; have qa4 : W.cell? ⟨w1.heap.size, 4, none⟩ = some (.string ⟨#[57, 56, 55, 54, 53, 52, 51, 50, 49]⟩) := HC.out 4 _ rfl; have qa5 : W.cell? ⟨w1.heap.size, 5, none⟩ = some (.string ⟨#[]⟩) := HC.out 5 _ rfl; have qa6 : W.cell? ⟨w1.heap.size, 6, none⟩ = some (.int .i64 0) := HC.out 6 _ rfl; have qa7 : W.cell? ⟨w1.heap.size, 7, none⟩ = some (.int .i64 t) := HC.out 7 _ rfl; have qa8 : W.cell? ⟨w1.heap.size, 8, none⟩ = some (.int .i64 6) := HC.out 8 _ rfl; have qa9 : W.cell? ⟨w1.heap.size, 9, none⟩ = some (.int .i64 0) := HC.out 9 _ rfl; have qa10 : W.cell? ⟨w1.heap.size, 10, none⟩ = some (.int .i64 sub) := HC.out 10 _ rfl; have qa11 : W.cell? ⟨w1.heap.size, 11, none⟩ = some (.string ⟨#[57, 56, 55, 54, 53, 52, 51, 50, 49]⟩) := HC.out 11 _ rfl; have qa12 : W.cell? ⟨w1.heap.size, 12, none⟩ = some (.string ⟨#[]⟩) := HC.out 12 _ rfl; have qa13 : W.cell? ⟨w1.heap.size, 13, none⟩ = some (.int .i64 0) := HC.out 13 _ rfl
      clear HC hr hmod
      go_wp2_with (first
        | (refine wpList_runTo rfl (some 9) rfl (.pointer (some ⟨W.heap.size, 0, none⟩)) (W.alloc (.cells z14 41)) (alloc9 W _ _ rfl) ?_)
        | (refine wpList_store_rowTo rfl 41 _ _ rfl rfl W.heap.size (c14 (uE 0 t sub) (undoE (uE 0 t sub))) rfl rfl 41 z14 (heap_alloc_last W _) (by kernel_rfl) rfl (by as_aux_lemma => kernel_rfl) ?_; rw [World.setRow_alloc_new]))
      go_meet
      exact ⟨rfl, rfl⟩
    · have hww : IntKind.u8.wrap ((m : Int).tmod 4) = 1 := by rw [hmod]; decide
      have hmm : (m : Int).tmod 4 = 1 := hmod
      have qa14 : W.cell? ⟨w1.heap.size, 14, none⟩ = some (.int .i64 t) := HC.out 14 _ rfl; have qa15 : W.cell? ⟨w1.heap.size, 15, none⟩ = some (.int .i64 8) := HC.out 15 _ rfl; have qa16 : W.cell? ⟨w1.heap.size, 16, none⟩ = some (.int .i64 0) := HC.out 16 _ rfl; have qa17 : W.cell? ⟨w1.heap.size, 17, none⟩ = some (.int .i64 sub) := HC.out 17 _ rfl; have qa18 : W.cell? ⟨w1.heap.size, 18, none⟩ = some (.string ⟨#[]⟩) := HC.out 18 _ rfl; have qa19 : W.cell? ⟨w1.heap.size, 19, none⟩ = some (.string ⟨#[113, 45, 116, 101, 115, 116]⟩) := HC.out 19 _ rfl; have qa20 : W.cell? ⟨w1.heap.size, 20, none⟩ = some (.int .i64 0) := HC.out 20 _ rfl; have qa21 : W.cell? ⟨w1.heap.size, 21, none⟩ = some (.int .i64 t) := HC.out 21 _ rfl; have qa22 : W.cell? ⟨w1.heap.size, 22, none⟩ = some (.int .i64 9) := HC.out 22 _ rfl; have qa23 : W.cell? ⟨w1.heap.size, 23, none⟩ = some (.int .i64 0) := HC.out 23 _ rfl; have qa24 : W.cell? ⟨w1.heap.size, 24, none⟩ = some (.int .i64 sub) := HC.out 24 _ rfl; have qa25 : W.cell? ⟨w1.heap.size, 25, none⟩ = some (.string ⟨#[]⟩) := HC.out 25 _ rfl; have qa26 : W.cell? ⟨w1.heap.size, 26, none⟩ = some (.string ⟨#[113, 45, 116, 101, 115, 116]⟩) := HC.out 26 _ rfl; have qa27 : W.cell? ⟨w1.heap.size, 27, none⟩ = some (.int .i64 0) := HC.out 27 _ rfl
      clear HC hr hmod
      go_wp2_with (first
        | (refine wpList_runTo rfl (some 9) rfl (.pointer (some ⟨W.heap.size, 0, none⟩)) (W.alloc (.cells z14 41)) (alloc9 W _ _ rfl) ?_)
        | (refine wpList_store_rowTo rfl 41 _ _ rfl rfl W.heap.size (c14 (uE 1 t sub) (undoE (uE 1 t sub))) rfl rfl 41 z14 (heap_alloc_last W _) (by kernel_rfl) rfl (by as_aux_lemma => kernel_rfl) ?_; rw [World.setRow_alloc_new]))
      go_meet
      exact ⟨rfl, rfl⟩
    · have hww : IntKind.u8.wrap ((m : Int).tmod 4) = 2 := by rw [hmod]; decide
      have hmm : (m : Int).tmod 4 = 2 := hmod
      have qa28 : W.cell? ⟨w1.heap.size, 28, none⟩ = some (.int .i64 t) := HC.out 28 _ rfl; have qa29 : W.cell? ⟨w1.heap.size, 29, none⟩ = some (.int .i64 10) := HC.out 29 _ rfl; have qa30 : W.cell? ⟨w1.heap.size, 30, none⟩ = some (.int .i64 0) := HC.out 30 _ rfl; have qa31 : W.cell? ⟨w1.heap.size, 31, none⟩ = some (.int .i64 sub) := HC.out 31 _ rfl; have qa32 : W.cell? ⟨w1.heap.size, 32, none⟩ = some (.string ⟨#[]⟩) := HC.out 32 _ rfl; have qa33 : W.cell? ⟨w1.heap.size, 33, none⟩ = some (.string ⟨#[]⟩) := HC.out 33 _ rfl; have qa34 : W.cell? ⟨w1.heap.size, 34, none⟩ = some (.int .i64 0) := HC.out 34 _ rfl; have qa35 : W.cell? ⟨w1.heap.size, 35, none⟩ = some (.int .i64 t) := HC.out 35 _ rfl; have qa36 : W.cell? ⟨w1.heap.size, 36, none⟩ = some (.int .i64 11) := HC.out 36 _ rfl; have qa37 : W.cell? ⟨w1.heap.size, 37, none⟩ = some (.int .i64 0) := HC.out 37 _ rfl; have qa38 : W.cell? ⟨w1.heap.size, 38, none⟩ = some (.int .i64 sub) := HC.out 38 _ rfl; have qa39 : W.cell? ⟨w1.heap.size, 39, none⟩ = some (.string ⟨#[]⟩) := HC.out 39 _ rfl; have qa40 : W.cell? ⟨w1.heap.size, 40, none⟩ = some (.string ⟨#[]⟩) := HC.out 40 _ rfl; have qa41 : W.cell? ⟨w1.heap.size, 41, none⟩ = some (.int .i64 0) := HC.out 41 _ rfl
      clear HC hr hmod
      go_wp2_with (first
        | (refine wpList_runTo rfl (some 9) rfl (.pointer (some ⟨W.heap.size, 0, none⟩)) (W.alloc (.cells z14 41)) (alloc9 W _ _ rfl) ?_)
        | (refine wpList_store_rowTo rfl 41 _ _ rfl rfl W.heap.size (c14 (uE 2 t sub) (undoE (uE 2 t sub))) rfl rfl 41 z14 (heap_alloc_last W _) (by kernel_rfl) rfl (by as_aux_lemma => kernel_rfl) ?_; rw [World.setRow_alloc_new]))
      go_meet
      exact ⟨rfl, rfl⟩
    · have hww : IntKind.u8.wrap ((m : Int).tmod 4) = 3 := by rw [hmod]; decide
      have hmm : (m : Int).tmod 4 = 3 := hmod
      have qa42 : W.cell? ⟨w1.heap.size, 42, none⟩ = some (.int .i64 t) := HC.out 42 _ rfl; have qa43 : W.cell? ⟨w1.heap.size, 43, none⟩ = some (.int .i64 12) := HC.out 43 _ rfl; have qa44 : W.cell? ⟨w1.heap.size, 44, none⟩ = some (.int .i64 0) := HC.out 44 _ rfl; have qa45 : W.cell? ⟨w1.heap.size, 45, none⟩ = some (.int .i64 sub) := HC.out 45 _ rfl; have qa46 : W.cell? ⟨w1.heap.size, 46, none⟩ = some (.string ⟨#[]⟩) := HC.out 46 _ rfl; have qa47 : W.cell? ⟨w1.heap.size, 47, none⟩ = some (.string ⟨#[]⟩) := HC.out 47 _ rfl; have qa48 : W.cell? ⟨w1.heap.size, 48, none⟩ = some (.int .i64 0) := HC.out 48 _ rfl; have qa49 : W.cell? ⟨w1.heap.size, 49, none⟩ = some (.int .i64 t) := HC.out 49 _ rfl; have qa50 : W.cell? ⟨w1.heap.size, 50, none⟩ = some (.int .i64 13) := HC.out 50 _ rfl; have qa51 : W.cell? ⟨w1.heap.size, 51, none⟩ = some (.int .i64 0) := HC.out 51 _ rfl; have qa52 : W.cell? ⟨w1.heap.size, 52, none⟩ = some (.int .i64 sub) := HC.out 52 _ rfl; have qa53 : W.cell? ⟨w1.heap.size, 53, none⟩ = some (.string ⟨#[]⟩) := HC.out 53 _ rfl; have qa54 : W.cell? ⟨w1.heap.size, 54, none⟩ = some (.string ⟨#[]⟩) := HC.out 54 _ rfl; have qa55 : W.cell? ⟨w1.heap.size, 55, none⟩ = some (.int .i64 0) := HC.out 55 _ rfl
      clear HC hr hmod
      go_wp2_with (first
        | (refine wpList_runTo rfl (some 9) rfl (.pointer (some ⟨W.heap.size, 0, none⟩)) (W.alloc (.cells z14 41)) (alloc9 W _ _ rfl) ?_)
        | (refine wpList_store_rowTo rfl 41 _ _ rfl rfl W.heap.size (c14 (uE 3 t sub) (undoE (uE 3 t sub))) rfl rfl 41 z14 (heap_alloc_last W _) (by kernel_rfl) rfl (by as_aux_lemma => kernel_rfl) ?_; rw [World.setRow_alloc_new]))
      go_meet
      exact ⟨rfl, rfl⟩
  case rest =>
  obtain ⟨hv9, hw9⟩ := hcut
  subst hv9
  rw [hw9]
  clear hw9 HC HE hr
  obtain ⟨X, hX, hbX, hzX, f1X, rfa⟩ := box1 W (c14 e (undoE e)) 41
  rw [← hX]
  have ra0 : X.cell? ⟨W.heap.size, 0, none⟩ = some (.int .i64 e.at_) := f1X 0 _ rfl; have ra1 : X.cell? ⟨W.heap.size, 1, none⟩ = some (.int .i64 e.kind) := f1X 1 _ rfl; have ra2 : X.cell? ⟨W.heap.size, 2, none⟩ = some (.int .i64 e.acc) := f1X 2 _ rfl; have ra3 : X.cell? ⟨W.heap.size, 3, none⟩ = some (.int .i64 e.sub) := f1X 3 _ rfl; have ra4 : X.cell? ⟨W.heap.size, 4, none⟩ = some (.string e.num) := f1X 4 _ rfl; have ra5 : X.cell? ⟨W.heap.size, 5, none⟩ = some (.string e.name) := f1X 5 _ rfl; have ra6 : X.cell? ⟨W.heap.size, 6, none⟩ = some (.int .i64 e.val) := f1X 6 _ rfl; have ra7 : X.cell? ⟨W.heap.size, 7, none⟩ = some (.int .i64 (undoE e).at_) := f1X 7 _ rfl; have ra8 : X.cell? ⟨W.heap.size, 8, none⟩ = some (.int .i64 (undoE e).kind) := f1X 8 _ rfl; have ra9 : X.cell? ⟨W.heap.size, 9, none⟩ = some (.int .i64 (undoE e).acc) := f1X 9 _ rfl; have ra10 : X.cell? ⟨W.heap.size, 10, none⟩ = some (.int .i64 (undoE e).sub) := f1X 10 _ rfl; have ra11 : X.cell? ⟨W.heap.size, 11, none⟩ = some (.string (undoE e).num) := f1X 11 _ rfl; have ra12 : X.cell? ⟨W.heap.size, 12, none⟩ = some (.string (undoE e).name) := f1X 12 _ rfl; have ra13 : X.cell? ⟨W.heap.size, 13, none⟩ = some (.int .i64 (undoE e).val) := f1X 13 _ rfl
  clear hX f1X
  replace HS := Lib.hid (HS.out.below hbX)
  replace hbw := hbw.trans (hbX.mono hbw.size)
  have hlX : W.heap.size < X.heap.size := hzX
  obtain ⟨hi1, hi2⟩ := und_facts HV.out (by omega) e HK.out (by rw [HAT.out]; exact HT.out.symm)
  have HI1 := Lib.hid hi1
  have HI2 := Lib.hid hi2
  clear hi1 hi2 hbX hzX
  obtain ⟨x1, hx1⟩ : ∃ x1, (chkL (insL l e)).2 = x1 := ⟨_, rfl⟩
  have HX1 := Lib.hid hx1
  clear hx1
  have h900 : n ≤ 900 := by omega
  go_upto_region 9 with (go_at_call 29; go_must (refine (Insert_any_x A n c l e x1 _ HX1.out HS.out HN.out HZ.out HEZ.out h900).mono ?_; rintro r w3 ⟨⟨A1, n1, c1, rfl, hA1, h1⟩, hb3⟩))
  replace HS := Lib.hid (HS.out.below hb3)
  replace hbw := hbw.trans (hb3.mono hbw.size)
  have H1 := Lib.hid h1
  have HN1 := Lib.hid hA1
  replace ra0 := cl hb3 ra0; replace ra1 := cl hb3 ra1; replace ra2 := cl hb3 ra2; replace ra3 := cl hb3 ra3; replace ra4 := cl hb3 ra4; replace ra5 := cl hb3 ra5; replace ra6 := cl hb3 ra6; replace ra7 := cl hb3 ra7; replace ra8 := cl hb3 ra8; replace ra9 := cl hb3 ra9; replace ra10 := cl hb3 ra10; replace ra11 := cl hb3 ra11; replace ra12 := cl hb3 ra12; replace ra13 := cl hb3 ra13
  have hlX3 : W.heap.size < w3.heap.size := Nat.lt_of_lt_of_le hlX hb3.size
  clear h1 hA1 hb3
  by_cases hx : x1 = 0
  case neg =>
    obtain ⟨b0, d0⟩ := be_f hx
    go_wp2_with (go_at_call 22; go_must (refine (awake_any _).mono ?_; rintro r w4 ⟨rfl, hb4⟩))
    go_ret
    exact ⟨rfl, hbw.trans (hb4.mono hbw.size)⟩
  subst hx
  obtain ⟨hva, hi, hc2, hvb, hk1, hk2, hk3⟩ := HI2.out HX1.out
  rw [HAT.out] at hk1 hk2 hk3
  replace H1 : Hid (Sl w3 A1 n1 c1 (l ++ [e])) := Lib.hid (by have := H1.out; rw [insR_0, HI1.out] at this; exact this)
  have HVA := Lib.hid hva
  have HVB2 := Lib.hid hvb
  have HI := Lib.hid hi
  have HC2 := Lib.hid hc2
  have HK2 := Lib.hid hk2
  have HK3 := Lib.hid hk3
  have HZ1 := Lib.hid (sz_app HZ.out HEZ.out)
  have HEZ2 : Hid ((undoE e).num.size ≤ maxLen ∧ (undoE e).name.size ≤ maxLen) := Lib.hid HEZ.out
  have HZ2 := Lib.hid (sz_app HZ1.out HEZ2.out)
  have hn1 : n1 ≤ 900 := by have := H1.out.len; rw [List.length_append, hnl] at this; simp at this; omega
  have b00 : ((0 : Int) != 0) = false := rfl
  have e00 : ((0 : Int) == 0) = true := rfl
  clear hva hi hc2 hvb hk1 hk2 hk3 HX1 HI1 HI2 HK
  obtain ⟨f, hf⟩ : ∃ f, undoE e = f := ⟨_, rfl⟩
  rw [hf] at ra7 ra8 ra9 ra10 ra11 ra12 ra13 HVB2 HI HC2 HK2 HZ2 HEZ2
  clear hf
  go_upto_region 12 with (go_at_call 29; go_must (refine (Insert_any_x A1 n1 c1 (l ++ [e]) f 0 _ HC2.out H1.out HN1.out HZ1.out HEZ2.out hn1).mono ?_; rintro r w4 ⟨⟨A2, n2, c2, rfl, hA2, h2⟩, hb4⟩))
  replace HS := Lib.hid (HS.out.below hb4)
  replace H1 := Lib.hid (H1.out.below hb4)
  replace hbw := hbw.trans (hb4.mono hbw.size)
  have H2 : Hid (Sl w4 A2 n2 c2 (l ++ [e] ++ [f])) := Lib.hid (by rw [insR_0, HI.out] at h2; exact h2)
  have hn2 : n2 = n + 2 := by have := H2.out.len; simp [hnl] at this; omega
  have hw2 : IntKind.i64.wrap ((n : Int) + 2) = (n2 : Int) := by rw [IntWalk.i64_in _ (by omega)]; omega
  have hnn2 : ((n2 : Int) == (n2 : Int)) = true := by simp
  clear h2 hA2 hb4 ra0 ra1 ra2 ra3 ra4 ra5 ra6 ra7 ra8 ra9 ra10 ra11 ra12 ra13
  clear hn2 b00 e00 hnl hn1 h900 hr4 hm hn63 hcn h30 hd hzW qfa rfa hlX hlX3 hw7
  iterate 3 (try go_wp21)
  (refine (State_vl A1 n1 c1 (l ++ [e]) t _ H1.out HVA.out HZ1.out).mono ?_; rintro r w5 ⟨Ba, mb, cb, Bs, ms, cs, rfl, k1, k2, hb5⟩; have HP1 := Lib.hid k1; have HP2 := Lib.hid k2; clear k1 k2; replace HS := Lib.hid (HS.out.below hb5); replace H2 := Lib.hid (H2.out.below hb5); replace hbw := hbw.trans (hb5.mono hbw.size))
  iterate 3 (try go_wp21)
  (refine (State_vl A n c l t _ HS.out HV.out HZ.out).mono ?_; rintro r w6 ⟨Ca, mc, cc, Cs, mt, ct, rfl, k1, k2, hb6⟩; have HQ1 := Lib.hid k1; have HQ2 := Lib.hid k2; replace HP1 := Lib.hid (LS.on (fun _ _ _ _ h k => h.on k) HP1.out hb6); replace HP2 := Lib.hid (LS.on (fun _ _ _ _ h k => h.on k) HP2.out hb6); clear k1 k2; replace HS := Lib.hid (HS.out.below hb6); replace H2 := Lib.hid (H2.out.below hb6); replace hbw := hbw.trans (hb6.mono hbw.size))
  iterate 3 (try go_wp21)
  (refine (Same_any Ba mb cb Bs ms cs Ca mc cc Cs mt ct _ _ _ _ _ HP1.out HP2.out HQ1.out HQ2.out).mono ?_; rintro r w7 ⟨⟨q, rfl, hq⟩, hb7⟩; (have hq0 : q = false := by (cases q; rfl; exact absurd (congrArg Prod.snd (hq.1 rfl)) HK3.out)); subst hq0; (have HM1 : Hid True := Lib.hid trivial); clear hq; replace HS := Lib.hid (HS.out.below hb7); replace H2 := Lib.hid (H2.out.below hb7); replace hbw := hbw.trans (hb7.mono hbw.size))
  iterate 3 (try go_wp21)
  (refine (State_vl A2 n2 c2 (l ++ [e] ++ [f]) t _ H2.out HVB2.out HZ2.out).mono ?_; rintro r w8 ⟨Da, md, cd, Ds, mds, cds, rfl, k1, k2, hb8⟩; rw [HK2.out] at k1 k2; have HR1 := Lib.hid k1; have HR2 := Lib.hid k2; clear k1 k2; replace HS := Lib.hid (HS.out.below hb8); replace hbw := hbw.trans (hb8.mono hbw.size))
  iterate 3 (try go_wp21)
  (refine (State_vl A n c l t _ HS.out HV.out HZ.out).mono ?_; rintro r w9 ⟨Ea, me, ce, Es, mes, ces, rfl, k1, k2, hb9⟩; have HT1 := Lib.hid k1; have HT2 := Lib.hid k2; replace HR1 := Lib.hid (LS.on (fun _ _ _ _ h k => h.on k) HR1.out hb9); replace HR2 := Lib.hid (LS.on (fun _ _ _ _ h k => h.on k) HR2.out hb9); clear k1 k2; replace hbw := hbw.trans (hb9.mono hbw.size))
  iterate 3 (try go_wp21)
  (refine (Same_any Da md cd Ds mds cds Ea me ce Es mes ces _ _ _ _ _ HR1.out HR2.out HT1.out HT2.out).mono ?_; rintro r wA ⟨hr, hbA⟩; obtain rfl := hr.t rfl; clear hr; replace hbw := hbw.trans (hbA.mono hbw.size))
  iterate 3 (try go_wp21)
  go_wp2_with (go_at_call 22; go_must (refine (awake_any _).mono ?_; rintro r wB ⟨rfl, hbB⟩))
  go_ret
  exact ⟨rfl, hbw.trans (hbB.mono hbw.size)⟩
theorem law_undoes_i (A : Option Addr) (n c : Nat) (l : List Ev) (sub a : Int) (ha : (Lit.int .u8 a).wf = true) (w : World) (hA : A = none → c = 0) (hs : Sl w A n c l) (hz : SzOk l) :
    Calls Try.prog 7 #[.slice A n c, .int .i64 sub, .int .u8 a] w fun r w' => r = .returned (.bool true) ∧ Below w.heap.size w w' := by
  have h1 : IntKind.u8.min = 0 := rfl
  have h2 : IntKind.u8.max = 255 := rfl
  simp only [Lit.wf, Bool.and_eq_true, decide_eq_true_eq, h1, h2] at ha
  obtain ⟨m, rfl⟩ := Int.eq_ofNat_of_zero_le ha.1
  exact law_undoes A n c l sub m (by omega) w hA hs hz
end Cu
end Go.Proofs.Yteaanngagcflhaa
