/-
  Numbers: the reference's Spells; Numbers: the reference's Free. No condition.
-/
import Derived.Test.YteaanngagcflhaaCuCC
import Derived.Test.YteaanngagcflhaaCuCG
import Derived.BigQuiet
import Derived.StillTailTactics
import Derived.Lib.Overlaps
import Derived.Deep.DeepCutAuto
import Derived.Deep.RegionWith
import Derived.Laws.RangeAny
set_option maxRecDepth 100000
set_option linter.unusedVariables false
set_option linter.unusedSimpArgs false
namespace Go.Proofs.Yteaanngagcflhaa
open Go.RowKit

namespace Nb
open Cu
theorem infoOd2 : (Try.prog.info? 74).map (fun i => (i.zero, i.size, i.bytes)) = some (some (.agg #[.int .i64 0, .int .i64 0, .int .i64 0]), 3, 24) := by kernel_rfl
theorem set_last {α : Type} (d' : α) : ∀ {l : List α}, l ≠ [] → l.set (l.length - 1) d' = l.dropLast ++ [d']
  | [], h => absurd rfl h
  | [a], _ => rfl
  | a :: b :: l, _ => by
    have := set_last d' (l := b :: l) (by simp)
    simp only [List.length_cons, Nat.add_sub_cancel] at this ⊢
    rw [List.set_cons_succ, List.dropLast_cons_cons, this, List.cons_append]
theorem last_get {α : Type} {l : List α} {d : α} (h : l[l.length - 1]? = some d) : l.getLast? = some d := by rw [List.getLast?_eq_getElem?]; exact h
theorem be_or3 (x y : Int) : (x = y ∧ (x == y) = true ∧ (x != y) = false) ∨ (¬ x = y ∧ (x == y) = false ∧ (x != y) = true) := by
  by_cases h : x = y
  · exact .inl ⟨h, be_t h⟩
  · exact .inr ⟨h, be_f h⟩
def stepO (ow : Option Int) (out : List Od) (f t : Int) : List Od := match ow with
  | none => out
  | some m => addR out m f t
theorem stepR_O {l : List Ev} {x : ByteArray} {k : Nat} {e : Ev} {out : List Od} : stepR l x k e out = if e.at_ = toN l (k + 1) then out else stepO (ownB (bkAt l e.at_) x) out e.at_ (toN l (k + 1)) := by
  unfold stepR stepO
  rfl
def R1 (w : World) (l : List Ev) (x : ByteArray) (k : Nat) (v : Value) (wr : World) : Prop := ∃ A1 n1 c1, v = .slice A1 n1 c1 ∧ Ow wr w.heap.size 74 (.slice A1 n1 c1) (spR l x k) ∧ Below w.heap.size w wr ∧ n1 ≤ k
set_option maxHeartbeats 16000000 in
theorem rSpells_any (A : Option Addr) (n c : Nat) (l : List Ev) (x : ByteArray) (w : World) (hs : Sl w A n c l) (hv : Vl l) :
    Calls Try.prog 45 #[.slice A n c, .string x] w fun r w' => (∃ A1 n1 c1, r = .returned (.slice A1 n1 c1) ∧ (A1 = none → c1 = 0) ∧ Sl w' A1 n1 c1 (spR l x l.length)) ∧ Below w.heap.size w w' := by
  have HS := Lib.hid hs
  have HV := Lib.hid hv
  have hlen : l.length = n := hs.len
  have hn40 : n ≤ 40 := by have := hv.1; omega
  have HLEN := Lib.hid hlen
  rw [hlen]
  clear hs hv hlen
  go_enter Try.func45, Try.ntmps45
  go_wp2_with fail
  go_loopw [5, 6] (fun v i wr => ∃ k : Nat, k ≤ n ∧ i = .int .i64 k ∧ R1 w l x k v wr) (fun _ i _ => n - (intOf i).toNat)
  case atStart => exact ⟨0, Nat.zero_le _, rfl, none, 0, 0, rfl, Ow.nil_ _ _ _, Below.refl _ _, Nat.le_refl _⟩
  case round =>
    obtain ⟨k, hk, rfl, A1, n1, c1, rfl, how, hbr, hn1⟩ := hrel
    have HOW := Lib.hid how
    have HL1 := Lib.hid (rowLS how).2.len
    have hsr := hbr.size
    clear how
    by_cases hlt : k < n
    · obtain ⟨b, off, hAe, hbl, hcells⟩ := HS.out.baseIn hbr (by omega)
      obtain ⟨e, he⟩ := HS.out.get hlt
      have e0 : wr.cell? ⟨b, off + k * 7, none⟩ = some (.int .i64 e.at_) := Sl.at_ hcells he 0 rfl
      have HE := Lib.hid he
      have HSU := Lib.hid (spR_succ (x := x) he)
      have hkw : IntKind.i64.wrap ((k : Int) + 1) = (k : Int) + 1 := IntWalk.i64_in _ (by omega)
      have hkt : ((k : Int) + 1).toNat = k + 1 := by omega
      have hk0 : (0 : Int) ≤ (k : Int) + 1 := by omega
      have HC := Lib.hid @hcells
      subst hAe
      clear he hcells
      go_upto_if 27 with fail
      go_cut [8] (fun v wx => v = .int .i64 (toN l (k + 1)) ∧ wx = wr)
      case first =>
        by_cases hq : k + 1 < n
        · have hqi : (k : Int) + 1 < (n : Int) := by omega
          obtain ⟨f, hf⟩ := HS.out.get hq
          have f0 : wr.cell? ⟨b, off + (k + 1) * 7, none⟩ = some (.int .i64 f.at_) := Sl.at_ HC.out hf 0 rfl
          have HT := Lib.hid (toN_at hf)
          clear hf
          go_wp2_with fail
          go_meet
          exact ⟨by rw [HT.out], rfl⟩
        · have hqi : ¬ (k : Int) + 1 < (n : Int) := by omega
          have HT := Lib.hid (toN_end (l := l) (k := k + 1) (by have := HLEN.out; omega))
          go_wp2_with fail
          go_meet
          exact ⟨by rw [HT.out], rfl⟩
      case rest =>
      obtain ⟨rfl, hw⟩ := hcut
      obtain rfl := hw.symm
      obtain ⟨tn, htn⟩ : ∃ t, toN l (k + 1) = t := ⟨_, rfl⟩
      obtain ⟨ow, how⟩ : ∃ o, ownB (bkAt l e.at_) x = o := ⟨_, rfl⟩
      have HST : Hid (spR l x (k + 1) = if e.at_ = tn then spR l x k else stepO ow (spR l x k) e.at_ tn) := Lib.hid (by rw [HSU.out, stepR_O, htn, how])
      have HOWN := Lib.hid how
      rw [htn]
      clear htn how hw HSU
      go_upto_region 9 with (go_at_call 42; go_must (refine (rOwner_any _ n c l x e.at_ _ (HS.out.below hbr) HV.out).mono ?_; rintro r w2 ⟨rfl, hb2⟩; rw [HOWN.out]))
      have HO2 := Lib.hid (HOW.out.below hb2)
      have hbr2 := hbr.trans (hb2.mono hsr)
      have hs2 := hb2.size
      rcases be_or3 e.at_ tn with ⟨heq, b1, d1⟩ | ⟨heq, b1, d1⟩
      · have HR := Lib.hid (HST.out.trans (if_pos heq))
        clear heq
        go_wp2_with fail
        go_roundw
        case rel => exact ⟨k + 1, by omega, by go_num, A1, n1, c1, rfl, by rw [HR.out]; exact HO2.out, hbr2, by omega⟩
        case measure => simp [intOf]; omega
      replace HST := Lib.hid (HST.out.trans (if_neg heq))
      clear heq
      cases ow with
      | none =>
        go_wp2_with fail
        go_roundw
        case rel => exact ⟨k + 1, by omega, by go_num, A1, n1, c1, rfl, by rw [HST.out]; exact HO2.out, hbr2, by omega⟩
        case measure => simp [intOf]; omega
      | some m =>
        by_cases hz : n1 = 0
        · subst hz
          have hnil : spR l x k = [] := List.eq_nil_of_length_eq_zero HL1.out
          have HR := Lib.hid (HST.out.trans (show stepO (some m) (spR l x k) e.at_ tn = spR l x k ++ [⟨m, e.at_, tn⟩] by rw [hnil]; rfl))
          have hm1 : IntKind.i64.wrap ((0 : Int) - 1) = -1 := by decide
          clear hnil HST
          go_wp2_with (at_builtin; go_must (refine wpl_append1 _ rfl (.tmp 78) (.tmp 84) 63 rfl w.heap.size 74 _ 24 Try.underlying63 infoOd2 rfl (.slice A1 0 c1) (spR l x k) rfl (HO2.out.alloc _) _ (⟨m, e.at_, tn⟩ : Od) rfl (fun j u hu => cells_new _ _ _ _ _ (by simp) u hu) (by have := HL1.out; omega) (by omega) (by rw [World.size_alloc]; omega) ?_; intro v6 w6 ho6 hu6; have HB6 := Lib.hid (hu6.belowBase (HO2.out.alloc _) (hbr2.alloc (by omega) _) (by rw [World.size_alloc]; omega)); obtain ⟨A7, c7, rfl, _, _⟩ := ho6.val; have HO6 := Lib.hid (by have h := ho6; rw [List.length_append, List.length_singleton] at h; exact h); clear ho6 hu6))
          go_roundw
          case rel => exact ⟨k + 1, by omega, by go_num, A7, _, c7, rfl, by rw [HR.out]; exact HO6.out, HB6.out, by have := HL1.out; simp; omega⟩
          case measure => simp [intOf]; omega
        · obtain ⟨g, cap, cur, hA, hbg, hcur⟩ := HO2.out.whole (by have := HL1.out; omega)
          have hA1 : A1 = some ⟨g, 0, none⟩ := by injection hA
          obtain ⟨d, hd⟩ : ∃ d, (spR l x k)[n1 - 1]? = some d := ⟨_, List.getElem?_eq_getElem (by have := HL1.out; omega)⟩
          have HLAST := Lib.hid (last_get (l := spR l x k) (d := d) (by rw [HL1.out]; exact hd))
          subst hA1
          have g0 : w2.cell? ⟨g, (n1 - 1) * 3 + 0, none⟩ = some (.int .i64 d.sub) := HO2.out.at_ hd 0 rfl
          have g2 : w2.cell? ⟨g, (n1 - 1) * 3 + 2, none⟩ = some (.int .i64 d.to_) := HO2.out.at_ hd 2 rfl
          have gf := HO2.out.unfrozen
          rw [Nat.add_zero] at g0
          have hm1 : IntKind.i64.wrap ((n1 : Int) - 1) = ((n1 - 1 : Nat) : Int) := by rw [IntWalk.i64_in _ (by omega)]; omega
          have hn1l : n1 - 1 < n1 := by omega
          have HD := Lib.hid hd
          have hgl := (HO2.out.ltG).2
          have hnz : 0 < n1 := by omega
          clear hA hd hz hcur
          rcases be_or3 d.sub m with ⟨hsm, b2, d2⟩ | ⟨hsm, b2, d2⟩
          · rcases be_or3 d.to_ e.at_ with ⟨htf, b3, d3⟩ | ⟨htf, b3, d3⟩
            · have HR := Lib.hid (HST.out.trans (show stepO (some m) (spR l x k) e.at_ tn = (spR l x k).set (n1 - 1) ⟨d.sub, d.from_, tn⟩ by
                unfold stepO addR
                rw [HLAST.out]
                dsimp only
                rw [if_pos ⟨hsm, htf⟩, ← HL1.out, set_last _ (by intro h; have := HL1.out; rw [h] at this; simp at this; omega)]))
              have HST2 := Lib.hid (Ow.stored HO2.out HD.out (x' := (⟨d.sub, d.from_, tn⟩ : Od)) 2 (.int .i64 tn) (by decide) rfl)
              clear hsm htf HST
              go_wp2_with fail
              go_roundw
              case rel => exact ⟨k + 1, by omega, by go_num, some ⟨g, 0, none⟩, n1, c1, rfl, by rw [HR.out]; exact HST2.out, hbr2.setCell hbg _, by omega⟩
              case measure => simp [intOf]; omega
            · have HR := Lib.hid (HST.out.trans (addR_new (n := m) (f := e.at_) (t := tn) (fun q hq => by rw [HLAST.out] at hq; cases hq; exact fun h => htf h.2)))
              clear hsm htf HST
              go_wp2_with (at_builtin; go_must (refine wpl_append1 _ rfl (.tmp 78) (.tmp 84) 63 rfl w.heap.size 74 _ 24 Try.underlying63 infoOd2 rfl (.slice (some ⟨g, 0, none⟩) n1 c1) (spR l x k) rfl (HO2.out.alloc _) _ (⟨m, e.at_, tn⟩ : Od) rfl (fun j u hu => cells_new _ _ _ _ _ (by simp) u hu) (by have := HL1.out; omega) (by omega) (by rw [World.size_alloc]; omega) ?_; intro v6 w6 ho6 hu6; have HB6 := Lib.hid (hu6.belowBase (HO2.out.alloc _) (hbr2.alloc (by omega) _) (by rw [World.size_alloc]; omega)); obtain ⟨A7, c7, rfl, _, _⟩ := ho6.val; have HO6 := Lib.hid (by have h := ho6; rw [List.length_append, List.length_singleton] at h; exact h); clear ho6 hu6))
              go_roundw
              case rel => exact ⟨k + 1, by omega, by go_num, A7, _, c7, rfl, by rw [HR.out]; exact HO6.out, HB6.out, by have := HL1.out; simp; omega⟩
              case measure => simp [intOf]; omega
          · have HR := Lib.hid (HST.out.trans (addR_new (n := m) (f := e.at_) (t := tn) (fun q hq => by rw [HLAST.out] at hq; cases hq; exact fun h => hsm h.1)))
            clear hsm HST
            go_wp2_with (at_builtin; go_must (refine wpl_append1 _ rfl (.tmp 78) (.tmp 84) 63 rfl w.heap.size 74 _ 24 Try.underlying63 infoOd2 rfl (.slice (some ⟨g, 0, none⟩) n1 c1) (spR l x k) rfl (HO2.out.alloc _) _ (⟨m, e.at_, tn⟩ : Od) rfl (fun j u hu => cells_new _ _ _ _ _ (by simp) u hu) (by have := HL1.out; omega) (by omega) (by rw [World.size_alloc]; omega) ?_; intro v6 w6 ho6 hu6; have HB6 := Lib.hid (hu6.belowBase (HO2.out.alloc _) (hbr2.alloc (by omega) _) (by rw [World.size_alloc]; omega)); obtain ⟨A7, c7, rfl, _, _⟩ := ho6.val; have HO6 := Lib.hid (by have h := ho6; rw [List.length_append, List.length_singleton] at h; exact h); clear ho6 hu6))
            go_roundw
            case rel => exact ⟨k + 1, by omega, by go_num, A7, _, c7, rfl, by rw [HR.out]; exact HO6.out, HB6.out, by have := HL1.out; simp; omega⟩
            case measure => simp [intOf]; omega
    · obtain rfl : k = n := by omega
      have hkn : ¬ ((k : Int) < (k : Int)) := by omega
      go_wp2_with fail
      go_ret
      exact ⟨⟨A1, n1, c1, rfl, (rowLS HOW.out).1, (rowLS HOW.out).2⟩, hbr⟩
end Nb
namespace Nb
open Cu
theorem any_take {α : Type} {p : α → Bool} {l : List α} {k : Nat} {d : α} (hd : l[k]? = some d) (h : (l.take k).any p = false) : (l.take (k + 1)).any p = p d := by
  rw [List.take_add_one, hd, List.any_append, h]; simp
set_option maxHeartbeats 8000000 in
theorem rFree_any (A : Option Addr) (n c : Nat) (l : List Ev) (x : ByteArray) (f t : Int) (w : World) (hs : Sl w A n c l) (hv : Vl l) :
    Calls Try.prog 47 #[.slice A n c, .string x, .agg #[.int .i64 f, .int .i64 t]] w fun r w' => r = .returned (.bool (frB f t (spR l x l.length))) ∧ Below w.heap.size w w' := by
  have HS := Lib.hid hs
  have HV := Lib.hid hv
  have HFR : Hid (frB f t (spR l x l.length) = if f < 0 ∨ t ≤ f ∨ 12622780800 < t then false else !((spR l x l.length).any (ovB f t))) := Lib.hid rfl
  obtain ⟨L, hL⟩ : ∃ L, spR l x l.length = L := ⟨_, rfl⟩
  have HLL := Lib.hid hL
  rw [hL] at HFR ⊢
  clear hs hv hL
  go_enter Try.func47, Try.ntmps47
  go_upto_region 1 with (fail)
  (obtain ⟨W, hWW, hbW, hzW, f1W, qfa⟩ := box1 w #[.int .i64 f, .int .i64 t] 68; rw [← hWW]; have qa0 : W.cell? ⟨w.heap.size, 0, none⟩ = some (.int .i64 f) := f1W 0 _ rfl; have qa1 : W.cell? ⟨w.heap.size, 1, none⟩ = some (.int .i64 t) := f1W 1 _ rfl; clear hWW f1W)
  by_cases h1 : f < 0
  · have HQ := Lib.hid (HFR.out.trans (if_pos (.inl h1)))
    go_wp2_with fail
    go_ret
    exact ⟨ret_bool HQ.out.symm, hbW⟩
  by_cases h2 : t ≤ f
  · have HQ := Lib.hid (HFR.out.trans (if_pos (.inr (.inl h2))))
    go_wp2_with fail
    go_ret
    exact ⟨ret_bool HQ.out.symm, hbW⟩
  by_cases h3 : 12622780800 < t
  · have HQ := Lib.hid (HFR.out.trans (if_pos (.inr (.inr h3))))
    go_wp2_with fail
    go_ret
    exact ⟨ret_bool HQ.out.symm, hbW⟩
  replace HFR := Lib.hid (HFR.out.trans (if_neg (by omega)))
  go_upto_region 4 with (go_at_call 45; go_must (refine (rSpells_any A n c l x _ (HS.out.below hbW) HV.out).mono ?_; rintro r w2 ⟨⟨A1, n1, c1, rfl, _, h4⟩, hb2⟩))
  rw [HLL.out] at h4
  have HL := Lib.hid h4
  have hlen1 := h4.len
  have hnm := h4.nmax
  have HLN := Lib.hid hlen1
  have hbw2 := hbW.trans (hb2.mono hbW.size)
  have hs2 := hb2.size
  replace qa0 := cl hb2 qa0
  replace qa1 := cl hb2 qa1
  clear h4 hlen1 hb2
  go_wp2_with fail
  go_loopw [8] (fun i wr => ∃ k : Nat, k ≤ n1 ∧ i = .int .i64 k ∧ Below w2.heap.size w2 wr ∧ (L.take k).any (ovB f t) = false) (fun i _ => n1 - (intOf i).toNat)
  case atStart => exact ⟨0, Nat.zero_le _, rfl, Below.refl _ _, rfl⟩
  case round =>
    obtain ⟨k, hk, rfl, hbr, hno⟩ := hrel
    have HNO := Lib.hid hno
    have hsr := hbr.size
    replace qa0 := cl hbr qa0
    replace qa1 := cl hbr qa1
    clear hno
    by_cases hlt : k < n1
    · obtain ⟨b, off, hAe, hbl, hcells⟩ := HL.out.baseIn hbr (by omega)
      obtain ⟨d, hd⟩ := HL.out.get hlt
      have e1 : wr.cell? ⟨b, off + k * 3 + 1, none⟩ = some (.int .i64 d.from_) := Sl.at_ hcells hd 1 rfl
      have e2 : wr.cell? ⟨b, off + k * 3 + 2, none⟩ = some (.int .i64 d.to_) := Sl.at_ hcells hd 2 rfl
      have HT := Lib.hid (any_take (p := ovB f t) hd HNO.out)
      have HM := Lib.hid (List.mem_of_getElem? hd)
      subst hAe
      clear hcells hd
      have hbwr := hbw2.trans (hbr.mono hbw2.size)
      by_cases g1 : d.from_ < t
      · have dg1 : decide (d.from_ < t) = true := decide_eq_true g1
        by_cases g2 : f < d.to_
        · have dg2 : decide (f < d.to_) = true := decide_eq_true g2
          have HQ := Lib.hid (HFR.out.trans (show _ = false by rw [List.any_eq_true.2 ⟨d, HM.out, by simp [ovB, g1, g2]⟩]; rfl))
          go_upto_region 7 with (fail)
          ((with_reducible refine wp_region_quiet_lit ?_ ?_ ?_); kernel_rfl; kernel_rfl; (repeat (any_goals (first | go_big_quiet_step (fail) | (refine wpQuiet_step (fun K hK => ?_); go_simp; (first | (refine hK _ ?_; clear hK K) | (split <;> rename_i hg <;> (refine hK _ ?_; clear hK K) <;> (try simp only [Bool.not_eq_true] at hg) <;> (first | simp only [Int.not_lt.2 hg, decide_false] | simp only [Int.not_le.1 hg, decide_true] | simp only [hg, decide_true, decide_false] | skip))))))); all_goals (refine wpQuiet_nil ?_; intro _ hw'; obtain ⟨nq, hw''⟩ := hw'; subst hw''))
          go_wp2_with fail
          go_ret
          exact ⟨ret_bool HQ.out.symm, below_drewN hbwr _⟩
        · have dg2 : decide (f < d.to_) = false := decide_eq_false g2
          have HQ := Lib.hid (HT.out.trans (show _ = false by simp [ovB, g2]))
          go_upto_region 7 with (fail)
          ((with_reducible refine wp_region_quiet_lit ?_ ?_ ?_); kernel_rfl; kernel_rfl; (repeat (any_goals (first | go_big_quiet_step (fail) | (refine wpQuiet_step (fun K hK => ?_); go_simp; (first | (refine hK _ ?_; clear hK K) | (split <;> rename_i hg <;> (refine hK _ ?_; clear hK K) <;> (try simp only [Bool.not_eq_true] at hg) <;> (first | simp only [Int.not_lt.2 hg, decide_false] | simp only [Int.not_le.1 hg, decide_true] | simp only [hg, decide_true, decide_false] | skip))))))); all_goals (refine wpQuiet_nil ?_; intro _ hw'; obtain ⟨nq, hw''⟩ := hw'; subst hw''))
          go_wp2_with fail
          go_roundw
          case rel => exact ⟨k + 1, by omega, by go_num, below_drewN hbr _, HQ.out⟩
          case measure => simp [intOf]; omega
      · have dg1 : decide (d.from_ < t) = false := decide_eq_false g1
        have HQ := Lib.hid (HT.out.trans (show _ = false by simp [ovB, g1]))
        go_upto_region 7 with (fail)
        ((with_reducible refine wp_region_quiet_lit ?_ ?_ ?_); kernel_rfl; kernel_rfl; (repeat (any_goals (first | go_big_quiet_step (fail) | (refine wpQuiet_step (fun K hK => ?_); go_simp; (first | (refine hK _ ?_; clear hK K) | (split <;> rename_i hg <;> (refine hK _ ?_; clear hK K) <;> (try simp only [Bool.not_eq_true] at hg) <;> (first | simp only [Int.not_lt.2 hg, decide_false] | simp only [Int.not_le.1 hg, decide_true] | simp only [hg, decide_true, decide_false] | skip))))))); all_goals (refine wpQuiet_nil ?_; intro _ hw'; obtain ⟨nq, hw''⟩ := hw'; subst hw''))
        go_wp2_with fail
        go_roundw
        case rel => exact ⟨k + 1, by omega, by go_num, below_drewN hbr _, HQ.out⟩
        case measure => simp [intOf]; omega
    · obtain rfl : n1 = k := by omega
      have hkn : ¬ ((n1 : Int) < (n1 : Int)) := by omega
      have HQ := Lib.hid (HFR.out.trans (show _ = true by have h := HNO.out; rw [List.take_of_length_le (by have := HLN.out; omega)] at h; rw [h]; rfl))
      go_wp2_with fail
      go_ret
      exact ⟨ret_bool HQ.out.symm, hbw2.trans (hbr.mono hbw2.size)⟩
end Nb
end Go.Proofs.Yteaanngagcflhaa
