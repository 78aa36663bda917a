/-
  Subscriptions: periods, and how they are joined. No condition.
-/
import Derived.Test.YteaanngagcflhaaKc24
import Derived.Test.YteaanngagcflhaaKc18
import Derived.BigQuiet
import Derived.StillTailTactics
import Derived.Lib.Overlaps
import Derived.Deep.DeepCutAuto
import Derived.Deep.RegionWith
import Derived.Laws.RangeAny
set_option maxRecDepth 100000
set_option linter.unusedVariables false
set_option linter.unusedSimpArgs false
namespace Go.Proofs.Yteaanngagcflhaa
open Go.RowKit
namespace Ss
open Cu
structure Pd where
  from_ : Int
  to_ : Int
instance : Flat Pd where
  sz := 2
  pos := by decide
  cells d := [.int .i64 d.from_, .int .i64 d.to_]
  len _ := rfl
  one _ := by simp [Value.oneCell']
theorem Pd.ext_ {a b : Pd} (h1 : a.from_ = b.from_) (h2 : a.to_ = b.to_) : a = b := by cases a; cases b; simp_all
def addP (out : List Pd) (p : Pd) : List Pd := match out.getLast? with
  | some d => if d.to_ = p.from_ then out.dropLast ++ [⟨d.from_, p.to_⟩] else out ++ [p]
  | none => out ++ [p]
def jnP (P : List Pd) : Nat → List Pd
  | 0 => []
  | k + 1 => match P[k]? with
    | some p => addP (jnP P k) p
    | none => jnP P k
theorem jnP_succ {P : List Pd} {k : Nat} {p : Pd} (h : P[k]? = some p) : jnP P (k + 1) = addP (jnP P k) p := by
  show (match P[k]? with | some p => addP (jnP P k) p | none => jnP P k) = _
  rw [h]
theorem addP_nil {out : List Pd} {p : Pd} (h : out.length = 0) : addP out p = out ++ [p] := by
  obtain rfl := List.eq_nil_of_length_eq_zero h; rfl
theorem addP_at {out : List Pd} {p d : Pd} {n : Nat} (hn : out.length = n) (hd : out[n - 1]? = some d) : addP out p = if d.to_ = p.from_ then out.set (n - 1) ⟨d.from_, p.to_⟩ else out ++ [p] := by
  have hl : out.getLast? = some d := by rw [List.getLast?_eq_getElem?, hn, hd]
  have h0 : 0 < n := by
    by_cases h0 : 0 < n
    · exact h0
    · have := (List.getElem?_eq_some_iff.1 hd).1; omega
  unfold addP
  rw [hl]
  dsimp only
  split
  · have hne : out ≠ [] := fun e => by rw [e] at hl; cases hl
    have hs := List.dropLast_concat_getLast hne
    conv => rhs; rw [← hs]
    rw [List.set_append_right _ _ (by rw [List.length_dropLast]; omega)]
    congr 1
    rw [List.length_dropLast, hn, Nat.sub_self]; rfl
  · rfl
theorem jnP_len {P : List Pd} : ∀ k, (jnP P k).length ≤ k
  | 0 => Nat.le_refl _
  | k + 1 => by
    have ih := jnP_len (P := P) k
    cases h : P[k]? with
    | none => show (match P[k]? with | some p => addP (jnP P k) p | none => jnP P k).length ≤ _; rw [h]; dsimp only; omega
    | some m =>
      rw [jnP_succ h]
      unfold addP
      split
      · split
        · simp only [List.length_append, List.length_dropLast, List.length_singleton]; omega
        · simp; omega
      · simp; omega
theorem infoP : (Try.prog.info? 68).map (fun i => (i.zero, i.size, i.bytes)) = some (some (.agg #[.int .i64 0, .int .i64 0]), 2, 16) := by kernel_rfl
theorem stored2 {w : World} {base : Nat} {e : TypeId} {g n cap i : Nat} {xs : List Pd} {d : Pd} (h : Ow w base e (.slice (some ⟨g, 0, none⟩) n cap) xs) (hx : xs[i]? = some d) (t : Int) :
    Ow ((w.setCell ⟨g, i * 2, none⟩ (.int .i64 d.from_)).setCell ⟨g, i * 2 + 1, none⟩ (.int .i64 t)) base e (.slice (some ⟨g, 0, none⟩) n cap) (xs.set i ⟨d.from_, t⟩) := by
  have hl := (List.getElem?_eq_some_iff.1 hx).1
  have h0 := Ow.stored h hx 0 (.int .i64 d.from_) (by decide) (show Flat.cells d = (Flat.cells d).set 0 _ from rfl)
  have h1 := Ow.stored h0 (show (xs.set i d)[i]? = some d by simp [hl]) 1 (.int .i64 t) (by decide) (show Flat.cells (⟨d.from_, t⟩ : Pd) = (Flat.cells d).set 1 _ from rfl)
  rw [List.set_set] at h1
  exact h1
set_option maxHeartbeats 4000000 in
theorem during1_any (u v : Pd) (w : World) :
    Calls Try.prog 113 #[.agg #[.int .i64 u.from_, .int .i64 u.to_], .agg #[.int .i64 v.from_, .int .i64 v.to_]] w fun r w' => r = .returned (.bool (u.to_ == v.from_)) ∧ Below w.heap.size w w' := by
  go_enter Try.func113, Try.ntmps113
  go_upto_region 1 with (fail)
  (obtain ⟨W, hWW, hbW, hzW, f1W, f2W, qfa, qfb⟩ := box2 w #[.int .i64 u.from_, .int .i64 u.to_] 68 #[.int .i64 v.from_, .int .i64 v.to_] 68; rw [← hWW]; have qa0 : W.cell? ⟨w.heap.size, 0, none⟩ = some (.int .i64 u.from_) := f1W 0 _ rfl; have qa1 : W.cell? ⟨w.heap.size, 1, none⟩ = some (.int .i64 u.to_) := f1W 1 _ rfl; have qb0 : W.cell? ⟨w.heap.size + 1, 0, none⟩ = some (.int .i64 v.from_) := f2W 0 _ rfl; have qb1 : W.cell? ⟨w.heap.size + 1, 1, none⟩ = some (.int .i64 v.to_) := f2W 1 _ rfl; clear hWW f1W f2W)
  go_wp2_with fail
  go_ret
  exact ⟨rfl, hbW⟩
set_option maxHeartbeats 4000000 in
theorem during2_any (u v : Pd) (w : World) :
    Calls Try.prog 114 #[.agg #[.int .i64 u.from_, .int .i64 u.to_], .agg #[.int .i64 v.from_, .int .i64 v.to_]] w fun r w' => r = .returned (.agg #[.int .i64 u.from_, .int .i64 v.to_]) ∧ Below w.heap.size w w' := by
  go_enter Try.func114, Try.ntmps114
  go_upto_region 1 with (fail)
  obtain ⟨W, hW, hbW, hzW, f1, f2, f3, ff1, ff3⟩ := box3 w #[.int .i64 u.from_, .int .i64 u.to_] #[.int .i64 v.from_, .int .i64 v.to_] #[.int .i64 0, .int .i64 0] 68 68 68
  rw [← hW]
  have va0 := f1 0 _ rfl
  have vb1 := f2 1 _ rfl
  have rc0 := f3 0 _ rfl
  have rc1 := f3 1 _ rfl
  clear hW f1 f2
  have hgX : w.heap.size + 1 + 1 < W.heap.size := by omega
  go_wp2_with fail
  have hold : ∀ j x, [.int .i64 0, .int .i64 0][j]? = some x → W.cell? ⟨w.heap.size + 1 + 1, 0 + j, none⟩ = some x := fun j x hx => by rw [Nat.zero_add]; exact f3 j x hx
  have hr := setRun_is (vs := [.int .i64 u.from_, .int .i64 v.to_]) hold (Nat.le_refl _)
  refine bodyPost_ret (results_cells rfl _ _ (w.heap.size + 1 + 1) ⟨[.int .i64 u.from_, .int .i64 v.to_]⟩ _ rfl hr rfl rfl rfl) rfl ?_
  exact ⟨rfl, setRun_below [.int .i64 u.from_, .int .i64 v.to_] _ 0 hbW (by omega)⟩
def PI_ (w : World) (A : Option Addr) (n c : Nat) (P : List Pd) : Prop := (A = none → c = 0) ∧ Sl w A n c P
theorem PI_.on {w w' : World} {A : Option Addr} {n c : Nat} {P : List Pd} (h : PI_ w A n c P) (hb : Below w.heap.size w w') : PI_ w' A n c P := ⟨h.1, h.2.below hb⟩
set_option maxHeartbeats 16000000 in
theorem joinP_any (A : Option Addr) (n c : Nat) (P : List Pd) (w : World) (h : Sl w A n c P) (hn9 : n ≤ 1000) :
    Calls Try.prog 112 #[.slice A n c, .func (.func 113) #[] #[], .func (.func 114) #[] #[]] w fun r w' => (∃ A' n' c', r = .returned (.slice A' n' c') ∧ PI_ w' A' n' c' (jnP P P.length)) ∧ Below w.heap.size w w' := by
  have HS := Lib.hid h
  have HL := Lib.hid h.len
  clear h
  go_enter Try.func112, Try.ntmps112
  go_wp2_with fail
  go_loopw [7, 13] (fun V i wr => ∃ k : Nat, k ≤ n ∧ i = .int .i64 k ∧ Ow wr w.heap.size 68 V (jnP P k) ∧ Below w.heap.size w wr) (fun _ i _ => n - (intOf i).toNat)
  case atStart => exact ⟨0, Nat.zero_le _, rfl, Ow.nil_ _ _ _, Below.refl _ _⟩
  case round =>
    obtain ⟨k, hk, rfl, ho, hbr⟩ := hrel
    obtain ⟨A1, c1, rfl, _, _⟩ := ho.val
    obtain ⟨n1, hn1⟩ : ∃ n1, (jnP P k).length = n1 := ⟨_, rfl⟩
    have hn1k : n1 ≤ k := by rw [← hn1]; exact jnP_len k
    rw [hn1] at ho ⊢
    have HO := Lib.hid ho
    have HN1 := Lib.hid hn1
    have hgr := hbr.size
    clear ho hn1
    by_cases hlt : k < n
    · obtain ⟨b, off, hAe, hbl, hcells⟩ := HS.out.baseIn hbr (by omega)
      obtain ⟨d, hd⟩ := HS.out.get hlt
      have hbl2 : b < wr.heap.size := Nat.lt_of_lt_of_le hbl hgr
      have e0 : wr.cell? ⟨b, off + k * 2, none⟩ = some (.int .i64 d.from_) := Sl.at_ hcells hd 0 rfl
      have e1 : wr.cell? ⟨b, off + k * 2 + 1, none⟩ = some (.int .i64 d.to_) := Sl.at_ hcells hd 1 rfl
      have HSUC := Lib.hid (jnP_succ hd)
      have hkw : IntKind.i64.wrap ((k : Int) + 1) = (k : Int) + 1 := IntWalk.i64_in _ (by omega)
      obtain ⟨J, hJ⟩ : ∃ J, jnP P k = J := ⟨_, rfl⟩
      rw [hJ] at HSUC HO HN1
      subst hAe
      clear hcells hd hJ
      go_upto_region 5 with (fail)
      (obtain ⟨Z, hWZ, hbZ, hzZ, f1Z, pfa⟩ := box1 wr #[.int .i64 d.from_, .int .i64 d.to_] 68; rw [← hWZ]; have pa0 : Z.cell? ⟨wr.heap.size, 0, none⟩ = some (.int .i64 d.from_) := f1Z 0 _ rfl; have pa1 : Z.cell? ⟨wr.heap.size, 1, none⟩ = some (.int .i64 d.to_) := f1Z 1 _ rfl; clear hWZ f1Z)
      replace HO := Lib.hid (HO.out.below hbZ)
      have hbrZ := hbr.trans (hbZ.mono hbr.size)
      have hgZ : w.heap.size ≤ Z.heap.size := hbrZ.size
      clear e0 e1 hbZ hbr
      go_upto_region 6 with (fail)
      obtain ⟨bb, hbb⟩ : ∃ bb : Bool, (bb = true ∧ 0 < n1 ∧ ∃ u, J[n1 - 1]? = some u ∧ u.to_ = d.from_) ∨ (bb = false ∧ (n1 = 0 ∨ ∃ u, J[n1 - 1]? = some u ∧ ¬ u.to_ = d.from_)) := by
        by_cases h0 : n1 = 0
        · exact ⟨false, .inr ⟨rfl, .inl h0⟩⟩
        · obtain ⟨u, hu⟩ : ∃ u, J[n1 - 1]? = some u := ⟨_, List.getElem?_eq_getElem (by have := HN1.out; omega)⟩
          by_cases he : u.to_ = d.from_
          · exact ⟨true, .inl ⟨rfl, by omega, u, hu, he⟩⟩
          · exact ⟨false, .inr ⟨rfl, .inr ⟨u, hu, he⟩⟩⟩
      have HBB := Lib.hid hbb
      clear hbb
      go_cut [30] from 49 (fun v wx => v = .bool bb ∧ Below Z.heap.size Z wx)
      case first =>
        by_cases h0 : n1 = 0
        · have hb2 : bb = false := by rcases HBB.out with ⟨_, h, _⟩ | ⟨h, _⟩; omega; exact h
          subst hb2
          clear HBB
          subst h0
          have kd : decide ((0 : Int) < 0) = false := rfl
          ((with_reducible refine wp_region_quiet_lit ?_ ?_ ?_); kernel_rfl; kernel_rfl; (repeat (any_goals (first | go_big_quiet_step (fail) | (refine wpQuiet_step (fun K hK => ?_); go_simp; (first | (refine hK _ ?_; clear hK K) | (split <;> rename_i hg <;> (refine hK _ ?_; clear hK K) <;> (try simp only [Bool.not_eq_true] at hg) <;> (first | simp only [Int.not_lt.2 hg, decide_false] | simp only [Int.not_le.1 hg, decide_true] | simp only [hg, decide_true, decide_false] | skip))))))); all_goals (refine wpQuiet_nil ?_; intro _ hw'; obtain ⟨nq, hw''⟩ := hw'; subst hw''))
          go_wp2_with fail
          go_meet
          exact ⟨rfl, below_drewN (Below.refl _ _) _⟩
        · obtain ⟨G, cap, cur, hA, hbg, hcur⟩ := HO.out.whole (by have := HN1.out; omega)
          have hA1 : A1 = some ⟨G, 0, none⟩ := by injection hA
          obtain ⟨u, hu, hb2⟩ : ∃ u, J[n1 - 1]? = some u ∧ bb = (u.to_ == d.from_) := by
            rcases HBB.out with ⟨h1, _, u, h2, h3⟩ | ⟨h1, h2 | ⟨u, h2, h3⟩⟩
            · exact ⟨u, h2, by rw [h1, (be_t h3).1]⟩
            · exact absurd h2 h0
            · exact ⟨u, h2, by rw [h1, (be_f h3).1]⟩
          subst hA1
          have hgz := (HO.out.ltG).2
          have g0 : Z.cell? ⟨G, (n1 - 1) * 2 + 0, none⟩ = some (.int .i64 u.from_) := HO.out.at_ hu 0 rfl
          have g1 : Z.cell? ⟨G, (n1 - 1) * 2 + 1, none⟩ = some (.int .i64 u.to_) := HO.out.at_ hu 1 rfl
          rw [Nat.add_zero] at g0
          have hkl : n1 - 1 < n1 := by omega
          have kd : decide ((0 : Int) < (n1 : Int)) = true := decide_eq_true (by omega)
          have kp : 0 < n1 := by omega
          have kn : decide (0 < n1) = true := decide_eq_true kp
          have hm1 : IntKind.i64.wrap ((n1 : Int) - 1) = ((n1 - 1 : Nat) : Int) := by rw [IntWalk.i64_in _ (by omega)]; omega
          have HSP : Hid (∀ z, Below Z.heap.size Z z → Calls Try.prog 113 #[.agg #[.int .i64 u.from_, .int .i64 u.to_], .agg #[.int .i64 d.from_, .int .i64 d.to_]] z fun r w' => r = .returned (.bool bb) ∧ Below z.heap.size z w') := Lib.hid fun z hz => by
            have h := during1_any u d z
            rw [← hb2] at h
            exact h
          clear HBB hA hbg hcur hu hb2 h0
          ((with_reducible refine wp_region_class (Below Z.heap.size Z) ?_ ?_ ?_ ?_); kernel_rfl; kernel_rfl; (exact (Below.refl _ _).drew); (intro hnonemp); (have zg0 := fun z : Wd (Below Z.heap.size Z) => cl z.h g0; have zg1 := fun z : Wd (Below Z.heap.size Z) => cl z.h g1; have zpa0 := fun z : Wd (Below Z.heap.size Z) => cl z.h pa0; have zpa1 := fun z : Wd (Below Z.heap.size Z) => cl z.h pa1); (repeat (any_goals (first | go_big_quiet_step (((first | (go_at_call 113; (with_reducible refine (HSP.out _ (Wd.h _)).mono ?_); rintro e w' ⟨rfl, hbk⟩; exact ⟨rfl, ⟨w', Below.trans (Wd.h _) (hbk.mono (Below.size (Wd.h _)))⟩, rfl⟩)))) | (refine wpQuiet_step (fun K hK => ?_); go_simp; (first | (refine hK _ ?_; clear hK K) | (split <;> rename_i hg <;> (refine hK _ ?_; clear hK K) <;> (try simp only [Bool.not_eq_true] at hg) <;> (first | simp only [Int.not_lt.2 hg, decide_false] | simp only [Int.not_le.1 hg, decide_true] | simp only [hg, decide_true, decide_false] | skip)))))));  all_goals (refine wpQuiet_nil ?_; intro wq hgq))
          go_wp2_with fail
          go_meet
          exact ⟨rfl, hgq⟩
      case rest =>
        obtain ⟨rfl, hbC⟩ := hcut
        replace HO := Lib.hid (HO.out.below hbC)
        have hgC := hbC.size
        have hbrC := hbrZ.trans (hbC.mono hbrZ.size)
        replace pa0 := cl hbC pa0
        replace pa1 := cl hbC pa1
        have hwrc : wr.heap.size < wc.heap.size := Nat.lt_of_lt_of_le hzZ hbC.size
        clear hbC hbrZ
        cases bb
        case false =>
          have HE : Hid (addP J d = J ++ [d]) := Lib.hid (by
            rcases HBB.out with ⟨h, _⟩ | ⟨_, h | ⟨u, h1, h2⟩⟩
            · cases h
            · exact addP_nil (HN1.out.trans h)
            · rw [addP_at HN1.out h1, if_neg h2])
          go_wp2_with (at_builtin; go_must (refine wpl_append1 _ rfl (.tmp 43) (.tmp 45) 84 rfl w.heap.size 68 _ 16 Try.underlying84 infoP rfl (.slice A1 n1 c1) J rfl (HO.out.alloc _) _ (d : Pd) rfl (fun j u hu => cells_new _ _ _ _ _ (by simp) u hu) (by rw [HN1.out]; omega) (by omega) (by rw [World.size_alloc]; omega) ?_; intro v7 w7 ho7 hu7; have HB7 := Lib.hid (hu7.belowBase (HO.out.alloc _) (hbrC.alloc (by omega) _) (by rw [World.size_alloc]; omega)); have HO7 := Lib.hid ho7; clear ho7 hu7))
          go_roundw
          case rel => exact ⟨k + 1, by omega, by go_num, by rw [HSUC.out, HE.out]; exact HO7.out, HB7.out⟩
          case measure => simp [intOf]; omega
        case true =>
          obtain ⟨hpos, u, hu, hut⟩ : 0 < n1 ∧ ∃ u, J[n1 - 1]? = some u ∧ u.to_ = d.from_ := by
            rcases HBB.out with ⟨_, h⟩ | ⟨h, _⟩
            · exact h
            · cases h
          have HE : Hid (addP J d = J.set (n1 - 1) ⟨u.from_, d.to_⟩) := Lib.hid (by rw [addP_at HN1.out hu, if_pos hut])
          obtain ⟨G, cap, cur, hA, hbg, hcur⟩ := HO.out.whole (by have := HN1.out; omega)
          have hA1 : A1 = some ⟨G, 0, none⟩ := by injection hA
          subst hA1
          have hgz := (HO.out.ltG).2
          have hgB := (HO.out.ltG).1
          have hkl : n1 - 1 < n1 := by omega
          have gf := HO.out.unfrozen
          have HU := Lib.hid hu
          have g0 : wc.cell? ⟨G, (n1 - 1) * 2 + 0, none⟩ = some (.int .i64 u.from_) := HO.out.at_ hu 0 rfl
          have g1 : wc.cell? ⟨G, (n1 - 1) * 2 + 1, none⟩ = some (.int .i64 u.to_) := HO.out.at_ hu 1 rfl
          rw [Nat.add_zero] at g0
          have hm1 : IntKind.i64.wrap ((n1 : Int) - 1) = ((n1 - 1 : Nat) : Int) := by rw [IntWalk.i64_in _ (by omega)]; omega
          clear hA hbg hcur hu hut HBB
          go_upto_region 7 with (fail)
          refine Gr.region_grow 12 [] (by kernel_rfl) rfl rfl (by kernel_rfl) (by kernel_rfl) (by rfl) (by rfl) stays_nil ?_
          intro hnonemp hcr
          simp only [List.take_succ_cons, List.take_zero]
          refine Gr.gr_plain rfl rfl rfl ?_; (first | go_big_quiet_skip | (go_big_quiet_want; go_big_quiet_op; go_big_quiet_on)); refine wpQuiet_nil ?_
          refine Gr.gr_plain rfl rfl rfl ?_; (first | go_big_quiet_skip | (go_big_quiet_want; go_big_quiet_op; go_big_quiet_on)); refine wpQuiet_nil ?_
          refine Gr.gr_plain rfl rfl rfl ?_; (first | go_big_quiet_skip | (go_big_quiet_want; go_big_quiet_op; go_big_quiet_on)); refine wpQuiet_nil ?_
          refine Gr.gr_plain rfl rfl rfl ?_; (first | go_big_quiet_skip | (go_big_quiet_want; go_big_quiet_op; go_big_quiet_on)); refine wpQuiet_nil ?_
          refine Gr.gr_plain rfl rfl rfl ?_; (first | go_big_quiet_skip | (go_big_quiet_want; go_big_quiet_op; go_big_quiet_on)); refine wpQuiet_nil ?_
          refine Gr.gr_plain rfl rfl rfl ?_; (first | go_big_quiet_skip | (go_big_quiet_want; go_big_quiet_op; go_big_quiet_on)); refine wpQuiet_nil ?_
          refine Gr.gr_plain rfl rfl rfl ?_; (first | go_big_quiet_skip | (go_big_quiet_want; go_big_quiet_op; go_big_quiet_on)); refine wpQuiet_nil ?_
          refine Gr.gr_plain rfl rfl rfl ?_; (first | go_big_quiet_skip | (go_big_quiet_want; go_big_quiet_op; go_big_quiet_on)); refine wpQuiet_nil ?_
          refine Gr.gr_plain rfl rfl rfl ?_; (first | go_big_quiet_skip | (go_big_quiet_want; go_big_quiet_op; go_big_quiet_on)); refine wpQuiet_nil ?_
          refine Gr.gr_plain rfl rfl rfl ?_; (first | go_big_quiet_skip | (go_big_quiet_want; go_big_quiet_op; go_big_quiet_on)); refine wpQuiet_nil ?_
          refine Gr.gr_dyn (.tmp 34) #[] (.agg #[.int .i64 u.from_, .int .i64 d.to_]) Try.func114 (by kernel_rfl) rfl rfl rfl (fun vals => rfl) rfl (by simp only [Act.put, List.setIfInBounds_toArray, List.set_cons_succ, List.set_cons_zero]; rfl) (fun z vals => ?_) ?_
          · exact ⟨#[.agg #[.int .i64 u.from_, .int .i64 u.to_], .agg #[.int .i64 d.from_, .int .i64 d.to_]], (by first | (simp [ev, Act.eval] <;> rfl) | (simp [ev, Act.eval, It.val]; done)), during2_any u d z.w⟩
          refine Gr.gr_plain rfl rfl rfl ?_; (first | go_big_quiet_skip | (go_big_quiet_want; go_big_quiet_op; go_big_quiet_on)); refine wpQuiet_nil ?_
          intro wy vals hgq hkn
          simp only [over, Nk, List.map_nil, List.foldl_nil]
          have hgG : G < wy.heap.size := Nat.lt_of_lt_of_le hgz hgq.size
          replace g0 := cl hgq g0
          replace g1 := cl hgq g1
          replace gf := cz hgq gf
          have HOY := Lib.hid (stored2 (HO.out.below hgq) HU.out d.to_)
          have HBY := Lib.hid (((hbrC.trans (hgq.mono hbrC.size)).setCell (p := ⟨G, (n1 - 1) * 2, none⟩) hgB (.int .i64 u.from_)).setCell (p := ⟨G, (n1 - 1) * 2 + 1, none⟩) hgB (.int .i64 d.to_))
          clear hcr hkn hnonemp hgq
          go_wp2_with fail
          go_roundw
          case rel => exact ⟨k + 1, by omega, by go_num, by rw [HSUC.out, HE.out]; exact HOY.out, HBY.out⟩
          case measure => simp [intOf]; omega
    · obtain rfl : n = k := by omega
      have hkn : ¬ ((n : Int) < (n : Int)) := by omega
      go_wp2_with fail
      go_ret
      have ho := HO.out
      rw [← HN1.out] at ho ⊢
      obtain ⟨A', c', e, h0, hs⟩ := ho.slN
      exact ⟨⟨A', _, c', congrArg Ending.returned e, h0, by rw [HL.out]; exact hs⟩, hbr⟩
end Ss
end Go.Proofs.Yteaanngagcflhaa
namespace Go.Proofs.Yteaanngagcflhaa
open Go.RowKit
namespace Ss
open Cu
def inV (t : Int) (d : Iv Q) : Bool := decide (d.from_ ≤ t) && decide (t < d.to_)
def iv0 : Iv Q := ⟨0, 0, ⟨nEmpty, [], false, false⟩⟩
def atI (L : List (Iv Q)) (t : Int) : Option (Iv Q) := L.find? (inV t)
theorem inV_t {t : Int} {d : Iv Q} (h1 : d.from_ ≤ t) (h2 : t < d.to_) : inV t d = true := by unfold inV; rw [decide_eq_true h1, decide_eq_true h2]; rfl
theorem inV_f1 {t : Int} {d : Iv Q} (h1 : ¬ d.from_ ≤ t) : inV t d = false := by unfold inV; rw [decide_eq_false h1]; rfl
theorem inV_f2 {t : Int} {d : Iv Q} (h1 : ¬ t < d.to_) : inV t d = false := by unfold inV; rw [decide_eq_false h1, Bool.and_false]
theorem inV_iff {t : Int} {d : Iv Q} : inV t d = true ↔ d.from_ ≤ t ∧ t < d.to_ := by unfold inV; rw [Bool.and_eq_true, decide_eq_true_eq, decide_eq_true_eq]
theorem spE_good {l : List Ev} (hv : Vl l) {x : Int} {d : Iv Q} (h : d ∈ spE l x) : 0 ≤ d.from_ ∧ d.from_ < d.to_ ∧ d.to_ ≤ 12622780800 := by
  have := (spE_can hv x).good d h
  exact ⟨this.1, this.2.1, this.2.2.1⟩
theorem stQ_some {l : List Ev} {x t : Int} {q : Q} (h : stQ l x t = some q) : ∃ s, liveS (bkAt l t) x = some s ∧ qOf s = q := by
  unfold stQ at h
  rw [Option.map_eq_some_iff] at h
  exact h
theorem liveS_c {b : Bk} (hb : Bok b) {n : Int} {s : Sb} (h : liveS b n = some s) : s ∈ cSubs b := by
  have hid := liveS_id h
  unfold cSubs
  refine List.mem_filterMap.2 ⟨n, ?_, h⟩
  have h2 := h
  unfold liveS at h2
  split at h2
  · cases h2
  · have := hb.sr s (findS_id h2).1; exact rngK_mem.2 (by omega)
theorem spE_q {l : List Ev} (hv : Vl l) {x : Int} {d : Iv Q} (h : d ∈ spE l x) : stQ l x d.from_ = some d.q := by
  have hg := spE_good hv h
  exact ((spE_can hv x).cov d.from_ d.q hg.1 (by unfold fo; omega)).1 ⟨d, h, Int.le_refl _, hg.2.1, rfl⟩
theorem spE_ne {l : List Ev} (hv : Vl l) {x : Int} {d : Iv Q} (h : d ∈ spE l x) : NeS d.q.prods := by
  obtain ⟨s, hs, hq⟩ := stQ_some (spE_q hv h)
  rw [← hq]
  exact (cSubs_ne (bkAt_ne hv _) s (liveS_c (at_inv hv _).2 hs)).2
theorem LR.setNe {w : World} {R o : Nat} {u old : Value} {v : Lv} {d : Iv Q} (h : LR w v d) (h0 : w.cell? ⟨R, o, none⟩ = some old) (h1 : ∀ x ∈ d.q.prods, old ≠ .string x) : LR (w.setCell ⟨R, o, none⟩ u) v d :=
  ⟨h.f, h.t, h.plan, h.a0, slSetNe h.a h0 (fun x hx j hj => by
    match j, hj with
    | 0, hj => cases hj; exact absurd rfl (h1 x hx)), h.susp, h.fam⟩
theorem LR.setRunNe {R : Nat} {v : Lv} {d : Iv Q} : ∀ (vs : List Value) {w : World} (o : Nat), LR w v d → (∀ j, j < vs.length → ∃ old, w.cell? ⟨R, o + j, none⟩ = some old ∧ ∀ x ∈ d.q.prods, old ≠ .string x) → LR (setRun w R o vs) v d
  | [], _, _, h, _ => h
  | u :: vs, w, o, h, hc => by
    obtain ⟨old, h0, h1⟩ := hc 0 (by simp)
    refine LR.setRunNe vs (o + 1) (h.setNe h0 h1) fun j hj => ?_
    obtain ⟨old', k0, k1⟩ := hc (j + 1) (by simpa using hj)
    exact ⟨old', (World.cell?_setCell_other _ _ _ _ (fun e => by injection e with e1 e2; omega)).trans (by rw [show o + 1 + j = o + (j + 1) by omega]; exact k0), k1⟩
theorem oldL {w : World} {R : Nat} {l : List ByteArray} (h : NeS l) (h0 : w.cell? ⟨R, 0, none⟩ = some (.int .i64 0)) (h1 : w.cell? ⟨R, 1, none⟩ = some (.int .i64 0)) (h2 : w.cell? ⟨R, 2, none⟩ = some (.string ⟨#[]⟩)) (h3 : w.cell? ⟨R, 3, none⟩ = some (.slice none 0 0)) (h4 : w.cell? ⟨R, 4, none⟩ = some (.bool false)) (h5 : w.cell? ⟨R, 5, none⟩ = some (.bool false)) :
    ∀ j, j < 6 → ∃ old, w.cell? ⟨R, 0 + j, none⟩ = some old ∧ ∀ x ∈ l, old ≠ .string x := fun j hj => by
  have hj' : j = 0 ∨ j = 1 ∨ j = 2 ∨ j = 3 ∨ j = 4 ∨ j = 5 := by omega
  rcases hj' with rfl | rfl | rfl | rfl | rfl | rfl
  · exact ⟨_, h0, fun _ _ e => (by cases e)⟩
  · exact ⟨_, h1, fun _ _ e => (by cases e)⟩
  · exact ⟨_, h2, fun x hx e => h x hx (by injection e with e; exact e.symm)⟩
  · exact ⟨_, h3, fun _ _ e => (by cases e)⟩
  · exact ⟨_, h4, fun _ _ e => (by cases e)⟩
  · exact ⟨_, h5, fun _ _ e => (by cases e)⟩
def lv0 : Lv := ⟨0, 0, nEmpty, none, 0, 0, false, false⟩
theorem lv0_lr (w : World) : LR w lv0 iv0 := ⟨rfl, rfl, rfl, fun _ => rfl, Sl.nil_ _, rfl, rfl⟩
set_option maxHeartbeats 4000000 in
theorem ivalid_any (f t : Int) (w : World) (h0 : 0 ≤ f) (h1 : f < t) (h2 : t ≤ 12622780800) :
    Calls Try.prog 110 #[.agg #[.int .i64 f, .int .i64 t]] w fun r w' => r = .returned (.bool true) ∧ Below w.heap.size w w' := by
  have d0 : decide (0 ≤ f) = true := decide_eq_true h0
  have d1 : decide (f < t) = true := decide_eq_true h1
  have d2 : decide (t ≤ 12622780800) = true := decide_eq_true h2
  go_enter Try.func110, Try.ntmps110
  go_upto_region 1 with (fail)
  (obtain ⟨W, hWW, hbW, hzW, f1W, qfa⟩ := box1 w #[.int .i64 f, .int .i64 t] 68; rw [← hWW]; have qa0 : W.cell? ⟨w.heap.size, 0, none⟩ = some (.int .i64 f) := f1W 0 _ rfl; have qa1 : W.cell? ⟨w.heap.size, 1, none⟩ = some (.int .i64 t) := f1W 1 _ rfl; clear hWW f1W)
  go_wp2_with fail
  go_ret
  exact ⟨rfl, hbW⟩
set_option maxHeartbeats 4000000 in
theorem icont_any (f t x : Int) (b : Bool) (w : World) (h0 : 0 ≤ f) (h1 : f < t) (h2 : t ≤ 12622780800) (hb : (decide (f ≤ x) && decide (x < t)) = b) :
    Calls Try.prog 82 #[.agg #[.int .i64 f, .int .i64 t], .int .i64 x] w fun r w' => r = .returned (.bool b) ∧ Below w.heap.size w w' := by
  have HB := Lib.hid hb
  clear hb
  go_enter Try.func82, Try.ntmps82
  go_upto_region 1 with (fail)
  (obtain ⟨W, hWW, hbW, hzW, f1W, qfa⟩ := box1 w #[.int .i64 f, .int .i64 t] 68; rw [← hWW]; have qa0 : W.cell? ⟨w.heap.size, 0, none⟩ = some (.int .i64 f) := f1W 0 _ rfl; have qa1 : W.cell? ⟨w.heap.size, 1, none⟩ = some (.int .i64 t) := f1W 1 _ rfl; clear hWW f1W)
  by_cases c1 : f ≤ x
  · have d1 : decide (f ≤ x) = true := decide_eq_true c1
    by_cases c2 : x < t
    · have d2 : decide (x < t) = true := decide_eq_true c2
      have HQ := Lib.hid (HB.out.symm.trans (by rw [d1, d2]; rfl : _ = true))
      go_wp2_with (go_at_call 110; go_must (refine (ivalid_any f t _ h0 h1 h2).mono ?_; rintro r w6 ⟨rfl, hb6⟩; replace qa0 := cl hb6 qa0; replace qa1 := cl hb6 qa1))
      go_ret
      exact ⟨ret_bool HQ.out.symm, hbW.trans (hb6.mono hbW.size)⟩
    · have d2 : decide (x < t) = false := decide_eq_false c2
      have HQ := Lib.hid (HB.out.symm.trans (by rw [d1, d2]; rfl : _ = false))
      go_wp2_with (go_at_call 110; go_must (refine (ivalid_any f t _ h0 h1 h2).mono ?_; rintro r w6 ⟨rfl, hb6⟩; replace qa0 := cl hb6 qa0; replace qa1 := cl hb6 qa1))
      go_ret
      exact ⟨ret_bool HQ.out.symm, hbW.trans (hb6.mono hbW.size)⟩
  · have d1 : decide (f ≤ x) = false := decide_eq_false c1
    have HQ := Lib.hid (HB.out.symm.trans (by rw [d1]; rfl : _ = false))
    go_wp2_with (go_at_call 110; go_must (refine (ivalid_any f t _ h0 h1 h2).mono ?_; rintro r w6 ⟨rfl, hb6⟩; replace qa0 := cl hb6 qa0; replace qa1 := cl hb6 qa1))
    go_ret
    exact ⟨ret_bool HQ.out.symm, hbW.trans (hb6.mono hbW.size)⟩
end Ss
end Go.Proofs.Yteaanngagcflhaa
