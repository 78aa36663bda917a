/-
  Subscriptions: Active, Served. No condition.
-/
import Derived.Test.YteaanngagcflhaaKc25
import Derived.BigQuiet
import Derived.StillTailTactics
import Derived.Lib.Overlaps
import Derived.Deep.DeepCutAuto
import Derived.Deep.RegionWith
import Derived.Laws.RangeAny
set_option maxRecDepth 100000
set_option linter.unusedVariables false
set_option linter.unusedSimpArgs false
namespace Go.Proofs.Yteaanngagcflhaa
open Go.RowKit
namespace Ss
open Cu
def kpI (keep : Q → Bool) (L : List (Iv Q)) : Nat → List Pd
  | 0 => []
  | k + 1 => match L[k]? with
    | some d => if keep d.q = true then kpI keep L k ++ [⟨d.from_, d.to_⟩] else kpI keep L k
    | none => kpI keep L k
theorem kpI_succ {keep : Q → Bool} {L : List (Iv Q)} {k : Nat} {d : Iv Q} (h : L[k]? = some d) : kpI keep L (k + 1) = if keep d.q = true then kpI keep L k ++ [⟨d.from_, d.to_⟩] else kpI keep L k := by
  show (match L[k]? with | some d => if keep d.q = true then kpI keep L k ++ [(⟨d.from_, d.to_⟩ : Pd)] else kpI keep L k | none => kpI keep L k) = _
  rw [h]
theorem kpI_len {keep : Q → Bool} {L : List (Iv Q)} : ∀ k, (kpI keep L k).length ≤ k
  | 0 => Nat.le_refl _
  | k + 1 => by
    have ih := kpI_len (keep := keep) (L := L) k
    cases h : L[k]? with
    | none => show (match L[k]? with | some d => if keep d.q = true then kpI keep L k ++ [(⟨d.from_, d.to_⟩ : Pd)] else kpI keep L k | none => kpI keep L k).length ≤ _; rw [h]; dsimp only; omega
    | some d =>
      rw [kpI_succ h]
      split
      · simp; omega
      · omega
def duI (keep : Q → Bool) (L : List (Iv Q)) : List Pd := jnP (kpI keep L L.length) (kpI keep L L.length).length
def kA (x : ByteArray) (q : Q) : Bool := hasS q.prods x
def kS (q : Q) : Bool := !q.susp
theorem spE_len {l : List Ev} {x : Int} : (spE l x).length ≤ l.length := by
  have h1 : (spE l x).length ≤ (jnE l x).length := spK_len _
  have h2 : (jnE l x).length ≤ (moE l x).length := jn_len _
  have h3 : (moE l x).length ≤ l.length := moN_len l.length (Nat.le_refl _)
  omega
theorem any_succ {α : Type} {p : α → Bool} {l : List α} {k : Nat} {d : α} (hd : l[k]? = some d) : (l.take (k + 1)).any p = ((l.take k).any p || p d) := by
  rw [List.take_add_one, hd, List.any_append]; simp
set_option maxHeartbeats 8000000 in
theorem active1_any (u : Lv) (d : Iv Q) (g : Nat) (x : ByteArray) (w : World) (h : LR w u d) (hg : w.cell? ⟨g, 0, none⟩ = some (.string x)) (hgl : g < w.heap.size) :
    Calls Try.prog 89 #[.agg #[.int .i64 u.f, .int .i64 u.t, .string u.plan, .slice u.A u.n u.c, .bool u.susp, .bool u.fam], .pointer (some ⟨g, 0, none⟩)] w fun r w' => r = .returned (.bool (kA x d.q)) ∧ Below w.heap.size w w' := by
  have HS := Lib.hid h.a
  have hnm := h.a.nmax
  have HL := Lib.hid h.a.len
  have HQ : Hid (kA x d.q = d.q.prods.any fun y => seq_ y x) := Lib.hid rfl
  obtain ⟨E, hE⟩ : ∃ E, kA x d.q = E := ⟨_, rfl⟩
  rw [hE] at HQ ⊢
  obtain ⟨ps, hps⟩ : ∃ ps, d.q.prods = ps := ⟨_, rfl⟩
  rw [hps] at HQ HS HL
  clear h hE hps
  go_enter Try.func89, Try.ntmps89
  go_upto_region 1 with (fail)
  (obtain ⟨W, hWW, hbW, hzW, f1W, qfa⟩ := box1 w #[.int .i64 u.f, .int .i64 u.t, .string u.plan, .slice u.A u.n u.c, .bool u.susp, .bool u.fam] 76; rw [← hWW]; have qa0 : W.cell? ⟨w.heap.size, 0, none⟩ = some (.int .i64 u.f) := f1W 0 _ rfl; have qa1 : W.cell? ⟨w.heap.size, 1, none⟩ = some (.int .i64 u.t) := f1W 1 _ rfl; have qa2 : W.cell? ⟨w.heap.size, 2, none⟩ = some (.string u.plan) := f1W 2 _ rfl; have qa3 : W.cell? ⟨w.heap.size, 3, none⟩ = some (.slice u.A u.n u.c) := f1W 3 _ rfl; have qa4 : W.cell? ⟨w.heap.size, 4, none⟩ = some (.bool u.susp) := f1W 4 _ rfl; have qa5 : W.cell? ⟨w.heap.size, 5, none⟩ = some (.bool u.fam) := f1W 5 _ rfl; clear hWW f1W)
  replace hg := cl hbW hg
  replace hgl := Nat.lt_of_lt_of_le hgl hbW.size
  go_wp2_with fail
  go_loopw [9] (fun i wr => ∃ k : Nat, k ≤ u.n ∧ i = .int .i64 k ∧ (ps.take k).any (fun y => seq_ y x) = false ∧ Below W.heap.size W wr) (fun i _ => u.n - (intOf i).toNat)
  case atStart => exact ⟨0, Nat.zero_le _, rfl, rfl, Below.refl _ _⟩
  case round =>
    obtain ⟨k, hk, rfl, hno, hbr⟩ := hrel
    have HNO := Lib.hid hno
    replace hg := cl hbr hg
    have hbw := hbW.trans (hbr.mono hbW.size)
    clear hno
    by_cases hlt : k < u.n
    · obtain ⟨b, off, hAe, hbl, hcells⟩ := HS.out.baseIn hbw (by omega)
      obtain ⟨y, hy⟩ := HS.out.get hlt
      have e0 : wr.cell? ⟨b, off + k * 1, none⟩ = some (.string y) := Sl.at_ hcells hy 0 rfl
      rw [Nat.mul_one] at e0
      have HA := Lib.hid (any_succ (p := fun y => seq_ y x) hy)
      have HY := Lib.hid hy
      have hkw : IntKind.i64.wrap ((k : Int) + 1) = (k : Int) + 1 := IntWalk.i64_in _ (by omega)
      have HAE := Lib.hid hAe
      clear hcells hy hAe
      have hA := HAE.out
      rcases u with ⟨uf, ut, up, uA, un, uc, us, ua⟩
      dsimp only at hA hlt hk e0 hbl ⊢
      subst hA
      cases hs : seq_ y x
      · have d5 : (y.toList == x.toList) = false := hs
        have HN : Hid ((ps.take (k + 1)).any (fun y => seq_ y x) = false) := Lib.hid (by rw [HA.out, HNO.out]; exact hs)
        clear hs
        go_wp2_with fail
        go_roundw
        case rel => exact ⟨k + 1, by omega, by go_num, HN.out, hbr⟩
        case measure => simp [intOf]; omega
      · have d5 : (y.toList == x.toList) = true := hs
        have HN : Hid (E = true) := Lib.hid (by rw [HQ.out, List.any_eq_true]; exact ⟨y, List.mem_of_getElem? HY.out, hs⟩)
        clear hs
        go_wp2_with fail
        go_ret
        exact ⟨ret_bool HN.out.symm, hbw⟩
    · have hkn0 : u.n = k := by omega
      have hkn : ¬ ((k : Int) < (u.n : Int)) := by omega
      have HN : Hid (E = false) := Lib.hid (by rw [HQ.out, ← HNO.out, List.take_of_length_le (by have := HL.out; omega)])
      clear hkn0
      go_wp2_with fail
      go_ret
      exact ⟨ret_bool HN.out.symm, hbw⟩
set_option maxHeartbeats 4000000 in
theorem served1_any (u : Lv) (d : Iv Q) (w : World) (h : LR w u d) :
    Calls Try.prog 91 #[.agg #[.int .i64 u.f, .int .i64 u.t, .string u.plan, .slice u.A u.n u.c, .bool u.susp, .bool u.fam]] w fun r w' => r = .returned (.bool (kS d.q)) ∧ Below w.heap.size w w' := by
  have HQ : Hid ((!u.susp) = kS d.q) := Lib.hid (by rw [h.susp]; rfl)
  clear h
  go_enter Try.func91, Try.ntmps91
  go_upto_region 1 with (fail)
  (obtain ⟨W, hWW, hbW, hzW, f1W, qfa⟩ := box1 w #[.int .i64 u.f, .int .i64 u.t, .string u.plan, .slice u.A u.n u.c, .bool u.susp, .bool u.fam] 76; rw [← hWW]; have qa0 : W.cell? ⟨w.heap.size, 0, none⟩ = some (.int .i64 u.f) := f1W 0 _ rfl; have qa1 : W.cell? ⟨w.heap.size, 1, none⟩ = some (.int .i64 u.t) := f1W 1 _ rfl; have qa2 : W.cell? ⟨w.heap.size, 2, none⟩ = some (.string u.plan) := f1W 2 _ rfl; have qa3 : W.cell? ⟨w.heap.size, 3, none⟩ = some (.slice u.A u.n u.c) := f1W 3 _ rfl; have qa4 : W.cell? ⟨w.heap.size, 4, none⟩ = some (.bool u.susp) := f1W 4 _ rfl; have qa5 : W.cell? ⟨w.heap.size, 5, none⟩ = some (.bool u.fam) := f1W 5 _ rfl; clear hWW f1W)
  go_wp2_with fail
  go_ret
  exact ⟨ret_bool HQ.out, hbW⟩
set_option maxHeartbeats 8000000 in
theorem duringA_any (A : Option Addr) (n c : Nat) (l : List Ev) (x : Int) (p : ByteArray) (g : Nat) (w : World) (hs : Sl w A n c l) (hv : Vl l) (hg : w.cell? ⟨g, 0, none⟩ = some (.string p)) (hgl : g < w.heap.size) :
    Calls Try.prog 88 #[.slice A n c, .int .i64 x, .func (.func 89) #[] #[.pointer (some ⟨g, 0, none⟩)]] w fun r w' => (∃ A' n' c', r = .returned (.slice A' n' c') ∧ PI_ w' A' n' c' (duI (kA p) (spE l x))) ∧ Below w.heap.size w w' := by
  have HS := Lib.hid hs
  have HV := Lib.hid hv
  have HL := Lib.hid hs.len
  have h1000 : n ≤ 1000 := by have := hs.len; have := hv.1; omega
  clear hs hv
  go_enter Try.func88, Try.ntmps88
  go_wp2_with (go_at_call 55; go_must (refine (Spells_any A n c l x _ HS.out h1000).mono ?_; rintro r w5 ⟨⟨A2, n2, c2, rfl, h2⟩, hb5⟩; have H2 := Lib.hid h2; clear h2))
  obtain ⟨_, xs, hxs, hall⟩ := H2.out
  have HX := Lib.hid hxs
  have HA := Lib.hid hall
  have HXL := Lib.hid hxs.len
  have hn2 : n2 ≤ 1000 := by have := hall.1; have := hxs.len; have := spE_len (l := l) (x := x); have := HL.out; omega
  obtain ⟨SP, hSP⟩ : ∃ SP, spE l x = SP := ⟨_, rfl⟩
  have HDU : Hid (duI (kA p) (spE l x) = jnP (kpI (kA p) SP SP.length) (kpI (kA p) SP SP.length).length) := Lib.hid (by rw [hSP]; rfl)
  rw [hSP] at HA
  have HSPL : Hid (SP.length = n2) := Lib.hid (HA.out.1.symm.trans HXL.out)
  clear hxs hall hSP H2
  replace hg := cl hb5 hg
  replace hgl := Nat.lt_of_lt_of_le hgl hb5.size
  go_loopw [7, 14] (fun V i wr => ∃ k : Nat, k ≤ n2 ∧ i = .int .i64 k ∧ Ow wr w5.heap.size 68 V (kpI (kA p) SP k) ∧ Below w5.heap.size w5 wr) (fun _ i _ => n2 - (intOf i).toNat)
  case atStart => exact ⟨0, Nat.zero_le _, rfl, Ow.nil_ _ _ _, Below.refl _ _⟩
  case round =>
    obtain ⟨k, hk, rfl, ho, hbr⟩ := hrel
    obtain ⟨A1, c1, rfl, _, _⟩ := ho.val
    obtain ⟨n1, hn1⟩ : ∃ n1, (kpI (kA p) SP k).length = n1 := ⟨_, rfl⟩
    have hn1k : n1 ≤ k := by rw [← hn1]; exact kpI_len k
    rw [hn1] at ho ⊢
    have HO := Lib.hid ho
    have HN1 := Lib.hid hn1
    have hgr := hbr.size
    clear ho hn1
    by_cases hlt : k < n2
    · obtain ⟨b, off, hAe, hbl, hcells⟩ := HX.out.baseIn hbr (by omega)
      obtain ⟨v, hv⟩ := HX.out.get hlt
      obtain ⟨y, hy, hlr⟩ := HA.out.at_ hv
      have e0 : wr.cell? ⟨b, off + k * 6, none⟩ = some (.int .i64 v.f) := Sl.at_ hcells hv 0 rfl
      have e1 : wr.cell? ⟨b, off + k * 6 + 1, none⟩ = some (.int .i64 v.t) := Sl.at_ hcells hv 1 rfl
      have e2 : wr.cell? ⟨b, off + k * 6 + 2, none⟩ = some (.string v.plan) := Sl.at_ hcells hv 2 rfl
      have e3 : wr.cell? ⟨b, off + k * 6 + 3, none⟩ = some (.slice v.A v.n v.c) := Sl.at_ hcells hv 3 rfl
      have e4 : wr.cell? ⟨b, off + k * 6 + 4, none⟩ = some (.bool v.susp) := Sl.at_ hcells hv 4 rfl
      have e5 : wr.cell? ⟨b, off + k * 6 + 5, none⟩ = some (.bool v.fam) := Sl.at_ hcells hv 5 rfl
      have HLR := Lib.hid hlr
      have HSUC := Lib.hid (kpI_succ (keep := (kA p)) hy)
      have HFT : Hid ((⟨v.f, v.t⟩ : Pd) = ⟨y.from_, y.to_⟩) := Lib.hid (Pd.ext_ hlr.f hlr.t)
      have hkw : IntKind.i64.wrap ((k : Int) + 1) = (k : Int) + 1 := IntWalk.i64_in _ (by omega)
      obtain ⟨J, hJ⟩ : ∃ J, kpI (kA p) SP k = J := ⟨_, rfl⟩
      rw [hJ] at HSUC HO HN1
      obtain ⟨q, hq⟩ : ∃ q, (kA p) y.q = q := ⟨_, rfl⟩
      rw [hq] at HSUC
      have HQ := Lib.hid hq
      subst hAe
      clear hcells hv hy hlr hJ hq
      go_upto_region 5 with (fail)
      (obtain ⟨X, hWX, hbX, hzX, f1X, efa⟩ := box1 wr #[.int .i64 v.f, .int .i64 v.t, .string v.plan, .slice v.A v.n v.c, .bool v.susp, .bool v.fam] 76; rw [← hWX]; have ea0 : X.cell? ⟨wr.heap.size, 0, none⟩ = some (.int .i64 v.f) := f1X 0 _ rfl; have ea1 : X.cell? ⟨wr.heap.size, 1, none⟩ = some (.int .i64 v.t) := f1X 1 _ rfl; have ea2 : X.cell? ⟨wr.heap.size, 2, none⟩ = some (.string v.plan) := f1X 2 _ rfl; have ea3 : X.cell? ⟨wr.heap.size, 3, none⟩ = some (.slice v.A v.n v.c) := f1X 3 _ rfl; have ea4 : X.cell? ⟨wr.heap.size, 4, none⟩ = some (.bool v.susp) := f1X 4 _ rfl; have ea5 : X.cell? ⟨wr.heap.size, 5, none⟩ = some (.bool v.fam) := f1X 5 _ rfl; clear hWX f1X)
      have hbrX := hbr.trans (hbX.mono hbr.size)
      replace HO := Lib.hid (HO.out.below hbX)
      have hg5 := cl hbrX hg
      have hgX := Nat.lt_of_lt_of_le hgl hbrX.size
      clear e0 e1 e2 e3 e4 e5 hbX hbr
      go_upto_if 20 with (go_at_call 89; go_must (refine (active1_any v y g p _ (HLR.out.on hbrX) hg5 hgX).mono ?_; rintro r w6 ⟨rfl, hb6⟩; rw [HQ.out]; have y0 := cl hb6 ea0; have y1 := cl hb6 ea1; have HO6 := Lib.hid (HO.out.below hb6); have hbr6 := hbrX.trans (hb6.mono hbrX.size); clear hb6))
      cases q
      · replace HSUC := Lib.hid (HSUC.out.trans (if_neg (by decide)))
        go_wp2_with fail
        go_roundw
        case rel => exact ⟨k + 1, by omega, by go_num, by rw [HSUC.out]; exact HO6.out, hbr6⟩
        case measure => simp [intOf]; omega
      · replace HSUC := Lib.hid (HSUC.out.trans (if_pos rfl))
        have hg6 := hbr6.size
        go_wp2_with (at_builtin; go_must (refine wpl_append1 _ rfl (.tmp 21) (.tmp 24) 84 rfl w5.heap.size 68 _ 16 Try.underlying84 infoP rfl (.slice A1 n1 c1) J rfl (HO6.out.alloc _) _ (⟨v.f, v.t⟩ : Pd) rfl (fun j u hu => cells_new _ _ _ _ _ (by simp) u hu) (by rw [HN1.out]; omega) (by omega) (by rw [World.size_alloc]; omega) ?_; intro v7 w7 ho7 hu7; have HB7 := Lib.hid (hu7.belowBase (HO6.out.alloc _) (hbr6.alloc (by omega) _) (by rw [World.size_alloc]; omega)); have HO7 := Lib.hid ho7; clear ho7 hu7))
        go_roundw
        case rel => exact ⟨k + 1, by omega, by go_num, by rw [HSUC.out, ← HFT.out]; exact HO7.out, HB7.out⟩
        case measure => simp [intOf]; omega
    · obtain rfl : n2 = k := by omega
      have hkn : ¬ ((n2 : Int) < (n2 : Int)) := by omega
      have HKP : Hid (kpI (kA p) SP SP.length = kpI (kA p) SP n2) := Lib.hid (by rw [HSPL.out])
      obtain ⟨J, hJ⟩ : ∃ J, kpI (kA p) SP n2 = J := ⟨_, rfl⟩
      rw [hJ] at HO HN1 HKP
      have hos := (HO.out.slN)
      rw [HN1.out] at hos
      obtain ⟨A3, c3, e3, _, hs3⟩ := hos
      injection e3 with e31 e32 e33
      subst e31 e33
      have HS3 := Lib.hid hs3
      have hbw := hb5.trans (hbr.mono hb5.size)
      clear hs3 hJ e32
      go_wp2_with (go_at_call 112; go_must (refine (joinP_any _ n1 _ J _ HS3.out (by omega)).mono ?_; rintro r w8 ⟨⟨A8, n8, c8, rfl, h8⟩, hb8⟩; have H8 := Lib.hid h8; clear h8))
      go_ret
      exact ⟨⟨A8, n8, c8, rfl, by rw [HDU.out, HKP.out]; exact H8.out⟩, hbw.trans (hb8.mono hbw.size)⟩
set_option maxHeartbeats 8000000 in
theorem duringS_any (A : Option Addr) (n c : Nat) (l : List Ev) (x : Int) (w : World) (hs : Sl w A n c l) (hv : Vl l) :
    Calls Try.prog 88 #[.slice A n c, .int .i64 x, .func (.func 91) #[] #[]] w fun r w' => (∃ A' n' c', r = .returned (.slice A' n' c') ∧ PI_ w' A' n' c' (duI kS (spE l x))) ∧ Below w.heap.size w w' := by
  have HS := Lib.hid hs
  have HV := Lib.hid hv
  have HL := Lib.hid hs.len
  have h1000 : n ≤ 1000 := by have := hs.len; have := hv.1; omega
  clear hs hv
  go_enter Try.func88, Try.ntmps88
  go_wp2_with (go_at_call 55; go_must (refine (Spells_any A n c l x _ HS.out h1000).mono ?_; rintro r w5 ⟨⟨A2, n2, c2, rfl, h2⟩, hb5⟩; have H2 := Lib.hid h2; clear h2))
  obtain ⟨_, xs, hxs, hall⟩ := H2.out
  have HX := Lib.hid hxs
  have HA := Lib.hid hall
  have HXL := Lib.hid hxs.len
  have hn2 : n2 ≤ 1000 := by have := hall.1; have := hxs.len; have := spE_len (l := l) (x := x); have := HL.out; omega
  obtain ⟨SP, hSP⟩ : ∃ SP, spE l x = SP := ⟨_, rfl⟩
  have HDU : Hid (duI kS (spE l x) = jnP (kpI kS SP SP.length) (kpI kS SP SP.length).length) := Lib.hid (by rw [hSP]; rfl)
  rw [hSP] at HA
  have HSPL : Hid (SP.length = n2) := Lib.hid (HA.out.1.symm.trans HXL.out)
  clear hxs hall hSP H2
  go_loopw [7, 14] (fun V i wr => ∃ k : Nat, k ≤ n2 ∧ i = .int .i64 k ∧ Ow wr w5.heap.size 68 V (kpI kS SP k) ∧ Below w5.heap.size w5 wr) (fun _ i _ => n2 - (intOf i).toNat)
  case atStart => exact ⟨0, Nat.zero_le _, rfl, Ow.nil_ _ _ _, Below.refl _ _⟩
  case round =>
    obtain ⟨k, hk, rfl, ho, hbr⟩ := hrel
    obtain ⟨A1, c1, rfl, _, _⟩ := ho.val
    obtain ⟨n1, hn1⟩ : ∃ n1, (kpI kS SP k).length = n1 := ⟨_, rfl⟩
    have hn1k : n1 ≤ k := by rw [← hn1]; exact kpI_len k
    rw [hn1] at ho ⊢
    have HO := Lib.hid ho
    have HN1 := Lib.hid hn1
    have hgr := hbr.size
    clear ho hn1
    by_cases hlt : k < n2
    · obtain ⟨b, off, hAe, hbl, hcells⟩ := HX.out.baseIn hbr (by omega)
      obtain ⟨v, hv⟩ := HX.out.get hlt
      obtain ⟨y, hy, hlr⟩ := HA.out.at_ hv
      have e0 : wr.cell? ⟨b, off + k * 6, none⟩ = some (.int .i64 v.f) := Sl.at_ hcells hv 0 rfl
      have e1 : wr.cell? ⟨b, off + k * 6 + 1, none⟩ = some (.int .i64 v.t) := Sl.at_ hcells hv 1 rfl
      have e2 : wr.cell? ⟨b, off + k * 6 + 2, none⟩ = some (.string v.plan) := Sl.at_ hcells hv 2 rfl
      have e3 : wr.cell? ⟨b, off + k * 6 + 3, none⟩ = some (.slice v.A v.n v.c) := Sl.at_ hcells hv 3 rfl
      have e4 : wr.cell? ⟨b, off + k * 6 + 4, none⟩ = some (.bool v.susp) := Sl.at_ hcells hv 4 rfl
      have e5 : wr.cell? ⟨b, off + k * 6 + 5, none⟩ = some (.bool v.fam) := Sl.at_ hcells hv 5 rfl
      have HLR := Lib.hid hlr
      have HSUC := Lib.hid (kpI_succ (keep := kS) hy)
      have HFT : Hid ((⟨v.f, v.t⟩ : Pd) = ⟨y.from_, y.to_⟩) := Lib.hid (Pd.ext_ hlr.f hlr.t)
      have hkw : IntKind.i64.wrap ((k : Int) + 1) = (k : Int) + 1 := IntWalk.i64_in _ (by omega)
      obtain ⟨J, hJ⟩ : ∃ J, kpI kS SP k = J := ⟨_, rfl⟩
      rw [hJ] at HSUC HO HN1
      obtain ⟨q, hq⟩ : ∃ q, kS y.q = q := ⟨_, rfl⟩
      rw [hq] at HSUC
      have HQ := Lib.hid hq
      subst hAe
      clear hcells hv hy hlr hJ hq
      go_upto_region 5 with (fail)
      (obtain ⟨X, hWX, hbX, hzX, f1X, efa⟩ := box1 wr #[.int .i64 v.f, .int .i64 v.t, .string v.plan, .slice v.A v.n v.c, .bool v.susp, .bool v.fam] 76; rw [← hWX]; have ea0 : X.cell? ⟨wr.heap.size, 0, none⟩ = some (.int .i64 v.f) := f1X 0 _ rfl; have ea1 : X.cell? ⟨wr.heap.size, 1, none⟩ = some (.int .i64 v.t) := f1X 1 _ rfl; have ea2 : X.cell? ⟨wr.heap.size, 2, none⟩ = some (.string v.plan) := f1X 2 _ rfl; have ea3 : X.cell? ⟨wr.heap.size, 3, none⟩ = some (.slice v.A v.n v.c) := f1X 3 _ rfl; have ea4 : X.cell? ⟨wr.heap.size, 4, none⟩ = some (.bool v.susp) := f1X 4 _ rfl; have ea5 : X.cell? ⟨wr.heap.size, 5, none⟩ = some (.bool v.fam) := f1X 5 _ rfl; clear hWX f1X)
      have hbrX := hbr.trans (hbX.mono hbr.size)
      replace HO := Lib.hid (HO.out.below hbX)
      clear e0 e1 e2 e3 e4 e5 hbX hbr
      go_upto_if 20 with (go_at_call 91; go_must (refine (served1_any v y _ (HLR.out.on hbrX)).mono ?_; rintro r w6 ⟨rfl, hb6⟩; rw [HQ.out]; have y0 := cl hb6 ea0; have y1 := cl hb6 ea1; have HO6 := Lib.hid (HO.out.below hb6); have hbr6 := hbrX.trans (hb6.mono hbrX.size); clear hb6))
      cases q
      · replace HSUC := Lib.hid (HSUC.out.trans (if_neg (by decide)))
        go_wp2_with fail
        go_roundw
        case rel => exact ⟨k + 1, by omega, by go_num, by rw [HSUC.out]; exact HO6.out, hbr6⟩
        case measure => simp [intOf]; omega
      · replace HSUC := Lib.hid (HSUC.out.trans (if_pos rfl))
        have hg6 := hbr6.size
        go_wp2_with (at_builtin; go_must (refine wpl_append1 _ rfl (.tmp 21) (.tmp 24) 84 rfl w5.heap.size 68 _ 16 Try.underlying84 infoP rfl (.slice A1 n1 c1) J rfl (HO6.out.alloc _) _ (⟨v.f, v.t⟩ : Pd) rfl (fun j u hu => cells_new _ _ _ _ _ (by simp) u hu) (by rw [HN1.out]; omega) (by omega) (by rw [World.size_alloc]; omega) ?_; intro v7 w7 ho7 hu7; have HB7 := Lib.hid (hu7.belowBase (HO6.out.alloc _) (hbr6.alloc (by omega) _) (by rw [World.size_alloc]; omega)); have HO7 := Lib.hid ho7; clear ho7 hu7))
        go_roundw
        case rel => exact ⟨k + 1, by omega, by go_num, by rw [HSUC.out, ← HFT.out]; exact HO7.out, HB7.out⟩
        case measure => simp [intOf]; omega
    · obtain rfl : n2 = k := by omega
      have hkn : ¬ ((n2 : Int) < (n2 : Int)) := by omega
      have HKP : Hid (kpI kS SP SP.length = kpI kS SP n2) := Lib.hid (by rw [HSPL.out])
      obtain ⟨J, hJ⟩ : ∃ J, kpI kS SP n2 = J := ⟨_, rfl⟩
      rw [hJ] at HO HN1 HKP
      have hos := (HO.out.slN)
      rw [HN1.out] at hos
      obtain ⟨A3, c3, e3, _, hs3⟩ := hos
      injection e3 with e31 e32 e33
      subst e31 e33
      have HS3 := Lib.hid hs3
      have hbw := hb5.trans (hbr.mono hb5.size)
      clear hs3 hJ e32
      go_wp2_with (go_at_call 112; go_must (refine (joinP_any _ n1 _ J _ HS3.out (by omega)).mono ?_; rintro r w8 ⟨⟨A8, n8, c8, rfl, h8⟩, hb8⟩; have H8 := Lib.hid h8; clear h8))
      go_ret
      exact ⟨⟨A8, n8, c8, rfl, by rw [HDU.out, HKP.out]; exact H8.out⟩, hbw.trans (hb8.mono hbw.size)⟩
set_option maxHeartbeats 4000000 in
theorem Active_any (A : Option Addr) (n c : Nat) (l : List Ev) (x : Int) (p : ByteArray) (w : World) (hs : Sl w A n c l) (hv : Vl l) :
    Calls Try.prog 59 #[.slice A n c, .int .i64 x, .string p] w fun r w' => (∃ A' n' c', r = .returned (.slice A' n' c') ∧ PI_ w' A' n' c' (duI (kA p) (spE l x))) ∧ Below w.heap.size w w' := by
  have HS := Lib.hid hs
  have HV := Lib.hid hv
  clear hs hv
  go_enter Try.func59, Try.ntmps59
  go_upto_region 1 with (fail)
  (obtain ⟨W, hWW, hbW, hzW, f1W, qfa⟩ := box1 w #[.string p] 9; rw [← hWW]; have qa0 : W.cell? ⟨w.heap.size, 0, none⟩ = some (.string p) := f1W 0 _ rfl; clear hWW f1W)
  go_wp2_with (go_at_call 88; go_must (refine (duringA_any A n c l x p w.heap.size _ (HS.out.below hbW) HV.out qa0 hzW).mono ?_; rintro r w8 ⟨⟨A8, n8, c8, rfl, h8⟩, hb8⟩; have H8 := Lib.hid h8; clear h8))
  go_ret
  exact ⟨⟨A8, n8, c8, rfl, H8.out⟩, hbW.trans (hb8.mono hbW.size)⟩
set_option maxHeartbeats 4000000 in
theorem Served_any (A : Option Addr) (n c : Nat) (l : List Ev) (x : Int) (w : World) (hs : Sl w A n c l) (hv : Vl l) :
    Calls Try.prog 61 #[.slice A n c, .int .i64 x] w fun r w' => (∃ A' n' c', r = .returned (.slice A' n' c') ∧ PI_ w' A' n' c' (duI kS (spE l x))) ∧ Below w.heap.size w w' := by
  have HS := Lib.hid hs
  have HV := Lib.hid hv
  clear hs hv
  go_enter Try.func61, Try.ntmps61
  go_wp2_with (go_at_call 88; go_must (refine (duringS_any A n c l x _ HS.out HV.out).mono ?_; rintro r w8 ⟨⟨A8, n8, c8, rfl, h8⟩, hb8⟩; have H8 := Lib.hid h8; clear h8))
  go_ret
  exact ⟨⟨A8, n8, c8, rfl, H8.out⟩, hb8⟩
end Ss
end Go.Proofs.Yteaanngagcflhaa
