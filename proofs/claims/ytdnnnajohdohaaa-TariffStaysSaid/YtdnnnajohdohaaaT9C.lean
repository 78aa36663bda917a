/-
  Tariffs: small, and what it says. No condition.
-/
import Derived.Test.YtdnnnajohdohaaaT9B
import Derived.Test.YtdnnnajohdohaaaT8D
import Derived.BigQuiet
import Derived.StillTailTactics
import Derived.Lib.Overlaps
import Derived.Deep.DeepCutAuto
import Derived.Deep.RegionWith
import Derived.Laws.RangeAny
set_option maxRecDepth 100000
set_option linter.unusedVariables false
set_option linter.unusedSimpArgs false
namespace Go.Proofs.Ytdnnnajohdohaaa
open Go.RowKit

namespace Cv
open Xp Ck
theorem x8_step {args : List Ex} {k : Nat} {e : Ex} (h : ∀ (j : Nat) (a : Ex), j < k → args[j]? = some a → X8 a) (he : args[k]? = some e) (hx : X8 e) : ∀ (j : Nat) (a : Ex), j < k + 1 → args[j]? = some a → X8 a := fun j a hj ha => by
  rcases Nat.lt_or_ge j k with h1 | h1
  · exact h j a h1 ha
  · have : j = k := by omega
    subst this
    rw [he] at ha
    cases ha
    exact hx
theorem xd_step {ds : List Dd_} {k : Nat} {e : Dd_} (h : ∀ (j : Nat) (a : Dd_), j < k → ds[j]? = some a → X8 a.ex) (he : ds[k]? = some e) (hx : X8 e.ex) : ∀ (j : Nat) (a : Dd_), j < k + 1 → ds[j]? = some a → X8 a.ex := fun j a hj ha => by
  rcases Nat.lt_or_ge j k with h1 | h1
  · exact h j a h1 ha
  · have : j = k := by omega
    subst this
    rw [he] at ha
    cases ha
    exact hx
structure Outer (T : Td) : Prop where
  z : T.zs.length ≤ 70
  b : T.bs.length ≤ 70
  r : T.rs.length ≤ 70
  d : T.ds.length ≤ 70
  x : ∀ d ∈ T.ds, X8 d.ex
/-- its inner lists are of a machine's size -/
structure Fits (T : Td) : Prop where
  zk : ∀ d ∈ T.zs, d.2.length * 16 ≤ 140737488355328
  bk : ∀ d ∈ T.bs, d.2.length * 24 ≤ 140737488355328
  rk : ∀ d ∈ T.rs, d.steps.length * 24 ≤ 140737488355328
theorem Wide.of {T : Td} (h : Outer T) (k : Fits T) : Wide T := ⟨h.z, k.zk, h.b, k.bk, h.r, k.rk, h.d, h.x⟩
set_option maxHeartbeats 4000000 in
theorem small8_from {w : World} {e : Ex} {x : It} (h : Rp w e x) : ∀ w', Below w.heap.size w w' → Calls Try.prog 34 #[x.val] w' fun r w'' => SmP r (X8 e) ∧ Below w'.heap.size w' w'' := by
  induction h with
  | mk op num text args A n c items hsl hl hnil hc ih =>
    intro w' hb
    have IH := Lib.hid ih
    have HS := Lib.hid hsl
    have HL := Lib.hid hl
    have hn := hsl.nmax
    have hlen := hsl.len
    have HCT := Lib.hid (fun w1 (h1 : Below w.heap.size w w1) => count_from (Rp.mk op num text args A n c items hsl hl hnil hc) w1 h1)
    clear ih hsl hl hnil hc
    unfold It.val
    unfold It.val at HCT
    go_enter Try.func34, Try.ntmps34
    go_upto_region 1 with (fail)
    (obtain ⟨W, hWW, hbW, hzW, f1W, qfa⟩ := box1 w' #[.int .i64 op, .int .i64 num, .string text, .slice A n c] 60; rw [← hWW]; have qa0 : W.cell? ⟨w'.heap.size, 0, none⟩ = some (.int .i64 op) := f1W 0 _ rfl; have qa1 : W.cell? ⟨w'.heap.size, 1, none⟩ = some (.int .i64 num) := f1W 1 _ rfl; have qa2 : W.cell? ⟨w'.heap.size, 2, none⟩ = some (.string text) := f1W 2 _ rfl; have qa3 : W.cell? ⟨w'.heap.size, 3, none⟩ = some (.slice A n c) := f1W 3 _ rfl; clear hWW f1W)
    go_wp2_with fail
    go_loopw [3] (fun i wr => ∃ (k : Nat), k ≤ n ∧ i = .int .i64 k ∧ (∀ (j : Nat) (a : Ex), j < k → args[j]? = some a → X8 a) ∧ Below w'.heap.size w' wr ∧ W.heap.size ≤ wr.heap.size ∧ wr.cell? ⟨w'.heap.size, 0, none⟩ = some (.int .i64 op) ∧ wr.cell? ⟨w'.heap.size, 1, none⟩ = some (.int .i64 num) ∧ wr.cell? ⟨w'.heap.size, 2, none⟩ = some (.string text) ∧ wr.cell? ⟨w'.heap.size, 3, none⟩ = some (.slice A n c)) (fun i _ => n - (intOf i).toNat)
    case atStart => exact ⟨0, Nat.zero_le _, rfl, fun j a hj => absurd hj (by omega), hbW, Nat.le_refl _, qa0, qa1, qa2, qa3⟩
    case round =>
      obtain ⟨k, hk, rfl, hx8, hbr, hz, qa0, qa1, qa2, qa3⟩ := hrel
      have HX8 := Lib.hid hx8
      clear hx8
      have hgr : w'.heap.size < wr.heap.size := by omega
      by_cases hlt : k < n
      · obtain ⟨y, hy⟩ := HS.out.get hlt
        obtain ⟨e, he⟩ : ∃ e, args[k]? = some e := ⟨args[k]'(by have := HL.out; omega), List.getElem?_eq_getElem _⟩
        have hwr := hb.trans (hbr.mono hb.size)
        obtain ⟨b, off, rfl, hbw, hcells⟩ := HS.out.baseIn hwr (by omega)
        have c0 : wr.cell? ⟨b, off + k * 4, none⟩ = some (.int .i64 y.op) := Sl.at_ hcells hy 0 rfl
        have c1 : wr.cell? ⟨b, off + k * 4 + 1, none⟩ = some (.int .i64 y.num) := Sl.at_ hcells hy 1 rfl
        have c2 : wr.cell? ⟨b, off + k * 4 + 2, none⟩ = some (.string y.text) := Sl.at_ hcells hy 2 rfl
        have c3 : wr.cell? ⟨b, off + k * 4 + 3, none⟩ = some (.slice y.A y.n y.c) := Sl.at_ hcells hy 3 rfl
        have HC := Lib.hid (IH.out k y e hy he wr hwr)
        have HE := Lib.hid he
        clear hcells hy he
        go_wp2_with fail
        refine HC.out.mono ?_
        rintro r w2 ⟨⟨m2, rfl, hm2⟩, hb2⟩
        have HM2 := Lib.hid hm2
        clear hm2
        have qb0 := (hb2.cell (p := ⟨_, _, none⟩) (by (try dsimp only) <;> omega)).trans qa0
        have qb1 := (hb2.cell (p := ⟨_, _, none⟩) (by (try dsimp only) <;> omega)).trans qa1
        have qb2 := (hb2.cell (p := ⟨_, _, none⟩) (by (try dsimp only) <;> omega)).trans qa2
        have qb3 := (hb2.cell (p := ⟨_, _, none⟩) (by (try dsimp only) <;> omega)).trans qa3
        have hz2 := hb2.size
        cases m2
        · go_wp2_with fail
          go_ret
          exact ⟨SmP.no _, hbr.trans (hb2.mono hbr.size)⟩
        · go_wp2_with fail
          all_goals
            go_roundw
            case rel => exact ⟨k + 1, by omega, by go_num, x8_step HX8.out HE.out (HM2.out (by simp)), hbr.trans (hb2.mono hbr.size), by omega, qb0, qb1, qb2, qb3⟩
            case measure => simp [intOf]; omega
      · have hkn : ¬ ((k : Int) < (n : Int)) := by omega
        have hwr := hb.trans (hbr.mono hb.size)
        have HC := Lib.hid (HCT.out wr hwr)
        by_cases h300 : text.size ≤ 300
        · by_cases h8 : n ≤ 8
          · have h300' : (text.size : Int) ≤ 300 := by omega
            have h8' : (n : Int) ≤ 8 := by omega
            go_wp2_with fail
            refine HC.out.mono ?_
            rintro r w2 ⟨⟨m2, rfl⟩, hb2⟩
            go_wp2_with fail
            go_ret
            exact ⟨SmP.mk' _ (.mk op num text args (by have := HL.out; omega) (fun a ha => by obtain ⟨j, hj⟩ := List.getElem?_of_mem ha; exact HX8.out j a (by have := (List.getElem?_eq_some_iff.1 hj).1; have := HL.out; omega) hj)), hbr.trans (hb2.mono hbr.size)⟩
          · have h300' : (text.size : Int) ≤ 300 := by omega
            have h8' : ¬ ((n : Int) ≤ 8) := by omega
            go_wp2_with fail
            go_ret
            exact ⟨SmP.no _, hbr⟩
        · have h300' : ¬ ((text.size : Int) ≤ 300) := by omega
          go_wp2_with fail
          go_ret
          exact ⟨SmP.no _, hbr⟩
theorem small8_any {w : World} {e : Ex} {x : It} (h : Rp w e x) : Calls Try.prog 34 #[x.val] w fun r w'' => SmP r (X8 e) ∧ Below w.heap.size w w'' := small8_from h w (Below.refl _ _)

set_option maxHeartbeats 16000000 in
theorem tsmall8 (t : Tv) (T : Td) (w : World) (h : TD w t T) :
    Calls Try.prog 22 #[t.val] w fun e w' => SmP e (Outer T) ∧ Below w.heap.size w w' := by
  obtain ⟨name, from_, split, Az, nz, cz, Ab, nb, cb, Ar, nr, cr, Ad, nd, cd⟩ := t
  obtain ⟨_, _, _, _, ⟨_, zs, hz, zk⟩, ⟨_, bs, hb, bk⟩, ⟨_, rs, hr, rk⟩, ⟨_, ds, hd, dk⟩⟩ := h
  dsimp only at hz hb hr hd
  have hnz := hz.nmax
  have hnb := hb.nmax
  have hnr := hr.nmax
  have hnd := hd.nmax
  have HZ := Lib.hid hz
  have HB := Lib.hid hb
  have HR := Lib.hid hr
  have HD := Lib.hid hd
  have ZK := Lib.hid zk
  have DK := Lib.hid dk
  have HLS := Lib.hid (show T.zs.length = nz ∧ T.bs.length = nb ∧ T.rs.length = nr ∧ T.ds.length = nd from ⟨by rw [← zk.1, hz.len], by rw [← bk.1, hb.len], by rw [← rk.1, hr.len], by rw [← dk.1, hd.len]⟩)
  clear hz hb hr hd zk dk bk rk
  unfold Tv.val
  dsimp only at hnz hnb ⊢
  by_cases h1 : (70 : Int) < (nz : Int) ∨ (70 : Int) < (nb : Int) ∨ (70 : Int) < (nr : Int) ∨ (70 : Int) < (nd : Int)
  · by_cases g1 : (70 : Int) < (nz : Int) <;> by_cases g2 : (70 : Int) < (nb : Int) <;> by_cases g3 : (70 : Int) < (nr : Int) <;> by_cases g4 : (70 : Int) < (nd : Int)
    all_goals first
    | (exfalso; omega)
    | (clear h1
       go_enter Try.func22, Try.ntmps22
       go_wp2_with fail
       go_ret
       exact ⟨SmP.no _, (Below.refl _ _).alloc (Nat.le_refl _) _⟩)
  have g1 : ¬ (70 : Int) < (nz : Int) := by omega
  have g2 : ¬ (70 : Int) < (nb : Int) := by omega
  have g3 : ¬ (70 : Int) < (nr : Int) := by omega
  have g4 : ¬ (70 : Int) < (nd : Int) := by omega
  have HQ : Hid (nz ≤ 70 ∧ nb ≤ 70 ∧ nr ≤ 70 ∧ nd ≤ 70) := Lib.hid ⟨by omega, by omega, by omega, by omega⟩
  clear h1
  go_enter Try.func22, Try.ntmps22
  go_upto_region 1 with (fail)
  (obtain ⟨W, hWW, hbW, hzW, f1W, qfa⟩ := box1 w #[.string name, .int .i64 from_, .bool split, .slice Az nz cz, .slice Ab nb cb, .slice Ar nr cr, .slice Ad nd cd] 32; rw [← hWW]; have qa0 : W.cell? ⟨w.heap.size, 0, none⟩ = some (.string name) := f1W 0 _ rfl; have qa1 : W.cell? ⟨w.heap.size, 1, none⟩ = some (.int .i64 from_) := f1W 1 _ rfl; have qa2 : W.cell? ⟨w.heap.size, 2, none⟩ = some (.bool split) := f1W 2 _ rfl; have qa3 : W.cell? ⟨w.heap.size, 3, none⟩ = some (.slice Az nz cz) := f1W 3 _ rfl; have qa4 : W.cell? ⟨w.heap.size, 4, none⟩ = some (.slice Ab nb cb) := f1W 4 _ rfl; have qa5 : W.cell? ⟨w.heap.size, 5, none⟩ = some (.slice Ar nr cr) := f1W 5 _ rfl; have qa6 : W.cell? ⟨w.heap.size, 6, none⟩ = some (.slice Ad nd cd) := f1W 6 _ rfl; clear hWW f1W)
  go_wp2_with fail
  go_loopw [3, 4] (fun s i wr => ∃ (k : Nat) (m : Int), k ≤ nz ∧ s = .int .i64 m ∧ i = .int .i64 k ∧ Below W.heap.size W wr) (fun _ i _ => nz - (intOf i).toNat)
  case atStart => exact ⟨0, _, Nat.zero_le _, rfl, rfl, Below.refl _ _⟩
  case round =>
    obtain ⟨k, m, hk, rfl, rfl, hbr⟩ := hrel
    have hzr := hbr.size
    have hbA := hbW.trans (hbr.mono hbW.size)
    (have eqa3 := (hbr.cell (p := ⟨_, _, none⟩) (by (try dsimp only) <;> omega)).trans qa3; have eqa4 := (hbr.cell (p := ⟨_, _, none⟩) (by (try dsimp only) <;> omega)).trans qa4; have eqa5 := (hbr.cell (p := ⟨_, _, none⟩) (by (try dsimp only) <;> omega)).trans qa5; have eqa6 := (hbr.cell (p := ⟨_, _, none⟩) (by (try dsimp only) <;> omega)).trans qa6)
    by_cases hlt : k < nz
    · obtain ⟨b, off, rfl, hbl, hcells0⟩ := HZ.out.base (by omega)
      obtain ⟨x, hx⟩ := HZ.out.get hlt
      have d0 : w.cell? ⟨b, off + k * 2 + 1, none⟩ = some (.slice x.A x.n x.c) := Sl.at_ hcells0 hx 1 rfl
      have d1 := (hbA.cell (p := ⟨_, _, none⟩) (by (try dsimp only) <;> omega)).trans d0
      obtain ⟨pd, _, hpd⟩ := ZK.out.mem_ (List.mem_of_getElem? hx)
      have hps := hpd.2.2.2.1
      have hxn := hps.nmax
      have HP := Lib.hid hps
      clear hcells0 hx hps hpd
      go_wp2_with fail
      go_loopw [5] (fun i wi => ∃ j : Nat, j ≤ x.n ∧ i = .int .i64 j ∧ Below W.heap.size W wi) (fun i _ => x.n - (intOf i).toNat)
      case atStart => exact ⟨0, Nat.zero_le _, rfl, hbr⟩
      case round =>
        clear hbr hbA d1
        obtain ⟨j, hj, rfl, hbr⟩ := hrel
        have hzr := hbr.size
        have hbA := hbW.trans (hbr.mono hbW.size)
        have d1 := (hbA.cell (p := ⟨_, _, none⟩) (by (try dsimp only) <;> omega)).trans d0
        (have eqa3 := (hbr.cell (p := ⟨_, _, none⟩) (by (try dsimp only) <;> omega)).trans qa3; have eqa4 := (hbr.cell (p := ⟨_, _, none⟩) (by (try dsimp only) <;> omega)).trans qa4; have eqa5 := (hbr.cell (p := ⟨_, _, none⟩) (by (try dsimp only) <;> omega)).trans qa5; have eqa6 := (hbr.cell (p := ⟨_, _, none⟩) (by (try dsimp only) <;> omega)).trans qa6)
        by_cases hltj : j < x.n
        · obtain ⟨A1, hA1⟩ : ∃ A1, x.A = A1 := ⟨_, rfl⟩
          rw [hA1] at HP d0 d1
          obtain ⟨b1, off1, rfl, hbl1, hcells⟩ := Sl.one rfl (HP.out.below hbA) (by omega)
          obtain ⟨y, hy⟩ := HP.out.get hltj
          have y0 : wr.cell? ⟨b1, off1 + j, none⟩ = some (.string y) := hcells j y _ hy rfl
          clear hcells hy
          by_cases h100 : (100 : Int) < (y.size : Int)
          · go_wp2_with fail
            go_ret
            exact ⟨SmP.no _, hbA⟩
          · go_wp2_with fail
            go_roundw
            case rel => exact ⟨j + 1, by omega, by go_num, hbr⟩
            case measure => simp [intOf]; omega
        · have hjn : ¬ ((j : Int) < (x.n : Int)) := by omega
          go_wp2_with fail
          go_roundw
          case rel => exact ⟨k + 1, _, by omega, rfl, by go_num, hbr⟩
          case measure => simp [intOf]; omega
    · obtain rfl : k = nz := by omega
      have hkn : ¬ ((k : Int) < (k : Int)) := by omega
      go_wp2_with fail
      go_loopw [3, 6] (fun s i wr => ∃ (k : Nat) (m : Int), k ≤ nb ∧ s = .int .i64 m ∧ i = .int .i64 k ∧ Below W.heap.size W wr) (fun _ i _ => nb - (intOf i).toNat)
      case atStart => exact ⟨0, _, Nat.zero_le _, rfl, rfl, hbr⟩
      case round =>
        clear hbr hbA
        obtain ⟨k, m, hk, rfl, rfl, hbr⟩ := hrel
        have hzr := hbr.size
        have hbA := hbW.trans (hbr.mono hbW.size)
        (have eqa3 := (hbr.cell (p := ⟨_, _, none⟩) (by (try dsimp only) <;> omega)).trans qa3; have eqa4 := (hbr.cell (p := ⟨_, _, none⟩) (by (try dsimp only) <;> omega)).trans qa4; have eqa5 := (hbr.cell (p := ⟨_, _, none⟩) (by (try dsimp only) <;> omega)).trans qa5; have eqa6 := (hbr.cell (p := ⟨_, _, none⟩) (by (try dsimp only) <;> omega)).trans qa6)
        by_cases hlt : k < nb
        · obtain ⟨b, off, rfl, hbl, hcells⟩ := HB.out.baseIn hbA (by omega)
          obtain ⟨x, hx⟩ := HB.out.get hlt
          have d1 : wr.cell? ⟨b, off + k * 2 + 1, none⟩ = some (.slice x.A x.n x.c) := Sl.at_ hcells hx 1 rfl
          clear hcells hx
          go_wp2_with fail
          go_roundw
          case rel => exact ⟨k + 1, _, by omega, rfl, by go_num, hbr⟩
          case measure => simp [intOf]; omega
        · obtain rfl : k = nb := by omega
          have hkn : ¬ ((k : Int) < (k : Int)) := by omega
          go_wp2_with fail
          go_loopw [3, 7] (fun s i wr => ∃ (k : Nat) (m : Int), k ≤ nr ∧ s = .int .i64 m ∧ i = .int .i64 k ∧ Below W.heap.size W wr) (fun _ i _ => nr - (intOf i).toNat)
          case atStart => exact ⟨0, _, Nat.zero_le _, rfl, rfl, hbr⟩
          case round =>
            clear hbr hbA
            obtain ⟨k, m, hk, rfl, rfl, hbr⟩ := hrel
            have hzr := hbr.size
            have hbA := hbW.trans (hbr.mono hbW.size)
            (have eqa3 := (hbr.cell (p := ⟨_, _, none⟩) (by (try dsimp only) <;> omega)).trans qa3; have eqa4 := (hbr.cell (p := ⟨_, _, none⟩) (by (try dsimp only) <;> omega)).trans qa4; have eqa5 := (hbr.cell (p := ⟨_, _, none⟩) (by (try dsimp only) <;> omega)).trans qa5; have eqa6 := (hbr.cell (p := ⟨_, _, none⟩) (by (try dsimp only) <;> omega)).trans qa6)
            by_cases hlt : k < nr
            · obtain ⟨b, off, rfl, hbl, hcells⟩ := HR.out.baseIn hbA (by omega)
              obtain ⟨x, hx⟩ := HR.out.get hlt
              have d1 : wr.cell? ⟨b, off + k * 5 + 4, none⟩ = some (.slice x.A x.n x.c) := Sl.at_ hcells hx 4 rfl
              clear hcells hx
              go_wp2_with fail
              go_roundw
              case rel => exact ⟨k + 1, _, by omega, rfl, by go_num, hbr⟩
              case measure => simp [intOf]; omega
            · obtain rfl : k = nr := by omega
              have hkn : ¬ ((k : Int) < (k : Int)) := by omega
              go_wp2_with fail
              go_loopw [8] (fun i wr => ∃ (k : Nat), k ≤ nd ∧ i = .int .i64 k ∧ (∀ (j : Nat) (d : Dd_), j < k → T.ds[j]? = some d → X8 d.ex) ∧ Below W.heap.size W wr) (fun i _ => nd - (intOf i).toNat)
              case atStart => exact ⟨0, Nat.zero_le _, rfl, fun j d hj => absurd hj (by omega), hbr⟩
              case round =>
                clear hbr hbA
                obtain ⟨k, hk, rfl, hx8, hbr⟩ := hrel
                have HX8 := Lib.hid hx8
                clear hx8
                have hzr := hbr.size
                have hbA := hbW.trans (hbr.mono hbW.size)
                (have eqa3 := (hbr.cell (p := ⟨_, _, none⟩) (by (try dsimp only) <;> omega)).trans qa3; have eqa4 := (hbr.cell (p := ⟨_, _, none⟩) (by (try dsimp only) <;> omega)).trans qa4; have eqa5 := (hbr.cell (p := ⟨_, _, none⟩) (by (try dsimp only) <;> omega)).trans qa5; have eqa6 := (hbr.cell (p := ⟨_, _, none⟩) (by (try dsimp only) <;> omega)).trans qa6)
                by_cases hlt : k < nd
                · obtain ⟨b, off, rfl, hbl, hcells⟩ := HD.out.baseIn hbA (by omega)
                  obtain ⟨x, hx⟩ := HD.out.get hlt
                  have d1 : wr.cell? ⟨b, off + k * 6 + 1, none⟩ = some (.int .i64 x.it.op) := Sl.at_ hcells hx 1 rfl
                  have d2 : wr.cell? ⟨b, off + k * 6 + 2, none⟩ = some (.int .i64 x.it.num) := Sl.at_ hcells hx 2 rfl
                  have d3 : wr.cell? ⟨b, off + k * 6 + 3, none⟩ = some (.string x.it.text) := Sl.at_ hcells hx 3 rfl
                  have d4 : wr.cell? ⟨b, off + k * 6 + 4, none⟩ = some (.slice x.it.A x.it.n x.it.c) := Sl.at_ hcells hx 4 rfl
                  obtain ⟨dd, hdd, hdr⟩ := DK.out.at_ hx
                  have HE := Lib.hid (hdr.2.2.2.on hbA)
                  have HDD := Lib.hid hdd
                  clear hcells hx hdd hdr
                  go_wp2_with fail
                  refine (small8_any HE.out).mono ?_
                  rintro r w2 ⟨⟨m2, rfl, hm2⟩, hb2⟩
                  have HM2 := Lib.hid hm2
                  clear hm2
                  replace hbr := hbr.trans (hb2.mono hbr.size)
                  replace hbA := hbA.trans (hb2.mono hbA.size)
                  cases m2
                  · go_wp2_with fail
                    go_ret
                    exact ⟨SmP.no _, hbA⟩
                  · go_wp2_with fail
                    go_roundw
                    case rel => exact ⟨k + 1, by omega, by go_num, xd_step HX8.out HDD.out (HM2.out (by simp)), hbr⟩
                    case measure => simp [intOf]; omega
                · obtain rfl : k = nd := by omega
                  have hkn : ¬ ((k : Int) < (k : Int)) := by omega
                  go_wp2_with fail
                  go_ret
                  exact ⟨SmP.mk' _ ⟨by have := HLS.out.1; have := HQ.out.1; omega, by have := HLS.out.2.1; have := HQ.out.2.1; omega, by have := HLS.out.2.2.1; have := HQ.out.2.2.1; omega, by have := HLS.out.2.2.2; have := HQ.out.2.2.2; omega, fun d hd => by obtain ⟨j, hj⟩ := List.getElem?_of_mem hd; exact HX8.out j d (by have := (List.getElem?_eq_some_iff.1 hj).1; have := HLS.out.2.2.2; omega) hj⟩, hbA⟩
end Cv
end Go.Proofs.Ytdnnnajohdohaaa
