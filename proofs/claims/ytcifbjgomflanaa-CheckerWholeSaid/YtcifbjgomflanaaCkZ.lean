/-
  Tariffs: law Whole. No condition.
-/
import Derived.Test.YtcifbjgomflanaaCkY
import Derived.Test.YtcifbjgomflanaaCkX
import Derived.Test.YtcifbjgomflanaaSlc
import Derived.BigQuiet
import Derived.StillTailTactics
import Derived.Lib.Overlaps
import Derived.Deep.DeepCutAuto
import Derived.Deep.RegionWith
import Derived.Deep.RegionLaw
import Derived.Laws.RangeAny
set_option maxRecDepth 100000
set_option linter.unusedVariables false
set_option linter.unusedSimpArgs false
namespace Go.Proofs.Ytcifbjgomflanaa
open Go.RowKit

namespace Cv
open Xp Ck
theorem ratesE_congr {S S' : Rt → List Stp} {zs bs : List Nm} {rs : List Rt} (h : ∀ r ∈ rs, S r = S' r) : ratesE S zs bs rs = ratesE S' zs bs rs := by
  have hf : ratesF S zs bs rs = ratesF S' zs bs rs := by
    funext i
    unfold ratesF
    cases hq : rs[i]? with
    | none => rfl
    | some r =>
      show rateE S zs bs r = rateE S' zs bs r
      unfold rateE
      rw [h r (List.mem_of_getElem? hq)]
  unfold ratesE
  rw [hf]
theorem Sl.keepK {α : Type} [Flat α] {W W' : World} {b n c : Nat} {xs : List α} (h : Sl W (some ⟨b, 0, none⟩) n c xs) (hc : ∀ o, W'.cell? ⟨b, o, none⟩ = W.cell? ⟨b, o, none⟩) (hlt : b < W'.heap.size) : Sl W' (some ⟨b, 0, none⟩) n c xs := by
  refine ⟨h.len, h.le, h.2.2.1, fun h0 => ?_⟩
  obtain ⟨b1, off, e, _, hcc⟩ := h.base h0
  cases e
  exact ⟨b, 0, rfl, hlt, fun i x hx j v hv => (hc _).trans (hcc i x hx j v hv)⟩
noncomputable def srF (r0 : Rt) (SR : Rt → List Stp) : Rt → List Stp := fun x => @ite _ (x = r0) (Classical.propDecidable _) [⟨0, 1, 0⟩] (SR x)
theorem srF_self (r0 : Rt) (SR : Rt → List Stp) : srF r0 SR r0 = [⟨0, 1, 0⟩] := if_pos rfl
theorem srF_other {r0 x : Rt} {SR : Rt → List Stp} (h : x ≠ r0) : srF r0 SR x = SR x := if_neg h
theorem known_empty (l : List Nm) : knownB l ⟨#[]⟩ = true := by
  unfold knownB
  rw [show ((⟨#[]⟩ : ByteArray).toList == []) = true from by rw [Lib.toList_data]; rfl, Bool.or_true]
theorem rateE_front {S : Rt → List Stp} {zs bs : List Nm} {r : Rt} (hk : 1 ≤ r.kind ∧ r.kind ≤ 4) (hz : r.zone = ⟨#[]⟩) (hb : r.band = ⟨#[]⟩) (hs : r.setup = 0) (hS : S r = [⟨0, 1, 0⟩]) : rateE S zs bs r = 0 := by
  rw [rateE_steps (by omega) (by omega) (by rw [hz]; exact known_empty _) (by rw [hb]; exact known_empty _) (by omega) (by omega), hS]
  decide
theorem upc {wr w' : World} {v u : Value} (hu : Upd wr w' v u) {b o : Nat} (hb : b < wr.heap.size) (hne : v.ownBlock ≠ some b) : w'.cell? ⟨b, o, none⟩ = wr.cell? ⟨b, o, none⟩ :=
  World.cell?_of_block (a := ⟨b, o, none⟩) (hu.grew.block b hb (fun e => hne e.symm))
theorem Sl.far {α : Type} [Flat α] {W U : World} {A : Option Addr} {n c : Nat} {xs : List α} (h : Sl W A n c xs) {g : Nat} (hA : 0 < n → ∀ (b off : Nat), A = some ⟨b, off, none⟩ → b ≠ g) (hf : ∀ b o', b ≠ g → U.cell? ⟨b, o', none⟩ = W.cell? ⟨b, o', none⟩) (hsz : W.heap.size ≤ U.heap.size) : Sl U A n c xs := by
  refine ⟨h.len, h.le, h.2.2.1, fun h0 => ?_⟩
  obtain ⟨b, off, e, hl, hc⟩ := h.base h0
  exact ⟨b, off, e, by omega, fun i x hx j v hv => (hf _ _ (hA h0 b off e)).trans (hc i x hx j v hv)⟩
theorem info_disc : (Try.prog.info? 58).map (fun i => (i.zero, i.size, i.bytes)) = some (some (.agg #[.string ⟨#[]⟩, .int .i64 0, .int .i64 0, .string ⟨#[]⟩, .slice none 0 0, .int .i64 0]), 6, 80) := by kernel_rfl
theorem info_rate : (Try.prog.info? 46).map (fun i => (i.zero, i.size, i.bytes)) = some (some (.agg #[.int .i64 0, .string ⟨#[]⟩, .string ⟨#[]⟩, .int .i64 0, .slice none 0 0]), 5, 72) := by kernel_rfl
set_option maxHeartbeats 16000000 in
theorem law_whole (name : ByteArray) (from_ : Int) (split : Bool) (Az : Option Addr) (nz cz : Nat) (Ab : Option Addr) (nb cb : Nat) (Ar : Option Addr) (nr cr : Nat) (Ad : Option Addr) (nd cd : Nat) (PZ : Nm → List ByteArray) (SB : Nm → List Slt) (SR : Rt → List Stp) (E : Dq → Ex) (zs bs : List Nm) (rs : List Rt) (ds : List Dq) (a kd : Nat) (ha : a ≤ 255) (hkd : kd ≤ 255) (w : World) (hNd : Ad = none → cd = 0) (hNr : Ar = none → cr = 0) (h : TS w name Az nz cz Ab nb cb Ar nr cr Ad nd cd PZ SB SR E zs bs rs ds) :
    Calls Try.prog 9 #[.agg #[.string name, .int .i64 from_, .bool split, .slice Az nz cz, .slice Ab nb cb, .slice Ar nr cr, .slice Ad nd cd], .int .u8 (a : Int), .int .u8 (kd : Int)] w fun e w' => e = .returned (.bool true) ∧ Below w.heap.size w w' := by
  have HT := Lib.hid h
  have HK : Hid (Tok w ⟨name, from_, split, Az, nz, cz, Ab, nb, cb, Ar, nr, cr, Ad, nd, cd⟩ zs bs rs ds) := Lib.hid ⟨h.z, fun x hx => ⟨_, h.zk x hx⟩, h.b, fun x hx => ⟨_, h.bk x hx⟩, h.r, fun x hx => ⟨_, h.rk x hx⟩, h.d, fun x hx => ⟨_, h.dk x hx⟩⟩
  have hnr := h.r.nmax
  have hnd := h.d.nmax
  have HND := Lib.hid hNd
  have HNR := Lib.hid hNr
  clear h hNd hNr
  go_enter Try.func9, Try.ntmps9
  go_upto_region 1 with (fail)
  (obtain ⟨W, hWW, hbW, hzW, f1W, qfa⟩ := box1 w #[.string name, .int .i64 from_, .bool split, .slice Az nz cz, .slice Ab nb cb, .slice Ar nr cr, .slice Ad nd cd] 39; rw [← hWW]; have qa0 : W.cell? ⟨w.heap.size, 0, none⟩ = some (.string name) := f1W 0 _ rfl; have qa1 : W.cell? ⟨w.heap.size, 1, none⟩ = some (.int .i64 from_) := f1W 1 _ rfl; have qa2 : W.cell? ⟨w.heap.size, 2, none⟩ = some (.bool split) := f1W 2 _ rfl; have qa3 : W.cell? ⟨w.heap.size, 3, none⟩ = some (.slice Az nz cz) := f1W 3 _ rfl; have qa4 : W.cell? ⟨w.heap.size, 4, none⟩ = some (.slice Ab nb cb) := f1W 4 _ rfl; have qa5 : W.cell? ⟨w.heap.size, 5, none⟩ = some (.slice Ar nr cr) := f1W 5 _ rfl; have qa6 : W.cell? ⟨w.heap.size, 6, none⟩ = some (.slice Ad nd cd) := f1W 6 _ rfl; clear hWW f1W)
  have hzWw : w.heap.size < W.heap.size := hzW
  go_wp2_with fail
  refine (tsmall_any ⟨name, from_, split, Az, nz, cz, Ab, nb, cb, Ar, nr, cr, Ad, nd, cd⟩ zs bs rs ds _ (HK.out.on hbW)).mono ?_
  rintro r w2 ⟨⟨m, rfl, hm⟩, hb2⟩
  have hbA := hbW.trans (hb2.mono hbW.size)
  have hz2 := hb2.size
  (have hzhb2 := hb2.size; replace qa0 := (hb2.cell (p := ⟨_, _, none⟩) (by (try dsimp only) <;> omega)).trans qa0; replace qa1 := (hb2.cell (p := ⟨_, _, none⟩) (by (try dsimp only) <;> omega)).trans qa1; replace qa2 := (hb2.cell (p := ⟨_, _, none⟩) (by (try dsimp only) <;> omega)).trans qa2; replace qa3 := (hb2.cell (p := ⟨_, _, none⟩) (by (try dsimp only) <;> omega)).trans qa3; replace qa4 := (hb2.cell (p := ⟨_, _, none⟩) (by (try dsimp only) <;> omega)).trans qa4; replace qa5 := (hb2.cell (p := ⟨_, _, none⟩) (by (try dsimp only) <;> omega)).trans qa5; replace qa6 := (hb2.cell (p := ⟨_, _, none⟩) (by (try dsimp only) <;> omega)).trans qa6)
  have HM := Lib.hid hm
  clear hm hb2 hbW
  cases m
  · go_wp2_with fail
    refine (awake_any _).mono ?_
    rintro r w9 ⟨rfl, hb9⟩
    go_wp2_with fail
    go_ret
    exact ⟨rfl, hbA.trans (hb9.mono hbA.size)⟩
  by_cases h60 : (60 : Int) < (nr : Int)
  · go_wp2_with fail
    refine (awake_any _).mono ?_
    rintro r w9 ⟨rfl, hb9⟩
    go_wp2_with fail
    go_ret
    exact ⟨rfl, hbA.trans (hb9.mono hbA.size)⟩
  obtain ⟨m1, m2, m3, m4⟩ := HM.out rfl
  dsimp only at m1 m2 m3 m4
  go_wp2_with fail
  refine (tariff_any name from_ split Az nz cz Ab nb cb Ar nr cr Ad nd cd PZ SB SR E zs bs rs ds _ (HT.out.on hbA)).mono ?_
  rintro r w3 ⟨rfl, hb3⟩
  have hz3 := hb3.size
  have hzA := hbA.size
  (have hzhb3 := hb3.size; replace qa0 := (hb3.cell (p := ⟨_, _, none⟩) (by (try dsimp only) <;> omega)).trans qa0; replace qa1 := (hb3.cell (p := ⟨_, _, none⟩) (by (try dsimp only) <;> omega)).trans qa1; replace qa2 := (hb3.cell (p := ⟨_, _, none⟩) (by (try dsimp only) <;> omega)).trans qa2; replace qa3 := (hb3.cell (p := ⟨_, _, none⟩) (by (try dsimp only) <;> omega)).trans qa3; replace qa4 := (hb3.cell (p := ⟨_, _, none⟩) (by (try dsimp only) <;> omega)).trans qa4; replace qa5 := (hb3.cell (p := ⟨_, _, none⟩) (by (try dsimp only) <;> omega)).trans qa5; replace qa6 := (hb3.cell (p := ⟨_, _, none⟩) (by (try dsimp only) <;> omega)).trans qa6; replace hbA := Below.trans hbA (Below.mono hb3 (by omega)))
  obtain ⟨y, hy⟩ : ∃ y, tarE name from_ PZ SB SR E zs bs rs ds = y := ⟨_, rfl⟩
  rw [hy]
  have HY := Lib.hid hy
  clear hy
  by_cases hy0 : y = 0
  case neg =>
    have q5 : (y != 0) = true := by simpa using hy0
    clear hy0
    go_wp2_with fail
    refine (awake_any _).mono ?_
    rintro r w9 ⟨rfl, hb9⟩
    go_wp2_with fail
    go_ret
    exact ⟨rfl, hbA.trans (hb9.mono hbA.size)⟩
  subst hy0
  go_upto_region 4 with (fail)
  (obtain ⟨X, hWX, hbX, hzX, f1X, pfa⟩ := box1 w3 #[.string name, .int .i64 from_, .bool split, .slice Az nz cz, .slice Ab nb cb, .slice Ar nr cr, .slice Ad nd cd] 39; rw [← hWX]; have pa0 : X.cell? ⟨w3.heap.size, 0, none⟩ = some (.string name) := f1X 0 _ rfl; have pa1 : X.cell? ⟨w3.heap.size, 1, none⟩ = some (.int .i64 from_) := f1X 1 _ rfl; have pa2 : X.cell? ⟨w3.heap.size, 2, none⟩ = some (.bool split) := f1X 2 _ rfl; have pa3 : X.cell? ⟨w3.heap.size, 3, none⟩ = some (.slice Az nz cz) := f1X 3 _ rfl; have pa4 : X.cell? ⟨w3.heap.size, 4, none⟩ = some (.slice Ab nb cb) := f1X 4 _ rfl; have pa5 : X.cell? ⟨w3.heap.size, 5, none⟩ = some (.slice Ar nr cr) := f1X 5 _ rfl; have pa6 : X.cell? ⟨w3.heap.size, 6, none⟩ = some (.slice Ad nd cd) := f1X 6 _ rfl; clear hWX f1X)
  have hbB := hbA.trans (hbX.mono hbA.size)
  have hzX2 : w3.heap.size < X.heap.size := hzX
  have hww3 : w.heap.size < w3.heap.size := by omega
  have hwX : w.heap.size < X.heap.size := by omega
  (have hzhbX := hbX.size; replace qa0 := (hbX.cell (p := ⟨_, _, none⟩) (by (try dsimp only) <;> omega)).trans qa0; replace qa1 := (hbX.cell (p := ⟨_, _, none⟩) (by (try dsimp only) <;> omega)).trans qa1; replace qa2 := (hbX.cell (p := ⟨_, _, none⟩) (by (try dsimp only) <;> omega)).trans qa2; replace qa3 := (hbX.cell (p := ⟨_, _, none⟩) (by (try dsimp only) <;> omega)).trans qa3; replace qa4 := (hbX.cell (p := ⟨_, _, none⟩) (by (try dsimp only) <;> omega)).trans qa4; replace qa5 := (hbX.cell (p := ⟨_, _, none⟩) (by (try dsimp only) <;> omega)).trans qa5; replace qa6 := (hbX.cell (p := ⟨_, _, none⟩) (by (try dsimp only) <;> omega)).trans qa6)
  obtain ⟨kq, hkq⟩ : ∃ kq : Nat, kd % 4 = kq := ⟨_, rfl⟩
  have hk3 : kq ≤ 3 := by omega
  have hrem : Int.tmod (kd : Int) 4 = (kq : Int) := by
    rw [Int.tmod_eq_emod_of_nonneg (by omega)]; omega
  have hwk : IntKind.i64.wrap (kd : Int) = (kd : Int) := IntWalk.i64_in _ (by omega)
  have hwq : IntKind.i64.wrap (1 + (kq : Int)) = 1 + (kq : Int) := IntWalk.i64_in _ (by omega)
  clear hbX hzX
  have hg29 : True := trivial
  go_upto_if 29 with fail
  go_cut [8] (fun _ wx => ∃ (Y : World) (AD : Option Addr) (ND CD : Nat) (ds' : List Dq), Y = wx ∧ Below w.heap.size w Y ∧ w3.heap.size < Y.heap.size ∧ (Y.cell? ⟨w3.heap.size, 0, none⟩ = some (.string name) ∧ Y.cell? ⟨w3.heap.size, 1, none⟩ = some (.int .i64 from_) ∧ Y.cell? ⟨w3.heap.size, 2, none⟩ = some (.bool split) ∧ Y.cell? ⟨w3.heap.size, 3, none⟩ = some (.slice Az nz cz) ∧ Y.cell? ⟨w3.heap.size, 4, none⟩ = some (.slice Ab nb cb) ∧ Y.cell? ⟨w3.heap.size, 5, none⟩ = some (.slice Ar nr cr) ∧ Y.cell? ⟨w3.heap.size, 6, none⟩ = some (.slice AD ND CD)) ∧ (∀ j, Y.frozen? ⟨w3.heap.size, j, none⟩ = false) ∧ Y.cell? ⟨w.heap.size, 5, none⟩ = some (.slice Ar nr cr) ∧ Sl Y AD ND CD ds' ∧ (0 < ND → ∀ (b off : Nat), AD = some ⟨b, off, none⟩ → b ≠ w3.heap.size) ∧ (∀ x ∈ ds', x ∈ ds) ∧ discsE E ds' = 0)
  case first =>
    obtain ⟨_, _, _, _, _, _, g7⟩ := tarE_zero HY.out
    have HG7 := Lib.hid g7
    clear g7
    by_cases hnd0 : nd = 0
    · have hq0 : ¬ (0 : Int) < (nd : Int) := by omega
      have HN0 := Lib.hid hnd0
      clear hnd0
      go_wp2_with fail
      go_meet
      exact ⟨X, Ad, nd, cd, ds, rfl, hbB, hzX2, ⟨pa0, pa1, pa2, pa3, pa4, pa5, pa6⟩, pfa, qa5, (HT.out.on hbB).d, fun h => absurd h (by have := HN0.out; omega), fun x hx => hx, HG7.out⟩
    · have hq0 : (0 : Int) < (nd : Int) := by omega
      obtain ⟨ka, hka⟩ : ∃ ka : Nat, a % nd = ka := ⟨_, rfl⟩
      have hkn : ka < nd := by rw [← hka]; exact Nat.mod_lt _ (by omega)
      have hremA : Int.tmod (a : Int) (nd : Int) = (ka : Int) := by
        rw [Int.tmod_eq_emod_of_nonneg (by omega), ← hka]; exact (Int.natCast_emod a nd).symm
      have hwa : IntKind.i64.wrap (a : Int) = (a : Int) := IntWalk.i64_in _ (by omega)
      have hwk1 : IntKind.i64.wrap ((ka : Int) + 1) = (ka : Int) + 1 := IntWalk.i64_in _ (by omega)
      have hndz : ((nd : Int) == 0) = false := by rw [beq_eq_false_iff_ne]; omega
      have HKA := Lib.hid hka
      clear hka
      have hle := HT.out.d.le
      have hlenD := HT.out.d.len
      have hslT1 : ∀ W, (Instr.slice 37 (.slice Ad nd cd) none (some (.int .i64 (ka : Int))) none).run Try.prog W = .ok (.slice Ad ka cd) W := fun W => run_slice_to (sz := 6) (by kernel_rfl) (by kernel_rfl) (by omega) W
      obtain ⟨A2, hA2⟩ : ∃ A2, (if cd = ka + 1 then Ad else Ad.map (·.add ((ka + 1) * 6))) = A2 := ⟨_, rfl⟩
      obtain ⟨n2, hn2⟩ : ∃ n2, nd - (ka + 1) = n2 := ⟨_, rfl⟩
      obtain ⟨c2, hc2⟩ : ∃ c2, cd - (ka + 1) = c2 := ⟨_, rfl⟩
      have hslT2 : ∀ W, (Instr.slice 37 (.slice Ad nd cd) (some (.int .i64 ((ka : Int) + 1))) none none).run Try.prog W = .ok (.slice A2 n2 c2) W := fun W => by
        have h := run_slice_from (P := Try.prog) (A := Ad) (n := nd) (c := cd) (k := ka + 1) (t := 37) (sz := 6) (by kernel_rfl) (by kernel_rfl) (by omega) W
        rw [hA2, hn2, hc2] at h
        exact h
      have hnil2 : A2 = none → c2 = 0 := fun e => by
        have hadn : Ad = none := by
          rw [e] at hA2
          split at hA2
          · exact hA2
          · cases Ad with
            | none => rfl
            | some x => cases hA2
        have := HND.out hadn
        omega
      have hsl2 : ∀ W', Below w.heap.size w W' → Sl W' A2 n2 c2 (ds.drop (ka + 1)) := fun W' hb => by
        have h := Sl.dropG ((HT.out.on hb).d) (k := ka + 1) (by omega)
        rw [← hA2, ← hn2, ← hc2]
        exact h
      have HNIL2 := Lib.hid hnil2
      have HSL2 := Lib.hid hsl2
      have hn2b : n2 ≤ 70 := by omega
      clear hA2 hn2 hc2 hnil2 hsl2
      have hbe : Below X.heap.size X (X.drew.alloc (.cells #[] 58)) := (Below.refl _ _).drew.alloc (Nat.le_refl _) _
      have HBE := Lib.hid hbe
      have OWD : Hid (Ow (X.drew.alloc (.cells #[] 58)) X.heap.size 58 (.slice (some ⟨X.heap.size, 0, none⟩) 0 0) ([] : List Dq)) := Lib.hid (World.ownsRow_lit X.drew #[] 0 (Nat.le_refl _) (Nat.zero_le _) rfl)
      have SL1 : Hid (Sl (X.drew.alloc (.cells #[] 58)) Ad ka cd (ds.take ka)) := Lib.hid (Sl.takeK ((HT.out.on (hbB.trans (hbe.mono hbB.size))).d) (by omega))
      have hl1 : ([] : List Dq).length + ka ≤ 2000000 := by simp; omega
      have hl2 : (ds.take ka).length + n2 ≤ 2000000 := by rw [List.length_take]; omega
      have hzE := hbe.size
      clear hbe hle hlenD
      go_upto_region 6 with (fail)
      go_region_law (first
        | (refine step_append rfl (.tmp 36) (.tmp 40) 37 rfl X.heap.size 58 _ 80 Try.underlying37 info_disc rfl (.slice (some ⟨X.heap.size, 0, none⟩) 0 0) ([] : List Dq) rfl OWD.out Ad ka cd (ds.take ka) rfl HND.out SL1.out hl1 (by omega) hzE ?_; intro v5 w5 ho5 hu5; have hb5 := HBE.out.grown hu5.grew hzE (fun j hj => (OWD.out.lt j hj).1); rw [List.nil_append] at ho5; have HO5 := Lib.hid ho5; have HB5 := Lib.hid hb5; have qa6 := (hb5.cell (p := ⟨w.heap.size, 6, none⟩) hwX).trans qa6; have pa6 := (hb5.cell (p := ⟨w3.heap.size, 6, none⟩) hzX2).trans pa6; clear ho5 hu5 hb5)
        | (refine step_append rfl (.tmp 41) (.tmp 46) 37 rfl X.heap.size 58 _ 80 Try.underlying37 info_disc rfl v5 (ds.take ka) rfl HO5.out A2 n2 c2 (ds.drop (ka + 1)) rfl HNIL2.out (HSL2.out _ (hbB.trans (HB5.out.mono hbB.size))) hl2 (by omega) HB5.out.size ?_; intro v6 w6 ho6 hu6; have hb6 := HB5.out.grown hu6.grew HB5.out.size (fun j hj => (HO5.out.lt j hj).1); obtain ⟨A6, m6, c6, hv6⟩ : ∃ (A6 : Option Addr) (m6 c6 : Nat), v6 = .slice A6 m6 c6 := (by obtain ⟨A6, c6, hv, _⟩ := ho6.val; exact ⟨_, _, _, hv⟩); subst hv6; have HO6 := Lib.hid ho6; have HB6 := Lib.hid hb6; have pa6 := (hb6.cell (p := ⟨w3.heap.size, 6, none⟩) hzX2).trans (show X.cell? ⟨w3.heap.size, 6, none⟩ = some (.slice Ad nd cd) from by assumption); have pf6 := (hb6.frozen (p := ⟨w3.heap.size, 6, none⟩) hzX2).trans (pfa 6); clear ho6 hu6 hb6))
      all_goals
        have hne : (Value.slice A6 m6 c6).ownBlock ≠ some w3.heap.size := fun e => by have := (HO6.out.lt _ e).1; omega
        obtain ⟨U, hSU, hnU, hfarU, hfrU, hblU, hszU⟩ := set1 w3.heap.size 6 (u := .slice A6 m6 c6) pa6
        rw [← hSU]
        have HOU := HO6.out.setFar (p := ⟨w3.heap.size, 6, none⟩) hne (.slice A6 m6 c6)
        rw [← hSU] at HOU
        clear hSU
        have HOU2 := Lib.hid HOU
        have HNE := Lib.hid hne
        have hbU : Below w.heap.size w U := Below.trans (hbB.trans (HB6.out.mono hbB.size)) (hblU _ (by omega))
        have hw3U : w3.heap.size < U.heap.size := by have := HB6.out.size; omega
        have pu0 := (hfarU w3.heap.size 0 (.inr (by omega))).trans ((HB6.out.cell (p := ⟨w3.heap.size, 0, none⟩) hzX2).trans pa0)
        have pu1 := (hfarU w3.heap.size 1 (.inr (by omega))).trans ((HB6.out.cell (p := ⟨w3.heap.size, 1, none⟩) hzX2).trans pa1)
        have pu2 := (hfarU w3.heap.size 2 (.inr (by omega))).trans ((HB6.out.cell (p := ⟨w3.heap.size, 2, none⟩) hzX2).trans pa2)
        have pu3 := (hfarU w3.heap.size 3 (.inr (by omega))).trans ((HB6.out.cell (p := ⟨w3.heap.size, 3, none⟩) hzX2).trans pa3)
        have pu4 := (hfarU w3.heap.size 4 (.inr (by omega))).trans ((HB6.out.cell (p := ⟨w3.heap.size, 4, none⟩) hzX2).trans pa4)
        have pu5 := (hfarU w3.heap.size 5 (.inr (by omega))).trans ((HB6.out.cell (p := ⟨w3.heap.size, 5, none⟩) hzX2).trans pa5)
        have qu5 := (hfarU w.heap.size 5 (.inl (by omega))).trans ((HB6.out.cell (p := ⟨w.heap.size, 5, none⟩) hwX).trans qa5)
        have hfz : ∀ j, U.frozen? ⟨w3.heap.size, j, none⟩ = false := fun j => (hfrU _ j).trans ((HB6.out.frozen (p := ⟨w3.heap.size, j, none⟩) hzX2).trans (pfa j))
        clear HOU hne
        go_wp2_with fail
        go_meet
        obtain ⟨A7, c7, hv7, hs7⟩ := HOU2.out.sl
        have hA : A6 = A7 := by injection hv7
        have hm : m6 = (ds.take ka ++ ds.drop (ka + 1)).length := by injection hv7
        have hcc : c6 = c7 := by injection hv7
        rw [← hA, ← hm, ← hcc] at hs7
        exact ⟨U, A6, m6, c6, ds.take ka ++ ds.drop (ka + 1), rfl, hbU, hw3U, ⟨pu0, pu1, pu2, pu3, pu4, pu5, hnU⟩, hfz, qu5, hs7, fun _ b off e hb => HNE.out (by rw [e]; exact congrArg some hb), fun x hx => (List.mem_append.1 hx).elim List.mem_of_mem_take List.mem_of_mem_drop, discsE_less HG7.out ka⟩
  case rest =>
    clear pa0 pa1 pa2 pa3 pa4 pa5 pa6 pfa qa0 qa1 qa2 qa3 qa4 qa5 qa6 hbB hzX2 hwX
    obtain ⟨Y, AD, ND, CD, ds', rfl, hbY, hzX2, ⟨pa0, pa1, pa2, pa3, pa4, pa5, pa6⟩, pfa, qa5, hsd, hapart, hin, hd0⟩ := hcut
    have hwX : w.heap.size < Y.heap.size := by omega
    have HSD := Lib.hid hsd
    have HAP := Lib.hid hapart
    have HIN := Lib.hid hin
    have HD0 := Lib.hid hd0
    clear hsd hapart hin hd0
    go_upto_region 8 with (fail)
    have hbe : Below Y.heap.size Y ((Y.alloc (.cells #[.int .i64 0, .int .i64 1, .int .i64 0] 44)).alloc (.cells #[.int .i64 (1 + (kq : Int)), .string ⟨#[]⟩, .string ⟨#[]⟩, .int .i64 0, .slice (some ⟨Y.heap.size, 0, none⟩) 1 1] 46)) := ((Below.refl _ _).alloc (Nat.le_refl _) _).alloc (by rw [alloc_size]; omega) _
    have HRS : Hid (Sl ((Y.alloc (.cells #[.int .i64 0, .int .i64 1, .int .i64 0] 44)).alloc (.cells #[.int .i64 (1 + (kq : Int)), .string ⟨#[]⟩, .string ⟨#[]⟩, .int .i64 0, .slice (some ⟨Y.heap.size, 0, none⟩) 1 1] 46)) Ar nr cr rs) := Lib.hid ((HT.out.on (hbY.trans (hbe.mono hbY.size))).r)
    have HS1 : Hid (Sl ((Y.alloc (.cells #[.int .i64 0, .int .i64 1, .int .i64 0] 44)).alloc (.cells #[.int .i64 (1 + (kq : Int)), .string ⟨#[]⟩, .string ⟨#[]⟩, .int .i64 0, .slice (some ⟨Y.heap.size, 0, none⟩) 1 1] 46)) (some ⟨Y.heap.size, 0, none⟩) 1 1 ([⟨0, 1, 0⟩] : List Stp)) := Lib.hid (Sl.below (Sl.new Y #[.int .i64 0, .int .i64 1, .int .i64 0] 44 Y.heap.size rfl ([⟨0, 1, 0⟩] : List Stp) 1 rfl (by unfold maxLen; decide) rfl) ((Below.refl _ _).alloc (Nat.le_refl _) _))
    have OW0 : Hid (Ow ((Y.alloc (.cells #[.int .i64 0, .int .i64 1, .int .i64 0] 44)).alloc (.cells #[.int .i64 (1 + (kq : Int)), .string ⟨#[]⟩, .string ⟨#[]⟩, .int .i64 0, .slice (some ⟨Y.heap.size, 0, none⟩) 1 1] 46)) (Y.heap.size + 1) 46 (.slice (some ⟨Y.heap.size + 1, 0, none⟩) 1 1) ([⟨1 + (kq : Int), ⟨#[]⟩, ⟨#[]⟩, 0, some ⟨Y.heap.size, 0, none⟩, 1, 1⟩] : List Rt)) := Lib.hid (by
      have h0 : Ow ((Y.alloc (.cells #[.int .i64 0, .int .i64 1, .int .i64 0] 44)).alloc (.cells #[.int .i64 (1 + (kq : Int)), .string ⟨#[]⟩, .string ⟨#[]⟩, .int .i64 0, .slice (some ⟨Y.heap.size, 0, none⟩) 1 1] 46)) (Y.alloc (.cells #[.int .i64 0, .int .i64 1, .int .i64 0] 44)).heap.size 46 (.slice (some ⟨(Y.alloc (.cells #[.int .i64 0, .int .i64 1, .int .i64 0] 44)).heap.size, 0, none⟩) 1 1) ([⟨1 + (kq : Int), ⟨#[]⟩, ⟨#[]⟩, 0, some ⟨Y.heap.size, 0, none⟩, 1, 1⟩] : List Rt) := World.ownsRow_lit (Y.alloc (.cells #[.int .i64 0, .int .i64 1, .int .i64 0] 44)) #[.int .i64 (1 + (kq : Int)), .string ⟨#[]⟩, .string ⟨#[]⟩, .int .i64 0, .slice (some ⟨Y.heap.size, 0, none⟩) 1 1] 1 (Nat.le_refl _) (by unfold maxLen; decide) rfl
      rw [alloc_size Y] at h0
      exact h0)
    have hlm : (([⟨1 + (kq : Int), ⟨#[]⟩, ⟨#[]⟩, 0, some ⟨Y.heap.size, 0, none⟩, 1, 1⟩] : List Rt)).length + nr ≤ 2000000 := by simp; omega
    have hbs : Y.heap.size + 1 ≤ ((Y.alloc (.cells #[.int .i64 0, .int .i64 1, .int .i64 0] 44)).alloc (.cells #[.int .i64 (1 + (kq : Int)), .string ⟨#[]⟩, .string ⟨#[]⟩, .int .i64 0, .slice (some ⟨Y.heap.size, 0, none⟩) 1 1] 46)).heap.size := by rw [alloc_size, alloc_size]; omega
    go_upto_region 9 with (at_builtin; go_must (
      refine wpl_appendS _ rfl (.tmp 57) (.tmp 59) 36 rfl (Y.heap.size + 1) 46 _ 72 Try.underlying36 info_rate rfl (.slice (some ⟨Y.heap.size + 1, 0, none⟩) 1 1) [⟨1 + (kq : Int), ⟨#[]⟩, ⟨#[]⟩, 0, some ⟨Y.heap.size, 0, none⟩, 1, 1⟩] rfl OW0.out Ar nr cr rs rfl HNR.out HRS.out hlm (by omega) hbs ?_
      intro v5 w5 ho5 hu5
      have hbe5 : Below Y.heap.size Y w5 := hbe.grown hu5.grew (by omega) (fun j hj => by have := (OW0.out.lt j hj).1; omega)
      have HO5 := Lib.hid ho5
      have HU5 := Lib.hid hu5
      obtain ⟨A5, c5, hv5, _⟩ := ho5.val
      obtain ⟨m5, hm5⟩ : ∃ m5, ([⟨1 + (kq : Int), ⟨#[]⟩, ⟨#[]⟩, 0, some ⟨Y.heap.size, 0, none⟩, 1, 1⟩] ++ rs : List Rt).length = m5 := ⟨_, rfl⟩
      rw [hm5] at hv5
      subst hv5
      have HM5 := Lib.hid hm5
      clear ho5 hu5 hm5
      have hz5 := hbe5.size
      (have hzhbe5 := hbe5.size; replace pa0 := (hbe5.cell (p := ⟨_, _, none⟩) (by (try dsimp only) <;> omega)).trans pa0; replace pa1 := (hbe5.cell (p := ⟨_, _, none⟩) (by (try dsimp only) <;> omega)).trans pa1; replace pa2 := (hbe5.cell (p := ⟨_, _, none⟩) (by (try dsimp only) <;> omega)).trans pa2; replace pa3 := (hbe5.cell (p := ⟨_, _, none⟩) (by (try dsimp only) <;> omega)).trans pa3; replace pa4 := (hbe5.cell (p := ⟨_, _, none⟩) (by (try dsimp only) <;> omega)).trans pa4; replace pa5 := (hbe5.cell (p := ⟨_, _, none⟩) (by (try dsimp only) <;> omega)).trans pa5; replace pa6 := (hbe5.cell (p := ⟨_, _, none⟩) (by (try dsimp only) <;> omega)).trans pa6; replace pfa := fun j => (hbe5.frozen (p := ⟨_, j, none⟩) (by (try dsimp only) <;> omega)).trans (pfa j))))
    have hbC := hbY.trans (hbe5.mono hbY.size)
    have hst : ∀ j v, (#[.int .i64 0, .int .i64 1, .int .i64 0] : Array Value).toList[j]? = some v → w5.cell? ⟨Y.heap.size, j, none⟩ = some v := fun j v hv => by
      have h1 := upc HU5.out (b := Y.heap.size) (o := j) (by rw [alloc_size, alloc_size]; omega) (fun e => by have := (OW0.out.lt _ e).1; omega)
      rw [h1]
      have h2 := ((Below.refl (Y.alloc (.cells #[.int .i64 0, .int .i64 1, .int .i64 0] 44)).heap.size (Y.alloc (.cells #[.int .i64 0, .int .i64 1, .int .i64 0] 44))).alloc (Nat.le_refl _) (.cells #[.int .i64 (1 + (kq : Int)), .string ⟨#[]⟩, .string ⟨#[]⟩, .int .i64 0, .slice (some ⟨Y.heap.size, 0, none⟩) 1 1] 46)).cell (p := ⟨Y.heap.size, j, none⟩) (show Y.heap.size < (Y.alloc (.cells #[.int .i64 0, .int .i64 1, .int .i64 0] 44)).heap.size by rw [alloc_size]; omega)
      rw [h2]
      have h3 := cells_new Y #[.int .i64 0, .int .i64 1, .int .i64 0] 44 Y.heap.size j rfl v hv
      rw [add_mk, Nat.zero_add] at h3
      exact h3
    have hne : (Value.slice A5 m5 c5).ownBlock ≠ some w3.heap.size := fun e => by have := (HO5.out.lt _ e).1; omega
    obtain ⟨U, hSU, hnU, hfarU, hfrU, hblU, hszU⟩ := set1 w3.heap.size 5 (u := .slice A5 m5 c5) pa5
    rw [← hSU]
    have HOU := HO5.out.setFar (p := ⟨w3.heap.size, 5, none⟩) hne (.slice A5 m5 c5)
    rw [← hSU] at HOU
    clear hSU
    replace pa5 := hnU
    replace pa0 := (hfarU _ _ (by omega)).trans pa0
    replace pa1 := (hfarU _ _ (by omega)).trans pa1
    replace pa2 := (hfarU _ _ (by omega)).trans pa2
    replace pa3 := (hfarU _ _ (by omega)).trans pa3
    replace pa4 := (hfarU _ _ (by omega)).trans pa4
    replace pa6 := (hfarU _ _ (by omega)).trans pa6
    replace hbC := Below.trans hbC (hblU _ (by omega))
    have hz85 := HU5.out.size
    rw [alloc_size, alloc_size] at hz85
    have hs1 : Sl U (some ⟨Y.heap.size, 0, none⟩) 1 1 ([⟨0, 1, 0⟩] : List Stp) := ⟨rfl, Nat.le_refl _, by unfold maxLen; decide, fun _ => ⟨Y.heap.size, 0, rfl, by omega, fun i x hx j v hv => by
      cases i with
      | zero =>
        cases hx
        have h4 := hst j v hv
        have h5 := (hfarU Y.heap.size j (.inl (by omega))).trans h4
        simpa using h5
      | succ i => simp at hx⟩⟩
    obtain ⟨A6, c6, hv6, hs6⟩ := HOU.sl
    rw [HM5.out] at hv6 hs6
    cases hv6
    have HSDU := Lib.hid (Sl.far (HSD.out.below hbe5) HAP.out (fun b o' hb => hfarU b o' (.inl hb)) hszU)
    have HSU := Lib.hid hs6
    have HS1U := Lib.hid hs1
    clear hs6 hs1 hst HOU hnU hfarU hfrU hblU HRS HS1 OW0 hbe HU5 HO5 hlm hbs
    have hne2 : ∀ x ∈ rs, x ≠ (⟨1 + (kq : Int), ⟨#[]⟩, ⟨#[]⟩, 0, some ⟨Y.heap.size, 0, none⟩, 1, 1⟩ : Rt) := fun x hx e => by
      have h6 := HT.out.rk x hx
      rw [e] at h6
      obtain ⟨b7, off7, e7, hl7, _⟩ := h6.base (show 0 < 1 by decide)
      cases e7
      omega
    have HTU : Hid (TS U name Az nz cz Ab nb cb A5 m5 c5 AD ND CD PZ SB (srF (⟨1 + (kq : Int), ⟨#[]⟩, ⟨#[]⟩, 0, some ⟨Y.heap.size, 0, none⟩, 1, 1⟩ : Rt) SR) E zs bs ((⟨1 + (kq : Int), ⟨#[]⟩, ⟨#[]⟩, 0, some ⟨Y.heap.size, 0, none⟩, 1, 1⟩ : Rt) :: rs) ds') := Lib.hid (by
      have k := HT.out.on hbC
      refine ⟨k.nm, k.z, k.zk, k.zn, k.zp, k.b, k.bk, k.bn, HSU.out, fun x hx => ?_, HSDU.out, fun x hx => k.dk x (HIN.out x hx), fun x hx => k.dn x (HIN.out x hx)⟩
      rcases List.mem_cons.1 hx with rfl | hx
      · rw [srF_self]; exact HS1U.out
      · rw [srF_other (hne2 x hx)]; exact k.rk x hx)
    obtain ⟨g1, g2, g3, g4, g5, g6, g7⟩ := tarE_zero HY.out
    have hr0 : ratesE (srF (⟨1 + (kq : Int), ⟨#[]⟩, ⟨#[]⟩, 0, some ⟨Y.heap.size, 0, none⟩, 1, 1⟩ : Rt) SR) zs bs ((⟨1 + (kq : Int), ⟨#[]⟩, ⟨#[]⟩, 0, some ⟨Y.heap.size, 0, none⟩, 1, 1⟩ : Rt) :: rs) = 0 := ratesE_more ((ratesE_congr (fun x hx => srF_other (hne2 x hx))).trans g6) (by have := HT.out.r.len; omega) (rateE_front (by constructor <;> (dsimp only; omega)) rfl rfl rfl (srF_self _ _))
    have HY2 := Lib.hid (tarE_good g1 g2 g3 g4 g5 hr0 HD0.out)
    have HC1 := Lib.hid (covB_front (zs := zs) (bs := bs) (rs := rs) (r := (⟨1 + (kq : Int), ⟨#[]⟩, ⟨#[]⟩, 0, some ⟨Y.heap.size, 0, none⟩, 1, 1⟩ : Rt)) (k := 1 + (kq : Int)) rfl rfl rfl (by omega) (by omega))
    have HC0 : Hid (covB zs bs ((⟨1 + (kq : Int), ⟨#[]⟩, ⟨#[]⟩, 0, some ⟨Y.heap.size, 0, none⟩, 1, 1⟩ : Rt) :: rs) 0 = false) := Lib.hid (covB_out (.inl (by decide)))
    clear g1 g2 g3 g4 g5 g6 g7 hr0 hne2 hne
    go_wp2_with fail
    refine (tariff_any name from_ split Az nz cz Ab nb cb A5 m5 c5 AD ND CD PZ SB (srF (⟨1 + (kq : Int), ⟨#[]⟩, ⟨#[]⟩, 0, some ⟨Y.heap.size, 0, none⟩, 1, 1⟩ : Rt) SR) E zs bs ((⟨1 + (kq : Int), ⟨#[]⟩, ⟨#[]⟩, 0, some ⟨Y.heap.size, 0, none⟩, 1, 1⟩ : Rt) :: rs) ds' _ HTU.out).mono ?_
    rintro r w6 ⟨rfl, hb6⟩
    rw [HY2.out]
    have hzU := hbC.size
    have hz6 := hb6.size
    (have hzhb6 := hb6.size; replace pa0 := (hb6.cell (p := ⟨_, _, none⟩) (by (try dsimp only) <;> omega)).trans pa0; replace pa1 := (hb6.cell (p := ⟨_, _, none⟩) (by (try dsimp only) <;> omega)).trans pa1; replace pa2 := (hb6.cell (p := ⟨_, _, none⟩) (by (try dsimp only) <;> omega)).trans pa2; replace pa3 := (hb6.cell (p := ⟨_, _, none⟩) (by (try dsimp only) <;> omega)).trans pa3; replace pa4 := (hb6.cell (p := ⟨_, _, none⟩) (by (try dsimp only) <;> omega)).trans pa4; replace pa5 := (hb6.cell (p := ⟨_, _, none⟩) (by (try dsimp only) <;> omega)).trans pa5; replace pa6 := (hb6.cell (p := ⟨_, _, none⟩) (by (try dsimp only) <;> omega)).trans pa6; replace hbC := Below.trans hbC (Below.mono hb6 (by omega)))
    replace HTU := Lib.hid (HTU.out.on hb6)
    go_wp2_with fail
    refine (covered_agg name from_ split Az nz cz Ab nb cb A5 m5 c5 AD ND CD (1 + (kq : Int)) zs bs ((⟨1 + (kq : Int), ⟨#[]⟩, ⟨#[]⟩, 0, some ⟨Y.heap.size, 0, none⟩, 1, 1⟩ : Rt) :: rs) _ HTU.out.z HTU.out.b HTU.out.r).mono ?_
    rintro r w7 ⟨rfl, hb7⟩
    rw [HC1.out]
    have hzU6 := hbC.size
    (have hzhb7 := hb7.size; replace pa0 := (hb7.cell (p := ⟨_, _, none⟩) (by (try dsimp only) <;> omega)).trans pa0; replace pa1 := (hb7.cell (p := ⟨_, _, none⟩) (by (try dsimp only) <;> omega)).trans pa1; replace pa2 := (hb7.cell (p := ⟨_, _, none⟩) (by (try dsimp only) <;> omega)).trans pa2; replace pa3 := (hb7.cell (p := ⟨_, _, none⟩) (by (try dsimp only) <;> omega)).trans pa3; replace pa4 := (hb7.cell (p := ⟨_, _, none⟩) (by (try dsimp only) <;> omega)).trans pa4; replace pa5 := (hb7.cell (p := ⟨_, _, none⟩) (by (try dsimp only) <;> omega)).trans pa5; replace pa6 := (hb7.cell (p := ⟨_, _, none⟩) (by (try dsimp only) <;> omega)).trans pa6; replace hbC := Below.trans hbC (Below.mono hb7 (by omega)))
    replace HTU := Lib.hid (HTU.out.on hb7)
    go_wp2_with fail
    refine (covered_agg name from_ split Az nz cz Ab nb cb A5 m5 c5 AD ND CD 0 zs bs ((⟨1 + (kq : Int), ⟨#[]⟩, ⟨#[]⟩, 0, some ⟨Y.heap.size, 0, none⟩, 1, 1⟩ : Rt) :: rs) _ HTU.out.z HTU.out.b HTU.out.r).mono ?_
    rintro r w8 ⟨rfl, hb8⟩
    rw [HC0.out]
    replace hbA := hbC.trans (hb8.mono hbC.size)
    go_wp2_with fail
    refine (awake_any _).mono ?_
    rintro r w9 ⟨rfl, hb9⟩
    go_wp2_with fail
    go_ret
    exact ⟨rfl, hbA.trans (hb9.mono hbA.size)⟩
end Cv
end Go.Proofs.Ytcifbjgomflanaa
