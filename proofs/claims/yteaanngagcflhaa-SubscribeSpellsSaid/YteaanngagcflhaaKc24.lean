/-
  Subscriptions: spells in memory. No condition.
-/
import Derived.Test.YteaanngagcflhaaKc23
import Derived.Test.YteaanngagcflhaaKc06
import Derived.BigQuiet
import Derived.StillTailTactics
import Derived.Lib.Overlaps
import Derived.Deep.DeepCutAuto
import Derived.Deep.RegionWith
import Derived.Laws.RangeAny
import Derived.Deep.RegionHeld
import Derived.Deep.RegionHeldLaw
set_option maxRecDepth 100000
set_option linter.unusedVariables false
set_option linter.unusedSimpArgs false
namespace Go.Proofs.Yteaanngagcflhaa
open Go.RowKit
namespace Ss
open Cu
structure Lv where
  f : Int
  t : Int
  plan : ByteArray
  A : Option Addr
  n : Nat
  c : Nat
  susp : Bool
  fam : Bool
instance : Flat Lv where
  sz := 6
  pos := by decide
  cells v := [.int .i64 v.f, .int .i64 v.t, .string v.plan, .slice v.A v.n v.c, .bool v.susp, .bool v.fam]
  len _ := rfl
  one _ := by simp [Value.oneCell']
def Lv.val (v : Lv) : Value := .agg #[.int .i64 v.f, .int .i64 v.t, .string v.plan, .slice v.A v.n v.c, .bool v.susp, .bool v.fam]
structure LR (w : World) (v : Lv) (d : Iv Q) : Prop where
  f : v.f = d.from_
  t : v.t = d.to_
  plan : v.plan = d.q.plan
  a0 : v.A = none → v.c = 0
  a : Sl w v.A v.n v.c d.q.prods
  susp : v.susp = d.q.susp
  fam : v.fam = d.q.fam
theorem LR.on {w w' : World} {v : Lv} {d : Iv Q} (h : LR w v d) (hb : Below w.heap.size w w') : LR w' v d := ⟨h.f, h.t, h.plan, h.a0, h.a.below hb, h.susp, h.fam⟩
def LRP (w : World) (p : Nat → Prop) (v : Lv) (d : Iv Q) : Prop := LR w v d ∧ OkA p v.A v.n
theorem famL : Fam LRP where
  mono h k := ⟨h.1, h.2.mono k⟩
  keep h k := ⟨⟨h.1.f, h.1.t, h.1.plan, h.1.a0, h.1.a.keepP h.2 k, h.1.susp, h.1.fam⟩, h.2⟩
  lt h := ⟨h.1, h.1.a.okLt h.2⟩
def LI (w : World) (A : Option Addr) (n c : Nat) (ds : List (Iv Q)) : Prop := LS LR w A n c ds
theorem LI.on {w w' : World} {A : Option Addr} {n c : Nat} {ds : List (Iv Q)} (h : LI w A n c ds) (hb : Below w.heap.size w w') : LI w' A n c ds := LS.on (fun _ _ _ _ h hb => h.on hb) h hb
theorem infoL : (Try.prog.info? 76).map (fun i => (i.zero, i.size, i.bytes)) = some (some (.agg #[.int .i64 0, .int .i64 0, .string ⟨#[]⟩, .slice none 0 0, .bool false, .bool false]), 6, 64) := by kernel_rfl
theorem rowL {w : World} {base : Nat} {e : TypeId} {v : Value} {xs : List Lv} {ds : List (Iv Q)} (h : Ow w base e v xs) (k : Rowed LRP base w v xs ds) : ∃ A n c, v = .slice A n c ∧ LI w A n c ds := by
  obtain ⟨A, c, rfl, h0, hs⟩ := h.slN
  exact ⟨A, _, c, rfl, h0, xs, hs, k.imp fun _ _ h => h.1⟩
theorem spell_app {w wc w9 w10 : World} {V V' : Value} {ys : List Lv} {out : List (Iv Q)} {A9 : Option Addr} {n9 c9 : Nat} {d : Iv Q} {o : Obj} {f t : Int} {plan : ByteArray} {susp fam : Bool}
    (ho : Ow wc w.heap.size 76 V ys) (hr : Rowed LRP w.heap.size wc V ys out) (hb : Below w.heap.size w wc)
    (h9 : Ow w9 wc.heap.size 9 (.slice A9 n9 c9) d.q.prods) (hu9 : Upd wc.drew w9 (.slice none 0 0) (.slice A9 n9 c9)) (hd : f = d.from_ ∧ t = d.to_ ∧ plan = d.q.plan ∧ susp = d.q.susp ∧ fam = d.q.fam)
    (ho10 : Ow w10 w.heap.size 76 V' (ys ++ [⟨f, t, plan, A9, n9, c9, susp, fam⟩])) (hu10 : Upd (w9.alloc o) w10 V V') :
    Rowed LRP w.heap.size w10 V' (ys ++ [⟨f, t, plan, A9, n9, c9, susp, fam⟩]) (out ++ [d]) ∧ Below w.heap.size w w10 := by
  have hg := hb.size
  have hk9 : Keeps (fun b => w.heap.size ≤ b ∧ V.ownBlock ≠ some b) wc w9 := (Keeps.ofBelow (Below.refl _ _).drew).trans (Keeps.ofUpd hu9 fun b _ e => by cases e)
  have hal : Below w9.heap.size w9 (w9.alloc o) := (Below.refl _ _).alloc (Nat.le_refl _) _
  obtain ⟨A, c, e, h0, hs⟩ := h9.slN
  injection e with e1 e2 e3
  subst e1 e2 e3
  have hok : OkA (fun b => w.heap.size ≤ b ∧ V.ownBlock ≠ some b) A9 d.q.prods.length := h9.okA.mono fun b hb2 => ⟨by omega, fun e => by have := ho.lt b e; omega⟩
  have hb9 : Below w.heap.size w w9 := hu9.belowBase (Ow.nil_ (α := ByteArray) wc.drew w.heap.size 9) hb.drew hg
  have hV : Ow (w9.alloc o) w.heap.size 76 V ys := (hu9.other (ho.drew) (by cases h : V.ownBlock; exact .inl rfl; exact .inr (by simp [Value.ownBlock]))).alloc _
  refine ⟨Rowed.upd famL (Rowed.below famL (All2.snoc (hr.keep famL hk9) ⟨⟨hd.1, hd.2.1, hd.2.2.1, h0, hs, hd.2.2.2.1, hd.2.2.2.2⟩, hok⟩) hal) hu10, ?_⟩
  exact hu10.belowBase hV (hb9.alloc hb9.size _) (by have := hb9.size; rw [World.size_alloc]; omega)
end Ss
end Go.Proofs.Yteaanngagcflhaa
namespace Go.Proofs.Yteaanngagcflhaa
open Go.RowKit
namespace Ss
open Cu
theorem jn_len {M : List Mo} : ∀ k, (jnN M k).length ≤ k
  | 0 => Nat.le_refl _
  | k + 1 => by
    have ih := jn_len (M := M) k
    cases h : M[k]? with
    | none => show (match M[k]? with | some m => addJ (jnN M k) m | none => jnN M k).length ≤ _; rw [h]; dsimp only; omega
    | some m =>
      rw [jnN_succ h]
      unfold addJ
      split
      · split
        · omega
        · simp; omega
      · simp; omega
theorem spK_len {J : List Mo} : ∀ k, (spK J k).length ≤ k
  | 0 => Nat.le_refl _
  | k + 1 => by
    have ih := spK_len (J := J) k
    cases h : J[k]? with
    | none => show (match J[k]? with | some m => if m.s.id = 0 then spK J k else spK J k ++ [(⟨m.at_, toJ J (k + 1), qOf m.s⟩ : Iv Q)] | none => spK J k).length ≤ _; rw [h]; dsimp only; omega
    | some m =>
      rw [spK_succ h]
      split
      · omega
      · simp; omega
theorem jnN_mem {M : List Mo} {m : Mo} : ∀ k, m ∈ jnN M k → m ∈ M
  | 0, h => (by cases h)
  | k + 1, h => by
    have ih := jnN_mem (M := M) (m := m) k
    cases hm : M[k]? with
    | none => rw [show jnN M (k + 1) = jnN M k from by show (match M[k]? with | some m => addJ (jnN M k) m | none => jnN M k) = _; rw [hm]] at h; exact ih h
    | some m2 =>
      rw [jnN_succ hm] at h
      unfold addJ at h
      split at h
      · split at h
        · exact ih h
        · rcases List.mem_append.1 h with h | h
          · exact ih h
          · rw [List.mem_singleton] at h; subst h; exact List.mem_of_getElem? hm
      · rcases List.mem_append.1 h with h | h
        · exact ih h
        · rw [List.mem_singleton] at h; subst h; exact List.mem_of_getElem? hm
theorem jn_mem {l : List Ev} {x : Int} {m : Mo} (h : m ∈ jnE l x) : m ∈ moE l x := jnN_mem _ h
theorem moN_prods {l : List Ev} {x : Int} : ∀ k, k ≤ l.length → ∀ m ∈ (moN l x k).1, m.s.prods.length ≤ k
  | 0, _ => fun m h => (by cases h)
  | k + 1, hk => fun m h => by
    have ih := moN_prods (l := l) (x := x) k (by omega)
    have hp := prods_len (l := l) (x := x) (k + 1) hk
    have he := List.getElem?_eq_getElem (show k < l.length by omega)
    rw [moN_succ he] at h hp
    split at h
    · have := ih m h; omega
    · rename_i hn
      rw [if_neg hn] at hp
      rcases addM_mem h with h | rfl
      · have := ih m h; omega
      · exact hp
theorem moE_prods {l : List Ev} {x : Int} (m : Mo) (h : m ∈ moE l x) : m.s.prods.length ≤ l.length := moN_prods _ (Nat.le_refl _) m h
set_option maxHeartbeats 16000000 in
theorem Spells_any (A : Option Addr) (n c : Nat) (l : List Ev) (x : Int) (w : World) (hs : Sl w A n c l) (hn9 : n ≤ 1000) :
    Calls Try.prog 55 #[.slice A n c, .int .i64 x] w fun r w' => (∃ A' n' c', r = .returned (.slice A' n' c') ∧ LI w' A' n' c' (spE l x)) ∧ Below w.heap.size w w' := by
  have HS := Lib.hid hs
  have HL := Lib.hid hs.len
  clear hs
  go_enter Try.func55, Try.ntmps55
  go_upto_region 2 with (first
    | (go_at_call 84; go_must (refine (moments_any A n c l x _ HS.out hn9).mono ?_; rintro r w1 ⟨⟨A0, n0, c0, rfl, h1⟩, hb1⟩; have H1 := Lib.hid h1; (have hn0 : n0 ≤ 1000 := by rw [← LS.len h1]; unfold moE; have := moN_len (l := l) (x := x) l.length (Nat.le_refl _); have := HL.out; omega); clear h1))
    | (go_at_call 83; go_must (refine (joinM_any A0 n0 c0 (moE l x) _ H1.out hn0).mono ?_; rintro r w2 ⟨⟨A2, n2, c2, rfl, h2⟩, hb2⟩)))
  have hbw2 := hb1.trans (hb2.mono hb1.size)
  have H2 : Hid (LM w2 A2 n2 c2 (jnE l x)) := Lib.hid h2
  have hJL : Hid ((jnE l x).length = n2) := Lib.hid (LS.len h2)
  have hn2 : n2 ≤ 1000 := by
    have h2 := hJL.out
    have h3 : (jnE l x).length ≤ (moE l x).length := jn_len _
    have h4 : (moE l x).length ≤ l.length := moN_len (l := l) (x := x) l.length (Nat.le_refl _)
    have h5 := HL.out
    omega
  have HSP : Hid (spE l x = spK (jnE l x) (jnE l x).length) := Lib.hid rfl
  have HPJ : Hid (∀ mo ∈ jnE l x, mo.s.prods.length ≤ 100000) := Lib.hid fun mo h => by
    have := moE_prods mo (jn_mem h)
    have := HL.out
    omega
  obtain ⟨J, hJ⟩ : ∃ J, jnE l x = J := ⟨_, rfl⟩
  rw [hJ] at H2 hJL HSP HPJ
  clear h2 hJ hb1 hb2 H1 hn0
  obtain ⟨_, xs, hxs, hall⟩ := H2.out
  have HX := Lib.hid hxs
  have HA := Lib.hid hall
  have HXL := Lib.hid hxs.len
  clear hxs hall H2
  go_wp2_with fail
  go_loopw [6, 16] (fun V i wr => ∃ k : Nat, k ≤ n2 ∧ i = .int .i64 k ∧ ∃ ys, Ow wr w2.heap.size 76 V ys ∧ Rowed LRP w2.heap.size wr V ys (spK J k) ∧ Below w2.heap.size w2 wr) (fun _ i _ => n2 - (intOf i).toNat)
  case atStart => exact ⟨0, Nat.zero_le _, rfl, [], Ow.nil_ _ _ _, Rowed.nil_, Below.refl _ _⟩
  case round =>
    obtain ⟨k, hk, rfl, ys, ho, hr, hbr⟩ := hrel
    obtain ⟨A1, c1, rfl, _, _⟩ := ho.val
    obtain ⟨n1, hn1⟩ : ∃ n1, ys.length = n1 := ⟨_, rfl⟩
    have hn1k : n1 ≤ k := by rw [← hn1, hr.1]; exact spK_len k
    rw [hn1] at ho hr ⊢
    have HO := Lib.hid ho
    have HR := Lib.hid hr
    have HN1 := Lib.hid hn1
    have hgr := hbr.size
    clear ho hr hn1
    by_cases hlt : k < n2
    · obtain ⟨b, off, hAe, hbl, hcells⟩ := HX.out.baseIn hbr (by omega)
      obtain ⟨m, hm⟩ := HX.out.get hlt
      obtain ⟨mo, hmo, hmr⟩ := HA.out.at_ hm
      have HMR := Lib.hid hmr
      have e0 : wr.cell? ⟨b, off + k * 9, none⟩ = some (.int .i64 m.at_) := Sl.at_ hcells hm 0 rfl
      have e1 : wr.cell? ⟨b, off + k * 9 + 1, none⟩ = some (.int .i64 m.v.id) := Sl.at_ hcells hm 1 rfl
      have e2 : wr.cell? ⟨b, off + k * 9 + 2, none⟩ = some (.int .i64 m.v.acc) := Sl.at_ hcells hm 2 rfl
      have e3 : wr.cell? ⟨b, off + k * 9 + 3, none⟩ = some (.int .i64 m.v.since) := Sl.at_ hcells hm 3 rfl
      have e4 : wr.cell? ⟨b, off + k * 9 + 4, none⟩ = some (.string m.v.plan) := Sl.at_ hcells hm 4 rfl
      have e5 : wr.cell? ⟨b, off + k * 9 + 5, none⟩ = some (.slice m.v.An m.v.nn m.v.cn) := Sl.at_ hcells hm 5 rfl
      have e6 : wr.cell? ⟨b, off + k * 9 + 6, none⟩ = some (.slice m.v.Ap m.v.np m.v.cp) := Sl.at_ hcells hm 6 rfl
      have e7 : wr.cell? ⟨b, off + k * 9 + 7, none⟩ = some (.bool m.v.susp) := Sl.at_ hcells hm 7 rfl
      have e8 : wr.cell? ⟨b, off + k * 9 + 8, none⟩ = some (.bool m.v.fam) := Sl.at_ hcells hm 8 rfl
      have HID : Hid (m.v.id = mo.s.id) := Lib.hid hmr.2.id
      have HSUC : Hid (spK J (k + 1) = if mo.s.id = 0 then spK J k else spK J k ++ [⟨mo.at_, toJ J (k + 1), qOf mo.s⟩]) := Lib.hid (spK_succ hmo)
      have HPL : Hid (m.v.np ≤ 100000) := Lib.hid (by rw [← hmr.2.p.len]; exact HPJ.out mo (List.mem_of_getElem? hmo))
      have HNX : Hid (∀ u, k + 1 < n2 → xs[k + 1]? = some u → Mv.at_ u = toJ J (k + 1)) := Lib.hid fun u _ hu => by
        obtain ⟨mu, hmu, hr⟩ := HA.out.at_ hu
        rw [toJ_at hmu]; exact hr.1
      have HLAST : Hid (¬ k + 1 < n2 → toJ J (k + 1) = 12622780800) := Lib.hid fun h => toJ_end (by have := hJL.out; omega)
      have HC := Lib.hid @hcells
      have hkw : IntKind.i64.wrap ((k : Int) + 1) = (k : Int) + 1 := IntWalk.i64_in _ (by omega)
      obtain ⟨out, hout⟩ : ∃ out, spK J k = out := ⟨_, rfl⟩
      rw [hout] at HSUC HR
      subst hAe
      clear hcells hm hmo hmr hout
      go_upto_region 6 with (fail)
      (obtain ⟨Z, hWZ, hbZ, hzZ, f1Z, pfa⟩ := box1 wr #[.int .i64 m.at_, .int .i64 m.v.id, .int .i64 m.v.acc, .int .i64 m.v.since, .string m.v.plan, .slice m.v.An m.v.nn m.v.cn, .slice m.v.Ap m.v.np m.v.cp, .bool m.v.susp, .bool m.v.fam] 116; rw [← hWZ]; have pa0 : Z.cell? ⟨wr.heap.size, 0, none⟩ = some (.int .i64 m.at_) := f1Z 0 _ rfl; have pa1 : Z.cell? ⟨wr.heap.size, 1, none⟩ = some (.int .i64 m.v.id) := f1Z 1 _ rfl; have pa2 : Z.cell? ⟨wr.heap.size, 2, none⟩ = some (.int .i64 m.v.acc) := f1Z 2 _ rfl; have pa3 : Z.cell? ⟨wr.heap.size, 3, none⟩ = some (.int .i64 m.v.since) := f1Z 3 _ rfl; have pa4 : Z.cell? ⟨wr.heap.size, 4, none⟩ = some (.string m.v.plan) := f1Z 4 _ rfl; have pa5 : Z.cell? ⟨wr.heap.size, 5, none⟩ = some (.slice m.v.An m.v.nn m.v.cn) := f1Z 5 _ rfl; have pa6 : Z.cell? ⟨wr.heap.size, 6, none⟩ = some (.slice m.v.Ap m.v.np m.v.cp) := f1Z 6 _ rfl; have pa7 : Z.cell? ⟨wr.heap.size, 7, none⟩ = some (.bool m.v.susp) := f1Z 7 _ rfl; have pa8 : Z.cell? ⟨wr.heap.size, 8, none⟩ = some (.bool m.v.fam) := f1Z 8 _ rfl; clear hWZ f1Z)
      have hbrZ := hbr.trans (hbZ.mono hbr.size)
      have HBZ := Lib.hid hbZ
      clear e0 e1 e2 e3 e4 e5 e6 e7 e8 hbr
      by_cases hz : m.v.id = 0
      · obtain ⟨bz, dz⟩ := be_t hz
        have HE := Lib.hid (HSUC.out.trans (if_pos (by rw [← HID.out]; exact hz)))
        have HO2 := Lib.hid (HO.out.below hbZ)
        have HR2 := Lib.hid (Rowed.below famL HR.out hbZ)
        clear hz hbZ
        go_wp2_with fail
        go_roundw
        case rel => exact ⟨k + 1, by omega, by go_num, ys, HO2.out, by rw [HE.out]; exact HR2.out, hbrZ⟩
        case measure => simp [intOf]; omega
      obtain ⟨bz, dz⟩ := be_f hz
      replace HSUC := Lib.hid (HSUC.out.trans (if_neg (by rw [← HID.out]; exact hz)))
      have HOW := HO
      replace HO := Lib.hid (HO.out.below hbZ)
      replace HR := Lib.hid (Rowed.below famL HR.out hbZ)
      clear hz hbZ
      go_upto_region 8 with (fail)
      (obtain ⟨U, hWU, hbU, hzU, f1U, rfa⟩ := box1 Z #[.int .i64 m.at_, .int .i64 12622780800] 68; rw [← hWU]; have ra0 : U.cell? ⟨Z.heap.size, 0, none⟩ = some (.int .i64 m.at_) := f1U 0 _ rfl; have ra1 : U.cell? ⟨Z.heap.size, 1, none⟩ = some (.int .i64 12622780800) := f1U 1 _ rfl; clear hWU f1U)
      have HUZ := Lib.hid hbU
      have hgZ : Z.heap.size < U.heap.size := hzU
      replace HBZ := Lib.hid (HBZ.out.trans (hbU.mono HBZ.out.size))
      clear pa0 pa1 pa2 pa3 pa5 hbU
      by_cases hq : k + 1 < n2
      · have hqi : (k : Int) + 1 < (n2 : Int) := by omega
        obtain ⟨u, hu⟩ := HX.out.get hq
        have d0 : U.cell? ⟨b, off + (k + 1) * 9, none⟩ = some (.int .i64 u.at_) := cl HBZ.out (Sl.at_ HC.out hu 0 rfl)
        have HT := Lib.hid (HNX.out u hq hu)
        clear hu HNX HLAST HC
        have hkt : ((k : Int) + 1).toNat = k + 1 := by omega
        have hk0 : (0 : Int) ≤ (k : Int) + 1 := by omega
        go_upto_region 10 with (fail)
        obtain ⟨X, hX, hnX, hfarX, hfrX, hblX, hszX⟩ := set1 (w := U) Z.heap.size 1 (u := .int .i64 u.at_) ra1
        rw [← hX]
        have hc0 := (hfarX Z.heap.size 0 (.inr (by omega))).trans ra0
        have hc1 : X.cell? ⟨Z.heap.size, 1, none⟩ = some (.int .i64 (toJ J (k + 1))) := by rw [← HT.out]; exact hnX
        have HZX : Hid (Below Z.heap.size Z X) := Lib.hid (by rw [hX]; exact HUZ.out.setCell (Nat.le_refl _) _)
        clear ra0 ra1 hX hnX hfarX hfrX hblX d0
        have hneZ : (Value.slice A1 n1 c1).ownBlock ≠ some Z.heap.size := fun e => by have := HO.out.lt _ e; omega
        have hneW : (Value.slice A1 n1 c1).ownBlock ≠ some wr.heap.size := fun e => by have := HOW.out.lt _ e; omega
        have hzX : Z.heap.size < X.heap.size := by omega
        have hwX : wr.heap.size < X.heap.size := by omega
        have ma4 := cl HZX.out pa4
        have ma6 := cl HZX.out pa6
        have ma7 := cl HZX.out pa7
        have ma8 := cl HZX.out pa8
        have hbX := hbrZ.trans (HZX.out.mono hbrZ.size)
        have hmr2 := HMR.out.on hbX
        have hsl : Sl X.drew m.v.Ap m.v.np m.v.cp mo.s.prods := hmr2.2.p.below (Below.refl _ _).drew
        have hnil := hmr2.2.p0
        have HQ : Hid (m.at_ = mo.at_ ∧ m.v.plan = mo.s.plan ∧ m.v.susp = mo.s.susp ∧ m.v.fam = mo.s.fam) := Lib.hid ⟨hmr2.1, hmr2.2.plan, hmr2.2.susp, hmr2.2.fam⟩
        have hpl : m.v.np ≤ 100000 := HPL.out
        have HOX := Lib.hid (HO.out.below HZX.out)
        have HRX := Lib.hid (Rowed.below famL HR.out HZX.out)
        clear hmr2 pa4 pa6 pa7 pa8 HMR HPL
        refine wp_region_held_drew (S := fun w' => Keeps (fun b => (Value.slice A1 n1 c1).ownBlock ≠ some b) X w') (by kernel_rfl) (Keeps.ofBelow (Below.refl _ _).drew) (fun hHeld => ?_)
        refine tk 0 (v := ?_) ?_ ?_
        rotate_left
        · intro w' hSw; go_simp; (try with_reducible rfl)
        refine tk 1 (v := ?_) ?_ ?_
        rotate_left
        · intro w' hSw; have zma4 := (hSw.2 wr.heap.size 4 hneW hwX).trans ma4; have zma6 := (hSw.2 wr.heap.size 6 hneW hwX).trans ma6; have zma7 := (hSw.2 wr.heap.size 7 hneW hwX).trans ma7; have zma8 := (hSw.2 wr.heap.size 8 hneW hwX).trans ma8; have zhc0 := (hSw.2 Z.heap.size 0 hneZ hzX).trans hc0; have zhc1 := (hSw.2 Z.heap.size 1 hneZ hzX).trans hc1; go_simp; (try with_reducible rfl)
        refine tk 2 (v := ?_) ?_ ?_
        rotate_left
        · intro w' hSw; go_simp; (try with_reducible rfl)
        refine tk 3 (v := ?_) ?_ ?_
        rotate_left
        · intro w' hSw; go_simp; (try with_reducible rfl)
        refine tk 4 (v := ?_) ?_ ?_
        rotate_left
        · intro w' hSw; have zma4 := (hSw.2 wr.heap.size 4 hneW hwX).trans ma4; have zma6 := (hSw.2 wr.heap.size 6 hneW hwX).trans ma6; have zma7 := (hSw.2 wr.heap.size 7 hneW hwX).trans ma7; have zma8 := (hSw.2 wr.heap.size 8 hneW hwX).trans ma8; have zhc0 := (hSw.2 Z.heap.size 0 hneZ hzX).trans hc0; have zhc1 := (hSw.2 Z.heap.size 1 hneZ hzX).trans hc1; go_simp; (try with_reducible rfl)
        refine tk 5 (v := ?_) ?_ ?_
        rotate_left
        · intro w' hSw; go_simp; (try with_reducible rfl)
        refine tk 6 (v := ?_) ?_ ?_
        rotate_left
        · intro w' hSw; go_simp; (try with_reducible rfl)
        refine tk 7 (v := ?_) ?_ ?_
        rotate_left
        · intro w' hSw; have zma4 := (hSw.2 wr.heap.size 4 hneW hwX).trans ma4; have zma6 := (hSw.2 wr.heap.size 6 hneW hwX).trans ma6; have zma7 := (hSw.2 wr.heap.size 7 hneW hwX).trans ma7; have zma8 := (hSw.2 wr.heap.size 8 hneW hwX).trans ma8; have zhc0 := (hSw.2 Z.heap.size 0 hneZ hzX).trans hc0; have zhc1 := (hSw.2 Z.heap.size 1 hneZ hzX).trans hc1; go_simp; (try with_reducible rfl)
        refine tk 9 (v := ?_) ?_ ?_
        rotate_left
        · intro w' hSw; go_simp; (try with_reducible rfl)
        refine tk 10 (v := ?_) ?_ ?_
        rotate_left
        · intro w' hSw; go_simp; (try with_reducible rfl)
        refine tk 11 (v := ?_) ?_ ?_
        rotate_left
        · intro w' hSw; have zma4 := (hSw.2 wr.heap.size 4 hneW hwX).trans ma4; have zma6 := (hSw.2 wr.heap.size 6 hneW hwX).trans ma6; have zma7 := (hSw.2 wr.heap.size 7 hneW hwX).trans ma7; have zma8 := (hSw.2 wr.heap.size 8 hneW hwX).trans ma8; have zhc0 := (hSw.2 Z.heap.size 0 hneZ hzX).trans hc0; have zhc1 := (hSw.2 Z.heap.size 1 hneZ hzX).trans hc1; go_simp; (try with_reducible rfl)
        refine tk 12 (v := ?_) ?_ ?_
        rotate_left
        · intro w' hSw; go_simp; (try with_reducible rfl)
        refine tk 13 (v := ?_) ?_ ?_
        rotate_left
        · intro w' hSw; go_simp; (try with_reducible rfl)
        refine tk 14 (v := ?_) ?_ ?_
        rotate_left
        · intro w' hSw; have zma4 := (hSw.2 wr.heap.size 4 hneW hwX).trans ma4; have zma6 := (hSw.2 wr.heap.size 6 hneW hwX).trans ma6; have zma7 := (hSw.2 wr.heap.size 7 hneW hwX).trans ma7; have zma8 := (hSw.2 wr.heap.size 8 hneW hwX).trans ma8; have zhc0 := (hSw.2 Z.heap.size 0 hneZ hzX).trans hc0; have zhc1 := (hSw.2 Z.heap.size 1 hneZ hzX).trans hc1; go_simp; (try with_reducible rfl)
        (try simp only [List.getElem_toArray, List.getElem_cons_succ, List.getElem_cons_zero, Act.put, List.setIfInBounds_toArray, List.set_cons_zero, List.set_cons_succ])
        refine wpAnyH_ready (rs := [8]) (by kernel_rfl) (by simp) ?_
        refine AllReadyH.cons rfl (fun K' hK => ?_) AllReadyH.nil
        skip
        refine step_append (α := ByteArray) rfl (.const (.slice none 0 0)) (.tmp 47) 49 rfl X.heap.size 9 (.string ⟨#[]⟩) 16 Try.underlying49 infoS rfl (.slice none 0 0) [] rfl (Ow.nil_ _ _ _) m.v.Ap m.v.np m.v.cp mo.s.prods rfl hnil hsl (by simp; omega) (by decide) (Nat.le_refl _) ?_
        intro v9 w9 ho9 hu9
        rw [List.nil_append] at ho9
        obtain ⟨A9, c9, hv9, _, _⟩ := ho9.val
        subst hv9
        obtain ⟨n9, hn9'⟩ : ∃ n9, mo.s.prods.length = n9 := ⟨_, rfl⟩
        rw [hn9'] at ho9 hu9 ⊢
        refine hK.out _ _ (hHeld.trans (Keeps.ofUpd hu9 fun b hb e => by cases e)) (fun hHeld => ?_)
        clear hK K'
        (try simp only [List.getElem_toArray, List.getElem_cons_succ, List.getElem_cons_zero, Act.put, List.setIfInBounds_toArray, List.set_cons_zero, List.set_cons_succ])
        refine tk 15 (v := ?_) ?_ ?_
        rotate_left
        · intro w' hSw; go_simp; (try with_reducible rfl)
        (try simp only [List.getElem_toArray, List.getElem_cons_succ, List.getElem_cons_zero, Act.put, List.setIfInBounds_toArray, List.set_cons_zero, List.set_cons_succ])
        refine wpAnyH_ready (rs := [16]) (by kernel_rfl) (by simp) ?_
        refine AllReadyH.cons rfl (fun K' hK => ?_) AllReadyH.nil
        go_simp
        refine hK.out _ _ (hHeld.trans (Keeps.ofBelow ((Below.refl _ _).alloc (Nat.le_refl _) _))) (fun hHeld => ?_)
        clear hK K'
        (try simp only [List.getElem_toArray, List.getElem_cons_succ, List.getElem_cons_zero, Act.put, List.setIfInBounds_toArray, List.set_cons_zero, List.set_cons_succ])
        refine wpAnyH_ready (rs := [17]) (by kernel_rfl) (by simp) ?_
        refine AllReadyH.cons rfl (fun K' hK => ?_) AllReadyH.nil
        skip
        refine step_append (α := Lv) rfl (.tmp 40) (.tmp 56) 80 rfl w2.heap.size 76 _ 64 Try.underlying80 infoL rfl (.slice A1 n1 c1) ys rfl ((hu9.other HOX.out.drew (by cases h : (Value.slice A1 n1 c1).ownBlock; exact .inl rfl; exact .inr (by simp [Value.ownBlock]))).alloc _) (some ⟨w9.heap.size, 0, none⟩) 1 1 [(⟨m.at_, toJ J (k + 1), m.v.plan, A9, n9, c9, m.v.susp, m.v.fam⟩ : Lv)] rfl (fun e => by cases e) (Sl.new w9 #[.int .i64 m.at_, .int .i64 (toJ J (k + 1)), .string m.v.plan, .slice A9 n9 c9, .bool m.v.susp, .bool m.v.fam] _ w9.heap.size rfl [(⟨m.at_, toJ J (k + 1), m.v.plan, A9, n9, c9, m.v.susp, m.v.fam⟩ : Lv)] 1 rfl (by unfold maxLen; decide) rfl) (by rw [HN1.out]; omega) (by decide) (by rw [World.size_alloc]; have := hu9.size; have : X.drew.heap.size = X.heap.size := rfl; omega) ?_
        intro v10 w10 ho10 hu10
        refine hK.out _ _ (hHeld.trans (Keeps.ofUpd hu10 fun b hb => hb)) (fun hHeld => ?_)
        clear hK K'
        (try simp only [List.getElem_toArray, List.getElem_cons_succ, List.getElem_cons_zero, Act.put, List.setIfInBounds_toArray, List.set_cons_zero, List.set_cons_succ])
        refine tk 18 (v := ?_) ?_ ?_
        rotate_left
        · intro w' hSw; go_simp; (try with_reducible rfl)
        (try simp only [List.getElem_toArray, List.getElem_cons_succ, List.getElem_cons_zero, Act.put, List.setIfInBounds_toArray, List.set_cons_zero, List.set_cons_succ])
        refine wpAnyH_done (by kernel_rfl) ?_ _
        (try simp only [List.getElem_toArray, List.getElem_cons_succ, List.getElem_cons_zero, Act.put, List.setIfInBounds_toArray, List.set_cons_zero, List.set_cons_succ])
        obtain ⟨HRN, HBN⟩ := spell_app (d := ⟨mo.at_, toJ J (k + 1), qOf mo.s⟩) HOX.out HRX.out hbX ho9 hu9 ⟨HQ.out.1, rfl, HQ.out.2.1, HQ.out.2.2.1, HQ.out.2.2.2⟩ ho10 hu10
        have HRN2 := Lib.hid HRN
        have HBN2 := Lib.hid HBN
        have HON := Lib.hid ho10
        clear HRN HBN ho10 hu10 ho9 hu9 hHeld hsl hnil
        go_wp2_with fail
        go_roundw
        case rel => exact ⟨k + 1, by omega, by go_num, _, HON.out, by rw [HSUC.out]; exact HRN2.out, HBN2.out⟩
        case measure => simp [intOf]; omega
      · have hqi : ¬ (k : Int) + 1 < (n2 : Int) := by omega
        have hc1 : U.cell? ⟨Z.heap.size, 1, none⟩ = some (.int .i64 (toJ J (k + 1))) := by rw [HLAST.out hq]; exact ra1
        have hc0 := ra0
        clear HNX HLAST HC ra1 ra0
        go_upto_region 10 with (fail)
        obtain ⟨X, hX⟩ : ∃ X, X = U := ⟨_, rfl⟩
        have HZX : Hid (Below Z.heap.size Z X) := Lib.hid (by rw [hX]; exact HUZ.out)
        rw [← hX] at hc0 hc1 hgZ ⊢
        clear hX
        have hneZ : (Value.slice A1 n1 c1).ownBlock ≠ some Z.heap.size := fun e => by have := HO.out.lt _ e; omega
        have hneW : (Value.slice A1 n1 c1).ownBlock ≠ some wr.heap.size := fun e => by have := HOW.out.lt _ e; omega
        have hzX : Z.heap.size < X.heap.size := by omega
        have hwX : wr.heap.size < X.heap.size := by omega
        have ma4 := cl HZX.out pa4
        have ma6 := cl HZX.out pa6
        have ma7 := cl HZX.out pa7
        have ma8 := cl HZX.out pa8
        have hbX := hbrZ.trans (HZX.out.mono hbrZ.size)
        have hmr2 := HMR.out.on hbX
        have hsl : Sl X.drew m.v.Ap m.v.np m.v.cp mo.s.prods := hmr2.2.p.below (Below.refl _ _).drew
        have hnil := hmr2.2.p0
        have HQ : Hid (m.at_ = mo.at_ ∧ m.v.plan = mo.s.plan ∧ m.v.susp = mo.s.susp ∧ m.v.fam = mo.s.fam) := Lib.hid ⟨hmr2.1, hmr2.2.plan, hmr2.2.susp, hmr2.2.fam⟩
        have hpl : m.v.np ≤ 100000 := HPL.out
        have HOX := Lib.hid (HO.out.below HZX.out)
        have HRX := Lib.hid (Rowed.below famL HR.out HZX.out)
        clear hmr2 pa4 pa6 pa7 pa8 HMR HPL
        refine wp_region_held_drew (S := fun w' => Keeps (fun b => (Value.slice A1 n1 c1).ownBlock ≠ some b) X w') (by kernel_rfl) (Keeps.ofBelow (Below.refl _ _).drew) (fun hHeld => ?_)
        refine tk 0 (v := ?_) ?_ ?_
        rotate_left
        · intro w' hSw; go_simp; (try with_reducible rfl)
        refine tk 1 (v := ?_) ?_ ?_
        rotate_left
        · intro w' hSw; have zma4 := (hSw.2 wr.heap.size 4 hneW hwX).trans ma4; have zma6 := (hSw.2 wr.heap.size 6 hneW hwX).trans ma6; have zma7 := (hSw.2 wr.heap.size 7 hneW hwX).trans ma7; have zma8 := (hSw.2 wr.heap.size 8 hneW hwX).trans ma8; have zhc0 := (hSw.2 Z.heap.size 0 hneZ hzX).trans hc0; have zhc1 := (hSw.2 Z.heap.size 1 hneZ hzX).trans hc1; go_simp; (try with_reducible rfl)
        refine tk 2 (v := ?_) ?_ ?_
        rotate_left
        · intro w' hSw; go_simp; (try with_reducible rfl)
        refine tk 3 (v := ?_) ?_ ?_
        rotate_left
        · intro w' hSw; go_simp; (try with_reducible rfl)
        refine tk 4 (v := ?_) ?_ ?_
        rotate_left
        · intro w' hSw; have zma4 := (hSw.2 wr.heap.size 4 hneW hwX).trans ma4; have zma6 := (hSw.2 wr.heap.size 6 hneW hwX).trans ma6; have zma7 := (hSw.2 wr.heap.size 7 hneW hwX).trans ma7; have zma8 := (hSw.2 wr.heap.size 8 hneW hwX).trans ma8; have zhc0 := (hSw.2 Z.heap.size 0 hneZ hzX).trans hc0; have zhc1 := (hSw.2 Z.heap.size 1 hneZ hzX).trans hc1; go_simp; (try with_reducible rfl)
        refine tk 5 (v := ?_) ?_ ?_
        rotate_left
        · intro w' hSw; go_simp; (try with_reducible rfl)
        refine tk 6 (v := ?_) ?_ ?_
        rotate_left
        · intro w' hSw; go_simp; (try with_reducible rfl)
        refine tk 7 (v := ?_) ?_ ?_
        rotate_left
        · intro w' hSw; have zma4 := (hSw.2 wr.heap.size 4 hneW hwX).trans ma4; have zma6 := (hSw.2 wr.heap.size 6 hneW hwX).trans ma6; have zma7 := (hSw.2 wr.heap.size 7 hneW hwX).trans ma7; have zma8 := (hSw.2 wr.heap.size 8 hneW hwX).trans ma8; have zhc0 := (hSw.2 Z.heap.size 0 hneZ hzX).trans hc0; have zhc1 := (hSw.2 Z.heap.size 1 hneZ hzX).trans hc1; go_simp; (try with_reducible rfl)
        refine tk 9 (v := ?_) ?_ ?_
        rotate_left
        · intro w' hSw; go_simp; (try with_reducible rfl)
        refine tk 10 (v := ?_) ?_ ?_
        rotate_left
        · intro w' hSw; go_simp; (try with_reducible rfl)
        refine tk 11 (v := ?_) ?_ ?_
        rotate_left
        · intro w' hSw; have zma4 := (hSw.2 wr.heap.size 4 hneW hwX).trans ma4; have zma6 := (hSw.2 wr.heap.size 6 hneW hwX).trans ma6; have zma7 := (hSw.2 wr.heap.size 7 hneW hwX).trans ma7; have zma8 := (hSw.2 wr.heap.size 8 hneW hwX).trans ma8; have zhc0 := (hSw.2 Z.heap.size 0 hneZ hzX).trans hc0; have zhc1 := (hSw.2 Z.heap.size 1 hneZ hzX).trans hc1; go_simp; (try with_reducible rfl)
        refine tk 12 (v := ?_) ?_ ?_
        rotate_left
        · intro w' hSw; go_simp; (try with_reducible rfl)
        refine tk 13 (v := ?_) ?_ ?_
        rotate_left
        · intro w' hSw; go_simp; (try with_reducible rfl)
        refine tk 14 (v := ?_) ?_ ?_
        rotate_left
        · intro w' hSw; have zma4 := (hSw.2 wr.heap.size 4 hneW hwX).trans ma4; have zma6 := (hSw.2 wr.heap.size 6 hneW hwX).trans ma6; have zma7 := (hSw.2 wr.heap.size 7 hneW hwX).trans ma7; have zma8 := (hSw.2 wr.heap.size 8 hneW hwX).trans ma8; have zhc0 := (hSw.2 Z.heap.size 0 hneZ hzX).trans hc0; have zhc1 := (hSw.2 Z.heap.size 1 hneZ hzX).trans hc1; go_simp; (try with_reducible rfl)
        (try simp only [List.getElem_toArray, List.getElem_cons_succ, List.getElem_cons_zero, Act.put, List.setIfInBounds_toArray, List.set_cons_zero, List.set_cons_succ])
        refine wpAnyH_ready (rs := [8]) (by kernel_rfl) (by simp) ?_
        refine AllReadyH.cons rfl (fun K' hK => ?_) AllReadyH.nil
        skip
        refine step_append (α := ByteArray) rfl (.const (.slice none 0 0)) (.tmp 47) 49 rfl X.heap.size 9 (.string ⟨#[]⟩) 16 Try.underlying49 infoS rfl (.slice none 0 0) [] rfl (Ow.nil_ _ _ _) m.v.Ap m.v.np m.v.cp mo.s.prods rfl hnil hsl (by simp; omega) (by decide) (Nat.le_refl _) ?_
        intro v9 w9 ho9 hu9
        rw [List.nil_append] at ho9
        obtain ⟨A9, c9, hv9, _, _⟩ := ho9.val
        subst hv9
        obtain ⟨n9, hn9'⟩ : ∃ n9, mo.s.prods.length = n9 := ⟨_, rfl⟩
        rw [hn9'] at ho9 hu9 ⊢
        refine hK.out _ _ (hHeld.trans (Keeps.ofUpd hu9 fun b hb e => by cases e)) (fun hHeld => ?_)
        clear hK K'
        (try simp only [List.getElem_toArray, List.getElem_cons_succ, List.getElem_cons_zero, Act.put, List.setIfInBounds_toArray, List.set_cons_zero, List.set_cons_succ])
        refine tk 15 (v := ?_) ?_ ?_
        rotate_left
        · intro w' hSw; go_simp; (try with_reducible rfl)
        (try simp only [List.getElem_toArray, List.getElem_cons_succ, List.getElem_cons_zero, Act.put, List.setIfInBounds_toArray, List.set_cons_zero, List.set_cons_succ])
        refine wpAnyH_ready (rs := [16]) (by kernel_rfl) (by simp) ?_
        refine AllReadyH.cons rfl (fun K' hK => ?_) AllReadyH.nil
        go_simp
        refine hK.out _ _ (hHeld.trans (Keeps.ofBelow ((Below.refl _ _).alloc (Nat.le_refl _) _))) (fun hHeld => ?_)
        clear hK K'
        (try simp only [List.getElem_toArray, List.getElem_cons_succ, List.getElem_cons_zero, Act.put, List.setIfInBounds_toArray, List.set_cons_zero, List.set_cons_succ])
        refine wpAnyH_ready (rs := [17]) (by kernel_rfl) (by simp) ?_
        refine AllReadyH.cons rfl (fun K' hK => ?_) AllReadyH.nil
        skip
        refine step_append (α := Lv) rfl (.tmp 40) (.tmp 56) 80 rfl w2.heap.size 76 _ 64 Try.underlying80 infoL rfl (.slice A1 n1 c1) ys rfl ((hu9.other HOX.out.drew (by cases h : (Value.slice A1 n1 c1).ownBlock; exact .inl rfl; exact .inr (by simp [Value.ownBlock]))).alloc _) (some ⟨w9.heap.size, 0, none⟩) 1 1 [(⟨m.at_, toJ J (k + 1), m.v.plan, A9, n9, c9, m.v.susp, m.v.fam⟩ : Lv)] rfl (fun e => by cases e) (Sl.new w9 #[.int .i64 m.at_, .int .i64 (toJ J (k + 1)), .string m.v.plan, .slice A9 n9 c9, .bool m.v.susp, .bool m.v.fam] _ w9.heap.size rfl [(⟨m.at_, toJ J (k + 1), m.v.plan, A9, n9, c9, m.v.susp, m.v.fam⟩ : Lv)] 1 rfl (by unfold maxLen; decide) rfl) (by rw [HN1.out]; omega) (by decide) (by rw [World.size_alloc]; have := hu9.size; have : X.drew.heap.size = X.heap.size := rfl; omega) ?_
        intro v10 w10 ho10 hu10
        refine hK.out _ _ (hHeld.trans (Keeps.ofUpd hu10 fun b hb => hb)) (fun hHeld => ?_)
        clear hK K'
        (try simp only [List.getElem_toArray, List.getElem_cons_succ, List.getElem_cons_zero, Act.put, List.setIfInBounds_toArray, List.set_cons_zero, List.set_cons_succ])
        refine tk 18 (v := ?_) ?_ ?_
        rotate_left
        · intro w' hSw; go_simp; (try with_reducible rfl)
        (try simp only [List.getElem_toArray, List.getElem_cons_succ, List.getElem_cons_zero, Act.put, List.setIfInBounds_toArray, List.set_cons_zero, List.set_cons_succ])
        refine wpAnyH_done (by kernel_rfl) ?_ _
        (try simp only [List.getElem_toArray, List.getElem_cons_succ, List.getElem_cons_zero, Act.put, List.setIfInBounds_toArray, List.set_cons_zero, List.set_cons_succ])
        obtain ⟨HRN, HBN⟩ := spell_app (d := ⟨mo.at_, toJ J (k + 1), qOf mo.s⟩) HOX.out HRX.out hbX ho9 hu9 ⟨HQ.out.1, rfl, HQ.out.2.1, HQ.out.2.2.1, HQ.out.2.2.2⟩ ho10 hu10
        have HRN2 := Lib.hid HRN
        have HBN2 := Lib.hid HBN
        have HON := Lib.hid ho10
        clear HRN HBN ho10 hu10 ho9 hu9 hHeld hsl hnil
        go_wp2_with fail
        go_roundw
        case rel => exact ⟨k + 1, by omega, by go_num, _, HON.out, by rw [HSUC.out]; exact HRN2.out, HBN2.out⟩
        case measure => simp [intOf]; omega
    · obtain rfl : n2 = k := by omega
      have hkn : ¬ ((n2 : Int) < (n2 : Int)) := by omega
      go_wp2_with fail
      go_ret
      have hr := HR.out
      have ho := HO.out
      rw [← HN1.out] at ho hr ⊢
      rw [show spK J n2 = spE l x by rw [HSP.out, hJL.out]] at hr
      obtain ⟨A', n', c', e, hl⟩ := rowL ho hr
      exact ⟨⟨A', n', c', congrArg Ending.returned e, hl⟩, hbw2.trans (hbr.mono hbw2.size)⟩
end Ss
end Go.Proofs.Yteaanngagcflhaa
