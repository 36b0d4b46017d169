/- The chunks of bytes that are whole ones, and of what is behind them, are those of both, each of 32 bytes; by the program alone: any two texts, their bulk bounded. -/
import Derived.Test.YtpmmjomejackkaaDoorSszX
import Derived.Test.YtpmmjomejackkaaDoorSszS
import Derived.Test.YtpmmjomejackkaaDoorSszU
import Derived.Test.YtpmmjomejackkaaDoorLaid
import Derived.WalkKit
import Derived.ProofKit
import Derived.OpenShut
set_option linter.unusedSimpArgs false
set_option linter.unusedVariables false
namespace Go.Proofs.YtpmmjomejackkaaDoor
open BigFrame Go.RowKit Go.Phx Go.Shelf
attribute [local go_sem] Oper.semAt_some
namespace lawSszJoins

set_option maxRecDepth 100000 in
set_option maxHeartbeats 4000000 in
theorem walk (s t : Bytes) (hs : s.length ≤ 1048576) (ht : t.length ≤ 1048576) (w : World) (hk : HasK w) : Calls Tryd.prog 13 #[.string (bs s), .string (bs t)] w (Ret w (.bool true)) := by
  obtain ⟨m, hm⟩ : ∃ m, min s.length 3000 = m := ⟨_, rfl⟩
  obtain ⟨n, hn⟩ : ∃ n, min t.length 3000 = n := ⟨_, rfl⟩
  have hmin1 : min (s.length : Int) 3000 = (m : Int) := by omega
  have hmin2 : min (t.length : Int) 3000 = (n : Int) := by omega
  obtain ⟨s1, hs1⟩ : ∃ s1, s.take m = s1 := ⟨_, rfl⟩
  obtain ⟨t1, ht1⟩ : ∃ t1, t.take n = t1 := ⟨_, rfl⟩
  have hl1 : s1.length = m := by rw [← hs1, List.length_take]; omega
  have hl2 : t1.length = n := by rw [← ht1, List.length_take]; omega
  obtain ⟨k, hk0⟩ : ∃ k, m / 32 * 32 = k := ⟨_, rfl⟩
  obtain ⟨s2, hs2⟩ : ∃ s2, s1.take k = s2 := ⟨_, rfl⟩
  have hl3 : s2.length = k := by rw [← hs2, List.length_take]; omega
  have e1 : (bs s).extract 0 m = bs s1 := by rw [bs_take, hs1]
  have e2 : (bs t).extract 0 n = bs t1 := by rw [bs_take, ht1]
  have e3 : (bs s1).extract 0 k = bs s2 := by rw [bs_take, hs2]
  have hq : (m : Int) / 32 * 32 = (k : Int) := by omega
  have hm1 : m ≤ s.length := by omega
  have hn1 : n ≤ t.length := by omega
  have hm3 : m ≤ 3000 := by omega
  have hn3 : n ≤ 3000 := by omega
  have hkm : k ≤ m := by omega
  have hjoin := pack_joins s2 t1 (by omega)
  have hal := packP_len s2
  have hbl := packP_len t1
  have hcl := packP_len (s2 ++ t1)
  have hca := packP_all (s2 ++ t1)
  have hp1 := fun W => pack_calls s2 (by omega) W
  have hp2 := fun W => pack_calls t1 (by omega) W
  have hp3 := fun W => pack_calls (s2 ++ t1) (by rw [List.length_append]; omega) W
  rw [List.length_append] at hcl
  rw [hl3] at hal hcl
  rw [hl2] at hbl hcl
  have hkq : (k + 31) / 32 = k / 32 := by omega
  rw [hkq] at hal
  have hst : s2.length + t1.length ≤ 6000 := by omega
  obtain ⟨la, hla⟩ : ∃ la, k / 32 = la := ⟨_, rfl⟩
  obtain ⟨lb, hlb⟩ : ∃ lb, (n + 31) / 32 = lb := ⟨_, rfl⟩
  obtain ⟨lc, hlc⟩ : ∃ lc, (k + n + 31) / 32 = lc := ⟨_, rfl⟩
  obtain ⟨N, hN⟩ : ∃ N, la + lb = N := ⟨_, rfl⟩
  have hka : (k : Int) / 32 = (la : Int) := by omega
  have hma : (m : Int) / 32 = (la : Int) := by omega
  have hnb : ((n : Int) + 31) / 32 = (lb : Int) := by omega
  have hN2 : (la : Int) + (lb : Int) = (N : Int) := by omega
  have hla2 : la ≤ 100 := by omega
  have hlb2 : lb ≤ 100 := by omega
  have hlc2 : lc ≤ 300 := by omega
  have hq2 : (la : Int) * 32 = (k : Int) := by omega
  rw [hla] at hal
  rw [hlb] at hbl
  rw [hlc] at hcl
  replace hla := Lib.hid hla
  replace hlb := Lib.hid hlb
  replace hlc := Lib.hid hlc
  replace hN := Lib.hid hN
  generalize packP s2 = La at *
  generalize packP t1 = Lb at *
  generalize packP (s2 ++ t1) = Lc at *
  replace hs1 := Lib.hid hs1
  replace ht1 := Lib.hid ht1
  replace hs2 := Lib.hid hs2
  replace hm := Lib.hid hm
  replace hn := Lib.hid hn
  replace hk0 := Lib.hid hk0
  replace hkq := Lib.hid hkq
  replace hp1 := Lib.hid hp1
  replace hp2 := Lib.hid hp2
  replace hp3 := Lib.hid hp3
  replace hca := Lib.hid hca
  replace hjoin := Lib.hid hjoin
  go_enter Tryd.func13, Tryd.ntmps13
  go_wp2_with fail
  refine (shown8_calls _ hk).mono ?_
  rintro e w1 ⟨rfl, h1⟩
  go_wp2_with fail
  try simp only [e1, e2, e3]
  refine (hp1.out _).mono ?_
  rintro e w2 ⟨v2, rfl, R2, h2⟩
  have h12 := Below.on h2 h1
  obtain ⟨A2, c2, rfl, T2⟩ := R2.txts
  go_wp2_with fail
  refine (hp2.out _).mono ?_
  rintro e w3 ⟨v3, rfl, R3, h3⟩
  have h13 := Below.on h3 h12
  obtain ⟨A3, c3, rfl, T3⟩ := R3.txts
  have T23 := Txts.below T2 h3
  clear R2 R3 h1 h2 h3 h12 T2
  go_wp2_with fail
  refine (hp3.out _).mono ?_
  rintro e w4 ⟨v4, rfl, R4, h4⟩
  have h14 := Below.on h4 h13
  obtain ⟨A4, c4, rfl, T4⟩ := R4.txts
  have T24 := Lib.hid (Txts.below T23 h4)
  have T34 := Lib.hid (Txts.below T3 h4)
  replace T4 := Lib.hid T4
  clear R4 h4 h13 T23 T3 hk
  go_wp2_with fail
  go_loopw [9] (fun q wr => ∃ j : Nat, j ≤ lc ∧ q = .int .i64 j ∧ wr = w4) (fun q _ => (lc - intOf q).toNat)
  case atStart => exact ⟨0, by omega, rfl, rfl⟩
  case round =>
    obtain ⟨j, hj, rfl, rfl⟩ := hrel
    by_cases hlt : j < lc
    · obtain ⟨b, o, rfl, hbb, hcell⟩ := Txts.at T4.out j (by rw [hcl]; exact hlt)
      have hx := hca.out _ (getD_mem (l := Lc) (k := j) (by rw [hcl]; exact hlt))
      generalize Lc.getD j [] = x at *
      have hx2 : ((x.length : Int) != 32) = false := by simp; omega
      go_wp2_with fail
      go_roundw
      case rel => exact ⟨j + 1, by omega, by go_num, by first | rfl | trivial⟩
      case measure => simp [intOf]; omega
    · obtain rfl : j = lc := by omega
      obtain ⟨v5, w5, hmk, hB5, v6, w6, hap, R6, hB6⟩ := start_append wr wr.heap.size (Nat.le_refl _) N (by have := hN.out; omega) A2 c2 La (by omega) T24.out
      obtain ⟨v7, w7, hap2, R7, hg7⟩ := app_rows w6 wr.heap.size hB6.size v6 La R6 A3 c3 Lb (by omega) (by omega) (Txts.below T34.out hB6)
      have hB7 : Below wr.heap.size wr w7 := hB6.grown hg7 hB6.size fun k e => (R6.lt k e).1
      obtain ⟨A7, c7, rfl, T7⟩ := R7.txts
      rw [← hjoin.out] at T7
      have hl7 : (La ++ Lb).length = j := by rw [← hjoin.out, hcl]
      rw [hl7] at hap2
      rw [hal] at hap
      rw [hbl] at hap2
      have hsame := same_calls A4 A7 c4 c7 Lc Lc (by omega) (by omega) w7 (Txts.below T4.out hB7) T7
      rw [hcl, decide_eq_true rfl] at hsame
      have h17 := Below.on hB7 h14
      replace hsame := Lib.hid hsame
      clear R6 R7 T7 hg7 hB5 hB6 hB7 hl7
      go_wp2_with (first | (at_builtin; refine wpList_append_run rfl _ _ _ _ rfl _ _ v6 rfl rfl hap ?_) | (at_builtin; refine wpList_append_run rfl _ _ _ _ rfl _ _ (.slice A7 j c7) rfl rfl hap2 ?_))
      refine hsame.out.mono ?_
      rintro e w8 ⟨rfl, h8⟩
      go_wp2_with fail
      go_ret
      exact ⟨by simp, Below.on h8 h17⟩
open Go.ChangeShapes Go.WideShapes Go.ChangeAt Go.Joins

set_option maxRecDepth 100000 in
theorem contract (H : Type) (enc : TypeId × Value → H) (W : World) (base : Nat) (args : Array Value) (ds gs : List (DataW H)) (before : List MemPlace)
    (hval0 : ∀ (j : Nat) t v, Tryd.f13.params[j]? = some t → args[j]? = some v → Value.okWide Tryd.prog W .any base t v)
    (hW : DataW.Whole enc Tryd.prog Tryd.f13.params.toList Rows.sszJoinsSpec.vars false W args.toList ds gs before) (hsmall : Rows.uptoSmall H (ds ++ gs) = true)
    (hL : laidMetH Tryd.prog Rows.sszJoinsUptoRow.laid W) :
    Calls Tryd.prog 13 args W fun e W' => ∃ v, e = .returned v ∧ Rows.sszJoinsSpec.post enc Tryd.prog Tryd.f13 false true false false W args v W' := by
  have hval := hval0
  have hW' := hW
  obtain ⟨p, q, hA0, hV, rfl, hfz, hnd⟩ := hW
  have hA : DataW.TrodAll enc Tryd.prog W 0 (fun _ => true) true Tryd.f13.params.toList args.toList ds p := hA0
  rw [Tryd.params13] at hA hval
  have hAk := hA
  obtain ⟨v0, vs0, d0, ds0, p0, q0, hargs, hds0, hps0, h0, r0⟩ := trodAll_cons hA
  obtain ⟨v1, vs1, d1, ds1, p1, q1, hvs1, hds1, hps1, h1, r1⟩ := trodAll_cons r0
  subst hvs1
  obtain ⟨hv9, hds9, hps9⟩ := trodAll_nil r1
  subst hv9
  subst hds9
  subst hds1
  subst hds0
  obtain rfl : args = #[v0, v1] := by cases args; simp_all
  obtain ⟨rfl, rfl⟩ := trodVars_none hV
  obtain ⟨s0, rfl, hd0, hp0, ws0⟩ := openString (hval 0 9 v0 rfl rfl) h0
  obtain ⟨s1, rfl, hd1, hp1, ws1⟩ := openString (hval 1 9 v1 rfl rfl) h1
  have hb0 := bulk_string (hd0 ▸ bulk_of hsmall (d := d0) (by simp))
  have hb1 := bulk_string (hd1 ▸ bulk_of hsmall (d := d1) (by simp))
  have hK := hasK_of hL
  refine (walk s0.data.toList s1.data.toList (by have := hb0; simpa using this) (by have := hb1; simpa using this) W hK).mono fun e W' ⟨he, hg⟩ => ?_
  subst he
  have hlt : ∀ x ∈ p, x.block < W.heap.size := fun x hx => hW'.lt x (by simp [hx])
  exact ⟨_, rfl, post_below (pa := p) (pv := []) hW' (fun _ _ _ => (trodAll_cons_mk (shut_bool Tryd.underlying4 _) trodAll_mk0)) (fun sp hsp => by have := stays_all laidOut hg (by kernel_rfl) hAk hlt sp (fun x hx => hsp x (by simp [hx])); rw [← Tryd.params13] at this; exact this) (fun _ _ => rfl) rfl hg (ok_one (by kernel_rfl) rfl (okWide_bool_mk Tryd.underlying4 _))⟩
theorem laid_met (os : Os) : laidMet Tryd.prog Rows.sszJoinsUptoRow.laid ((laidWorld os).forCall (fun _ _ => 0) ⟨#[], #[.string ByteArray.empty, .string ByteArray.empty], []⟩).memory :=
  laidMet_of_run' 8 (by kernel_rfl) (by kernel_rfl)
theorem reads (os : Os) {H : Type} (enc : TypeId × Value → H) : ∃ places, DataW.whole enc Tryd.prog ((laidWorld os).forCall (fun _ _ => 0) ⟨#[], #[.string ByteArray.empty, .string ByteArray.empty], []⟩).memory Tryd.f13.params.toList Rows.sszJoinsSpec.vars false #[.string ByteArray.empty, .string ByteArray.empty].toList 8 = some ([.lit (.string []), .lit (.string [])], [], places) :=
  ⟨[], by kernel_rfl⟩
set_option maxRecDepth 100000 in
theorem lifted (os : Os) (started : os.Started) (H : Type) (enc : TypeId × Value → H) (F : Stop.Interp) :
    ReturnsInHanded {} Tryd.checked os 13 .any ((Rows.OpenSpec.upto Rows.sszJoinsSpec).preRow enc Tryd.prog Tryd.f13 Rows.sszJoinsUptoRow.domain false Rows.sszJoinsUptoRow.laid) (((Rows.OpenSpec.upto Rows.sszJoinsSpec).at F).post enc Tryd.prog Tryd.f13 false true false false) := by
  obtain ⟨places, hx⟩ := reads os enc
  refine returnsInHanded_of_row (C := Tryd.checked) (s := Rows.OpenSpec.upto Rows.sszJoinsSpec) own started (by kernel_rfl) Tryd.func13
    (witness_row_at (enc := enc) (C := Tryd.checked) false (laidWorld os) #[.string ByteArray.empty, .string ByteArray.empty] rfl (by kernel_rfl) (by kernel_rfl) (by kernel_rfl)
      (OpenSpec.preRow_of_cond 8 hx (by kernel_rfl) (fun k hk => by cases hk; kernel_rfl) (by kernel_rfl) (laid_met os))) ?_
  intro W base args ds gs before hval hW _ hcond hreach hL _ _
  exact contract H enc W base args ds gs before hval hW (hcond _ rfl) hL
theorem said : Rows.SszJoinsUptoSaid :=
  OpenClaim.holds_of_cond 13 Tryd.f13 rfl rfl rfl rfl rfl rfl rfl ⟨rfl, rfl, rfl, rfl, rfl⟩ rfl rfl rfl rfl rfl (by kernel_rfl) Tryd.func13 (by kernel_rfl)
    (of_decide_eq_true (by kernel_rfl)) (by unfold Func.isWrapper; first | (rw [if_pos (by decide +kernel)]; kernel_rfl) | (rw [if_neg (by decide +kernel)]; exact ⟨rfl, rfl⟩))
    (fun os started H enc _ F => by rw [OpenClaim.pre_eq_preRow]; exact lifted os started H enc F)
theorem plain (f : FuncId) (fn : Func) (hf : Tryd.pinned.checked.prog.funcNamed "pharos/pharoslaw08.SszJoins" = some f) (hfn : Tryd.pinned.checked.prog.funcs[f]? = some fn) :
    false = Tryd.pinned.checked.prog.looks [] ∧ ∀ (j : Nat) t, fn.params[j]? = some t → Tryd.pinned.checked.prog.wantsStandIn t = false := by
  obtain rfl : f = 13 := Option.some.inj ((show Tryd.prog.funcNamed "pharos/pharoslaw08.SszJoins" = some 13 by kernel_rfl).symm.trans hf) |>.symm
  obtain rfl : fn = Tryd.f13 := (Option.some.inj (Tryd.func13.symm.trans hfn)).symm
  refine ⟨by kernel_rfl, fun j t ht => ?_⟩
  rw [Tryd.params13] at ht
  have hm : t ∈ [9, 9] := by simpa using Array.mem_of_getElem? ht
  have hall : ∀ t ∈ [9, 9], Tryd.prog.wantsStandIn t = false := by
    intro t h
    simp only [List.mem_cons, List.not_mem_nil, or_false] at h
    rcases h with rfl | rfl <;> kernel_rfl
  exact hall t hm

/-- THE STATEMENT'S CARD -/
theorem proved : Rows.SszJoinsUptoCardSaid :=
  Claim7.holds_tied_plain_at .later [] _ _ _ _ said (fun _ h => by cases h) (by kernel_rfl) (fun _ h => by cases h) sszJoinsUpto_row_tie rfl ⟨rfl, rfl⟩ (by kernel_rfl) rfl plain (by kernel_rfl)

end lawSszJoins
end Go.Proofs.YtpmmjomejackkaaDoor
