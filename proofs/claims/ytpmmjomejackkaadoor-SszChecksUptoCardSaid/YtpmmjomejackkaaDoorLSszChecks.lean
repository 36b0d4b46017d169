/- Whether a branch is a leaf's under a root, by the program and by the reference: any leaf, branch, place, root, their bulk bounded. -/
import Derived.Test.YtpmmjomejackkaaDoorSszX
import Derived.Test.YtpmmjomejackkaaDoorSszS
import Derived.Test.YtpmmjomejackkaaDoorSszU
import Derived.Test.YtpmmjomejackkaaDoorLaid
import Derived.WalkKit
import Derived.ProofKit
import Derived.OpenShut
set_option linter.unusedSimpArgs false
set_option linter.unusedVariables false
namespace Go.Proofs.YtpmmjomejackkaaDoor
open BigFrame Go.RowKit Go.Phx Go.Shelf
attribute [local go_sem] Oper.semAt_some
namespace lawSszChecks

set_option maxRecDepth 100000 in
set_option maxHeartbeats 2000000 in
theorem walk (x root : Bytes) (A : Option Addr) (c : Nat) (xs : List ByteArray) (i : Int) (hi0 : 0 ≤ i) (hi1 : i ≤ 18446744073709551615) (hx : x.length ≤ 1048576) (hr : root.length ≤ 1048576)
    (hb : xs.length + ((xs.map fun s => s.data.toList).flatten).length ≤ 1048576) (w : World) (hs : Strs w A xs) (hk : HasK w) :
    Calls Tryd.prog 10 #[.string (bs x), .slice A xs.length c, .int .u64 i, .string (bs root)] w (Ret w (.bool true)) := by
  obtain ⟨L, hL1, hL2⟩ := as_lists xs
  rw [← hL2] at hb
  subst hL1
  clear hL2
  rw [List.length_map] at hb ⊢
  obtain ⟨hl, hall⟩ := in_bulk hb
  replace hs : Txts w A L := hs
  obtain ⟨n, rfl⟩ : ∃ n : Nat, i = n := ⟨i.toNat, (Int.toNat_of_nonneg hi0).symm⟩
  have hn : n < 18446744073709551616 := by omega
  clear hi0 hi1 hb
  replace hall := Lib.hid hall
  replace hs := Lib.hid hs
  go_enter Tryd.func10, Tryd.ntmps10
  go_wp2_with fail
  refine (shown8_calls _ hk).mono ?_
  rintro e w1 ⟨rfl, h1⟩
  go_wp2_with fail
  refine (check_calls x A c L n root (by omega) (by omega) (by omega) hn (fun y hy => by have := hall.out y hy; omega) _ (hk.on h1) (Txts.below hs.out h1)).mono ?_
  rintro e w2 ⟨rfl, h2⟩
  have h12 := Below.on h2 h1
  obtain ⟨r, hr2⟩ : ∃ r, decide (CheckP x L n root) = r := ⟨_, rfl⟩
  have hrc := rcheck_calls x A c L n root (by omega) (by omega) (by omega) hn hall.out w2 (Txts.below hs.out h12)
  rw [hr2] at hrc ⊢
  replace hr2 := Lib.hid hr2
  replace hrc := Lib.hid hrc
  go_wp2_with fail
  refine hrc.out.mono ?_
  rintro e w3 ⟨rfl, h3⟩
  go_wp2_with fail
  go_ret
  exact ⟨by simp, Below.on h3 h12⟩
open Go.ChangeShapes Go.WideShapes Go.ChangeAt Go.Joins

set_option maxRecDepth 100000 in
theorem contract (H : Type) (enc : TypeId × Value → H) (W : World) (base : Nat) (args : Array Value) (ds gs : List (DataW H)) (before : List MemPlace)
    (hval0 : ∀ (j : Nat) t v, Tryd.f10.params[j]? = some t → args[j]? = some v → Value.okWide Tryd.prog W .any base t v)
    (hW : DataW.Whole enc Tryd.prog Tryd.f10.params.toList Rows.sszChecksSpec.vars false W args.toList ds gs before) (hsmall : Rows.uptoSmall H (ds ++ gs) = true)
    (hL : laidMetH Tryd.prog Rows.sszChecksUptoRow.laid W) :
    Calls Tryd.prog 10 args W fun e W' => ∃ v, e = .returned v ∧ Rows.sszChecksSpec.post enc Tryd.prog Tryd.f10 false true false false W args v W' := by
  have hval := hval0
  have hW' := hW
  obtain ⟨p, q, hA0, hV, rfl, hfz, hnd⟩ := hW
  have hA : DataW.TrodAll enc Tryd.prog W 0 (fun _ => true) true Tryd.f10.params.toList args.toList ds p := hA0
  rw [Tryd.params10] at hA hval
  have hAk := hA
  obtain ⟨v0, vs0, d0, ds0, p0, q0, hargs, hds0, hps0, h0, r0⟩ := trodAll_cons hA
  obtain ⟨v1, vs1, d1, ds1, p1, q1, hvs1, hds1, hps1, h1, r1⟩ := trodAll_cons r0
  subst hvs1
  obtain ⟨v2, vs2, d2, ds2, p2, q2, hvs2, hds2, hps2, h2, r2⟩ := trodAll_cons r1
  subst hvs2
  obtain ⟨v3, vs3, d3, ds3, p3, q3, hvs3, hds3, hps3, h3, r3⟩ := trodAll_cons r2
  subst hvs3
  obtain ⟨hv9, hds9, hps9⟩ := trodAll_nil r3
  subst hv9
  subst hds9
  subst hds3
  subst hds2
  subst hds1
  subst hds0
  obtain rfl : args = #[v0, v1, v2, v3] := by cases args; simp_all
  obtain ⟨rfl, rfl⟩ := trodVars_none hV
  obtain ⟨s0, rfl, hd0, hp0, ws0⟩ := openString (hval 0 9 v0 rfl rfl) h0
  obtain ⟨A1, c1, xs1, rfl, hc1, hm1, hs1, hz1, hd1⟩ := openStrs (hval 1 22 v1 rfl rfl) h1
  obtain ⟨a2, rfl, hd2, hp2, wa2⟩ := openU64 (hval 2 41 v2 rfl rfl) h2
  obtain ⟨s3, rfl, hd3, hp3, ws3⟩ := openString (hval 3 9 v3 rfl rfl) h3
  have hb0 := bulk_string (hd0 ▸ bulk_of hsmall (d := d0) (by simp))
  have hb1 := bulk_slice hd1 (bulk_of hsmall (d := d1) (by simp))
  have hb3 := bulk_string (hd3 ▸ bulk_of hsmall (d := d3) (by simp))
  have hK := hasK_of hL
  refine (walk s0.data.toList s3.data.toList A1 c1 xs1 a2 (bounds_u64 wa2).1 (bounds_u64 wa2).2 (by have := hb0; simpa using this) (by have := hb3; simpa using this) hb1 W hs1 hK).mono fun e W' ⟨he, hg⟩ => ?_
  subst he
  have hlt : ∀ x ∈ p, x.block < W.heap.size := fun x hx => hW'.lt x (by simp [hx])
  exact ⟨_, rfl, post_below (pa := p) (pv := []) hW' (fun _ _ _ => (trodAll_cons_mk (shut_bool Tryd.underlying4 _) trodAll_mk0)) (fun sp hsp => by have := stays_all laidOut hg (by kernel_rfl) hAk hlt sp (fun x hx => hsp x (by simp [hx])); rw [← Tryd.params10] at this; exact this) (fun _ _ => rfl) rfl hg (ok_one (by kernel_rfl) rfl (okWide_bool_mk Tryd.underlying4 _))⟩
theorem laid_met (os : Os) : laidMet Tryd.prog Rows.sszChecksUptoRow.laid ((laidWorld os).forCall (fun _ _ => 0) ⟨#[], #[.string ByteArray.empty, .slice none 0 0, .int .u64 0, .string ByteArray.empty], []⟩).memory :=
  laidMet_of_run' 8 (by kernel_rfl) (by kernel_rfl)
theorem reads (os : Os) {H : Type} (enc : TypeId × Value → H) : ∃ places, DataW.whole enc Tryd.prog ((laidWorld os).forCall (fun _ _ => 0) ⟨#[], #[.string ByteArray.empty, .slice none 0 0, .int .u64 0, .string ByteArray.empty], []⟩).memory Tryd.f10.params.toList Rows.sszChecksSpec.vars false #[.string ByteArray.empty, .slice none 0 0, .int .u64 0, .string ByteArray.empty].toList 8 = some ([.lit (.string []), .nil, .lit (.int .u64 0), .lit (.string [])], [], places) :=
  ⟨[], by kernel_rfl⟩
set_option maxRecDepth 100000 in
theorem lifted (os : Os) (started : os.Started) (H : Type) (enc : TypeId × Value → H) (F : Stop.Interp) :
    ReturnsInHanded {} Tryd.checked os 10 .any ((Rows.OpenSpec.upto Rows.sszChecksSpec).preRow enc Tryd.prog Tryd.f10 Rows.sszChecksUptoRow.domain false Rows.sszChecksUptoRow.laid) (((Rows.OpenSpec.upto Rows.sszChecksSpec).at F).post enc Tryd.prog Tryd.f10 false true false false) := by
  obtain ⟨places, hx⟩ := reads os enc
  refine returnsInHanded_of_row (C := Tryd.checked) (s := Rows.OpenSpec.upto Rows.sszChecksSpec) own started (by kernel_rfl) Tryd.func10
    (witness_row_at (enc := enc) (C := Tryd.checked) false (laidWorld os) #[.string ByteArray.empty, .slice none 0 0, .int .u64 0, .string ByteArray.empty] rfl (by kernel_rfl) (by kernel_rfl) (by kernel_rfl)
      (OpenSpec.preRow_of_cond 8 hx (by kernel_rfl) (fun k hk => by cases hk; kernel_rfl) (by kernel_rfl) (laid_met os))) ?_
  intro W base args ds gs before hval hW _ hcond hreach hL _ _
  exact contract H enc W base args ds gs before hval hW (hcond _ rfl) hL
theorem said : Rows.SszChecksUptoSaid :=
  OpenClaim.holds_of_cond 10 Tryd.f10 rfl rfl rfl rfl rfl rfl rfl ⟨rfl, rfl, rfl, rfl, rfl⟩ rfl rfl rfl rfl rfl (by kernel_rfl) Tryd.func10 (by kernel_rfl)
    (of_decide_eq_true (by kernel_rfl)) (by unfold Func.isWrapper; first | (rw [if_pos (by decide +kernel)]; kernel_rfl) | (rw [if_neg (by decide +kernel)]; exact ⟨rfl, rfl⟩))
    (fun os started H enc _ F => by rw [OpenClaim.pre_eq_preRow]; exact lifted os started H enc F)
theorem plain (f : FuncId) (fn : Func) (hf : Tryd.pinned.checked.prog.funcNamed "pharos/pharoslaw08.SszChecks" = some f) (hfn : Tryd.pinned.checked.prog.funcs[f]? = some fn) :
    false = Tryd.pinned.checked.prog.looks [] ∧ ∀ (j : Nat) t, fn.params[j]? = some t → Tryd.pinned.checked.prog.wantsStandIn t = false := by
  obtain rfl : f = 10 := Option.some.inj ((show Tryd.prog.funcNamed "pharos/pharoslaw08.SszChecks" = some 10 by kernel_rfl).symm.trans hf) |>.symm
  obtain rfl : fn = Tryd.f10 := (Option.some.inj (Tryd.func10.symm.trans hfn)).symm
  refine ⟨by kernel_rfl, fun j t ht => ?_⟩
  rw [Tryd.params10] at ht
  have hm : t ∈ [9, 22, 41, 9] := by simpa using Array.mem_of_getElem? ht
  have hall : ∀ t ∈ [9, 22, 41, 9], Tryd.prog.wantsStandIn t = false := by
    intro t h
    simp only [List.mem_cons, List.not_mem_nil, or_false] at h
    rcases h with rfl | rfl | rfl | rfl <;> kernel_rfl
  exact hall t hm

/-- THE STATEMENT'S CARD -/
theorem proved : Rows.SszChecksUptoCardSaid :=
  Claim7.holds_tied_plain_at .later [] _ _ _ _ said (fun _ h => by cases h) (by kernel_rfl) (fun _ h => by cases h) sszChecksUpto_row_tie rfl ⟨rfl, rfl⟩ (by kernel_rfl) rfl plain (by kernel_rfl)

end lawSszChecks
end Go.Proofs.YtpmmjomejackkaaDoor
