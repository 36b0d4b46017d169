/- A secret's key, and its signature of a text, by the program and by the reference: any number, text, its bulk bounded. -/
import Derived.Test.YtpmmjomejackkaaDoorG23
import Derived.Test.YtpmmjomejackkaaDoorG27
import Derived.Test.YtpmmjomejackkaaDoorG12
import Derived.Test.YtpmmjomejackkaaDoorG26
import Derived.WalkKit
import Derived.ProofKit
import Derived.OpenShut
set_option linter.unusedSimpArgs false
set_option linter.unusedVariables false
namespace Go.Proofs.YtpmmjomejackkaaDoor
open BigFrame Go.RowKit Go.Phx Go.Shelf
attribute [local go_sem] Oper.semAt_some
namespace lawSignKeys

set_option maxRecDepth 100000 in
set_option maxHeartbeats 2000000 in
theorem walk (n : Int) (h0 : 0 ≤ n) (h1 : n ≤ 18446744073709551615) (t : List UInt8) (ht : t.length ≤ 1048576) (w : World) (hk : HasK w) : Calls Tryd.prog 17 #[.int .u64 n, .string (bs t)] w (Ret w (.bool true)) := by
  obtain ⟨m, hm⟩ : ∃ m, min t.length 10000 = m := ⟨_, rfl⟩
  have hmin : min (t.length : Int) 10000 = (m : Int) := by omega
  have hms : m ≤ t.length := by omega
  obtain ⟨t2, ht2⟩ : ∃ t2, t.take m = t2 := ⟨_, rfl⟩
  have ht2l : t2.length ≤ 1048576 := by rw [← ht2, List.length_take]; omega
  have htk : (bs t).extract 0 m = bs t2 := by rw [bs_take, ht2]
  have n1 := fun W => key_calls n h0 h1 W
  have n2 := fun W => rkey_calls n h0 h1 W
  have n3 := fun W (hB : Below w.heap.size w W) => sign_calls n h0 h1 t2 ht2l W (hk.on hB)
  have n4 := fun W => rsign_calls n h0 h1 t2 ht2l W
  unfold keyV at n1 n2 n3 n4
  generalize keyB n genE = k1 at *
  generalize keyB n (hashE t2) = k2 at *
  generalize keyE n = er at *
  replace n1 := Lib.hid n1
  replace n2 := Lib.hid n2
  replace n3 := Lib.hid n3
  replace n4 := Lib.hid n4
  replace ht2 := Lib.hid ht2
  replace hm := Lib.hid hm
  go_enter Tryd.func17, Tryd.ntmps17
  go_wp2_with fail
  refine (shown12_calls _ hk).mono ?_
  rintro e w1 ⟨rfl, g1⟩
  clear hk
  go_wp2_with fail
  refine (n1.out _).mono ?_
  rintro e w2 ⟨rfl, g2⟩
  have hB2 := Below.on g2 g1
  go_wp2_with fail
  refine (n2.out _).mono ?_
  rintro e w3 ⟨rfl, g3⟩
  have hB3 := Below.on g3 hB2
  go_wp2_with fail
  try simp only [htk]
  refine (n3.out _ hB3).mono ?_
  rintro e w4 ⟨rfl, g4⟩
  have hB4 := Below.on g4 hB3
  go_wp2_with fail
  try simp only [htk]
  refine (n4.out _).mono ?_
  rintro e w5 ⟨rfl, g5⟩
  have hB5 := Below.on g5 hB4
  clear g1 g2 g3 g4 g5 hB2 hB3 hB4
  go_wp2_with fail
  go_ret
  exact ⟨by simp, hB5⟩
open Go.ChangeShapes Go.WideShapes Go.ChangeAt Go.Joins

set_option maxRecDepth 100000 in
theorem contract (H : Type) (enc : TypeId × Value → H) (W : World) (base : Nat) (args : Array Value) (ds gs : List (DataW H)) (before : List MemPlace)
    (hval0 : ∀ (j : Nat) t v, Tryd.f17.params[j]? = some t → args[j]? = some v → Value.okWide Tryd.prog W .any base t v)
    (hW : DataW.Whole enc Tryd.prog Tryd.f17.params.toList Rows.signKeysSpec.vars false W args.toList ds gs before) (hsmall : Rows.uptoSmall H (ds ++ gs) = true)
    (hL : laidMetH Tryd.prog Rows.signKeysUptoRow.laid W) :
    Calls Tryd.prog 17 args W fun e W' => ∃ v, e = .returned v ∧ Rows.signKeysSpec.post enc Tryd.prog Tryd.f17 false true false false W args v W' := by
  have hval := hval0
  have hW' := hW
  obtain ⟨p, q, hA0, hV, rfl, hfz, hnd⟩ := hW
  have hA : DataW.TrodAll enc Tryd.prog W 0 (fun _ => true) true Tryd.f17.params.toList args.toList ds p := hA0
  rw [Tryd.params17] at hA hval
  have hAk := hA
  obtain ⟨v0, vs0, d0, ds0, p0, q0, hargs, hds0, hps0, h0, r0⟩ := trodAll_cons hA
  obtain ⟨v1, vs1, d1, ds1, p1, q1, hvs1, hds1, hps1, h1, r1⟩ := trodAll_cons r0
  subst hvs1
  obtain ⟨hv9, hds9, hps9⟩ := trodAll_nil r1
  subst hv9
  subst hds9
  subst hds1
  subst hds0
  obtain rfl : args = #[v0, v1] := by cases args; simp_all
  obtain ⟨rfl, rfl⟩ := trodVars_none hV
  obtain ⟨a0, rfl, hd0, hp0, wa0⟩ := openU64 (hval 0 41 v0 rfl rfl) h0
  obtain ⟨s1, rfl, hd1, hp1, ws1⟩ := openString (hval 1 9 v1 rfl rfl) h1
  have hb1 := bulk_string (hd1 ▸ bulk_of hsmall (d := d1) (by simp))
  have hK := hasK_of hL
  refine (walk a0 (bounds_u64 wa0).1 (bounds_u64 wa0).2 s1.data.toList (by have := hb1; simpa using this) W hK).mono fun e W' ⟨he, hg⟩ => ?_
  subst he
  have hlt : ∀ x ∈ p, x.block < W.heap.size := fun x hx => hW'.lt x (by simp [hx])
  exact ⟨_, rfl, post_below (pa := p) (pv := []) hW' (fun _ _ _ => (trodAll_cons_mk (shut_bool Tryd.underlying4 _) trodAll_mk0)) (fun sp hsp => by have := stays_all laidOut hg (by kernel_rfl) hAk hlt sp (fun x hx => hsp x (by simp [hx])); rw [← Tryd.params17] at this; exact this) (fun _ _ => rfl) rfl hg (ok_one (by kernel_rfl) rfl (okWide_bool_mk Tryd.underlying4 _))⟩
theorem laid_met (os : Os) : laidMet Tryd.prog Rows.signKeysUptoRow.laid ((laidWorld os).forCall (fun _ _ => 0) ⟨#[], #[.int .u64 0, .string ByteArray.empty], []⟩).memory :=
  laidMet_of_run' 8 (by kernel_rfl) (by kernel_rfl)
theorem reads (os : Os) {H : Type} (enc : TypeId × Value → H) : ∃ places, DataW.whole enc Tryd.prog ((laidWorld os).forCall (fun _ _ => 0) ⟨#[], #[.int .u64 0, .string ByteArray.empty], []⟩).memory Tryd.f17.params.toList Rows.signKeysSpec.vars false #[.int .u64 0, .string ByteArray.empty].toList 8 = some ([.lit (.int .u64 0), .lit (.string [])], [], places) :=
  ⟨[], by kernel_rfl⟩
set_option maxRecDepth 100000 in
theorem lifted (os : Os) (started : os.Started) (H : Type) (enc : TypeId × Value → H) (F : Stop.Interp) :
    ReturnsInHanded {} Tryd.checked os 17 .any ((Rows.OpenSpec.upto Rows.signKeysSpec).preRow enc Tryd.prog Tryd.f17 Rows.signKeysUptoRow.domain false Rows.signKeysUptoRow.laid) (((Rows.OpenSpec.upto Rows.signKeysSpec).at F).post enc Tryd.prog Tryd.f17 false true false false) := by
  obtain ⟨places, hx⟩ := reads os enc
  refine returnsInHanded_of_row (C := Tryd.checked) (s := Rows.OpenSpec.upto Rows.signKeysSpec) own started (by kernel_rfl) Tryd.func17
    (witness_row_at (enc := enc) (C := Tryd.checked) false (laidWorld os) #[.int .u64 0, .string ByteArray.empty] rfl (by kernel_rfl) (by kernel_rfl) (by kernel_rfl)
      (OpenSpec.preRow_of_cond 8 hx (by kernel_rfl) (fun k hk => by cases hk; kernel_rfl) (by kernel_rfl) (laid_met os))) ?_
  intro W base args ds gs before hval hW _ hcond hreach hL _ _
  exact contract H enc W base args ds gs before hval hW (hcond _ rfl) hL
theorem said : Rows.SignKeysUptoSaid :=
  OpenClaim.holds_of_cond 17 Tryd.f17 rfl rfl rfl rfl rfl rfl rfl ⟨rfl, rfl, rfl, rfl, rfl⟩ rfl rfl rfl rfl rfl (by kernel_rfl) Tryd.func17 (by kernel_rfl)
    (of_decide_eq_true (by kernel_rfl)) (by unfold Func.isWrapper; first | (rw [if_pos (by decide +kernel)]; kernel_rfl) | (rw [if_neg (by decide +kernel)]; exact ⟨rfl, rfl⟩))
    (fun os started H enc _ F => by rw [OpenClaim.pre_eq_preRow]; exact lifted os started H enc F)
theorem plain (f : FuncId) (fn : Func) (hf : Tryd.pinned.checked.prog.funcNamed "pharos/pharoslaw12.SignKeys" = some f) (hfn : Tryd.pinned.checked.prog.funcs[f]? = some fn) :
    false = Tryd.pinned.checked.prog.looks [] ∧ ∀ (j : Nat) t, fn.params[j]? = some t → Tryd.pinned.checked.prog.wantsStandIn t = false := by
  obtain rfl : f = 17 := Option.some.inj ((show Tryd.prog.funcNamed "pharos/pharoslaw12.SignKeys" = some 17 by kernel_rfl).symm.trans hf) |>.symm
  obtain rfl : fn = Tryd.f17 := (Option.some.inj (Tryd.func17.symm.trans hfn)).symm
  refine ⟨by kernel_rfl, fun j t ht => ?_⟩
  rw [Tryd.params17] at ht
  have hm : t ∈ [41, 9] := by simpa using Array.mem_of_getElem? ht
  have hall : ∀ t ∈ [41, 9], Tryd.prog.wantsStandIn t = false := by
    intro t h
    simp only [List.mem_cons, List.not_mem_nil, or_false] at h
    rcases h with rfl | rfl <;> kernel_rfl
  exact hall t hm

/-- THE STATEMENT'S CARD -/
theorem proved : Rows.SignKeysUptoCardSaid :=
  Claim7.holds_tied_plain_at .later [] _ _ _ _ said (fun _ h => by cases h) (by kernel_rfl) (fun _ h => by cases h) signKeysUpto_row_tie rfl ⟨rfl, rfl⟩ (by kernel_rfl) rfl plain (by kernel_rfl)

end lawSignKeys
end Go.Proofs.YtpmmjomejackkaaDoor
