/- What is wrong with an update, by a store, or nothing, by the program and by the reference: any store, update, slot, their bulk bounded. -/
import Derived.Test.YtegaaccioppfjaaGreatDoorFt22
import Derived.Test.YtegaaccioppfjaaGreatDoorFt24
import Derived.Test.YtegaaccioppfjaaGreatDoorFt27
import Derived.Test.YtegaaccioppfjaaGreatDoorFt9
import Derived.Test.YtegaaccioppfjaaGreatDoorFt16
import Derived.WalkKit
import Derived.ProofKit
import Derived.OpenShut
set_option linter.unusedSimpArgs false
set_option linter.unusedVariables false
namespace Go.Proofs.YtegaaccioppfjaaGreatDoor
open BigFrame Go.RowKit Go.Phx Go.Shelf
attribute [local go_sem] Oper.semAt_some
namespace lawLightChecks

set_option maxRecDepth 100000 in
set_option maxHeartbeats 8000000 in
theorem walk (s : Sr) (u : Up) (now : Int) (hn0 : 0 ≤ now) (hn1 : now ≤ 18446744073709551615) (w : World) (hs : SrIn w s) (hu : UpIn w u) (hk : HasK w) :
    Calls Tryz.prog 3 #[srV s, upV u, .int .u64 now] w (Ret w (.bool true)) := by
  obtain ⟨n, rfl⟩ : ∃ n : Nat, now = n := ⟨now.toNat, (Int.toNat_of_nonneg hn0).symm⟩
  have hn : n < 18446744073709551616 := by omega
  have n1 := fun W (hB : Below w.heap.size w W) => shown14_calls W (hk.on hB)
  have n2 := fun W (hB : Below w.heap.size w W) => lgcheck_calls s u n W (hk.on hB) (hs.below hB) (hu.below hB) hn
  have n3 := fun W (hB : Below w.heap.size w W) => rlgcheck_calls s u n W (hs.below hB) (hu.below hB) hn
  generalize checkE s u n = e at *
  replace n1 := Lib.hid n1
  replace n2 := Lib.hid n2
  replace n3 := Lib.hid n3
  clear hs hu hk hn0 hn1 hn
  have K0 := (Blk.new0 w 35 (srA s)).alloc (.cells (upA u) 33)
  have K1 := Blk.new1 w (.cells (srA s) 35) 33 (upA u)
  have HB : Below w.heap.size w ((w.alloc (.cells (srA s) 35)).alloc (.cells (upA u) 33)) := (by repeat (first | assumption | exact Below.refl _ _ | refine Below.setCell ?_ (by first | exact Nat.le_refl _ | (simp; done) | omega | (simp; omega)) _ | refine Below.alloc ?_ (by first | exact Nat.le_refl _ | (simp; done) | omega | (simp; omega)) _ | refine below_drewN ?_ _ | refine Below.drew ?_ | refine Below.on (by assumption) ?_ | refine Below.via (by assumption) (by first | exact Nat.le_refl _ | (simp; done) | omega | (simp; omega)) ?_))
  go_enter Tryz.func3, Tryz.ntmps3
  go_upto_region 1 with fail
  obtain ⟨W, hW⟩ : ∃ W, ((w.alloc (.cells (srA s) 35)).alloc (.cells (upA u) 33)) = W := ⟨_, rfl⟩
  rw [hW] at K0 K1 HB ⊢
  clear hW
  obtain ⟨g, hg⟩ : ∃ g, w.heap.size = g := ⟨_, rfl⟩
  have hgl : w.heap.size ≤ g := by omega
  rw [hg] at K0 K1 ⊢
  clear hg
  replace K0 := Lib.hid K0
  replace K1 := Lib.hid K1
  (have k0 := Blk.cell K0.out; have f0 := Blk.free K0.out; have l0 := Blk.lt K0.out; have m0 := Nat.le_of_lt l0; have k1 := Blk.cell K1.out; have f1 := Blk.free K1.out; have l1 := Blk.lt K1.out; have m1 := Nat.le_of_lt l1)
  go_wp2_with fail
  (refine (n1.out _ HB).mono ?_; rintro e w1 ⟨rfl, hN⟩; have N0 := Lib.hid (K0.out.below hN); have N1 := Lib.hid (K1.out.below hN); have HBn : Below w.heap.size w w1 := Below.on hN HB; clear hN HB K0 k0 f0 l0 m0 K1 k1 f1 l1 m1; have K0 := N0; clear N0; have K1 := N1; clear N1; have HB := HBn; clear HBn; (have k0 := Blk.cell K0.out; have f0 := Blk.free K0.out; have l0 := Blk.lt K0.out; have m0 := Nat.le_of_lt l0; have k1 := Blk.cell K1.out; have f1 := Blk.free K1.out; have l1 := Blk.lt K1.out; have m1 := Nat.le_of_lt l1))
  go_upto_region 2 with fail
  have hwf : ∀ f, Fence.wide.fn f := fun _ => trivial
  refine (wpIn_wide (n := 9)).1 ?_
  refine wpIn_round_held (fun w' => Below w1.heap.size w1 w') (fun j => true) (by kernel_rfl) ?_
  have hS0 : (fun w' => Below w1.heap.size w1 w') w1.drew := (Below.refl _ _).drew
  refine S_take (fun _ => trivial) 0 (.bool true) (by kernel_rfl) rfl (by kernel_rfl) (by kernel_rfl) (by kernel_rfl) (by kernel_rfl) (onlyN_panic _ _) hS0 (by kernel_rfl) (fun w' hw => by go_simp) ?_
  refine S_take (fun _ => trivial) 1 (.bool true) (by kernel_rfl) rfl (by kernel_rfl) (by kernel_rfl) (by kernel_rfl) (by kernel_rfl) (onlyN_panic _ _) hS0 (by kernel_rfl) (fun w' hw => by go_simp) ?_
  refine S_take (fun _ => trivial) 2 (srV (s)) (by kernel_rfl) rfl (by kernel_rfl) (by kernel_rfl) (by kernel_rfl) (by kernel_rfl) (onlyN_panic _ _) hS0 (by kernel_rfl) (fun w' hw => exec_load rfl (by kernel_rfl) (ldSr (s) (K0.out.below hw))) ?_
  refine S_take (fun _ => trivial) 3 (upV (u)) (by kernel_rfl) rfl (by kernel_rfl) (by kernel_rfl) (by kernel_rfl) (by kernel_rfl) (onlyN_panic _ _) hS0 (by kernel_rfl) (fun w' hw => exec_load rfl (by kernel_rfl) (ldUp (u) (K1.out.below hw))) ?_
  refine S_take (fun _ => trivial) 4 (.int .u64 (n : Int)) (by kernel_rfl) rfl (by kernel_rfl) (by kernel_rfl) (by kernel_rfl) (by kernel_rfl) (onlyN_panic _ _) hS0 (by kernel_rfl) (fun w' hw => by go_simp) ?_
  refine S_take (fun _ => trivial) 6 (srV (s)) (by kernel_rfl) rfl (by kernel_rfl) (by kernel_rfl) (by kernel_rfl) (by kernel_rfl) (onlyN_panic _ _) hS0 (by kernel_rfl) (fun w' hw => exec_load rfl (by kernel_rfl) (ldSr (s) (K0.out.below hw))) ?_
  refine S_take (fun _ => trivial) 7 (upV (u)) (by kernel_rfl) rfl (by kernel_rfl) (by kernel_rfl) (by kernel_rfl) (by kernel_rfl) (onlyN_panic _ _) hS0 (by kernel_rfl) (fun w' hw => exec_load rfl (by kernel_rfl) (ldUp (u) (K1.out.below hw))) ?_
  refine S_take (fun _ => trivial) 8 (.int .u64 (n : Int)) (by kernel_rfl) rfl (by kernel_rfl) (by kernel_rfl) (by kernel_rfl) (by kernel_rfl) (onlyN_panic _ _) hS0 (by kernel_rfl) (fun w' hw => by go_simp) ?_
  refine S_one 5 (by kernel_rfl) rfl (fun K hK => ?_)
  go_simp
  gi_wp2_with (gi_at_call 20; refine (callsIn_wide.2 (n2.out _ (Below.on hS0 HB))).mono ?_; rintro e w1h1 ⟨rfl, hN⟩)
  have hS1 : (fun w' => Below w1.heap.size w1 w') w1h1 := hS0.trans (hN.mono hS0.size)
  clear hS0
  have hS0 := hS1
  clear hS1
  clear hN
  refine ⟨(fun _ => hS0), ?_⟩
  refine S_one 9 (by kernel_rfl) rfl (fun K hK => ?_)
  go_simp
  gi_wp2_with (gi_at_call 21; refine (callsIn_wide.2 (n3.out _ (Below.on hS0 HB))).mono ?_; rintro e w1h2 ⟨rfl, hN⟩)
  have hS1 : (fun w' => Below w1.heap.size w1 w') w1h2 := hS0.trans (hN.mono hS0.size)
  clear hS0
  have hS0 := hS1
  clear hS1
  clear hN
  refine ⟨(fun _ => hS0), ?_⟩
  refine S_take (fun _ => trivial) 10 (.bool true) (by kernel_rfl) rfl (by kernel_rfl) (by kernel_rfl) (by kernel_rfl) (by kernel_rfl) (onlyN_panic _ _) hS0 (by kernel_rfl) (fun w' hw => by go_simp) ?_
  refine S_take (fun _ => trivial) 11 (.bool true) (by kernel_rfl) rfl (by kernel_rfl) (by kernel_rfl) (by kernel_rfl) (by kernel_rfl) (onlyN_panic _ _) hS0 (by kernel_rfl) (fun w' hw => by go_simp) ?_
  refine S_take (fun _ => trivial) 12 (.bool true) (by kernel_rfl) rfl (by kernel_rfl) (by kernel_rfl) (by kernel_rfl) (by kernel_rfl) (onlyN_panic _ _) hS0 (by kernel_rfl) (fun w' hw => by go_simp) ?_
  refine ⟨by kernel_rfl, rfl, ?_⟩
  go_wp2_with fail
  go_ret
  exact ⟨rfl, Below.on hS0 HB⟩
open Go.ChangeShapes Go.WideShapes Go.ChangeAt Go.Joins

set_option maxRecDepth 100000 in
theorem contract (H : Type) (enc : TypeId × Value → H) (W : World) (base : Nat) (args : Array Value) (ds gs : List (DataW H)) (before : List MemPlace)
    (hval0 : ∀ (j : Nat) t v, Tryz.f3.params[j]? = some t → args[j]? = some v → Value.okWide Tryz.prog W .any base t v)
    (hW : DataW.Whole enc Tryz.prog Tryz.f3.params.toList Rows.lightChecksSpec.vars false W args.toList ds gs before) (hsmall : Rows.uptoSmall H (ds ++ gs) = true)
    (hL : laidMetH Tryz.prog Rows.lightChecksUptoRow.laid W) :
    Calls Tryz.prog 3 args W fun e W' => ∃ v, e = .returned v ∧ Rows.lightChecksSpec.post enc Tryz.prog Tryz.f3 false true false false W args v W' := by
  have hval := hval0
  have hW' := hW
  obtain ⟨p, q, hA0, hV, rfl, hfz, hnd⟩ := hW
  have hA : DataW.TrodAll enc Tryz.prog W 0 (fun _ => true) true Tryz.f3.params.toList args.toList ds p := hA0
  rw [Tryz.params3] at hA hval
  have hAk := hA
  obtain ⟨v0, vs0, d0, ds0, p0, q0, hargs, hds0, hps0, h0, r0⟩ := trodAll_cons hA
  obtain ⟨v1, vs1, d1, ds1, p1, q1, hvs1, hds1, hps1, h1, r1⟩ := trodAll_cons r0
  subst hvs1
  obtain ⟨v2, vs2, d2, ds2, p2, q2, hvs2, hds2, hps2, h2, r2⟩ := trodAll_cons r1
  subst hvs2
  obtain ⟨hv9, hds9, hps9⟩ := trodAll_nil r2
  subst hv9
  subst hds9
  subst hds2
  subst hds1
  subst hds0
  obtain rfl : args = #[v0, v1, v2] := by cases args; simp_all
  obtain ⟨rfl, rfl⟩ := trodVars_none hV
  obtain ⟨s0, rfl, hs0⟩ := openSr (hval 0 35 v0 rfl rfl) h0 (bulk_of hsmall (d := d0) (by simp))
  obtain ⟨s1, rfl, hs1⟩ := openUp (hval 1 33 v1 rfl rfl) h1 (bulk_of hsmall (d := d1) (by simp))
  obtain ⟨a2, rfl, hd2, hp2, wa2⟩ := openU64 (hval 2 22 v2 rfl rfl) h2
  have hK := hasK_of hL
  refine (walk s0 s1 a2 (bounds_u64 wa2).1 (bounds_u64 wa2).2 W hs0 hs1 hK).mono fun e W' ⟨he, hg⟩ => ?_
  subst he
  have hlt : ∀ x ∈ p, x.block < W.heap.size := fun x hx => hW'.lt x (by simp [hx])
  exact ⟨_, rfl, post_below (pa := p) (pv := []) hW' (fun _ _ _ => (trodAll_cons_mk (shut_bool Tryz.underlying4 _) trodAll_mk0)) (fun sp hsp => by have := stays_all laidOut hg (by kernel_rfl) hAk hlt sp (fun x hx => hsp x (by simp [hx])); rw [← Tryz.params3] at this; exact this) (fun _ _ => rfl) rfl hg (ok_one (by kernel_rfl) rfl (okWide_bool_mk Tryz.underlying4 _))⟩
theorem laid_met (os : Os) : laidMet Tryz.prog Rows.lightChecksUptoRow.laid ((laidWorld os).forCall (fun _ _ => 0) ⟨#[], #[srV Sr.zero, upV Up.zero, .int .u64 0], []⟩).memory :=
  laidMet_of_run' 8 (by kernel_rfl) (by kernel_rfl)
theorem reads (os : Os) {H : Type} (enc : TypeId × Value → H) : ∃ places, DataW.whole enc Tryz.prog ((laidWorld os).forCall (fun _ _ => 0) ⟨#[], #[srV Sr.zero, upV Up.zero, .int .u64 0], []⟩).memory Tryz.f3.params.toList Rows.lightChecksSpec.vars false #[srV Sr.zero, upV Up.zero, .int .u64 0].toList 8 = some ([srD0 H, upD0 H, .lit (.int .u64 0)], [], places) :=
  ⟨[], by kernel_rfl⟩
set_option maxRecDepth 100000 in
theorem lifted (os : Os) (started : os.Started) (H : Type) (enc : TypeId × Value → H) (F : Stop.Interp) :
    ReturnsInHanded {} Tryz.checked os 3 .any ((Rows.OpenSpec.upto Rows.lightChecksSpec).preRow enc Tryz.prog Tryz.f3 Rows.lightChecksUptoRow.domain false Rows.lightChecksUptoRow.laid) (((Rows.OpenSpec.upto Rows.lightChecksSpec).at F).post enc Tryz.prog Tryz.f3 false true false false) := by
  obtain ⟨places, hx⟩ := reads os enc
  refine returnsInHanded_of_row (C := Tryz.checked) (s := Rows.OpenSpec.upto Rows.lightChecksSpec) own started (by kernel_rfl) Tryz.func3
    (witness_row_at (enc := enc) (C := Tryz.checked) false (laidWorld os) #[srV Sr.zero, upV Up.zero, .int .u64 0] rfl (by kernel_rfl) (by kernel_rfl) (by kernel_rfl)
      (OpenSpec.preRow_of_cond 8 hx (by kernel_rfl) (fun k hk => by cases hk; kernel_rfl) (by kernel_rfl) (laid_met os))) ?_
  intro W base args ds gs before hval hW _ hcond hreach hL _ _
  exact contract H enc W base args ds gs before hval hW (hcond _ rfl) hL
theorem and_mk {a b : Bool} (h : a = true) (k : b = true) : (a && b) = true := by rw [h, k]; rfl
set_option maxHeartbeats 40000000 in
theorem facts : joinedFacts Tryz.pinned.checked.prog 3 Tryz.f3 (Rows.OpenSpec.upto Rows.lightChecksSpec).bare Rows.lightChecksUptoRow = true := by
  unfold joinedFacts
  repeat' (with_reducible refine and_mk ?_ ?_)
  all_goals (as_aux_lemma => kernel_rfl)
theorem said : Rows.LightChecksUptoSaid :=
  OpenClaim.holds_of_cond 3 Tryz.f3 rfl rfl rfl rfl rfl rfl rfl ⟨rfl, rfl, rfl, rfl, rfl⟩ rfl rfl rfl rfl rfl (by kernel_rfl) Tryz.func3 facts
    (of_decide_eq_true (by kernel_rfl)) (by unfold Func.isWrapper; first | (rw [if_pos (by decide +kernel)]; kernel_rfl) | (rw [if_neg (by decide +kernel)]; exact ⟨rfl, rfl⟩))
    (fun os started H enc _ F => by rw [OpenClaim.pre_eq_preRow]; exact lifted os started H enc F)
theorem plain (f : FuncId) (fn : Func) (hf : Tryz.pinned.checked.prog.funcNamed "pharos/pharoslaw14.LightChecks" = some f) (hfn : Tryz.pinned.checked.prog.funcs[f]? = some fn) :
    false = Tryz.pinned.checked.prog.looks [] ∧ ∀ (j : Nat) t, fn.params[j]? = some t → Tryz.pinned.checked.prog.wantsStandIn t = false := by
  obtain rfl : f = 3 := Option.some.inj ((show Tryz.prog.funcNamed "pharos/pharoslaw14.LightChecks" = some 3 by kernel_rfl).symm.trans hf) |>.symm
  obtain rfl : fn = Tryz.f3 := (Option.some.inj (Tryz.func3.symm.trans hfn)).symm
  refine ⟨by kernel_rfl, fun j t ht => ?_⟩
  rw [Tryz.params3] at ht
  have hm : t ∈ [35, 33, 22] := by simpa using Array.mem_of_getElem? ht
  have hall : ∀ t ∈ [35, 33, 22], Tryz.prog.wantsStandIn t = false := by
    intro t h
    simp only [List.mem_cons, List.not_mem_nil, or_false] at h
    rcases h with rfl | rfl | rfl <;> kernel_rfl
  exact hall t hm

/-- THE STATEMENT'S CARD -/
theorem proved : Rows.LightChecksUptoCardSaid :=
  Claim7.holds_tied_plain_at .later [] _ _ _ _ said (fun _ h => by cases h) (by kernel_rfl) (fun _ h => by cases h) lightChecksUpto_row_tie rfl ⟨rfl, rfl⟩ (by kernel_rfl) rfl plain (by kernel_rfl)

end lawLightChecks
end Go.Proofs.YtegaaccioppfjaaGreatDoor
