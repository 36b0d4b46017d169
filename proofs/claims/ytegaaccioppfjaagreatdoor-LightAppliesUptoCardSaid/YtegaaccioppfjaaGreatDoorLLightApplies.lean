/- What a store is behind an update, or what is wrong, by the program and by the reference: any store, update, slot, their bulk bounded. -/
import Derived.Test.YtegaaccioppfjaaGreatDoorFt22
import Derived.Test.YtegaaccioppfjaaGreatDoorFt26
import Derived.Test.YtegaaccioppfjaaGreatDoorFt31
import Derived.Test.YtegaaccioppfjaaGreatDoorFt9
import Derived.Test.YtegaaccioppfjaaGreatDoorFt16
import Derived.WalkKit
import Derived.ProofKit
import Derived.OpenShut
namespace Go.Proofs.YtegaaccioppfjaaGreatDoor
open BigFrame Go.RowKit Go.Phx Go.Shelf
attribute [local go_sem] Oper.semAt_some
set_option maxRecDepth 100000
namespace lawLightApplies
set_option maxHeartbeats 8000000 in
theorem walk (s : Sr) (u : Up) (now : Int) (hn0 : 0 ≤ now) (hn1 : now ≤ 18446744073709551615) (w : World) (hs : SrIn w s) (hu : UpIn w u) (hk : HasK w) :
  Calls Tryz.prog 9 #[srV s, upV u, .int .u64 now] w (Ret w (.bool true)) := by
 obtain ⟨n, rfl⟩ : ∃ n : Nat, now = n := ⟨now.toNat, (Int.toNat_of_nonneg hn0).symm⟩
 have hn : n < 18446744073709551616 := by omega
 have n1 := fun W (hB : Below w.heap.size w W) => shown14_calls W (hk.on hB)
 have n2 := fun W (hB : Below w.heap.size w W) => lgapply_calls s u n W (hk.on hB) (hs.below hB) (hu.below hB) hn
 have n3 := fun W (hB : Below w.heap.size w W) => rlgapply_calls s u n W (hs.below hB) (hu.below hB) hn
 have n4 := fun W (hB : Below w.heap.size w W) => rsameSr_calls (applyS s u n) (applyS s u n) W ((applyS_in n hs hu).below hB) ((applyS_in n hs hu).below hB)
 rw [sameSr_refl] at n4
 generalize checkE s u n = e at *
 generalize applyS s u n = x at *
 replace n1 := Lib.hid n1
 replace n2 := Lib.hid n2
 replace n3 := Lib.hid n3
 replace n4 := Lib.hid n4
 clear hs hu hk hn0 hn1 hn
 have K0 := (Blk.new0 w 35 (srA s)).alloc (.cells (upA u) 33)
 have K1 := Blk.new1 w (.cells (srA s) 35) 33 (upA u)
 have HB : Below w.heap.size w ((w.alloc (.cells (srA s) 35)).alloc (.cells (upA u) 33)) := bel
 go_enter Tryz.func9, Tryz.ntmps9
 go_upto_region 1 with fail
 obtain ⟨W, hW⟩ : ∃ W, ((w.alloc (.cells (srA s) 35)).alloc (.cells (upA u) 33)) = W := ⟨_, rfl⟩
 rw [hW] at K0 K1 HB ⊢
 clear hW
 obtain ⟨g, hg⟩ : ∃ g, w.heap.size = g := ⟨_, rfl⟩
 have hgl : w.heap.size ≤ g := by omega
 rw [hg] at K0 K1 ⊢
 clear hg
 replace K0 := Lib.hid K0
 replace K1 := Lib.hid K1
 (obtain ⟨k0, f0, l0, m0⟩ := rl_ K0; obtain ⟨k1, f1, l1, m1⟩ := rl_ K1)
 go_wp2_with fail
 (refine (n1.out _ HB).mono ?_; rintro e w1 ⟨rfl, hN⟩; replace K0 := Lib.hid (K0.out.below hN); replace K1 := Lib.hid (K1.out.below hN); replace HB : Below w.heap.size w w1 := Below.on hN HB; clear hN k0 f0 l0 m0 k1 f1 l1 m1; obtain ⟨k0, f0, l0, m0⟩ := rl_ K0; obtain ⟨k1, f1, l1, m1⟩ := rl_ K1)
 go_wp2_with (first | (with_reducible refine wlr (ldSr _ K0.out) rfl ?_) | (with_reducible refine wlg (ldSr _ K0.out) (by with_unfolding_all rfl) rfl ?_) | (with_reducible refine wlr (ldUp _ K1.out) rfl ?_) | (with_reducible refine wlg (ldUp _ K1.out) (by with_unfolding_all rfl) rfl ?_))
 (refine (n2.out _ HB).mono ?_; rintro e w2 ⟨rfl, hN⟩; replace K0 := Lib.hid (K0.out.below hN); replace K1 := Lib.hid (K1.out.below hN); replace HB : Below w.heap.size w w2 := Below.on hN HB; clear hN k0 f0 l0 m0 k1 f1 l1 m1; obtain ⟨k0, f0, l0, m0⟩ := rl_ K0; obtain ⟨k1, f1, l1, m1⟩ := rl_ K1)
 (go_wp2_with (first | (with_reducible refine wpList_store_halt (o := ⟨_, .store 35 _ _, _, _, _, none⟩) (stSr Sr.zero (Blk.new0 w2 35 (srA Sr.zero)) (x)) rfl _ _ rfl rfl rfl ?_)); generalize hWN : setRow _ _ _ _ = WN; replace K0 := Lib.hid (show Blk WN _ _ _ by rw [← hWN]; exact Blk.rowOver (Nat.ne_of_lt K0.out.lt) (K0.out.alloc _)); replace K1 := Lib.hid (show Blk WN _ _ _ by rw [← hWN]; exact Blk.rowOver (Nat.ne_of_lt K1.out.lt) (K1.out.alloc _)); replace K2 := (show Blk WN (World.heap w2).size 35 (srA (x)) by rw [← hWN]; exact Blk.row (by simp)); have HBn : Below w.heap.size w WN := (by rw [← hWN]; exact Below.row (HB.alloc HB.size _) HB.size (by have := HB.size; simp; omega)); obtain ⟨g2, hgj⟩ : ∃ g, (World.heap w2).size = g := ⟨_, rfl⟩; have hg0_2 : _ < g2 := (by rw [← hgj]; exact l0); have hg1_2 : _ < g2 := (by rw [← hgj]; exact l1); have hgl2 : w.heap.size ≤ g2 := (by rw [← hgj]; exact HB.size); rw [hgj] at K2 ⊢; replace K2 := Lib.hid K2; clear hWN hgj HB k0 f0 l0 m0 k1 f1 l1 m1; have HB := HBn; clear HBn; obtain ⟨k0, f0, l0, m0⟩ := rl_ K0; obtain ⟨k1, f1, l1, m1⟩ := rl_ K1; obtain ⟨k2, f2, l2, m2⟩ := rl_ K2; unfold Halted)
 go_wp2_with (first | (with_reducible refine wlr (ldSr _ K0.out) rfl ?_) | (with_reducible refine wlg (ldSr _ K0.out) (by with_unfolding_all rfl) rfl ?_) | (with_reducible refine wlr (ldUp _ K1.out) rfl ?_) | (with_reducible refine wlg (ldUp _ K1.out) (by with_unfolding_all rfl) rfl ?_))
 (refine (n3.out _ HB).mono ?_; rintro e w3 ⟨rfl, hN⟩; replace K0 := Lib.hid (K0.out.below hN); replace K1 := Lib.hid (K1.out.below hN); replace K2 := Lib.hid (K2.out.below hN); replace HB : Below w.heap.size w w3 := Below.on hN HB; clear hN k0 f0 l0 m0 k1 f1 l1 m1 k2 f2 l2 m2; obtain ⟨k0, f0, l0, m0⟩ := rl_ K0; obtain ⟨k1, f1, l1, m1⟩ := rl_ K1; obtain ⟨k2, f2, l2, m2⟩ := rl_ K2)
 (go_wp2_with (first | (with_reducible refine wpList_store_halt (o := ⟨_, .store 35 _ _, _, _, _, none⟩) (stSr Sr.zero (Blk.new0 w3 35 (srA Sr.zero)) (x)) rfl _ _ rfl rfl rfl ?_)); generalize hWN : setRow _ _ _ _ = WN; replace K0 := Lib.hid (show Blk WN _ _ _ by rw [← hWN]; exact Blk.rowOver (Nat.ne_of_lt K0.out.lt) (K0.out.alloc _)); replace K1 := Lib.hid (show Blk WN _ _ _ by rw [← hWN]; exact Blk.rowOver (Nat.ne_of_lt K1.out.lt) (K1.out.alloc _)); replace K2 := Lib.hid (show Blk WN _ _ _ by rw [← hWN]; exact Blk.rowOver (Nat.ne_of_lt K2.out.lt) (K2.out.alloc _)); replace K3 := (show Blk WN (World.heap w3).size 35 (srA (x)) by rw [← hWN]; exact Blk.row (by simp)); have HBn : Below w.heap.size w WN := (by rw [← hWN]; exact Below.row (HB.alloc HB.size _) HB.size (by have := HB.size; simp; omega)); obtain ⟨g3, hgj⟩ : ∃ g, (World.heap w3).size = g := ⟨_, rfl⟩; have hg0_3 : _ < g3 := (by rw [← hgj]; exact l0); have hg1_3 : _ < g3 := (by rw [← hgj]; exact l1); have hg2_3 : _ < g3 := (by rw [← hgj]; exact l2); have hgl3 : w.heap.size ≤ g3 := (by rw [← hgj]; exact HB.size); rw [hgj] at K3 ⊢; replace K3 := Lib.hid K3; clear hWN hgj HB k0 f0 l0 m0 k1 f1 l1 m1 k2 f2 l2 m2; have HB := HBn; clear HBn; obtain ⟨k0, f0, l0, m0⟩ := rl_ K0; obtain ⟨k1, f1, l1, m1⟩ := rl_ K1; obtain ⟨k2, f2, l2, m2⟩ := rl_ K2; obtain ⟨k3, f3, l3, m3⟩ := rl_ K3; unfold Halted)
 go_wp2_with (first | (with_reducible refine wlr (ldSr _ K2.out) rfl ?_) | (with_reducible refine wlg (ldSr _ K2.out) (by with_unfolding_all rfl) rfl ?_) | (with_reducible refine wlr (ldSr _ K3.out) rfl ?_) | (with_reducible refine wlg (ldSr _ K3.out) (by with_unfolding_all rfl) rfl ?_))
 (refine (n4.out _ HB).mono ?_; rintro e w4 ⟨rfl, hN⟩; replace K0 := Lib.hid (K0.out.below hN); replace K1 := Lib.hid (K1.out.below hN); replace K2 := Lib.hid (K2.out.below hN); replace K3 := Lib.hid (K3.out.below hN); replace HB : Below w.heap.size w w4 := Below.on hN HB; clear hN k0 f0 l0 m0 k1 f1 l1 m1 k2 f2 l2 m2 k3 f3 l3 m3; obtain ⟨k0, f0, l0, m0⟩ := rl_ K0; obtain ⟨k1, f1, l1, m1⟩ := rl_ K1; obtain ⟨k2, f2, l2, m2⟩ := rl_ K2; obtain ⟨k3, f3, l3, m3⟩ := rl_ K3)
 go_wp2_with fail
 go_ret
 exact ⟨by simp, HB⟩
open Go.ChangeShapes Go.WideShapes Go.ChangeAt Go.Joins
theorem ct (H : Type) (enc : TypeId × Value → H) (W : World) (base : Nat) (args : Array Value) (ds gs : List (DataW H)) (b9 : List MemPlace)
  (hval0 : ∀ (j : Nat) t v, Tryz.f9.params[j]? = some t → args[j]? = some v → Value.okWide Tryz.prog W .any base t v)
  (hW : DataW.Whole enc Tryz.prog Tryz.f9.params.toList Rows.lightAppliesSpec.vars false W args.toList ds gs b9) (hm9 : Rows.uptoSmall H (ds ++ gs) = true)
  (hL : laidMetH Tryz.prog Rows.lightAppliesUptoRow.laid W) :
  Calls Tryz.prog 9 args W fun e W' => ∃ v, e = .returned v ∧ Rows.lightAppliesSpec.post enc Tryz.prog Tryz.f9 false true false false W args v W' := by
 have hval := hval0
 have hW' := hW
 obtain ⟨p, q, hA0, hV, rfl, hfz, hnd⟩ := hW
 have hA : DataW.TrodAll enc Tryz.prog W 0 (fun _ => true) true Tryz.f9.params.toList args.toList ds p := hA0
 rw [Tryz.params9] at hA hval
 have hAk := hA
 obtain ⟨v0, vs0, d0, ds0, p0, q0, ha, hds0, hps0, h0, r0⟩ := trodAll_cons hA
 obtain ⟨v1, vs1, d1, ds1, p1, q1, hvs1, hds1, hps1, h1, r1⟩ := trodAll_cons r0
 subst hvs1
 obtain ⟨v2, vs2, d2, ds2, p2, q2, hvs2, hds2, hps2, h2, r2⟩ := trodAll_cons r1
 subst hvs2
 obtain ⟨hv9, hds9, hps9⟩ := trodAll_nil r2
 subst hv9 hds9 hds2 hds1 hds0
 obtain rfl : args = #[v0, v1, v2] := by cases args; simp_all
 obtain ⟨rfl, rfl⟩ := trodVars_none hV
 obtain ⟨s0, rfl, hs0⟩ := openSr (hval 0 35 v0 rfl rfl) h0 (bulk_of hm9 (d := d0) (by simp))
 obtain ⟨s1, rfl, hs1⟩ := openUp (hval 1 33 v1 rfl rfl) h1 (bulk_of hm9 (d := d1) (by simp))
 obtain ⟨a2, rfl, hd2, hp2, wa2⟩ := openU64 (hval 2 22 v2 rfl rfl) h2
 have hK := hasK_of hL
 refine (walk s0 s1 a2 (bounds_u64 wa2).1 (bounds_u64 wa2).2 W hs0 hs1 hK).mono fun e W' ⟨he, hg⟩ => ?_
 subst he
 have hlt : ∀ x ∈ p, x.block < W.heap.size := fun x hx => hW'.lt x (by simp [hx])
 exact ⟨_, rfl, post_below (pa := p) (pv := []) hW' (fun _ _ _ => (trodAll_cons_mk (shut_bool Tryz.underlying4 _) trodAll_mk0)) (fun sp hsp => by have := stays_all laidOut hg (by kernel_rfl) hAk hlt sp (fun x hx => hsp x (by simp [hx])); rw [← Tryz.params9] at this; exact this) (fun _ _ => rfl) rfl hg (ok_one (by kernel_rfl) rfl (okWide_bool_mk Tryz.underlying4 _))⟩
theorem lm (os : Os) : laidMet Tryz.prog Rows.lightAppliesUptoRow.laid ((laidWorld os).forCall (fun _ _ => 0) ⟨#[], #[srV Sr.zero, upV Up.zero, .int .u64 0], []⟩).memory :=
 laidMet_of_run' 8 (by kernel_rfl) (by kernel_rfl)
theorem rd (os : Os) {H : Type} (enc : TypeId × Value → H) : ∃ pl, DataW.whole enc Tryz.prog ((laidWorld os).forCall (fun _ _ => 0) ⟨#[], #[srV Sr.zero, upV Up.zero, .int .u64 0], []⟩).memory Tryz.f9.params.toList Rows.lightAppliesSpec.vars false #[srV Sr.zero, upV Up.zero, .int .u64 0].toList 8 = some ([srD0 H, upD0 H, .lit (.int .u64 0)], [], pl) :=
 ⟨[], by kernel_rfl⟩
theorem lf (os : Os) (sd : os.Started) (H : Type) (enc : TypeId × Value → H) (F : Stop.Interp) :
  ReturnsInHanded {} Tryz.checked os 9 .any ((Rows.OpenSpec.upto Rows.lightAppliesSpec).preRow enc Tryz.prog Tryz.f9 Rows.lightAppliesUptoRow.domain false Rows.lightAppliesUptoRow.laid) (((Rows.OpenSpec.upto Rows.lightAppliesSpec).at F).post enc Tryz.prog Tryz.f9 false true false false) := by
 obtain ⟨pl, hx⟩ := rd os enc
 refine returnsInHanded_of_row (C := Tryz.checked) (s := Rows.OpenSpec.upto Rows.lightAppliesSpec) own sd (by kernel_rfl) Tryz.func9
  (witness_row_at (enc := enc) (C := Tryz.checked) false (laidWorld os) #[srV Sr.zero, upV Up.zero, .int .u64 0] rfl (by kernel_rfl) (by kernel_rfl) (by kernel_rfl)
   (OpenSpec.preRow_of_cond 8 hx (by kernel_rfl) (fun k hk => by cases hk; kernel_rfl) (by kernel_rfl) (lm os))) ?_
 intro W base args ds gs b9 hval hW _ hcond hreach hL _ _
 exact ct H enc W base args ds gs b9 hval hW (hcond _ rfl) hL
theorem and_mk {a b : Bool} (h : a = true) (k : b = true) : (a && b) = true := by rw [h, k]; rfl
set_option maxHeartbeats 40000000 in
theorem facts : joinedFacts Tryz.pinned.checked.prog 9 Tryz.f9 (Rows.OpenSpec.upto Rows.lightAppliesSpec).bare Rows.lightAppliesUptoRow = true := by
 unfold joinedFacts
 repeat' (with_reducible refine and_mk ?_ ?_)
 all_goals (as_aux_lemma => kernel_rfl)
theorem said : Rows.LightAppliesUptoSaid :=
 OpenClaim.holds_of_cond 9 Tryz.f9 rfl rfl rfl rfl rfl rfl rfl ⟨rfl, rfl, rfl, rfl, rfl⟩ rfl rfl rfl rfl rfl (by kernel_rfl) Tryz.func9 facts
  (of_decide_eq_true (by kernel_rfl)) (by unfold Func.isWrapper; first | (rw [if_pos (by decide +kernel)]; kernel_rfl) | (rw [if_neg (by decide +kernel)]; exact ⟨rfl, rfl⟩))
  (fun os sd H enc _ F => by rw [OpenClaim.pre_eq_preRow]; exact lf os sd H enc F)
theorem plain (f : FuncId) (fn : Func) (hf : Tryz.pinned.checked.prog.funcNamed "pharos/pharoslaw14.LightApplies" = some f) (hfn : Tryz.pinned.checked.prog.funcs[f]? = some fn) :
  false = Tryz.pinned.checked.prog.looks [] ∧ ∀ (j : Nat) t, fn.params[j]? = some t → Tryz.pinned.checked.prog.wantsStandIn t = false := by
 obtain rfl : f = 9 := Option.some.inj ((show Tryz.prog.funcNamed "pharos/pharoslaw14.LightApplies" = some 9 by kernel_rfl).symm.trans hf) |>.symm
 obtain rfl : fn = Tryz.f9 := (Option.some.inj (Tryz.func9.symm.trans hfn)).symm
 refine ⟨by kernel_rfl, fun j t ht => ?_⟩
 rw [Tryz.params9] at ht
 have hm : t ∈ [35, 33, 22] := by simpa using Array.mem_of_getElem? ht
 have hall : ∀ t ∈ [35, 33, 22], Tryz.prog.wantsStandIn t = false := by
  intro t h
  simp only [List.mem_cons, List.not_mem_nil, or_false] at h
  rcases h with rfl | rfl | rfl <;> kernel_rfl
 exact hall t hm
theorem proved : Rows.LightAppliesUptoCardSaid :=
 Claim7.holds_tied_plain_at .later [] _ _ _ _ said (fun _ h => by cases h) (by kernel_rfl) (fun _ h => by cases h) lightAppliesUpto_row_tie rfl ⟨rfl, rfl⟩ (by kernel_rfl) rfl plain (by kernel_rfl)
end lawLightApplies
end Go.Proofs.YtegaaccioppfjaaGreatDoor
