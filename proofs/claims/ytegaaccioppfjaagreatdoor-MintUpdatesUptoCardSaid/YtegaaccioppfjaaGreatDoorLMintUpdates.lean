/- The update of a plan, by the program and by the reference: any plan (the first twenty secrets of each committee), its bulk bounded. -/
import Derived.Test.YtegaaccioppfjaaGreatDoorFm25
import Derived.Test.YtegaaccioppfjaaGreatDoorFm27
import Derived.Test.YtegaaccioppfjaaGreatDoorFm23
import Derived.Test.YtegaaccioppfjaaGreatDoorFm11
import Derived.Test.YtegaaccioppfjaaGreatDoorFm16
import Derived.WalkKit
import Derived.ProofKit
import Derived.OpenShut
set_option linter.unusedSimpArgs false
set_option linter.unusedVariables false
namespace Go.Proofs.YtegaaccioppfjaaGreatDoor
open BigFrame Go.RowKit Go.Phx Go.Shelf
attribute [local go_sem] Oper.semAt_some
namespace lawMintUpdates

set_option maxRecDepth 100000 in
set_option maxHeartbeats 4000000 in
theorem walk (q : Pl) (w : World) (hq : PlAll w q) (hk : HasK w) :
    Calls Tryz.prog 16 #[plV q] w (Ret w (.bool true)) := by
  obtain ⟨p, hp⟩ : ∃ p, q.cut = p := ⟨_, rfl⟩
  have hi := hq.cut
  rw [hp] at hi
  obtain ⟨L1, hL1⟩ : ∃ L, q.now.take 20 = L := ⟨_, rfl⟩
  obtain ⟨L2, hL2⟩ : ∃ L, q.next.take 20 = L := ⟨_, rfl⟩
  have hl1 : L1.length = min q.now.length 20 := by rw [← hL1, List.length_take]; omega
  have hl2 : L2.length = min q.next.length 20 := by rw [← hL2, List.length_take]; omega
  have e1 : min (q.now.length : Int) 20 = (L1.length : Int) := by omega
  have e2 : min (q.next.length : Int) 20 = (L2.length : Int) := by omega
  have hy1 : L1.length ≤ q.now.length := by omega
  have hy2 : L2.length ≤ q.next.length := by omega
  have hc1 : q.now.length ≤ q.nowC := hq.2.2.2.1.2.1
  have hc2 : q.next.length ≤ q.nextC := hq.2.2.2.2.1.2.1
  have hy3 : L1.length ≤ q.nowC := by omega
  have hy4 : L2.length ≤ q.nextC := by omega
  have hp2 : (⟨q.seen, q.slot, q.fin, q.nowA, q.nowC, L1, q.nextA, q.nextC, L2, q.bits, q.acc, q.rcp⟩ : Pl) = p := by rw [← hp, ← hL1, ← hL2]; rfl
  replace hp2 := Lib.hid hp2
  clear hp hL1 hL2 hl1 hl2
  have n1 := Lib.hid (fun W (hB : Below w.heap.size w W) => shown15_calls W (hk.on hB))
  have n2 := Lib.hid (fun W (hB : Below w.heap.size w W) => mupdate_calls p W (hk.on hB) (hi.below hB))
  have n3 := Lib.hid (fun W (hB : Below w.heap.size w W) => rmupdate_calls p W (hi.below hB))
  have n6 := Lib.hid (fun x y W (hx : UpIn W x) (hy : UpIn W y) => rsameUp_calls x y W hx hy)
  obtain ⟨ue, hue⟩ : ∃ ue, updE p = ue := ⟨_, rfl⟩
  rw [hue] at n2 n3
  clear hue hk hi hq
  go_enter Tryz.func16, Tryz.ntmps16
  go_upto_region 1 with fail
  obtain ⟨W, hW⟩ : ∃ W, w.alloc (.cells (plA q) 72) = W := ⟨_, rfl⟩
  have K0 := Lib.hid (show Blk W w.heap.size 72 (plA q) by rw [← hW]; exact Blk.new0 w _ _)
  have HB : Below w.heap.size w W := by rw [← hW]; exact (Below.refl _ _).alloc (Nat.le_refl _) _
  rw [hW]
  clear hW
  obtain ⟨g0, hg⟩ : ∃ g, w.heap.size = g := ⟨_, rfl⟩
  have hgl0 : w.heap.size ≤ g0 := by omega
  rw [hg] at K0 ⊢
  clear hg
  (have k0 := Blk.cell K0.out; have f0 := Blk.free K0.out; have l0 := Blk.lt K0.out; have m0 := Nat.le_of_lt l0)
  go_wp2_with fail
  (refine (n1.out _ HB).mono ?_; rintro e w1 ⟨rfl, hN⟩; have N0 := Lib.hid (K0.out.below hN); have HBn : Below w.heap.size w w1 := Below.on hN HB; clear hN HB K0 k0 f0 l0 m0; have K0 := N0; clear N0; have HB := HBn; clear HBn; (have k0 := Blk.cell K0.out; have f0 := Blk.free K0.out; have l0 := Blk.lt K0.out; have m0 := Nat.le_of_lt l0))
  clear n1
  go_upto_region 3 with fail
  (obtain ⟨WN, hWN⟩ : ∃ W', World.setCell w1 ⟨g0, 3, none⟩ (.slice q.nowA L1.length q.nowC) = W' := ⟨_, rfl⟩; have N0 := Lib.hid (show Blk WN _ _ (plA ⟨q.seen, q.slot, q.fin, q.nowA, q.nowC, L1, q.nextA, q.nextC, q.next, q.bits, q.acc, q.rcp⟩) by rw [← hWN]; exact Blk.to (Blk.set_ K0.out 3 _) rfl); have HBn : Below w.heap.size w WN := (by rw [← hWN]; exact HB.setCell (by simp; omega) _); rw [hWN]; clear hWN HB K0 k0 f0 l0 m0; have K0 := N0; clear N0; have HB := HBn; clear HBn; (have k0 := Blk.cell K0.out; have f0 := Blk.free K0.out; have l0 := Blk.lt K0.out; have m0 := Nat.le_of_lt l0))
  obtain ⟨w2, rfl⟩ : ∃ w', w' = WN := ⟨_, rfl⟩
  go_upto_region 4 with fail
  (obtain ⟨WN, hWN⟩ : ∃ W', World.setCell w2 ⟨g0, 4, none⟩ (.slice q.nextA L2.length q.nextC) = W' := ⟨_, rfl⟩; have N0 := Lib.hid (show Blk WN _ _ (plA ⟨q.seen, q.slot, q.fin, q.nowA, q.nowC, L1, q.nextA, q.nextC, L2, q.bits, q.acc, q.rcp⟩) by rw [← hWN]; exact Blk.to (Blk.set_ K0.out 4 _) rfl); have HBn : Below w.heap.size w WN := (by rw [← hWN]; exact HB.setCell (by simp; omega) _); rw [hWN]; clear hWN HB K0 k0 f0 l0 m0; have K0 := N0; clear N0; have HB := HBn; clear HBn; (have k0 := Blk.cell K0.out; have f0 := Blk.free K0.out; have l0 := Blk.lt K0.out; have m0 := Nat.le_of_lt l0))
  obtain ⟨w3, rfl⟩ : ∃ w', w' = WN := ⟨_, rfl⟩
  have N0 := K0.out
  rw [hp2.out] at N0
  clear K0 k0 f0 l0 m0 hp2 e1 e2 hy1 hy2 hc1 hc2 hy3 hy4
  have K0 := Lib.hid N0
  clear N0
  (have k0 := Blk.cell K0.out; have f0 := Blk.free K0.out; have l0 := Blk.lt K0.out; have m0 := Nat.le_of_lt l0)
  go_wp2_with (first | (with_reducible refine wpList_load_run (o := ⟨_, .load 72 _, _, _, _, none⟩) (ldPl _ K0.out) rfl _ rfl rfl ?_) | (with_reducible refine wpList_load_run_g (o := ⟨_, .load 72 _, _, _, _, some _⟩) (ldPl _ K0.out) (by with_unfolding_all rfl) _ rfl rfl ?_))
  (refine (n2.out _ HB).mono ?_; rintro e w4 ⟨u, rfl, hu, hN⟩; have N0 := Lib.hid (K0.out.below hN); have HBn : Below w.heap.size w w4 := Below.on hN HB; clear hN HB K0 k0 f0 l0 m0; have K0 := N0; clear N0; have HB := HBn; clear HBn; (have k0 := Blk.cell K0.out; have f0 := Blk.free K0.out; have l0 := Blk.lt K0.out; have m0 := Nat.le_of_lt l0))
  have U1 := Lib.hid hu.1
  replace hu := Lib.hid hu
  clear n2
  (go_wp2_with (first | (with_reducible refine wpList_store_halt (o := ⟨_, .store 33 _ _, _, _, _, none⟩) (stUp (Up.zero) (Blk.new0 w4 33 (upA (Up.zero))) (u)) rfl _ _ rfl rfl rfl ?_)); generalize hWN : setRow _ _ _ _ = WN; have N0 := Lib.hid (show Blk WN _ _ _ by rw [← hWN]; exact Blk.rowOver (Nat.ne_of_lt K0.out.lt) (K0.out.alloc _)); have N1 := (show Blk WN (World.heap w4).size 33 (upA (u)) by rw [← hWN]; exact Blk.row (by simp)); have HBn : Below w.heap.size w WN := (by rw [← hWN]; exact Below.row (HB.alloc HB.size _) HB.size (by have := HB.size; simp; omega)); have HBx : Below (World.heap w4).size w4 WN := (by rw [← hWN]; exact Below.row ((Below.refl _ _).alloc (Nat.le_refl _) _) (Nat.le_refl _) (by simp)); have NU1 := Lib.hid (U1.out.below HBx); obtain ⟨g1, hgj⟩ : ∃ g, (World.heap w4).size = g := ⟨_, rfl⟩; have hg0_1 : _ < g1 := (by rw [← hgj]; exact l0); have hgl1 : w.heap.size ≤ g1 := (by rw [← hgj]; exact HB.size); rw [hgj] at N1 ⊢; replace N1 := Lib.hid N1; clear hWN hgj HB HBx K0 k0 f0 l0 m0 U1; have K0 := N0; clear N0; have K1 := N1; clear N1; have U1 := NU1; clear NU1; have HB := HBn; clear HBn; (have k0 := Blk.cell K0.out; have f0 := Blk.free K0.out; have l0 := Blk.lt K0.out; have m0 := Nat.le_of_lt l0; have k1 := Blk.cell K1.out; have f1 := Blk.free K1.out; have l1 := Blk.lt K1.out; have m1 := Nat.le_of_lt l1); unfold Halted)
  obtain ⟨w5, rfl⟩ : ∃ w', w' = WN := ⟨_, rfl⟩
  go_wp2_with (first | (with_reducible refine wpList_load_run (o := ⟨_, .load 72 _, _, _, _, none⟩) (ldPl _ K0.out) rfl _ rfl rfl ?_) | (with_reducible refine wpList_load_run_g (o := ⟨_, .load 72 _, _, _, _, some _⟩) (ldPl _ K0.out) (by with_unfolding_all rfl) _ rfl rfl ?_))
  (refine (n3.out _ HB).mono ?_; rintro e w6 ⟨u2, rfl, hu2, hN⟩; have N0 := Lib.hid (K0.out.below hN); have N1 := Lib.hid (K1.out.below hN); have NU1 := Lib.hid (U1.out.below hN); have HBn : Below w.heap.size w w6 := Below.on hN HB; clear hN HB K0 k0 f0 l0 m0 K1 k1 f1 l1 m1 U1; have K0 := N0; clear N0; have K1 := N1; clear N1; have U1 := NU1; clear NU1; have HB := HBn; clear HBn; (have k0 := Blk.cell K0.out; have f0 := Blk.free K0.out; have l0 := Blk.lt K0.out; have m0 := Nat.le_of_lt l0; have k1 := Blk.cell K1.out; have f1 := Blk.free K1.out; have l1 := Blk.lt K1.out; have m1 := Nat.le_of_lt l1))
  have U2 := Lib.hid hu2.1
  replace hu2 := Lib.hid hu2
  clear n3
  (go_wp2_with (first | (with_reducible refine wpList_store_halt (o := ⟨_, .store 33 _ _, _, _, _, none⟩) (stUp (Up.zero) (Blk.new0 w6 33 (upA (Up.zero))) (u2)) rfl _ _ rfl rfl rfl ?_)); generalize hWN : setRow _ _ _ _ = WN; have N0 := Lib.hid (show Blk WN _ _ _ by rw [← hWN]; exact Blk.rowOver (Nat.ne_of_lt K0.out.lt) (K0.out.alloc _)); have N1 := Lib.hid (show Blk WN _ _ _ by rw [← hWN]; exact Blk.rowOver (Nat.ne_of_lt K1.out.lt) (K1.out.alloc _)); have N2 := (show Blk WN (World.heap w6).size 33 (upA (u2)) by rw [← hWN]; exact Blk.row (by simp)); have HBn : Below w.heap.size w WN := (by rw [← hWN]; exact Below.row (HB.alloc HB.size _) HB.size (by have := HB.size; simp; omega)); have HBx : Below (World.heap w6).size w6 WN := (by rw [← hWN]; exact Below.row ((Below.refl _ _).alloc (Nat.le_refl _) _) (Nat.le_refl _) (by simp)); have NU1 := Lib.hid (U1.out.below HBx); have NU2 := Lib.hid (U2.out.below HBx); obtain ⟨g2, hgj⟩ : ∃ g, (World.heap w6).size = g := ⟨_, rfl⟩; have hg0_2 : _ < g2 := (by rw [← hgj]; exact l0); have hg1_2 : _ < g2 := (by rw [← hgj]; exact l1); have hgl2 : w.heap.size ≤ g2 := (by rw [← hgj]; exact HB.size); rw [hgj] at N2 ⊢; replace N2 := Lib.hid N2; clear hWN hgj HB HBx K0 k0 f0 l0 m0 K1 k1 f1 l1 m1 U1 U2; have K0 := N0; clear N0; have K1 := N1; clear N1; have K2 := N2; clear N2; have U1 := NU1; clear NU1; have U2 := NU2; clear NU2; have HB := HBn; clear HBn; (have k0 := Blk.cell K0.out; have f0 := Blk.free K0.out; have l0 := Blk.lt K0.out; have m0 := Nat.le_of_lt l0; have k1 := Blk.cell K1.out; have f1 := Blk.free K1.out; have l1 := Blk.lt K1.out; have m1 := Nat.le_of_lt l1; have k2 := Blk.cell K2.out; have f2 := Blk.free K2.out; have l2 := Blk.lt K2.out; have m2 := Nat.le_of_lt l2); unfold Halted)
  obtain ⟨w7, rfl⟩ : ∃ w', w' = WN := ⟨_, rfl⟩
  have n62 := n6.out u u2
  rw [sameUp_bare (hu.out.same hu2.out)] at n62
  replace n62 := Lib.hid n62
  clear n6 hu hu2
  go_wp2_with (first | (with_reducible refine wpList_load_run (o := ⟨_, .load 33 _, _, _, _, none⟩) (ldUp _ K1.out) rfl _ rfl rfl ?_) | (with_reducible refine wpList_load_run_g (o := ⟨_, .load 33 _, _, _, _, some _⟩) (ldUp _ K1.out) (by with_unfolding_all rfl) _ rfl rfl ?_) | (with_reducible refine wpList_load_run (o := ⟨_, .load 33 _, _, _, _, none⟩) (ldUp _ K2.out) rfl _ rfl rfl ?_) | (with_reducible refine wpList_load_run_g (o := ⟨_, .load 33 _, _, _, _, some _⟩) (ldUp _ K2.out) (by with_unfolding_all rfl) _ rfl rfl ?_))
  (refine (n62.out _ U1.out U2.out).mono ?_; rintro e w8 ⟨rfl, hN⟩; have N0 := Lib.hid (K0.out.below hN); have N1 := Lib.hid (K1.out.below hN); have N2 := Lib.hid (K2.out.below hN); have HBn : Below w.heap.size w w8 := Below.on hN HB; clear hN HB K0 k0 f0 l0 m0 K1 k1 f1 l1 m1 K2 k2 f2 l2 m2; have K0 := N0; clear N0; have K1 := N1; clear N1; have K2 := N2; clear N2; have HB := HBn; clear HBn; (have k0 := Blk.cell K0.out; have f0 := Blk.free K0.out; have l0 := Blk.lt K0.out; have m0 := Nat.le_of_lt l0; have k1 := Blk.cell K1.out; have f1 := Blk.free K1.out; have l1 := Blk.lt K1.out; have m1 := Nat.le_of_lt l1; have k2 := Blk.cell K2.out; have f2 := Blk.free K2.out; have l2 := Blk.lt K2.out; have m2 := Nat.le_of_lt l2))
  go_wp2_with fail
  go_ret
  exact ⟨by simp, HB⟩
open Go.ChangeShapes Go.WideShapes Go.ChangeAt Go.Joins

set_option maxRecDepth 100000 in
theorem contract (H : Type) (enc : TypeId × Value → H) (W : World) (base : Nat) (args : Array Value) (ds gs : List (DataW H)) (before : List MemPlace)
    (hval0 : ∀ (j : Nat) t v, Tryz.f16.params[j]? = some t → args[j]? = some v → Value.okWide Tryz.prog W .any base t v)
    (hW : DataW.Whole enc Tryz.prog Tryz.f16.params.toList Rows.mintUpdatesSpec.vars false W args.toList ds gs before) (hsmall : Rows.uptoSmall H (ds ++ gs) = true)
    (hL : laidMetH Tryz.prog Rows.mintUpdatesUptoRow.laid W) :
    Calls Tryz.prog 16 args W fun e W' => ∃ v, e = .returned v ∧ Rows.mintUpdatesSpec.post enc Tryz.prog Tryz.f16 false true false false W args v W' := by
  have hval := hval0
  have hW' := hW
  obtain ⟨p, q, hA0, hV, rfl, hfz, hnd⟩ := hW
  have hA : DataW.TrodAll enc Tryz.prog W 0 (fun _ => true) true Tryz.f16.params.toList args.toList ds p := hA0
  rw [Tryz.params16] at hA hval
  have hAk := hA
  obtain ⟨v0, vs0, d0, ds0, p0, q0, hargs, hds0, hps0, h0, r0⟩ := trodAll_cons hA
  obtain ⟨hv9, hds9, hps9⟩ := trodAll_nil r0
  subst hv9
  subst hds9
  subst hds0
  obtain rfl : args = #[v0] := by cases args; simp_all
  obtain ⟨rfl, rfl⟩ := trodVars_none hV
  obtain ⟨s0, rfl, hs0⟩ := openPl (hval 0 72 v0 rfl rfl) h0 (bulk_of hsmall (d := d0) (by simp))
  have hK := hasK_of hL
  refine (walk s0 W hs0 hK).mono fun e W' ⟨he, hg⟩ => ?_
  subst he
  have hlt : ∀ x ∈ p, x.block < W.heap.size := fun x hx => hW'.lt x (by simp [hx])
  exact ⟨_, rfl, post_below (pa := p) (pv := []) hW' (fun _ _ _ => (trodAll_cons_mk (shut_bool Tryz.underlying4 _) trodAll_mk0)) (fun sp hsp => by have := stays_all laidOut hg (by kernel_rfl) hAk hlt sp (fun x hx => hsp x (by simp [hx])); rw [← Tryz.params16] at this; exact this) (fun _ _ => rfl) rfl hg (ok_one (by kernel_rfl) rfl (okWide_bool_mk Tryz.underlying4 _))⟩
theorem laid_met (os : Os) : laidMet Tryz.prog Rows.mintUpdatesUptoRow.laid ((laidWorld os).forCall (fun _ _ => 0) ⟨#[], #[plV Pl.zero], []⟩).memory :=
  laidMet_of_run' 8 (by kernel_rfl) (by kernel_rfl)
theorem reads (os : Os) {H : Type} (enc : TypeId × Value → H) : ∃ places, DataW.whole enc Tryz.prog ((laidWorld os).forCall (fun _ _ => 0) ⟨#[], #[plV Pl.zero], []⟩).memory Tryz.f16.params.toList Rows.mintUpdatesSpec.vars false #[plV Pl.zero].toList 8 = some ([plD0 H], [], places) :=
  ⟨[], by kernel_rfl⟩
set_option maxRecDepth 100000 in
theorem lifted (os : Os) (started : os.Started) (H : Type) (enc : TypeId × Value → H) (F : Stop.Interp) :
    ReturnsInHanded {} Tryz.checked os 16 .any ((Rows.OpenSpec.upto Rows.mintUpdatesSpec).preRow enc Tryz.prog Tryz.f16 Rows.mintUpdatesUptoRow.domain false Rows.mintUpdatesUptoRow.laid) (((Rows.OpenSpec.upto Rows.mintUpdatesSpec).at F).post enc Tryz.prog Tryz.f16 false true false false) := by
  obtain ⟨places, hx⟩ := reads os enc
  refine returnsInHanded_of_row (C := Tryz.checked) (s := Rows.OpenSpec.upto Rows.mintUpdatesSpec) own started (by kernel_rfl) Tryz.func16
    (witness_row_at (enc := enc) (C := Tryz.checked) false (laidWorld os) #[plV Pl.zero] rfl (by kernel_rfl) (by kernel_rfl) (by kernel_rfl)
      (OpenSpec.preRow_of_cond 8 hx (by kernel_rfl) (fun k hk => by cases hk; kernel_rfl) (by kernel_rfl) (laid_met os))) ?_
  intro W base args ds gs before hval hW _ hcond hreach hL _ _
  exact contract H enc W base args ds gs before hval hW (hcond _ rfl) hL
theorem and_mk {a b : Bool} (h : a = true) (k : b = true) : (a && b) = true := by rw [h, k]; rfl
set_option maxHeartbeats 40000000 in
theorem facts : joinedFacts Tryz.pinned.checked.prog 16 Tryz.f16 (Rows.OpenSpec.upto Rows.mintUpdatesSpec).bare Rows.mintUpdatesUptoRow = true := by
  unfold joinedFacts
  repeat' (with_reducible refine and_mk ?_ ?_)
  all_goals (as_aux_lemma => kernel_rfl)
theorem said : Rows.MintUpdatesUptoSaid :=
  OpenClaim.holds_of_cond 16 Tryz.f16 rfl rfl rfl rfl rfl rfl rfl ⟨rfl, rfl, rfl, rfl, rfl⟩ rfl rfl rfl rfl rfl (by kernel_rfl) Tryz.func16 facts
    (of_decide_eq_true (by kernel_rfl)) (by unfold Func.isWrapper; first | (rw [if_pos (by decide +kernel)]; kernel_rfl) | (rw [if_neg (by decide +kernel)]; exact ⟨rfl, rfl⟩))
    (fun os started H enc _ F => by rw [OpenClaim.pre_eq_preRow]; exact lifted os started H enc F)
theorem plain (f : FuncId) (fn : Func) (hf : Tryz.pinned.checked.prog.funcNamed "pharos/pharoslaw15.MintUpdates" = some f) (hfn : Tryz.pinned.checked.prog.funcs[f]? = some fn) :
    false = Tryz.pinned.checked.prog.looks [] ∧ ∀ (j : Nat) t, fn.params[j]? = some t → Tryz.pinned.checked.prog.wantsStandIn t = false := by
  obtain rfl : f = 16 := Option.some.inj ((show Tryz.prog.funcNamed "pharos/pharoslaw15.MintUpdates" = some 16 by kernel_rfl).symm.trans hf) |>.symm
  obtain rfl : fn = Tryz.f16 := (Option.some.inj (Tryz.func16.symm.trans hfn)).symm
  refine ⟨by kernel_rfl, fun j t ht => ?_⟩
  rw [Tryz.params16] at ht
  have hm : t ∈ [72] := by simpa using Array.mem_of_getElem? ht
  have hall : ∀ t ∈ [72], Tryz.prog.wantsStandIn t = false := by
    intro t h
    simp only [List.mem_cons, List.not_mem_nil, or_false] at h
    subst h; kernel_rfl
  exact hall t hm

/-- THE STATEMENT'S CARD -/
theorem proved : Rows.MintUpdatesUptoCardSaid :=
  Claim7.holds_tied_plain_at .later [] _ _ _ _ said (fun _ h => by cases h) (by kernel_rfl) (fun _ h => by cases h) mintUpdatesUpto_row_tie rfl ⟨rfl, rfl⟩ (by kernel_rfl) rfl plain (by kernel_rfl)

end lawMintUpdates
end Go.Proofs.YtegaaccioppfjaaGreatDoor
