/- Plain laws and walks, each by its own conditions. -/
import Derived.Test.YtegaaccioppfjaaGreatDoorFm8
import Derived.Test.YtegaaccioppfjaaGreatDoorFm26
import Derived.Test.YtegaaccioppfjaaGreatDoorFm10
import Derived.Test.YtegaaccioppfjaaGreatDoorFm18
import Derived.Test.YtegaaccioppfjaaGreatDoorFm23
import Derived.Test.YtegaaccioppfjaaGreatDoorFm17
import Derived.Test.YtegaaccioppfjaaGreatDoorFm24
set_option linter.unusedSimpArgs false
set_option linter.unusedVariables false
set_option maxRecDepth 100000
set_option maxHeartbeats 16000000
section
namespace Go.Proofs.YtegaaccioppfjaaGreatDoor
open BigFrame Go.RowKit Go.Phx Go.Shelf
attribute [local go_sem] Oper.semAt_some

theorem mupdate_calls (p : Pl) (w : World) (hk : HasK w) (hp : PlIn w p) :
  Calls Tryz.prog 47 #[plV p] w
  (fun e w' => ∃ u, e = .returned (.tuple #[upV u, .int .i64 (updE p)]) ∧ UpOf w' p u ∧ Below w.heap.size w w') := by
 have n1 := Lib.hid (fun W (hB : Below w.heap.size w W) => mcomm_calls p.nowA p.nowC p.now W (hp.2.2.2.1.below hB))
 have n2 := Lib.hid (fun cm W (hB : Below w.heap.size w W) (h : CmIn W cm) => croot_calls cm W (hk.on hB) h)
 have n4 := Lib.hid (fun n (hn : n < 18446744073709551616) st W (hB : Below w.heap.size w W) => mlight_calls n p.acc p.rcp st hn W (hk.on hB))
 have n5 := Lib.hid (fun lt W (hB : Below w.heap.size w W) (h : LtIn W lt) => hroot_calls lt.b W (hk.on hB) h.1)
 have n6 := Lib.hid (fun W (hB : Below w.heap.size w W) => mcomm_calls p.nextA p.nextC p.next W (hp.2.2.2.2.1.below hB))
 have n7 := Lib.hid (fun lt (h16 : p.now.length = 16) W (hB : Below w.heap.size w W) (h : LtIn W lt) => msig_calls p lt.b W (hk.on hB) (hp.below hB) h.1 h16)
 have hE0 : ∀ b, goodU p = b → updE p = if b then 0 else 2 := fun b h => by unfold updE; rw [h]
 have hcE : commE p.now = if goodS p.now then 0 else 2 := rfl
 have hxE : commE p.next = if goodS p.next then 0 else 2 := rfl
 have hseen := Lib.hid hp.1
 have hfin := Lib.hid hp.2.2.1
 have hbits := Lib.hid hp.2.2.2.2.2.1
 have hslot := Lib.hid hp.2.1
 have hx20 := Lib.hid hp.2.2.2.2.1.2.1
 have K0 := Lib.hid ((Blk.new0 w 72 (plA p)).alloc (.cells (upA Up.zero) 33))
 have K1 := Lib.hid (Blk.new1 w (.cells (plA p) 72) 33 (upA Up.zero))
 have HB : Below w.heap.size w ((w.alloc (.cells (plA p) 72)).alloc (.cells (upA Up.zero) 33)) := bel
 obtain ⟨ce, hce⟩ : ∃ ce, commE p.now = ce := ⟨_, rfl⟩
 rw [hce] at n1 hcE
 obtain ⟨xe, hxe⟩ : ∃ xe, commE p.next = xe := ⟨_, rfl⟩
 rw [hxe] at n6 hxE
 replace hk := Lib.hid hk
 replace hp := Lib.hid hp
 replace hE0 := Lib.hid hE0
 replace hcE := Lib.hid hcE
 replace hxE := Lib.hid hxE
 clear hce hxe
 go_enter Tryz.func47, Tryz.ntmps47
 go_upto_region 1 with fail
 obtain ⟨W, hW⟩ : ∃ W, ((w.alloc (.cells (plA p) 72)).alloc (.cells (upA Up.zero) 33)) = W := ⟨_, rfl⟩
 rw [hW] at K0 K1 HB ⊢
 clear hW
 obtain ⟨g, hg⟩ : ∃ g, w.heap.size = g := ⟨_, rfl⟩
 have hgl : w.heap.size ≤ g := by omega
 rw [hg] at K0 K1 ⊢
 clear hg
 (obtain ⟨k0, f0, l0, m0⟩ := rl_ K0; obtain ⟨k1, f1, l1, m1⟩ := rl_ K1)
 go_wp2_with fail
 (refine (n1.out W HB).mono ?_; rintro e w1 ⟨cm, rfl, hcm, hcn, hN⟩; replace K0 := hn_ K0 hN; replace K1 := hn_ K1 hN; replace HB : Below w.heap.size w w1 := Below.on hN HB; clear hN k0 f0 l0 m0 k1 f1 l1 m1; obtain ⟨k0, f0, l0, m0⟩ := rl_ K0; obtain ⟨k1, f1, l1, m1⟩ := rl_ K1)
 have C1 := Lib.hid hcm.1
 have hc2 := Lib.hid hcm
 clear hcm hcn n1
 (go_wp2_with (first | (with_reducible refine wsh (stCm (Cm.zero) (Blk.new0 w1 31 (cmA (Cm.zero))) (cm)) rfl rfl ?_)); generalize hWN : setRow _ _ _ _ = WN; replace K0 := Lib.hid (show Blk WN _ _ _ by rw [← hWN]; exact Blk.rowOver (Nat.ne_of_lt K0.out.lt) (K0.out.alloc _)); replace K1 := Lib.hid (show Blk WN _ _ _ by rw [← hWN]; exact Blk.rowOver (Nat.ne_of_lt K1.out.lt) (K1.out.alloc _)); replace K2 := (show Blk WN (World.heap w1).size 31 (cmA (cm)) by rw [← hWN]; exact Blk.row (by simp)); have HBn : Below w.heap.size w WN := (by rw [← hWN]; exact Below.row (HB.alloc HB.size _) HB.size (by have := HB.size; simp; omega)); have HBx : Below (World.heap w1).size w1 WN := (by rw [← hWN]; exact Below.row ((Below.refl _ _).alloc (Nat.le_refl _) _) (Nat.le_refl _) (by simp)); have NC1 := Lib.hid (C1.out.below HBx); obtain ⟨g2, hgj⟩ : ∃ g, (World.heap w1).size = g := ⟨_, rfl⟩; have hg0_2 : _ < g2 := (by rw [← hgj]; exact l0); have hg1_2 : _ < g2 := (by rw [← hgj]; exact l1); have hgl2 : w.heap.size ≤ g2 := (by rw [← hgj]; exact HB.size); rw [hgj] at K2 ⊢; replace K2 := Lib.hid K2; clear hWN hgj HB HBx k0 f0 l0 m0 k1 f1 l1 m1 C1; have C1 := NC1; clear NC1; have HB := HBn; clear HBn; obtain ⟨k0, f0, l0, m0⟩ := rl_ K0; obtain ⟨k1, f1, l1, m1⟩ := rl_ K1; obtain ⟨k2, f2, l2, m2⟩ := rl_ K2; unfold Halted)
 cases hgs : goodS p.now with
 | false =>
  have hce0 : ce = 2 := by rw [hcE.out, hgs]; rfl
  subst hce0
  have hgu := Lib.hid (show goodU p = false by unfold goodU; rw [hgs]; rfl)
  have hE := Lib.hid (show updE p = 2 from hE0.out _ hgu.out)
  clear hE0 hcE hc2 hgs C1 n2 n4 n5 n6 n7 hxE
  (go_wp2_with (first | (with_reducible refine wsh (stUp _ K1.out (Up.zero)) rfl rfl ?_)); generalize hWN : setRow _ _ _ _ = WN; replace K1 := Lib.hid (show Blk WN _ _ _ by rw [← hWN]; exact Blk.row K1.out.lt); replace K0 := Lib.hid (show Blk WN _ _ _ by rw [← hWN]; exact Blk.rowOver (by omega) K0.out); replace K2 := Lib.hid (show Blk WN _ _ _ by rw [← hWN]; exact Blk.rowOver (by omega) K2.out); replace HB : Below w.heap.size w WN := (by rw [← hWN]; exact Below.row HB (by omega) HB.size); clear hWN k1 f1 l1 m1 k0 f0 l0 m0 k2 f2 l2 m2; obtain ⟨k1, f1, l1, m1⟩ := rl_ K1; obtain ⟨k0, f0, l0, m0⟩ := rl_ K0; obtain ⟨k2, f2, l2, m2⟩ := rl_ K2; unfold Halted)
  go_wp2_with fail
  exact bodyPost_ret (results_cell2 rfl rfl (ldUp _ K1.out)) rfl ⟨Up.zero, by rw [hE.out]; rfl, ⟨UpIn.zero _, fun h => (by rw [hgu.out] at h; cases h), fun _ => rfl⟩, HB⟩
 | true =>
  have hce0 : ce = 0 := by rw [hcE.out, hgs]; rfl
  subst hce0
  have hcr := Lib.hid (cmRoot_bare (show cm.bare = (cmS p.now).bare from hc2.out.bare hgs))
  have h16 : p.now.length = 16 := by
   unfold goodS at hgs
   simp only [Bool.and_eq_true, decide_eq_true_eq] at hgs
   exact hgs.2
  replace h16 := Lib.hid h16
  replace hgs := Lib.hid hgs
  clear hcE hc2
  obtain ⟨w2, rfl⟩ : ∃ w', w' = WN := ⟨_, rfl⟩
  (go_wp2_with (first | (with_reducible refine wpList_build_run (o := ⟨_, .build 33 _, _, _, _, none⟩) (build_up p.bits p.slot _) rfl _ rfl (by with_unfolding_all rfl) ?_) | (with_reducible refine wsh (stUp (Up.zero) (Blk.new0 w2 33 (upA (Up.zero))) (⟨Lt.zero, Cm.zero, Rw.zero, Lt.zero, Rw.zero, p.bits, [], p.slot⟩)) rfl rfl ?_)); generalize hWN : setRow _ _ _ _ = WN; replace K0 := Lib.hid (show Blk WN _ _ _ by rw [← hWN]; exact Blk.rowOver (Nat.ne_of_lt K0.out.lt) (K0.out.alloc _)); replace K1 := Lib.hid (show Blk WN _ _ _ by rw [← hWN]; exact Blk.rowOver (Nat.ne_of_lt K1.out.lt) (K1.out.alloc _)); replace K2 := Lib.hid (show Blk WN _ _ _ by rw [← hWN]; exact Blk.rowOver (Nat.ne_of_lt K2.out.lt) (K2.out.alloc _)); replace K3 := (show Blk WN (World.heap w2).size 33 (upA (⟨Lt.zero, Cm.zero, Rw.zero, Lt.zero, Rw.zero, p.bits, [], p.slot⟩)) by rw [← hWN]; exact Blk.row (by simp)); have HBn : Below w.heap.size w WN := (by rw [← hWN]; exact Below.row (HB.alloc HB.size _) HB.size (by have := HB.size; simp; omega)); have HBx : Below (World.heap w2).size w2 WN := (by rw [← hWN]; exact Below.row ((Below.refl _ _).alloc (Nat.le_refl _) _) (Nat.le_refl _) (by simp)); have NC1 := Lib.hid (C1.out.below HBx); obtain ⟨g3, hgj⟩ : ∃ g, (World.heap w2).size = g := ⟨_, rfl⟩; have hg0_3 : _ < g3 := (by rw [← hgj]; exact l0); have hg1_3 : _ < g3 := (by rw [← hgj]; exact l1); have hg2_3 : _ < g3 := (by rw [← hgj]; exact l2); have hgl3 : w.heap.size ≤ g3 := (by rw [← hgj]; exact HB.size); rw [hgj] at K3 ⊢; replace K3 := Lib.hid K3; clear hWN hgj HB HBx k0 f0 l0 m0 k1 f1 l1 m1 k2 f2 l2 m2 C1; have C1 := NC1; clear NC1; have HB := HBn; clear HBn; obtain ⟨k0, f0, l0, m0⟩ := rl_ K0; obtain ⟨k1, f1, l1, m1⟩ := rl_ K1; obtain ⟨k2, f2, l2, m2⟩ := rl_ K2; obtain ⟨k3, f3, l3, m3⟩ := rl_ K3; unfold Halted)
  go_wp2_with fail
  (refine (mnought_calls _).mono ?_; rintro e w3 ⟨rfl, hN⟩; replace K0 := hn_ K0 hN; replace K1 := hn_ K1 hN; replace K2 := hn_ K2 hN; replace K3 := hn_ K3 hN; have NC1 := Lib.hid (C1.out.below hN); replace HB : Below w.heap.size w w3 := Below.on hN HB; clear hN k0 f0 l0 m0 k1 f1 l1 m1 k2 f2 l2 m2 k3 f3 l3 m3 C1; have C1 := NC1; clear NC1; obtain ⟨k0, f0, l0, m0⟩ := rl_ K0; obtain ⟨k1, f1, l1, m1⟩ := rl_ K1; obtain ⟨k2, f2, l2, m2⟩ := rl_ K2; obtain ⟨k3, f3, l3, m3⟩ := rl_ K3)
  go_upto_region 7 with fail
  obtain ⟨W4, hW4⟩ : ∃ W', w3.alloc (.cells (lvA zero32 zero32 zero32) 9) = W' := ⟨_, rfl⟩
  obtain ⟨g4, hg4⟩ : ∃ g4, w3.heap.size = g4 := ⟨_, rfl⟩
  have N0 := Lib.hid (show Blk W4 _ _ _ by rw [← hW4]; exact K0.out.alloc _)
  have N1 := Lib.hid (show Blk W4 _ _ _ by rw [← hW4]; exact K1.out.alloc _)
  have N2 := Lib.hid (show Blk W4 _ _ _ by rw [← hW4]; exact K2.out.alloc _)
  have N3 := Lib.hid (show Blk W4 _ _ _ by rw [← hW4]; exact K3.out.alloc _)
  have N4 := Lib.hid (show Blk W4 g4 9 (lvA zero32 zero32 zero32) by rw [← hW4, ← hg4]; exact Blk.new0 _ _ _)
  have NC1 := Lib.hid (show CmIn W4 cm by rw [← hW4]; exact C1.out.below ((Below.refl _ _).alloc (Nat.le_refl _) _))
  have HBn : Below w.heap.size w W4 := by rw [← hW4]; exact HB.alloc HB.size _
  have hg34 : g3 < g4 := by omega
  have hgl4 : w.heap.size ≤ g4 := by omega
  rw [hW4, hg4]
  clear hW4 hg4 k0 f0 l0 m0 K0 k1 f1 l1 m1 K1 k2 f2 l2 m2 K2 k3 f3 l3 m3 K3 HB C1
  have K0 := N0; have K1 := N1; have K2 := N2; have K3 := N3; have K4 := N4; have C1 := NC1; have HB := HBn
  clear N0 N1 N2 N3 N4 NC1 HBn
  (obtain ⟨k0, f0, l0, m0⟩ := rl_ K0; obtain ⟨k1, f1, l1, m1⟩ := rl_ K1; obtain ⟨k2, f2, l2, m2⟩ := rl_ K2; obtain ⟨k3, f3, l3, m3⟩ := rl_ K3; obtain ⟨k4, f4, l4, m4⟩ := rl_ K4)
  obtain ⟨cr, hcr2⟩ : ∃ cr, cmRoot cm = cr := ⟨_, rfl⟩
  obtain ⟨cq, hcq⟩ : ∃ cq, cmE cm = cq := ⟨_, rfl⟩
  have n22 := n2.out cm
  rw [hcr2, hcq] at n22
  replace n22 := Lib.hid n22
  replace hcr := Lib.hid (show cmRoot (cmS p.now) = cr by rw [← hcr.out, hcr2])
  clear hcr2 hcq
  go_wp2_with (first | (with_reducible refine wlr (ldCm _ K2.out) rfl ?_) | (with_reducible refine wlg (ldCm _ K2.out) (by with_unfolding_all rfl) rfl ?_))
  (refine (n22.out _ HB C1.out).mono ?_; rintro e w5 ⟨rfl, hN⟩; replace K0 := hn_ K0 hN; replace K1 := hn_ K1 hN; replace K3 := hn_ K3 hN; replace K4 := hn_ K4 hN; replace HB : Below w.heap.size w w5 := Below.on hN HB; clear hN k0 f0 l0 m0 k1 f1 l1 m1 k3 f3 l3 m3 k4 f4 l4 m4; obtain ⟨k0, f0, l0, m0⟩ := rl_ K0; obtain ⟨k1, f1, l1, m1⟩ := rl_ K1; obtain ⟨k3, f3, l3, m3⟩ := rl_ K3; obtain ⟨k4, f4, l4, m4⟩ := rl_ K4)
  go_upto_region 8 with fail
  (obtain ⟨WN, hWN⟩ : ∃ W', World.setCell w5 ⟨g4, 4, none⟩ (.string (bs cr)) = W' := ⟨_, rfl⟩; replace K4 := Lib.hid (show Blk WN _ _ (lvA zero32 cr zero32) by rw [← hWN]; exact Blk.to (Blk.set_ K4.out 4 _) rfl); replace K0 := Lib.hid (show Blk WN _ _ _ by rw [← hWN]; exact K0.out.far (by simp; omega) _); replace K1 := Lib.hid (show Blk WN _ _ _ by rw [← hWN]; exact K1.out.far (by simp; omega) _); replace K3 := Lib.hid (show Blk WN _ _ _ by rw [← hWN]; exact K3.out.far (by simp; omega) _); replace HB : Below w.heap.size w WN := (by rw [← hWN]; exact HB.setCell (by simp; omega) _); rw [hWN]; clear hWN k4 f4 l4 m4 k0 f0 l0 m0 k1 f1 l1 m1 k3 f3 l3 m3; obtain ⟨k4, f4, l4, m4⟩ := rl_ K4; obtain ⟨k0, f0, l0, m0⟩ := rl_ K0; obtain ⟨k1, f1, l1, m1⟩ := rl_ K1; obtain ⟨k3, f3, l3, m3⟩ := rl_ K3)
  obtain ⟨w6, rfl⟩ : ∃ w', w' = WN := ⟨_, rfl⟩
  clear n22 K2 k2 f2 l2 m2 C1
  have hM : MuW w g g3 g4 p ⟨Lt.zero, Cm.zero, Rw.zero, Lt.zero, Rw.zero, p.bits, [], p.slot⟩ zero32 cr zero32 w6 := ⟨K0.out, K1.out, K3.out, K4.out, ⟨LtIn.zero _, CmIn.zero _, RwIn.zero _, LtIn.zero _, RwIn.zero _, hbits.out, Nat.zero_le _, hslot.out⟩, ⟨RwNew.zero _, RwNew.zero _, RwNew.zero _, RwNew.zero _, RwNew.zero _⟩, HB⟩
  -- the finalized header
  obtain ⟨fe, hfe⟩ : ∃ fe, (if okC p then (0 : Int) else 2) = fe := ⟨_, rfl⟩
  replace hfe := Lib.hid hfe
  obtain ⟨bf, hbf⟩ : ∃ b, ((p.fin : Int) != 0) = b := ⟨_, rfl⟩
  have hbf2 : ((p.fin : Int) == 0) = !bf := by rw [← hbf, bne, Bool.not_not]
  have hbf3 := Lib.hid (show bf = !decide (p.fin = 0) by rw [← hbf, Bool.eq_iff_iff]; simp)
  go_upto_if 45 with fail
  clear hbf hbf2
  go_cut [5] (fun s5 wx => ∃ lt l3, s5 = .int .i64 fe ∧ (okC p = true → lt.bare = finS p ∧ l3 = l3S p) ∧ MuW w g g3 g4 p ⟨Lt.zero, Cm.zero, Rw.zero, lt, Rw.zero, p.bits, [], p.slot⟩ l3 cr zero32 wx)
  case first =>
   as_aux_lemma =>
    clear hM n6 hxE hx20 n7
    cases bf with
    | false =>
     have hf : p.fin = 0 := by simpa using hbf3.out
     have hok := Lib.hid (show okC p = true by unfold okC; rw [decide_eq_true hf]; rfl)
     have hfs := Lib.hid (show finS p = Lt.zero by unfold finS; rw [if_pos hf])
     have hls := Lib.hid (show l3S p = zero32 by unfold l3S; rw [if_pos hf])
     go_wp2_with fail
     go_meet
     case rel => exact ⟨Lt.zero, zero32, by rw [← hfe.out, hok.out]; rfl, fun _ => ⟨hfs.out.symm, hls.out.symm⟩, K0.out, K1.out, K3.out, K4.out, ⟨LtIn.zero _, CmIn.zero _, RwIn.zero _, LtIn.zero _, RwIn.zero _, hbits.out, Nat.zero_le _, hslot.out⟩, ⟨RwNew.zero _, RwNew.zero _, RwNew.zero _, RwNew.zero _, RwNew.zero _⟩, HB⟩
    | true =>
     have hf : ¬ p.fin = 0 := by simpa using hbf3.out
     have hok := Lib.hid (show okC p = lightOk p.acc p.rcp zero32 by unfold okC accOk; rw [decide_eq_false hf, Bool.false_or, lightOk_st z32_len])
     have hfs := Lib.hid (show finS p = ltS p.fin p.acc p.rcp zero32 by unfold finS; rw [if_neg hf])
     have hls := Lib.hid (show l3S p = hdRoot (hdS p.fin p.acc p.rcp zero32) by unfold l3S; rw [if_neg hf])
     have hle : lightE p.acc p.rcp zero32 = if okC p then 0 else 2 := by rw [hok.out]; rfl
     have n42 := n4.out p.fin hfin.out zero32
     rw [hle] at n42
     rw [hfe.out] at n42
     replace n42 := Lib.hid n42
     have hz6 : g4 + 1 ≤ w6.heap.size := by omega
     clear hle n4 hf
     go_wp2_with fail
     (refine (n42.out _ HB).mono ?_; rintro e w7 ⟨lt, rfl, hlt, hln, hN⟩; replace K0 := hn_ K0 hN; replace K1 := hn_ K1 hN; replace K3 := hn_ K3 hN; replace K4 := hn_ K4 hN; replace HB : Below w.heap.size w w7 := Below.on hN HB; clear hN k0 f0 l0 m0 k1 f1 l1 m1 k3 f3 l3 m3 k4 f4 l4 m4; obtain ⟨k0, f0, l0, m0⟩ := rl_ K0; obtain ⟨k1, f1, l1, m1⟩ := rl_ K1; obtain ⟨k3, f3, l3, m3⟩ := rl_ K3; obtain ⟨k4, f4, l4, m4⟩ := rl_ K4)
     have L1 := Lib.hid hlt.1
     have L1n := Lib.hid (RwNew.mono hln hz6)
     have hl2 := Lib.hid hlt
     clear hlt hln n42 hz6
     (go_wp2_with (first | (with_reducible refine wsh (stUp_fin _ K3.out (lt)) rfl rfl ?_)); generalize hWN : setRow _ _ _ _ = WN; replace K3 := Lib.hid (show Blk WN _ _ _ by rw [← hWN]; exact Blk.row K3.out.lt); replace K0 := Lib.hid (show Blk WN _ _ _ by rw [← hWN]; exact Blk.rowOver (by omega) K0.out); replace K1 := Lib.hid (show Blk WN _ _ _ by rw [← hWN]; exact Blk.rowOver (by omega) K1.out); replace K4 := Lib.hid (show Blk WN _ _ _ by rw [← hWN]; exact Blk.rowOver (by omega) K4.out); have NL1 := Lib.hid (show LtIn WN _ by rw [← hWN]; exact L1.out.kp L1n.out (Kp.row (by omega))); replace HB : Below w.heap.size w WN := (by rw [← hWN]; exact Below.row HB (by omega) HB.size); clear hWN k3 f3 l3 m3 k0 f0 l0 m0 k1 f1 l1 m1 k4 f4 l4 m4 L1; have L1 := NL1; clear NL1; obtain ⟨k3, f3, l3, m3⟩ := rl_ K3; obtain ⟨k0, f0, l0, m0⟩ := rl_ K0; obtain ⟨k1, f1, l1, m1⟩ := rl_ K1; obtain ⟨k4, f4, l4, m4⟩ := rl_ K4; unfold Halted)
     obtain ⟨w8, rfl⟩ : ∃ w', w' = WN := ⟨_, rfl⟩
     obtain ⟨hr, hhr⟩ : ∃ hr, hdRoot lt.b = hr := ⟨_, rfl⟩
     obtain ⟨hq, hhq⟩ : ∃ hq, hdE lt.b = hq := ⟨_, rfl⟩
     have n52 := n5.out lt
     rw [hhr, hhq] at n52
     replace n52 := Lib.hid n52
     replace hhr := Lib.hid hhr
     clear hhq
     go_wp2_with (with_reducible refine wlr (ldUp_fin_b _ K3.out) rfl ?_)
     (refine (n52.out _ HB L1.out).mono ?_; rintro e w9 ⟨rfl, hN⟩; replace K0 := hn_ K0 hN; replace K1 := hn_ K1 hN; replace K3 := hn_ K3 hN; replace K4 := hn_ K4 hN; have NL1 := Lib.hid (L1.out.below hN); replace HB : Below w.heap.size w w9 := Below.on hN HB; clear hN k0 f0 l0 m0 k1 f1 l1 m1 k3 f3 l3 m3 k4 f4 l4 m4 L1; have L1 := NL1; clear NL1; obtain ⟨k0, f0, l0, m0⟩ := rl_ K0; obtain ⟨k1, f1, l1, m1⟩ := rl_ K1; obtain ⟨k3, f3, l3, m3⟩ := rl_ K3; obtain ⟨k4, f4, l4, m4⟩ := rl_ K4)
     go_wp2_with fail
     (obtain ⟨WN, hWN⟩ : ∃ W', World.setCell w9 ⟨g4, 3, none⟩ (.string (bs hr)) = W' := ⟨_, rfl⟩; replace K4 := Lib.hid (show Blk WN _ _ (lvA hr cr zero32) by rw [← hWN]; exact Blk.to (Blk.set_ K4.out 3 _) rfl); replace K0 := Lib.hid (show Blk WN _ _ _ by rw [← hWN]; exact K0.out.far (by simp; omega) _); replace K1 := Lib.hid (show Blk WN _ _ _ by rw [← hWN]; exact K1.out.far (by simp; omega) _); replace K3 := Lib.hid (show Blk WN _ _ _ by rw [← hWN]; exact K3.out.far (by simp; omega) _); have NL1 := Lib.hid (show LtIn WN _ by rw [← hWN]; exact L1.out.kp L1n.out (Kp.cell (by omega))); replace HB : Below w.heap.size w WN := (by rw [← hWN]; exact HB.setCell (by simp; omega) _); rw [hWN]; clear hWN k4 f4 l4 m4 k0 f0 l0 m0 k1 f1 l1 m1 k3 f3 l3 m3 L1; have L1 := NL1; clear NL1; obtain ⟨k4, f4, l4, m4⟩ := rl_ K4; obtain ⟨k0, f0, l0, m0⟩ := rl_ K0; obtain ⟨k1, f1, l1, m1⟩ := rl_ K1; obtain ⟨k3, f3, l3, m3⟩ := rl_ K3)
     go_wp2_with fail
     go_meet
     case rel =>
      exact ⟨lt, hr, rfl, fun h => ⟨by rw [hfs.out]; exact hl2.out.bare (by rw [← hok.out]; exact h), by rw [hls.out, ← hhr.out, (hl2.out.2.1 (by rw [← hok.out]; exact h)).1]⟩, K0.out, K1.out, K3.out, K4.out, ⟨LtIn.zero _, CmIn.zero _, RwIn.zero _, L1.out, RwIn.zero _, hbits.out, Nat.zero_le _, hslot.out⟩, ⟨RwNew.zero _, RwNew.zero _, RwNew.zero _, L1n.out, RwNew.zero _⟩, HB⟩
  case rest =>
   clear hM k0 f0 l0 m0 k1 f1 l1 m1 k3 f3 l3 m3 k4 f4 l4 m4 K0 K1 K3 K4 HB
   obtain ⟨lt, v3, rfl, hlt, hW⟩ := hcut
   replace hlt := Lib.hid hlt
   cases hkc : okC p with
   | false =>
    have hfe0 : fe = 2 := by rw [← hfe.out, hkc]; rfl
    subst hfe0
    have hgu := Lib.hid (show goodU p = false by
     unfold goodU
     have h9 : accOk p = false := by
      unfold okC at hkc
      rw [Bool.or_eq_false_iff] at hkc
      exact hkc.2
     rw [h9]; simp)
    have hE := Lib.hid (show updE p = 2 from hE0.out _ hgu.out)
    have j0 := Lib.hid hW.1
    have j1 := Lib.hid hW.2.1
    have j3 := Lib.hid hW.2.2.1
    have j4 := Lib.hid hW.2.2.2.1
    have UI := Lib.hid hW.2.2.2.2.1
    have UIn := Lib.hid hW.2.2.2.2.2.1
    have HB := hW.2.2.2.2.2.2
    clear hW
    have K0 := j0; have K1 := j1; have K3 := j3; have K4 := j4
    clear j0 j1 j3 j4
    (obtain ⟨k0, f0, l0, m0⟩ := rl_ K0; obtain ⟨k1, f1, l1, m1⟩ := rl_ K1; obtain ⟨k3, f3, l3, m3⟩ := rl_ K3; obtain ⟨k4, f4, l4, m4⟩ := rl_ K4)
    clear hE0 hlt hkc hfe n2 n4 n5 n6 n7 hxE UI UIn
    rcases Nat.eq_zero_or_pos p.next.length with h0 | h0
    ·have e1 : (p.next.length : Int) = 0 := by omega
     (go_wp2_with (first | (with_reducible refine wsh (stUp _ K1.out (Up.zero)) rfl rfl ?_)); generalize hWN : setRow _ _ _ _ = WN; replace K1 := Lib.hid (show Blk WN _ _ _ by rw [← hWN]; exact Blk.row K1.out.lt); replace K0 := Lib.hid (show Blk WN _ _ _ by rw [← hWN]; exact Blk.rowOver (by omega) K0.out); replace HB : Below w.heap.size w WN := (by rw [← hWN]; exact Below.row HB (by omega) HB.size); clear hWN k1 f1 l1 m1 k0 f0 l0 m0; obtain ⟨k1, f1, l1, m1⟩ := rl_ K1; obtain ⟨k0, f0, l0, m0⟩ := rl_ K0; unfold Halted)
     go_wp2_with fail
     exact bodyPost_ret (results_cell2 rfl rfl (ldUp _ K1.out)) rfl ⟨Up.zero, by rw [hE.out]; rfl, ⟨UpIn.zero _, fun h => (by rw [hgu.out] at h; cases h), fun _ => rfl⟩, HB⟩
    ·have e1 : (0 : Int) < (p.next.length : Int) := by omega
     (go_wp2_with (first | (with_reducible refine wsh (stUp _ K1.out (Up.zero)) rfl rfl ?_)); generalize hWN : setRow _ _ _ _ = WN; replace K1 := Lib.hid (show Blk WN _ _ _ by rw [← hWN]; exact Blk.row K1.out.lt); replace K0 := Lib.hid (show Blk WN _ _ _ by rw [← hWN]; exact Blk.rowOver (by omega) K0.out); replace HB : Below w.heap.size w WN := (by rw [← hWN]; exact Below.row HB (by omega) HB.size); clear hWN k1 f1 l1 m1 k0 f0 l0 m0; obtain ⟨k1, f1, l1, m1⟩ := rl_ K1; obtain ⟨k0, f0, l0, m0⟩ := rl_ K0; unfold Halted)
     go_wp2_with fail
     exact bodyPost_ret (results_cell2 rfl rfl (ldUp _ K1.out)) rfl ⟨Up.zero, by rw [hE.out]; rfl, ⟨UpIn.zero _, fun h => (by rw [hgu.out] at h; cases h), fun _ => rfl⟩, HB⟩
   | true =>
    have hfe0 : fe = 0 := by rw [← hfe.out, hkc]; rfl
    subst hfe0
    have hlt1 := Lib.hid (hlt.out hkc).1
    obtain rfl := (hlt.out hkc).2
    replace hkc := Lib.hid hkc
    clear hlt hfe
    obtain ⟨v3, hv3⟩ : ∃ v3, l3S p = v3 := ⟨_, rfl⟩
    rw [hv3] at hW
    replace hv3 := Lib.hid hv3
    -- the next committee
    go_upto_region 11 with fail
    go_cut [74] (fun s wx => s = .bool (decide (0 < p.next.length)) ∧ MuW w g g3 g4 p ⟨Lt.zero, Cm.zero, Rw.zero, lt, Rw.zero, p.bits, [], p.slot⟩ v3 cr zero32 wx)
    case first =>
     have j0 := Lib.hid hW.1
     have j1 := Lib.hid hW.2.1
     have j3 := Lib.hid hW.2.2.1
     have j4 := Lib.hid hW.2.2.2.1
     have UI := Lib.hid hW.2.2.2.2.1
     have UIn := Lib.hid hW.2.2.2.2.2.1
     have HB := hW.2.2.2.2.2.2
     clear hW
     have K0 := j0; have K1 := j1; have K3 := j3; have K4 := j4
     clear j0 j1 j3 j4
     (obtain ⟨k0, f0, l0, m0⟩ := rl_ K0; obtain ⟨k1, f1, l1, m1⟩ := rl_ K1; obtain ⟨k3, f3, l3, m3⟩ := rl_ K3; obtain ⟨k4, f4, l4, m4⟩ := rl_ K4)
     rcases Nat.eq_zero_or_pos p.next.length with h0 | h0
     ·have e1 : (p.next.length : Int) = 0 := by omega
      go_wp2_with fail
      go_meet
      case rel => exact ⟨by rw [decide_eq_false (by omega)], K0.out, K1.out, K3.out, K4.out, UI.out, UIn.out, HB⟩
     ·have e1 : (0 : Int) < (p.next.length : Int) := by omega
      go_wp2_with fail
      go_meet
      case rel => exact ⟨by rw [decide_eq_true h0], K0.out, K1.out, K3.out, K4.out, UI.out, UIn.out, HB⟩
    clear hW
    obtain ⟨rfl, hW⟩ := hcut
    obtain ⟨bn, hbn⟩ : ∃ b, decide (0 < p.next.length) = b := ⟨_, rfl⟩
    rw [hbn]
    replace hbn := Lib.hid hbn
    obtain ⟨ne, hne⟩ : ∃ ne, (if okN p then (0 : Int) else 2) = ne := ⟨_, rfl⟩
    replace hne := Lib.hid hne
    go_upto_if 74 with fail
    go_cut [5] (fun s5 wx => ∃ nx v5, s5 = .int .i64 ne ∧ (okN p = true → nx.bare = nxS p ∧ v5 = l5S p) ∧ MuW w g g3 g4 p ⟨Lt.zero, nx, Rw.zero, lt, Rw.zero, p.bits, [], p.slot⟩ v3 cr v5 wx)
    case first =>
     as_aux_lemma =>
      have j0 := Lib.hid hW.1
      have j1 := Lib.hid hW.2.1
      have j3 := Lib.hid hW.2.2.1
      have j4 := Lib.hid hW.2.2.2.1
      have UI := Lib.hid hW.2.2.2.2.1
      have UIn := Lib.hid hW.2.2.2.2.2.1
      have HB := hW.2.2.2.2.2.2
      clear hW
      have K0 := j0; have K1 := j1; have K3 := j3; have K4 := j4
      clear j0 j1 j3 j4
      (obtain ⟨k0, f0, l0, m0⟩ := rl_ K0; obtain ⟨k1, f1, l1, m1⟩ := rl_ K1; obtain ⟨k3, f3, l3, m3⟩ := rl_ K3; obtain ⟨k4, f4, l4, m4⟩ := rl_ K4)
      cases bn with
      | false =>
       have h0 : p.next.length = 0 := by have := of_decide_eq_false hbn.out; omega
       have hok := Lib.hid (show okN p = true by unfold okN; rw [decide_eq_true h0]; rfl)
       have hfs := Lib.hid (show nxS p = Cm.zero by unfold nxS; rw [if_pos h0])
       have hls := Lib.hid (show l5S p = zero32 by unfold l5S; rw [if_pos h0])
       clear n2 n4 n5 n6 n7 hxE h0
       go_wp2_with fail
       go_meet
       case rel => exact ⟨Cm.zero, zero32, by rw [← hne.out, hok.out]; rfl, fun _ => ⟨hfs.out.symm, hls.out.symm⟩, K0.out, K1.out, K3.out, K4.out, UI.out, UIn.out, HB⟩
      | true =>
       have h0 : ¬ p.next.length = 0 := by have := of_decide_eq_true hbn.out; omega
       have hok := Lib.hid (show okN p = goodS p.next by unfold okN; rw [decide_eq_false h0, Bool.false_or])
       have hfs := Lib.hid (show nxS p = cmS p.next by unfold nxS; rw [if_neg h0])
       have hls := Lib.hid (show l5S p = cmRoot (cmS p.next) by unfold l5S; rw [if_neg h0])
       have hxn : xe = ne := by rw [hxE.out, ← hne.out, hok.out]
       subst hxn
       have hzz : g4 + 1 ≤ wc.heap.size := by omega
       clear n4 n5 n7 hxE h0
       go_wp2_with fail
       (refine (n6.out _ HB).mono ?_; rintro e w7 ⟨nx, rfl, hnx, hnn, hN⟩; replace K0 := hn_ K0 hN; replace K1 := hn_ K1 hN; replace K3 := hn_ K3 hN; replace K4 := hn_ K4 hN; have NUI := Lib.hid (UI.out.below hN); replace HB : Below w.heap.size w w7 := Below.on hN HB; clear hN k0 f0 l0 m0 k1 f1 l1 m1 k3 f3 l3 m3 k4 f4 l4 m4 UI; have UI := NUI; clear NUI; obtain ⟨k0, f0, l0, m0⟩ := rl_ K0; obtain ⟨k1, f1, l1, m1⟩ := rl_ K1; obtain ⟨k3, f3, l3, m3⟩ := rl_ K3; obtain ⟨k4, f4, l4, m4⟩ := rl_ K4)
       have N9 := Lib.hid hnx.1
       have N9n := Lib.hid (RwNew.mono hnn hzz)
       have hx2 := Lib.hid hnx
       clear hnx hnn n6 hzz
       replace N9n := Lib.hid (show RwNew (g4 + 1) nx.ks from N9n.out)
       (go_wp2_with (first | (with_reducible refine wsh (stUp_next _ K3.out (nx)) rfl rfl ?_)); generalize hWN : setRow _ _ _ _ = WN; replace K3 := Lib.hid (show Blk WN _ _ _ by rw [← hWN]; exact Blk.row K3.out.lt); replace K0 := Lib.hid (show Blk WN _ _ _ by rw [← hWN]; exact Blk.rowOver (by omega) K0.out); replace K1 := Lib.hid (show Blk WN _ _ _ by rw [← hWN]; exact Blk.rowOver (by omega) K1.out); replace K4 := Lib.hid (show Blk WN _ _ _ by rw [← hWN]; exact Blk.rowOver (by omega) K4.out); have NUI := Lib.hid (show UpIn WN _ by rw [← hWN]; exact UI.out.kp UIn.out (Kp.row (by omega))); have NN9 := Lib.hid (show CmIn WN _ by rw [← hWN]; exact N9.out.kp N9n.out (Kp.row (by omega))); replace HB : Below w.heap.size w WN := (by rw [← hWN]; exact Below.row HB (by omega) HB.size); clear hWN k3 f3 l3 m3 k0 f0 l0 m0 k1 f1 l1 m1 k4 f4 l4 m4 UI N9; have UI := NUI; clear NUI; have N9 := NN9; clear NN9; obtain ⟨k3, f3, l3, m3⟩ := rl_ K3; obtain ⟨k0, f0, l0, m0⟩ := rl_ K0; obtain ⟨k1, f1, l1, m1⟩ := rl_ K1; obtain ⟨k4, f4, l4, m4⟩ := rl_ K4; unfold Halted)
       obtain ⟨w8, rfl⟩ : ∃ w', w' = WN := ⟨_, rfl⟩
       obtain ⟨xr, hxr⟩ : ∃ xr, cmRoot nx = xr := ⟨_, rfl⟩
       obtain ⟨xq, hxq⟩ : ∃ xq, cmE nx = xq := ⟨_, rfl⟩
       have n52 := n2.out nx
       rw [hxr, hxq] at n52
       replace n52 := Lib.hid n52
       replace hxr := Lib.hid hxr
       clear hxq n2
       go_wp2_with (with_reducible refine wlr (ldUp_next _ K3.out) rfl ?_)
       (refine (n52.out _ HB N9.out).mono ?_; rintro e w9 ⟨rfl, hN⟩; replace K0 := hn_ K0 hN; replace K1 := hn_ K1 hN; replace K3 := hn_ K3 hN; replace K4 := hn_ K4 hN; have NUI := Lib.hid (UI.out.below hN); have NN9 := Lib.hid (N9.out.below hN); replace HB : Below w.heap.size w w9 := Below.on hN HB; clear hN k0 f0 l0 m0 k1 f1 l1 m1 k3 f3 l3 m3 k4 f4 l4 m4 UI N9; have UI := NUI; clear NUI; have N9 := NN9; clear NN9; obtain ⟨k0, f0, l0, m0⟩ := rl_ K0; obtain ⟨k1, f1, l1, m1⟩ := rl_ K1; obtain ⟨k3, f3, l3, m3⟩ := rl_ K3; obtain ⟨k4, f4, l4, m4⟩ := rl_ K4)
       go_wp2_with fail
       (obtain ⟨WN, hWN⟩ : ∃ W', World.setCell w9 ⟨g4, 5, none⟩ (.string (bs xr)) = W' := ⟨_, rfl⟩; replace K4 := Lib.hid (show Blk WN _ _ (lvA v3 cr xr) by rw [← hWN]; exact Blk.to (Blk.set_ K4.out 5 _) rfl); replace K0 := Lib.hid (show Blk WN _ _ _ by rw [← hWN]; exact K0.out.far (by simp; omega) _); replace K1 := Lib.hid (show Blk WN _ _ _ by rw [← hWN]; exact K1.out.far (by simp; omega) _); replace K3 := Lib.hid (show Blk WN _ _ _ by rw [← hWN]; exact K3.out.far (by simp; omega) _); have NUI := Lib.hid (show UpIn WN _ by rw [← hWN]; exact UI.out.kp UIn.out (Kp.cell (by omega))); have NN9 := Lib.hid (show CmIn WN _ by rw [← hWN]; exact N9.out.kp N9n.out (Kp.cell (by omega))); replace HB : Below w.heap.size w WN := (by rw [← hWN]; exact HB.setCell (by simp; omega) _); rw [hWN]; clear hWN k4 f4 l4 m4 k0 f0 l0 m0 k1 f1 l1 m1 k3 f3 l3 m3 UI N9; have UI := NUI; clear NUI; have N9 := NN9; clear NN9; obtain ⟨k4, f4, l4, m4⟩ := rl_ K4; obtain ⟨k0, f0, l0, m0⟩ := rl_ K0; obtain ⟨k1, f1, l1, m1⟩ := rl_ K1; obtain ⟨k3, f3, l3, m3⟩ := rl_ K3)
       go_wp2_with fail
       go_meet
       case rel =>
        exact ⟨nx, xr, rfl, fun h => ⟨by rw [hfs.out]; exact hx2.out.bare (by rw [← hok.out]; exact h), by rw [hls.out, ← hxr.out]; exact cmRoot_bare (hx2.out.bare (by rw [← hok.out]; exact h))⟩, K0.out, K1.out, K3.out, K4.out, ⟨UI.out.1, N9.out, UI.out.2.2⟩, ⟨UIn.out.1, N9n.out, UIn.out.2.2⟩, HB⟩
    clear hW
    obtain ⟨nx, v5, rfl, hnx, hW⟩ := hcut
    replace hnx := Lib.hid hnx
    clear n6 hxE
    cases hkn : okN p with
    | false =>
     have hne0 : ne = 2 := by rw [← hne.out, hkn]; rfl
     subst hne0
     have hgu := Lib.hid (show goodU p = false by unfold goodU; rw [hkn]; simp)
     have hE := Lib.hid (show updE p = 2 from hE0.out _ hgu.out)
     have j0 := Lib.hid hW.1
     have j1 := Lib.hid hW.2.1
     have j3 := Lib.hid hW.2.2.1
     have j4 := Lib.hid hW.2.2.2.1
     have UI := Lib.hid hW.2.2.2.2.1
     have UIn := Lib.hid hW.2.2.2.2.2.1
     have HB := hW.2.2.2.2.2.2
     clear hW
     have K0 := j0; have K1 := j1; have K3 := j3; have K4 := j4
     clear j0 j1 j3 j4
     (obtain ⟨k0, f0, l0, m0⟩ := rl_ K0; obtain ⟨k1, f1, l1, m1⟩ := rl_ K1; obtain ⟨k3, f3, l3, m3⟩ := rl_ K3; obtain ⟨k4, f4, l4, m4⟩ := rl_ K4)
     clear hE0 hnx hkn hne n2 n4 n5 n7 UI UIn
     (go_wp2_with (first | (with_reducible refine wsh (stUp _ K1.out (Up.zero)) rfl rfl ?_)); generalize hWN : setRow _ _ _ _ = WN; replace K1 := Lib.hid (show Blk WN _ _ _ by rw [← hWN]; exact Blk.row K1.out.lt); replace K0 := Lib.hid (show Blk WN _ _ _ by rw [← hWN]; exact Blk.rowOver (by omega) K0.out); replace HB : Below w.heap.size w WN := (by rw [← hWN]; exact Below.row HB (by omega) HB.size); clear hWN k1 f1 l1 m1 k0 f0 l0 m0; obtain ⟨k1, f1, l1, m1⟩ := rl_ K1; obtain ⟨k0, f0, l0, m0⟩ := rl_ K0; unfold Halted)
     go_wp2_with fail
     exact bodyPost_ret (results_cell2 rfl rfl (ldUp _ K1.out)) rfl ⟨Up.zero, by rw [hE.out]; rfl, ⟨UpIn.zero _, fun h => (by rw [hgu.out] at h; cases h), fun _ => rfl⟩, HB⟩
    | true =>
     have hne0 : ne = 0 := by rw [← hne.out, hkn]; rfl
     subst hne0
     have hnx1 := Lib.hid (hnx.out hkn).1
     obtain rfl := (hnx.out hkn).2
     clear hnx hne
     have hx1 := Lib.hid hkn
     obtain ⟨v5, hv5⟩ : ∃ v5, l5S p = v5 := ⟨_, rfl⟩
     rw [hv5] at hW
     have hRr := leavesU_right hgs.out hkc.out hkn
     have hlv : leavesU p = [zero32, zero32, zero32, v3, cr, v5] := by unfold leavesU; rw [hv3.out, hcr.out, hv5]
     have hstl := Lib.hid (stateU_len hgs.out hkc.out hkn)
     have n8 := Lib.hid (fun W (hB : Below w.heap.size w W) (h : Blk W g4 9 (lvA v3 cr v5)) => mtree_calls (some ⟨g4, 0, none⟩) 6 (leavesU p) 3 3 hRr (by decide) W (hk.out.on hB) (txts_blk (by rw [hlv]; exact h)))
     have n9 := Lib.hid (fun W (hB : Below w.heap.size w W) (h : Blk W g4 9 (lvA v3 cr v5)) => mtree_calls (some ⟨g4, 0, none⟩) 6 (leavesU p) 3 5 hRr (by decide) W (hk.out.on hB) (txts_blk (by rw [hlv]; exact h)))
     have hbl3 := Lib.hid (branchP_len (leavesU p) 3 3)
     have hbl5 := Lib.hid (branchP_len (leavesU p) 5 3)
     have hba3 : ∀ x ∈ branchP (leavesU p) 3 3, x.length ≤ 1048576 := fun x hx => by rw [branchP_all _ hRr.2.2.2.2 _ _ x hx]; decide
     have hba5 : ∀ x ∈ branchP (leavesU p) 5 3, x.length ≤ 1048576 := fun x hx => by rw [branchP_all _ hRr.2.2.2.2 _ _ x hx]; decide
     replace hba3 := Lib.hid hba3
     replace hba5 := Lib.hid hba5
     have hst : rootP (leavesU p) 3 = stateU p := rfl
     have hfb := Lib.hid (show fbS p = if p.fin = 0 then [] else branchP (leavesU p) 3 3 from rfl)
     have hnb := Lib.hid (show nbS p = if p.next.length = 0 then [] else branchP (leavesU p) 5 3 from rfl)
     obtain ⟨st, hst2⟩ : ∃ st, stateU p = st := ⟨_, rfl⟩
     rw [hst, hst2] at n8 n9
     rw [hst2] at hstl
     replace hst2 := Lib.hid hst2
     obtain ⟨r3, hr3⟩ : ∃ r, branchP (leavesU p) 3 3 = r := ⟨_, rfl⟩
     obtain ⟨r5, hr5⟩ : ∃ r, branchP (leavesU p) 5 3 = r := ⟨_, rfl⟩
     rw [hr3] at n8 hbl3 hba3 hfb
     rw [hr5] at n9 hbl5 hba5 hnb
     have n8' : ∀ W, Below w.heap.size w W → Blk W g4 9 (lvA v3 cr v5) → Calls Tryz.prog 101 #[.int .i64 3, .int .i64 3, .slice (some ⟨g4, 0, none⟩) 6 6] W (fun e w' => ∃ v, e = .returned (.tuple #[.string (bs st), v]) ∧ LRow W.heap.size w' v r3 ∧ Below W.heap.size W w') := n8.out
     have n9' : ∀ W, Below w.heap.size w W → Blk W g4 9 (lvA v3 cr v5) → Calls Tryz.prog 101 #[.int .i64 3, .int .i64 5, .slice (some ⟨g4, 0, none⟩) 6 6] W (fun e w' => ∃ v, e = .returned (.tuple #[.string (bs st), v]) ∧ LRow W.heap.size w' v r5 ∧ Below W.heap.size W w') := n9.out
     replace n8 := Lib.hid n8'
     replace n9 := Lib.hid n9'
     clear n8' n9' hst hr3 hr5 hRr hlv hkn n2 n5 hv5
     have j0 := Lib.hid hW.1
     have j1 := Lib.hid hW.2.1
     have j3 := Lib.hid hW.2.2.1
     have j4 := Lib.hid hW.2.2.2.1
     have UI := Lib.hid hW.2.2.2.2.1
     have UIn := Lib.hid hW.2.2.2.2.2.1
     have HB := hW.2.2.2.2.2.2
     clear hW
     have K0 := j0; have K1 := j1; have K3 := j3; have K4 := j4
     clear j0 j1 j3 j4
     (obtain ⟨k0, f0, l0, m0⟩ := rl_ K0; obtain ⟨k1, f1, l1, m1⟩ := rl_ K1; obtain ⟨k3, f3, l3, m3⟩ := rl_ K3; obtain ⟨k4, f4, l4, m4⟩ := rl_ K4)
     have hzz : g4 + 1 ≤ wc.heap.size := by omega
     go_wp2_with fail
     (refine (n8.out _ HB K4.out).mono ?_; rintro e w7 ⟨v, rfl, hRv, hN⟩; replace K0 := hn_ K0 hN; replace K1 := hn_ K1 hN; replace K3 := hn_ K3 hN; replace K4 := hn_ K4 hN; have NUI := Lib.hid (UI.out.below hN); replace HB : Below w.heap.size w w7 := Below.on hN HB; clear hN k0 f0 l0 m0 k1 f1 l1 m1 k3 f3 l3 m3 k4 f4 l4 m4 UI; have UI := NUI; clear NUI; obtain ⟨k0, f0, l0, m0⟩ := rl_ K0; obtain ⟨k1, f1, l1, m1⟩ := rl_ K1; obtain ⟨k3, f3, l3, m3⟩ := rl_ K3; obtain ⟨k4, f4, l4, m4⟩ := rl_ K4)
     obtain ⟨A5, c5, rfl, _⟩ := hRv.txts
     have F1 := Lib.hid (row_in hRv (by rw [hbl3.out]; decide) hba3.out)
     have F1n := Lib.hid (row_newer (base' := g4 + 1) hRv hzz)
     clear hRv n8 hzz
     have hzz : g4 + 1 ≤ w7.heap.size := by omega
     go_wp2_with fail
     (refine (n9.out _ HB K4.out).mono ?_; rintro e w8 ⟨v, rfl, hRv, hN⟩; replace K0 := hn_ K0 hN; replace K1 := hn_ K1 hN; replace K3 := hn_ K3 hN; replace K4 := hn_ K4 hN; have NUI := Lib.hid (UI.out.below hN); have NF1 := Lib.hid (F1.out.below hN); replace HB : Below w.heap.size w w8 := Below.on hN HB; clear hN k0 f0 l0 m0 k1 f1 l1 m1 k3 f3 l3 m3 k4 f4 l4 m4 UI F1; have UI := NUI; clear NUI; have F1 := NF1; clear NF1; obtain ⟨k0, f0, l0, m0⟩ := rl_ K0; obtain ⟨k1, f1, l1, m1⟩ := rl_ K1; obtain ⟨k3, f3, l3, m3⟩ := rl_ K3; obtain ⟨k4, f4, l4, m4⟩ := rl_ K4)
     obtain ⟨A6, c6, rfl, _⟩ := hRv.txts
     have F2 := Lib.hid (row_in hRv (by rw [hbl5.out]; decide) hba5.out)
     have F2n := Lib.hid (row_newer (base' := g4 + 1) hRv hzz)
     clear hRv n9 hzz
     obtain ⟨bf, hbf⟩ : ∃ b, ((p.fin : Int) != 0) = b := ⟨_, rfl⟩
     have hbf2 : ((p.fin : Int) == 0) = !bf := by rw [← hbf, bne, Bool.not_not]
     have hbf4 := Lib.hid (show bf = !decide (p.fin = 0) by rw [← hbf, Bool.eq_iff_iff]; simp)
     go_upto_if 106 with fail
     clear hbf hbf2
     go_cut [] (fun wx => ∃ fb : Rw, (fb.l = fbS p ∧ RwIn wx ⟨A6, c6, r5⟩) ∧ MuW w g g3 g4 p ⟨Lt.zero, nx, Rw.zero, lt, fb, p.bits, [], p.slot⟩ v3 cr v5 wx)
     case first =>
      cases bf with
      | false =>
       have hf : p.fin = 0 := by simpa using hbf4.out
       have hfb2 := Lib.hid (show fbS p = [] by rw [hfb.out, if_pos hf])
       go_wp2_with fail
       go_meet
       case rel => exact ⟨Rw.zero, ⟨hfb2.out.symm, F2.out⟩, K0.out, K1.out, K3.out, K4.out, UI.out, UIn.out, HB⟩
      | true =>
       have hf : ¬ p.fin = 0 := by simpa using hbf4.out
       have hfb2 := Lib.hid (show fbS p = r3 by rw [hfb.out, if_neg hf])
       go_wp2_with fail
       (obtain ⟨WN, hWN⟩ : ∃ W', World.setCell w8 ⟨g3, 21, none⟩ (.slice A5 r3.length c5) = W' := ⟨_, rfl⟩; replace K3 := Lib.hid (show Blk WN _ _ (upA ⟨Lt.zero, nx, Rw.zero, lt, ⟨A5, c5, r3⟩, p.bits, [], p.slot⟩) by rw [← hWN]; exact Blk.to (Blk.set_ K3.out 21 _) rfl); replace K0 := Lib.hid (show Blk WN _ _ _ by rw [← hWN]; exact K0.out.far (by simp; omega) _); replace K1 := Lib.hid (show Blk WN _ _ _ by rw [← hWN]; exact K1.out.far (by simp; omega) _); replace K4 := Lib.hid (show Blk WN _ _ _ by rw [← hWN]; exact K4.out.far (by simp; omega) _); have NUI := Lib.hid (show UpIn WN _ by rw [← hWN]; exact UI.out.kp UIn.out (Kp.cell (by omega))); have NF1 := Lib.hid (show RwIn WN _ by rw [← hWN]; exact F1.out.kp F1n.out (Kp.cell (by omega))); have NF2 := Lib.hid (show RwIn WN _ by rw [← hWN]; exact F2.out.kp F2n.out (Kp.cell (by omega))); replace HB : Below w.heap.size w WN := (by rw [← hWN]; exact HB.setCell (by simp; omega) _); rw [hWN]; clear hWN k3 f3 l3 m3 k0 f0 l0 m0 k1 f1 l1 m1 k4 f4 l4 m4 UI F1 F2; have UI := NUI; clear NUI; have F1 := NF1; clear NF1; have F2 := NF2; clear NF2; obtain ⟨k3, f3, l3, m3⟩ := rl_ K3; obtain ⟨k0, f0, l0, m0⟩ := rl_ K0; obtain ⟨k1, f1, l1, m1⟩ := rl_ K1; obtain ⟨k4, f4, l4, m4⟩ := rl_ K4)
       go_meet
       case rel => exact ⟨⟨A5, c5, r3⟩, ⟨hfb2.out.symm, F2.out⟩, K0.out, K1.out, K3.out, K4.out, ⟨UI.out.1, UI.out.2.1, UI.out.2.2.1, UI.out.2.2.2.1, F1.out, UI.out.2.2.2.2.2⟩, ⟨UIn.out.1, UIn.out.2.1, UIn.out.2.2.1, UIn.out.2.2.2.1, F1n.out⟩, HB⟩
     clear k0 f0 l0 m0 k1 f1 l1 m1 k3 f3 l3 m3 k4 f4 l4 m4 K0 K1 K3 K4 HB UI UIn
     clear F1 F1n F2
     obtain ⟨fb, ⟨hfb2, hF2⟩, hW⟩ := hcut
     have F2 := Lib.hid hF2
     replace hfb2 := Lib.hid hfb2
     clear hF2 hfb hbf4
     go_upto_region 20 with fail
     go_cut [112] (fun s wx => s = .bool bn ∧ RwIn wx ⟨A6, c6, r5⟩ ∧ MuW w g g3 g4 p ⟨Lt.zero, nx, Rw.zero, lt, fb, p.bits, [], p.slot⟩ v3 cr v5 wx)
     case first =>
      have j0 := Lib.hid hW.1
      have j1 := Lib.hid hW.2.1
      have j3 := Lib.hid hW.2.2.1
      have j4 := Lib.hid hW.2.2.2.1
      have UI := Lib.hid hW.2.2.2.2.1
      have UIn := Lib.hid hW.2.2.2.2.2.1
      have HB := hW.2.2.2.2.2.2
      clear hW
      have K0 := j0; have K1 := j1; have K3 := j3; have K4 := j4
      clear j0 j1 j3 j4
      (obtain ⟨k0, f0, l0, m0⟩ := rl_ K0; obtain ⟨k1, f1, l1, m1⟩ := rl_ K1; obtain ⟨k3, f3, l3, m3⟩ := rl_ K3; obtain ⟨k4, f4, l4, m4⟩ := rl_ K4)
      rcases Nat.eq_zero_or_pos p.next.length with h0 | h0
      ·have e1 : (p.next.length : Int) = 0 := by omega
       go_wp2_with fail
       go_meet
       case rel => exact ⟨by rw [← hbn.out, decide_eq_false (by omega)], F2.out, K0.out, K1.out, K3.out, K4.out, UI.out, UIn.out, HB⟩
      ·have e1 : (0 : Int) < (p.next.length : Int) := by omega
       go_wp2_with fail
       go_meet
       case rel => exact ⟨by rw [← hbn.out, decide_eq_true h0], F2.out, K0.out, K1.out, K3.out, K4.out, UI.out, UIn.out, HB⟩
     clear hW F2
     obtain ⟨rfl, hF2, hW⟩ := hcut
     have F2 := Lib.hid hF2
     clear hF2
     go_upto_if 112 with fail
     go_cut [] (fun wx => ∃ nb : Rw, nb.l = nbS p ∧ MuW w g g3 g4 p ⟨Lt.zero, nx, nb, lt, fb, p.bits, [], p.slot⟩ v3 cr v5 wx)
     case first =>
      have j0 := Lib.hid hW.1
      have j1 := Lib.hid hW.2.1
      have j3 := Lib.hid hW.2.2.1
      have j4 := Lib.hid hW.2.2.2.1
      have UI := Lib.hid hW.2.2.2.2.1
      have UIn := Lib.hid hW.2.2.2.2.2.1
      have HB := hW.2.2.2.2.2.2
      clear hW
      have K0 := j0; have K1 := j1; have K3 := j3; have K4 := j4
      clear j0 j1 j3 j4
      (obtain ⟨k0, f0, l0, m0⟩ := rl_ K0; obtain ⟨k1, f1, l1, m1⟩ := rl_ K1; obtain ⟨k3, f3, l3, m3⟩ := rl_ K3; obtain ⟨k4, f4, l4, m4⟩ := rl_ K4)
      cases bn with
      | false =>
       have h0 : p.next.length = 0 := by have := of_decide_eq_false hbn.out; omega
       have hnb2 := Lib.hid (show nbS p = [] by rw [hnb.out, if_pos h0])
       clear h0
       go_wp2_with fail
       go_meet
       case rel => exact ⟨Rw.zero, hnb2.out.symm, K0.out, K1.out, K3.out, K4.out, UI.out, UIn.out, HB⟩
      | true =>
       have h0 : ¬ p.next.length = 0 := by have := of_decide_eq_true hbn.out; omega
       have hnb2 := Lib.hid (show nbS p = r5 by rw [hnb.out, if_neg h0])
       clear h0
       go_wp2_with fail
       (obtain ⟨WN, hWN⟩ : ∃ W', World.setCell wc ⟨g3, 11, none⟩ (.slice A6 r5.length c6) = W' := ⟨_, rfl⟩; replace K3 := Lib.hid (show Blk WN _ _ (upA ⟨Lt.zero, nx, ⟨A6, c6, r5⟩, lt, fb, p.bits, [], p.slot⟩) by rw [← hWN]; exact Blk.to (Blk.set_ K3.out 11 _) rfl); replace K0 := Lib.hid (show Blk WN _ _ _ by rw [← hWN]; exact K0.out.far (by simp; omega) _); replace K1 := Lib.hid (show Blk WN _ _ _ by rw [← hWN]; exact K1.out.far (by simp; omega) _); replace K4 := Lib.hid (show Blk WN _ _ _ by rw [← hWN]; exact K4.out.far (by simp; omega) _); have NUI := Lib.hid (show UpIn WN _ by rw [← hWN]; exact UI.out.kp UIn.out (Kp.cell (by omega))); have NF2 := Lib.hid (show RwIn WN _ by rw [← hWN]; exact F2.out.kp F2n.out (Kp.cell (by omega))); replace HB : Below w.heap.size w WN := (by rw [← hWN]; exact HB.setCell (by simp; omega) _); rw [hWN]; clear hWN k3 f3 l3 m3 k0 f0 l0 m0 k1 f1 l1 m1 k4 f4 l4 m4 UI F2; have UI := NUI; clear NUI; have F2 := NF2; clear NF2; obtain ⟨k3, f3, l3, m3⟩ := rl_ K3; obtain ⟨k0, f0, l0, m0⟩ := rl_ K0; obtain ⟨k1, f1, l1, m1⟩ := rl_ K1; obtain ⟨k4, f4, l4, m4⟩ := rl_ K4)
       go_meet
       case rel => exact ⟨⟨A6, c6, r5⟩, hnb2.out.symm, K0.out, K1.out, K3.out, K4.out, ⟨UI.out.1, UI.out.2.1, F2.out, UI.out.2.2.2⟩, ⟨UIn.out.1, UIn.out.2.1, F2n.out, UIn.out.2.2.2⟩, HB⟩
     clear hW F2 F2n hnb hbn
     obtain ⟨nb, hnb2, hW⟩ := hcut
     replace hnb2 := Lib.hid hnb2
     -- the signed header
     have hle : lightE p.acc p.rcp st = if accOk p then 0 else 2 := by
      unfold lightE
      rw [lightOk_st hstl.out]
      rfl
     have hok := Lib.hid (show lightOk p.acc p.rcp st = accOk p from lightOk_st hstl.out)
     obtain ⟨se, hse⟩ : ∃ se, (if accOk p then (0 : Int) else 2) = se := ⟨_, rfl⟩
     have n42 := n4.out p.seen hseen.out st
     rw [hle, hse] at n42
     replace n42 := Lib.hid n42
     replace hse := Lib.hid hse
     clear hle n4
     have j0 := Lib.hid hW.1
     have j1 := Lib.hid hW.2.1
     have j3 := Lib.hid hW.2.2.1
     have j4 := Lib.hid hW.2.2.2.1
     have UI := Lib.hid hW.2.2.2.2.1
     have UIn := Lib.hid hW.2.2.2.2.2.1
     have HB := hW.2.2.2.2.2.2
     clear hW
     have K0 := j0; have K1 := j1; have K3 := j3; have K4 := j4
     clear j0 j1 j3 j4
     (obtain ⟨k0, f0, l0, m0⟩ := rl_ K0; obtain ⟨k1, f1, l1, m1⟩ := rl_ K1; obtain ⟨k3, f3, l3, m3⟩ := rl_ K3; obtain ⟨k4, f4, l4, m4⟩ := rl_ K4)
     have hzz : g4 + 1 ≤ wc.heap.size := by omega
     go_wp2_with fail
     (refine (n42.out _ HB).mono ?_; rintro e w9 ⟨l2, rfl, hlt, hln, hN⟩; replace K0 := hn_ K0 hN; replace K1 := hn_ K1 hN; replace K3 := hn_ K3 hN; have NUI := Lib.hid (UI.out.below hN); replace HB : Below w.heap.size w w9 := Below.on hN HB; clear hN k0 f0 l0 m0 k1 f1 l1 m1 k3 f3 l3 m3 UI; have UI := NUI; clear NUI; obtain ⟨k0, f0, l0, m0⟩ := rl_ K0; obtain ⟨k1, f1, l1, m1⟩ := rl_ K1; obtain ⟨k3, f3, l3, m3⟩ := rl_ K3)
     have L2 := Lib.hid hlt.1
     have L2n := Lib.hid (RwNew.mono hln hzz)
     have hl2 := Lib.hid hlt
     clear hlt hln n42 hzz K4 k4 f4 l4 m4
     (go_wp2_with (first | (with_reducible refine wsh (stUp_seen _ K3.out (l2)) rfl rfl ?_)); generalize hWN : setRow _ _ _ _ = WN; replace K3 := Lib.hid (show Blk WN _ _ _ by rw [← hWN]; exact Blk.row K3.out.lt); replace K0 := Lib.hid (show Blk WN _ _ _ by rw [← hWN]; exact Blk.rowOver (by omega) K0.out); replace K1 := Lib.hid (show Blk WN _ _ _ by rw [← hWN]; exact Blk.rowOver (by omega) K1.out); have NUI := Lib.hid (show UpIn WN _ by rw [← hWN]; exact UI.out.kp UIn.out (Kp.row (by omega))); have NL2 := Lib.hid (show LtIn WN _ by rw [← hWN]; exact L2.out.kp L2n.out (Kp.row (by omega))); replace HB : Below w.heap.size w WN := (by rw [← hWN]; exact Below.row HB (by omega) HB.size); clear hWN k3 f3 l3 m3 k0 f0 l0 m0 k1 f1 l1 m1 UI L2; have UI := NUI; clear NUI; have L2 := NL2; clear NL2; obtain ⟨k3, f3, l3, m3⟩ := rl_ K3; obtain ⟨k0, f0, l0, m0⟩ := rl_ K0; obtain ⟨k1, f1, l1, m1⟩ := rl_ K1; unfold Halted)
     cases hacc : accOk p with
     | false =>
      have hse0 : se = 2 := by rw [← hse.out, hacc]; rfl
      subst hse0
      have hgu := Lib.hid (show goodU p = false by unfold goodU; rw [hacc]; simp)
      have hE := Lib.hid (show updE p = 2 from hE0.out _ hgu.out)
      clear hE0 hacc hse n7 UI UIn hl2 L2 L2n
      (go_wp2_with (first | (with_reducible refine wsh (stUp _ K1.out (Up.zero)) rfl rfl ?_)); generalize hWN : setRow _ _ _ _ = WN; replace K1 := Lib.hid (show Blk WN _ _ _ by rw [← hWN]; exact Blk.row K1.out.lt); replace K0 := Lib.hid (show Blk WN _ _ _ by rw [← hWN]; exact Blk.rowOver (by omega) K0.out); replace K3 := Lib.hid (show Blk WN _ _ _ by rw [← hWN]; exact Blk.rowOver (by omega) K3.out); replace HB : Below w.heap.size w WN := (by rw [← hWN]; exact Below.row HB (by omega) HB.size); clear hWN k1 f1 l1 m1 k0 f0 l0 m0 k3 f3 l3 m3; obtain ⟨k1, f1, l1, m1⟩ := rl_ K1; obtain ⟨k0, f0, l0, m0⟩ := rl_ K0; obtain ⟨k3, f3, l3, m3⟩ := rl_ K3; unfold Halted)
      go_wp2_with fail
      exact bodyPost_ret (results_cell2 rfl rfl (ldUp _ K1.out)) rfl ⟨Up.zero, by rw [hE.out]; rfl, ⟨UpIn.zero _, fun h => (by rw [hgu.out] at h; cases h), fun _ => rfl⟩, HB⟩
     | true =>
      have hse0 : se = 0 := by rw [← hse.out, hacc]; rfl
      subst hse0
      have hgu := Lib.hid (show goodU p = true by unfold goodU; rw [hacc, hgs.out, hx1.out]; rfl)
      have hE := Lib.hid (show updE p = 0 from hE0.out _ hgu.out)
      have hb2 := Lib.hid (show l2.bare = ltS p.seen p.acc p.rcp st from hl2.out.bare (by rw [hok.out, hacc]))
      have hlb := Lib.hid (show l2.b = hdS p.seen p.acc p.rcp st from (hl2.out.2.1 (by rw [hok.out, hacc])).1)
      have n72 := n7.out l2 h16.out
      obtain ⟨sg, hsg⟩ : ∃ sg, sigP p l2.b = sg := ⟨_, rfl⟩
      have hsl := Lib.hid (sigP_len p l2.b)
      rw [hsg] at n72 hsl
      replace n72 := Lib.hid n72
      replace hsg := Lib.hid hsg
      clear hE0 hse n7 hl2 hacc
      go_wp2_with (first | (with_reducible refine wlr (ldPl _ K0.out) rfl ?_) | (with_reducible refine wlr (ldUp_seen_b _ K3.out) rfl ?_))
      (refine (n72.out _ HB L2.out).mono ?_; rintro e w10 ⟨rfl, hN⟩; replace K0 := hn_ K0 hN; replace K1 := hn_ K1 hN; replace K3 := hn_ K3 hN; have NUI := Lib.hid (UI.out.below hN); have NL2 := Lib.hid (L2.out.below hN); replace HB : Below w.heap.size w w10 := Below.on hN HB; clear hN k0 f0 l0 m0 k1 f1 l1 m1 k3 f3 l3 m3 UI L2; have UI := NUI; clear NUI; have L2 := NL2; clear NL2; obtain ⟨k0, f0, l0, m0⟩ := rl_ K0; obtain ⟨k1, f1, l1, m1⟩ := rl_ K1; obtain ⟨k3, f3, l3, m3⟩ := rl_ K3)
      (go_wp2_with (first | (with_reducible refine wsh (stcUp_sig _ K3.out (sg)) rfl rfl ?_)); generalize hWN : setRow _ _ _ _ = WN; replace K3 := Lib.hid (show Blk WN _ _ _ by rw [← hWN]; exact Blk.row K3.out.lt); replace K0 := Lib.hid (show Blk WN _ _ _ by rw [← hWN]; exact Blk.rowOver (by omega) K0.out); replace K1 := Lib.hid (show Blk WN _ _ _ by rw [← hWN]; exact Blk.rowOver (by omega) K1.out); have NUI := Lib.hid (show UpIn WN _ by rw [← hWN]; exact UI.out.kp UIn.out (Kp.row (by omega))); have NL2 := Lib.hid (show LtIn WN _ by rw [← hWN]; exact L2.out.kp L2n.out (Kp.row (by omega))); replace HB : Below w.heap.size w WN := (by rw [← hWN]; exact Below.row HB (by omega) HB.size); clear hWN k3 f3 l3 m3 k0 f0 l0 m0 k1 f1 l1 m1 UI L2; have UI := NUI; clear NUI; have L2 := NL2; clear NL2; obtain ⟨k3, f3, l3, m3⟩ := rl_ K3; obtain ⟨k0, f0, l0, m0⟩ := rl_ K0; obtain ⟨k1, f1, l1, m1⟩ := rl_ K1; unfold Halted)
      obtain ⟨w11, rfl⟩ : ∃ w', w' = WN := ⟨_, rfl⟩
      (go_wp2_with (first | (with_reducible refine wlr (ldUp _ K3.out) rfl ?_) | (with_reducible refine wlg (ldUp _ K3.out) (by with_unfolding_all rfl) rfl ?_) | (with_reducible refine wsh (stUp _ K1.out (⟨l2, nx, nb, lt, fb, p.bits, sg, p.slot⟩)) rfl rfl ?_)); generalize hWN : setRow _ _ _ _ = WN; replace K1 := Lib.hid (show Blk WN _ _ _ by rw [← hWN]; exact Blk.row K1.out.lt); replace K0 := Lib.hid (show Blk WN _ _ _ by rw [← hWN]; exact Blk.rowOver (by omega) K0.out); replace K3 := Lib.hid (show Blk WN _ _ _ by rw [← hWN]; exact Blk.rowOver (by omega) K3.out); have NUI := Lib.hid (show UpIn WN _ by rw [← hWN]; exact UI.out.kp UIn.out (Kp.row (by omega))); have NL2 := Lib.hid (show LtIn WN _ by rw [← hWN]; exact L2.out.kp L2n.out (Kp.row (by omega))); replace HB : Below w.heap.size w WN := (by rw [← hWN]; exact Below.row HB (by omega) HB.size); clear hWN k1 f1 l1 m1 k0 f0 l0 m0 k3 f3 l3 m3 UI L2; have UI := NUI; clear NUI; have L2 := NL2; clear NL2; obtain ⟨k1, f1, l1, m1⟩ := rl_ K1; obtain ⟨k0, f0, l0, m0⟩ := rl_ K0; obtain ⟨k3, f3, l3, m3⟩ := rl_ K3; unfold Halted)
      go_wp2_with fail
      exact bodyPost_ret (results_cell2 rfl rfl (ldUp _ K1.out)) rfl ⟨⟨l2, nx, nb, lt, fb, p.bits, sg, p.slot⟩, by rw [hE.out]; rfl, ⟨⟨L2.out, UI.out.2.1, UI.out.2.2.1, UI.out.2.2.2.1, UI.out.2.2.2.2.1, hbits.out, hsl.out, hslot.out⟩, fun _ => by
       show Up.mk l2.bare nx.bare (Rw.bare nb) lt.bare (Rw.bare fb) p.bits sg p.slot = upS p
       unfold upS Rw.bare
       rw [hb2.out, hnx1.out, hnb2.out, hlt1.out, hfb2.out, hst2.out, ← hsg.out, hlb.out], fun h => (by rw [hgu.out] at h; cases h)⟩, HB⟩
end Go.Proofs.YtegaaccioppfjaaGreatDoor
end
section
namespace Go.Proofs.YtegaaccioppfjaaGreatDoor
open BigFrame Go.RowKit Go.Phx Go.Shelf

/-! the sums of secrets' keys and signatures -/
theorem fromL_key {B : E} (hB : inG B = true) {n : Nat} (h : IsSecret (n : Int)) : fromL (keyB (n : Int) B) = some (timesE (n : Int) B) ∧ inG (timesE (n : Int) B) = true := by
 have hi : inG (timesE (n : Int) B) = true := times_in hB _ (by omega) (by have := h.2; omega)
 have hk : keyB (n : Int) B = bytesE (timesE (n : Int) B) := by unfold keyB; rw [if_pos h]
 rw [hk]
 exact ⟨back_point hi, hi⟩
def sumC (B : E) (l : List Nat) (p : E) : E := l.foldl (fun q (n : Nat) => addC q (timesC (n : Int) B)) p
theorem sumF_at {B : E} (hB : inG B = true) : ∀ (l : List Nat) (p : E), inG p = true → (∀ n ∈ l, IsSecret (n : Int)) → sumFrom p (l.map fun n : Nat => keyB (n : Int) B) = some (sumC B l p) ∧ inG (sumC B l p) = true
 | [], p, hp, _ => ⟨rfl, hp⟩
 | n :: l, p, hp, h => by
  obtain ⟨h1, h2⟩ := fromL_key hB (h n List.mem_cons_self)
  have ih := sumF_at hB l (addE p (timesE (n : Int) B)) (inG_add hp h2) fun m hm => h m (List.mem_cons_of_mem _ hm)
  have e : sumC B (n :: l) p = sumC B l (addE p (timesE (n : Int) B)) := by
   unfold sumC
   rw [List.foldl_cons, addC_eq, timesC_eq]
  rw [e]
  refine ⟨?_, ih.2⟩
  show sumFrom p (keyB (n : Int) B :: l.map fun n : Nat => keyB (n : Int) B) = _
  rw [sumFrom, h1]
  exact ih.1
theorem keys_comp {l : List Nat} (h : ∀ n ∈ l, IsSecret (n : Int)) : keysS l = l.map fun n : Nat => bytesE (timesC (n : Int) genC) := by
 unfold keysS
 refine List.map_congr_left fun n hn => ?_
 unfold keyB
 rw [if_pos (h n hn), timesC_eq, genC_eq]

/-! sixteen secrets, eleven of whom sign -/
def l16 : List Nat := [1, 2, 3, 4, 5, 6, 7, 8, 9, 10, 11, 12, 13, 14, 15, 16]
def l11 : List Nat := [1, 2, 3, 4, 5, 6, 7, 8, 9, 10, 11]
theorem secrets16 : secretsB l16 = true := by decide +kernel
theorem secrets11 : secretsB l11 = true := by decide +kernel
theorem good16 : goodS l16 = true := by decide +kernel
def k16 : List Bytes := [[3, 110, 10, 69, 100], [3, 80, 127, 119, 19], [3, 126, 11, 102, 157], [2, 2, 108, 2, 224], [2, 33, 176, 98, 75], [3, 0, 157, 246, 218], [2, 63, 157, 94, 216], [2, 76, 87, 223, 52], [2, 91, 21, 176, 80], [3, 69, 158, 50, 16], [3, 113, 143, 170, 199], [3, 112, 51, 108, 184], [3, 57, 153, 32, 10], [3, 109, 201, 245, 162], [3, 117, 145, 255, 21], [2, 47, 249, 124, 206]]
def k11 : List Bytes := k16.take 11
theorem keys16C : (l16.map fun n : Nat => bytesE (timesC (n : Int) genC)) = k16 := by decide +kernel
theorem keys16 : keysS l16 = k16 := (keys_comp (secrets_all secrets16)).trans keys16C
theorem keys11 : keysS l11 = k11 := (keys_comp (secrets_all secrets11)).trans (by rw [k11, ← keys16C]; rfl)
theorem sum16C : sumC genC l16 none = some (zf 40477935, zf 769380854) := by decide +kernel
theorem sum11C : sumC genC l11 none = some (zf 288055571, zf 1834833208) := by decide +kernel
theorem sum16E : sumE (keysS l16) = some (some (zf 40477935, zf 769380854)) := by
 have := (sumF_at gen_in l16 none inG_none (secrets_all secrets16)).1
 rw [← genC_eq, sum16C] at this
 exact this
theorem sum11E : sumE (keysS l11) = some (some (zf 288055571, zf 1834833208)) := by
 have := (sumF_at gen_in l11 none inG_none (secrets_all secrets11)).1
 rw [← genC_eq, sum11C] at this
 exact this
def s16 : Bytes := [2, 2, 105, 164, 239]
theorem bytes16 : bytesE (some (zf 40477935, zf 769380854)) = s16 := by decide +kernel
theorem sumB16 : sumB (keysS l16) = s16 := by
 unfold sumB
 rw [sum16E]
 exact bytes16
theorem cmS16 : cmS l16 = ⟨⟨none, 0, k16⟩, s16⟩ := by
 unfold cmS
 rw [sumB16, keys16]
theorem cmR16 : cmRoot ⟨⟨none, 0, k16⟩, s16⟩ = [78, 157, 197, 26, 74, 30, 254, 68, 105, 121, 204, 34, 10, 55, 254, 201, 110, 129, 147, 25, 161, 189, 158, 51, 97, 207, 243, 226, 66, 171, 177, 38] := by decide +kernel
theorem fin7 : hdRoot (hdS 7 zero32 zero32 zero32) = [116, 154, 105, 171, 92, 249, 185, 26, 63, 152, 192, 119, 98, 8, 125, 91, 54, 112, 33, 181, 53, 178, 150, 98, 210, 33, 22, 126, 219, 157, 188, 61] := by decide +kernel
def pl15 (A : Option Addr) (c : Nat) : Pl := ⟨9, 10, 7, A, c, l16, none, 0, [], 2047, zero32, zero32⟩
theorem good15 (A : Option Addr) (c : Nat) : goodU (pl15 A c) = true := by
 unfold goodU
 rw [show (pl15 A c).now = l16 from rfl, good16]
 rfl
theorem leaves15 (A : Option Addr) (c : Nat) : leavesU (pl15 A c) = [zero32, zero32, zero32, [116, 154, 105, 171, 92, 249, 185, 26, 63, 152, 192, 119, 98, 8, 125, 91, 54, 112, 33, 181, 53, 178, 150, 98, 210, 33, 22, 126, 219, 157, 188, 61], [78, 157, 197, 26, 74, 30, 254, 68, 105, 121, 204, 34, 10, 55, 254, 201, 110, 129, 147, 25, 161, 189, 158, 51, 97, 207, 243, 226, 66, 171, 177, 38], zero32] := by
 have e1 : l3S (pl15 A c) = [116, 154, 105, 171, 92, 249, 185, 26, 63, 152, 192, 119, 98, 8, 125, 91, 54, 112, 33, 181, 53, 178, 150, 98, 210, 33, 22, 126, 219, 157, 188, 61] := by
  unfold l3S
  rw [if_neg (show ¬ (pl15 A c).fin = 0 from (by decide : ¬ (7 : Nat) = 0))]
  exact fin7
 have e2 : l5S (pl15 A c) = zero32 := rfl
 unfold leavesU
 rw [e1, e2, show (pl15 A c).now = l16 from rfl, cmS16, cmR16]
theorem state15' : rootP [zero32, zero32, zero32, [116, 154, 105, 171, 92, 249, 185, 26, 63, 152, 192, 119, 98, 8, 125, 91, 54, 112, 33, 181, 53, 178, 150, 98, 210, 33, 22, 126, 219, 157, 188, 61], [78, 157, 197, 26, 74, 30, 254, 68, 105, 121, 204, 34, 10, 55, 254, 201, 110, 129, 147, 25, 161, 189, 158, 51, 97, 207, 243, 226, 66, 171, 177, 38], zero32] 3 = [221, 5, 18, 41, 158, 33, 141, 148, 214, 89, 142, 239, 231, 109, 28, 167, 71, 207, 202, 174, 151, 124, 245, 22, 135, 251, 39, 225, 128, 100, 28, 13] := by decide +kernel
theorem state15 (A : Option Addr) (c : Nat) : stateU (pl15 A c) = [221, 5, 18, 41, 158, 33, 141, 148, 214, 89, 142, 239, 231, 109, 28, 167, 71, 207, 202, 174, 151, 124, 245, 22, 135, 251, 39, 225, 128, 100, 28, 13] := by
 unfold stateU
 rw [leaves15]
 exact state15'
theorem seen9 : hdRoot (hdS 9 zero32 zero32 [221, 5, 18, 41, 158, 33, 141, 148, 214, 89, 142, 239, 231, 109, 28, 167, 71, 207, 202, 174, 151, 124, 245, 22, 135, 251, 39, 225, 128, 100, 28, 13]) = [82, 179, 148, 224, 204, 146, 163, 244, 173, 162, 77, 237, 124, 86, 159, 106, 58, 101, 128, 241, 31, 243, 2, 28, 180, 186, 166, 168, 157, 131, 252, 114] := by decide +kernel
def t15 : Bytes := [165, 40, 92, 213, 23, 88, 98, 167, 132, 189, 227, 19, 211, 16, 126, 28, 19, 105, 148, 234, 144, 105, 204, 116, 40, 2, 67, 123, 228, 116, 44, 81]
theorem text15' : sha ([82, 179, 148, 224, 204, 146, 163, 244, 173, 162, 77, 237, 124, 86, 159, 106, 58, 101, 128, 241, 31, 243, 2, 28, 180, 186, 166, 168, 157, 131, 252, 114] ++ numP (forkP 10)) = t15 := by decide +kernel
theorem text15 : textP (hdS 9 zero32 zero32 [221, 5, 18, 41, 158, 33, 141, 148, 214, 89, 142, 239, 231, 109, 28, 167, 71, 207, 202, 174, 151, 124, 245, 22, 135, 251, 39, 225, 128, 100, 28, 13]) 10 = t15 := by
 unfold textP
 rw [seen9]
 exact text15'
theorem hash15C : hashC t15 = some (zf 1402790116, zf 480698599) := by decide +kernel
theorem hash15 : hashE t15 = some (zf 1402790116, zf 480698599) := by rw [← hashC_eq]; exact hash15C
theorem sig15C : sumC (some (zf 1402790116, zf 480698599)) l11 none = some (zf 987742037, zf 807679422) := by decide +kernel
theorem sigs15 : sigsP l16 2047 t15 = l11.map fun n : Nat => keyB (n : Int) (hashE t15) := by kernel_rfl
theorem sig15 : sumE (sigsP l16 2047 t15) = some (some (zf 987742037, zf 807679422)) ∧ inG (some (zf 987742037, zf 807679422)) = true := by
 have := sumF_at (hash_in t15) l11 none inG_none (secrets_all secrets11)
 rw [← sigs15] at this
 rw [hash15, sig15C] at this
 exact this
theorem sigB15 : sumB (sigsP l16 2047 t15) = bytesE (some (zf 987742037, zf 807679422)) := by
 unfold sumB
 rw [sig15.1]
theorem keysP15 : keysP (keysS l16) 2047 = keysS l11 := by kernel_rfl
theorem pair15C : pairC (some (zf 987742037, zf 807679422)) genC = pairC (some (zf 1402790116, zf 480698599)) (some (zf 288055571, zf 1834833208)) := by decide +kernel
theorem pair15 : pairE (some (zf 987742037, zf 807679422)) genE = pairE (hashE t15) (some (zf 288055571, zf 1834833208)) := by
 rw [hash15, ← pairC_eq, ← pairC_eq, ← genC_eq]
 exact pair15C
theorem sameF_refl15 (x y : F2) (h : x = y) : sameF x y = true := by
 subst h
 unfold sameF
 rw [Bool.and_eq_true, beq_iff_eq, beq_iff_eq]
 exact ⟨rfl, rfl⟩
theorem none11 : ¬ ([0, 0, 0, 0, 0] : Bytes) ∈ k11 := by decide +kernel
theorem all15 : allB (keysP (keysS l16) 2047) t15 (bytesE (some (zf 987742037, zf 807679422))) = true := by
 rw [keysP15]
 unfold allB
 rw [sum11E]
 dsimp only
 rw [keys11, if_neg (by decide), if_neg none11]
 unfold holdsB
 rw [back_point sig15.2]
 dsimp only
 rw [show pf (some (zf 288055571, zf 1834833208)) = false from rfl, if_neg (by decide)]
 exact sameF_refl15 _ _ pair15
/-! what holds of all that was made -/
theorem exS_ok {slot : Nat} {a r : Bytes} (h1 : a.length = 32) (h2 : r.length = 32) : exOk (exS slot a r) = true :=
 decide_eq_true ⟨by decide, by decide, by show 3 ≤ 256; decide, by show 3 ≤ 4; decide, fun x hx => by
  simp only [exL, exS, List.mem_cons, List.not_mem_nil, or_false] at hx
  rcases hx with rfl | rfl | rfl
  ·exact h1
  ·exact h2
  ·exact numP_len _⟩
theorem check_branch {L : List Bytes} {i d : Nat} (hL : ∀ x ∈ L, x.length = 32) (hd : d ≤ 64) (hi : i < 2 ^ d) : CheckP (nodeP L 0 i) (branchP L i d) i (rootP L d) := by
 have hb := branchP_len L i d
 refine ⟨by rw [hb]; exact hd, node_len L hL 0 i, rootP_len hL, by rw [hb]; exact hi, branchP_all L hL i d, ?_⟩
 rw [way_back, rootP_node, Nat.div_eq_of_lt hi]
theorem under_branch {L : List Bytes} {i : Nat} (hL : ∀ x ∈ L, x.length = 32) (hi : i < 8) : underP (nodeP L 0 i) (branchP L i 3) i (rootP L 3) = true := by
 unfold underP
 rw [decide_eq_true (branchP_len L i 3), decide_eq_true (check_branch hL (by decide) hi)]
 rfl
theorem holds_made {l : Lt} {slot : Nat} {a r st : Bytes} (ho : lightOk a r st = true) (h1 : l.b = hdS slot a r st) (h2 : l.x = exS slot a r) (h3 : l.br.l = branchP (leavesS slot a r) 2 2) : holdsP l = true := by
 have ho2 := ho
 unfold lightOk at ho2
 simp only [Bool.and_eq_true, decide_eq_true_eq] at ho2
 have hR := (leaves_right slot a r ho2.1 ho2.2.1).2.2.2.2
 have hC := check_branch (i := 2) (d := 2) hR (by decide) (by decide)
 unfold holdsP
 rw [h1, h2, h3, hdS_ok ho, exS_ok ho2.1 ho2.2.1, decide_eq_true (branchP_len _ _ _)]
 rw [show (hdS slot a r st).body = rootP (leavesS slot a r) 2 from rfl]
 rw [show nodeP (leavesS slot a r) 0 2 = exRoot (exS slot a r) from rfl] at hC
 rw [decide_eq_true hC]
 rfl
theorem holds_bare {l : Lt} {slot : Nat} {a r st : Bytes} (ho : lightOk a r st = true) (h : l.bare = ltS slot a r st) : holdsP l = true :=
 holds_made ho (show l.bare.b = _ by rw [h]; rfl) (show l.bare.x = _ by rw [h]; rfl) (show l.bare.br.l = _ by rw [h]; rfl)
theorem begin_made {b : Bt} {slot : Nat} {l : List Nat} {a r : Bytes} (hg : goodB l a r = true) (h1 : b.now.ks.l = keysS l) (h2 : b.now.sum = sumB (keysS l)) (h3 : b.lt.b = hdS slot a r (bootSt l)) (h4 : b.lt.x = exS slot a r)
  (h5 : b.lt.br.l = branchP (leavesS slot a r) 2 2) (h6 : b.br.l = branchP (leavesB l) 4 3) : beginE (bootR slot l a r) b = 0 := by
 have hs : goodS l = true := by
  unfold goodB at hg
  rw [Bool.and_eq_true] at hg
  exact hg.1
 have ho : lightOk a r (bootSt l) = true := by rw [← goodB_eq hs]; exact hg
 have hc : cmOk b.now = true := by rw [cmOk_same (d := cmS l) h1 h2]; exact cmOk_cmS hs
 have hr : cmRoot b.now = cmRoot (cmS l) := cmRoot_same h1 h2
 have hu := under_branch (i := 4) (leavesB_right hs).2.2.2.2 (by decide)
 unfold beginE bootR
 rw [hc, holds_made ho h3 h4 h5, show (true && true) = true from rfl, if_pos rfl, if_pos hg, h3, if_pos rfl, hr, h6]
 rw [show (hdS slot a r (bootSt l)).state = rootP (leavesB l) 3 from rfl, show cmRoot (cmS l) = nodeP (leavesB l) 0 4 from rfl, hu, if_pos rfl]
theorem good_parts {p : Pl} (h : goodU p = true) : goodS p.now = true ∧ okN p = true ∧ accOk p = true ∧ okC p = true := by
 unfold goodU at h
 simp only [Bool.and_eq_true] at h
 refine ⟨h.1, h.2.1, h.2.2, ?_⟩
 unfold okC
 rw [h.2.2, Bool.or_true]
theorem up_state {p : Pl} {u : Up} (h : u.bare = upS p) : u.seen.b.state = stateU p := show u.bare.seen.b.state = _ by rw [h]; rfl
theorem up_lightOk {p : Pl} (h : goodU p = true) : lightOk p.acc p.rcp (stateU p) = true := by
 obtain ⟨h1, h2, h3, h4⟩ := good_parts h
 rw [lightOk_st (stateU_len h1 h4 h2)]
 exact h3
theorem up_seen {p : Pl} {u : Up} (hg : goodU p = true) (h : u.bare = upS p) : holdsP u.seen = true := holds_bare (slot := p.seen) (up_lightOk hg) (show u.bare.seen = _ by rw [h]; rfl)
theorem up_fin {p : Pl} {u : Up} (hg : goodU p = true) (h : u.bare = upS p) (h0 : p.fin ≠ 0) : underP (hdRoot u.fin.b) u.fb.l 3 u.seen.b.state = true := by
 obtain ⟨h1, h2, h3, h4⟩ := good_parts hg
 have hu := under_branch (i := 3) (leavesU_right h1 h4 h2).2.2.2.2 (by decide)
 have e1 : u.fin.b = (finS p).b := show u.bare.fin.b = _ by rw [h]; rfl
 have e2 : u.fb.l = fbS p := show u.bare.fb.l = _ by rw [h]; rfl
 rw [e1, e2, up_state h]
 unfold finS fbS
 rw [if_neg h0, if_neg h0]
 rw [show nodeP (leavesU p) 0 3 = l3S p from rfl] at hu
 unfold l3S at hu
 rw [if_neg h0] at hu
 exact hu
theorem up_next {p : Pl} {u : Up} (hg : goodU p = true) (h : u.bare = upS p) (h0 : p.next.length ≠ 0) : underP (cmRoot u.next) u.nb.l 5 u.seen.b.state = true := by
 obtain ⟨h1, h2, h3, h4⟩ := good_parts hg
 have hu := under_branch (i := 5) (leavesU_right h1 h4 h2).2.2.2.2 (by decide)
 have e1 : u.next.bare = (cmS p.next).bare := by
  have : u.bare.next = nxS p := by rw [h]; rfl
  unfold nxS at this
  rw [if_neg h0] at this
  exact this
 have e2 : u.nb.l = nbS p := show u.bare.nb.l = _ by rw [h]; rfl
 rw [cmRoot_bare e1, e2, up_state h]
 unfold nbS
 rw [if_neg h0]
 rw [show nodeP (leavesU p) 0 5 = l5S p from rfl] at hu
 unfold l5S at hu
 rw [if_neg h0] at hu
 exact hu

theorem check15 {b : Bt} {u : Up} {A : Option Addr} {c : Nat} (h1 : b.now.ks.l = keysS l16) (h2 : b.lt.b = hdS 5 zero32 zero32 (bootSt l16)) (hu : u.bare = upS (pl15 A c)) : checkE (beginP b) u 10 = 0 := by
 have hg := good15 A c
 have e1 : u.bits = 2047 := show u.bare.bits = _ by rw [hu]; rfl
 have e2 : u.slot = 10 := show u.bare.slot = _ by rw [hu]; rfl
 have e3 : u.seen.b = hdS 9 zero32 zero32 [221, 5, 18, 41, 158, 33, 141, 148, 214, 89, 142, 239, 231, 109, 28, 167, 71, 207, 202, 174, 151, 124, 245, 22, 135, 251, 39, 225, 128, 100, 28, 13] := by
  rw [← state15 A c]
  exact show u.bare.seen.b = _ by rw [hu]; rfl
 have e4 : u.fin.b.slot = 7 := show u.bare.fin.b.slot = _ by rw [hu]; rfl
 have e5 : u.fb.l.length = 3 := by
  have : u.fb.l = fbS (pl15 A c) := show u.bare.fb.l = _ by rw [hu]; rfl
  rw [this]
  exact branchP_len _ _ _
 have e6 : u.next.ks.l = [] := show u.bare.next.ks.l = _ by rw [hu]; rfl
 have e7 : u.nb.l = [] := show u.bare.nb.l = _ by rw [hu]; rfl
 have e8 : u.sig = bytesE (some (zf 987742037, zf 807679422)) := by
  have : u.sig = sigP (pl15 A c) (hdS 9 zero32 zero32 (stateU (pl15 A c))) := show u.bare.sig = _ by rw [hu]; rfl
  rw [this, state15]
  unfold sigP
  rw [show (pl15 A c).slot = 10 from rfl, text15]
  exact sigB15
 have e9 : holdsP u.fin = true := holds_bare (slot := 7) (a := zero32) (r := zero32) (st := zero32) rfl (show u.bare.fin = _ by rw [hu]; rfl)
 have f1 : isFinalP u = true := by unfold isFinalP; rw [e5]; rfl
 have f2 : (beginP b).fin.b.slot = 5 := show b.lt.b.slot = 5 by rw [h2]; rfl
 have f3 : hasNextP u = false := by unfold hasNextP knownP; rw [e6, e7]; rfl
 have f4 : knownP (beginP b).next = false := rfl
 have g1 : onesP u.bits ≠ 0 := by rw [e1]; decide +kernel
 have g2 : slotsE (beginP b) u 10 = 0 := by
  unfold slotsE finSlot
  rw [f1, e2, e3, e4, f2]
  rfl
 have g3 : finalE u = 0 := by
  unfold finalE
  rw [f1, e9, up_fin hg hu (show (pl15 A c).fin ≠ 0 from (by decide : (7 : Nat) ≠ 0))]
  rfl
 have g4 : nextE (beginP b) u = 0 := by
  unfold nextE
  rw [f3]
  rfl
 have g5 : sigE (beginP b) u = 0 := by
  unfold sigE commP
  rw [e2, f2, if_pos (show period 10 = period 5 from rfl), show (beginP b).now = b.now from rfl, h1, e1, e3, text15, e8, all15]
  rfl
 unfold checkE
 rw [if_neg g1, up_seen hg hu, if_pos rfl, g2, g3, g4, g5]
 rfl
end Go.Proofs.YtegaaccioppfjaaGreatDoor
end
section
namespace Go.Proofs.YtegaaccioppfjaaGreatDoor
open BigFrame Go.RowKit Go.Phx Go.Shelf
attribute [local go_sem] Oper.semAt_some

def NumsAll (w : World) (A : Option Addr) (c : Nat) (l : List Nat) : Prop := Nums w A l ∧ l.length ≤ c ∧ c ≤ maxLen ∧ ∀ n ∈ l, n < 18446744073709551616
theorem NumsAll.below {w w' : World} {A : Option Addr} {c : Nat} {l : List Nat} (h : NumsAll w A c l) (hB : Below w.heap.size w w') : NumsAll w' A c l := ⟨h.1.below hB, h.2⟩
theorem Nums.take {w : World} {A : Option Addr} {l : List Nat} (h : Nums w A l) (k : Nat) : Nums w A (l.take k) := fun h0 => by
 obtain ⟨b, o, ha, hb, hc⟩ := h (by rw [List.length_take] at h0; omega)
 refine ⟨b, o, ha, hb, fun i n hn => hc i n ?_⟩
 have hi := (List.getElem?_eq_some_iff.1 hn).1
 rw [List.getElem?_take_of_lt (by rw [List.length_take] at hi; omega)] at hn
 exact hn
theorem NumsAll.cut {w : World} {A : Option Addr} {c : Nat} {l : List Nat} (h : NumsAll w A c l) : NumsIn w A (l.take 20) := ⟨h.1.take 20, by rw [List.length_take]; omega, fun n hn => h.2.2.2 n (List.mem_of_mem_take hn)⟩
def PlAll (w : World) (p : Pl) : Prop := p.seen < 18446744073709551616 ∧ p.slot < 18446744073709551616 ∧ p.fin < 18446744073709551616 ∧ NumsAll w p.nowA p.nowC p.now ∧ NumsAll w p.nextA p.nextC p.next ∧ p.bits < 18446744073709551616 ∧ p.acc.length ≤ 1048576 ∧ p.rcp.length ≤ 1048576
def Pl.cut (p : Pl) : Pl := ⟨p.seen, p.slot, p.fin, p.nowA, p.nowC, p.now.take 20, p.nextA, p.nextC, p.next.take 20, p.bits, p.acc, p.rcp⟩
theorem PlAll.cut {w : World} {p : Pl} (h : PlAll w p) : PlIn w p.cut := ⟨h.1, h.2.1, h.2.2.1, h.2.2.2.1.cut, h.2.2.2.2.1.cut, h.2.2.2.2.2⟩
theorem PlAll.below {w w' : World} {p : Pl} (h : PlAll w p) (hB : Below w.heap.size w w') : PlAll w' p := ⟨h.1, h.2.1, h.2.2.1, h.2.2.2.1.below hB, h.2.2.2.2.1.below hB, h.2.2.2.2.2⟩
def Pl.zero : Pl := ⟨0, 0, 0, none, 0, [], none, 0, [], 0, [], []⟩

section
open Go.ChangeShapes Go.WideShapes Go.ChangeAt Go.Joins
set_option maxRecDepth 100000
variable {H : Type} {enc : TypeId × Value → H} {w : World} {base : Nat} {spare : Nat → Bool} {held : Bool} {r : Reach} {b0 : Nat} {v : Value} {d : DataW H} {p : List MemPlace} {fuel : Nat} {cs : List Value} {x : DataW H × List MemPlace}
theorem under_nums : Tryz.prog.underlying 61 = some (.slice 22) := by kernel_rfl
theorem under_num : Tryz.prog.underlying 22 = some (.int .u64) := by kernel_rfl
theorem openNums2 {A : Option Addr} {n c : Nat} (hf : DataW.trod enc Tryz.prog w base spare held fuel 61 [.slice A n c] = some x) : ∃ l : List Nat, n = l.length ∧ NumsAll w A c l := by
 rcases open_ints under_nums under_num (by kernel_rfl) hf with ⟨hc, hx⟩ | ⟨a, len, cap, zs, hc, _, hl, hm, hn, hx, hcell, hw⟩
 ·simp at hc
  obtain ⟨rfl, rfl, rfl⟩ := hc
  exact ⟨[], rfl, fun h0 => absurd h0 (by simp), Nat.le_refl _, Nat.zero_le _, by simp⟩
 ·simp at hc
  obtain ⟨rfl, rfl, rfl⟩ := hc
  have hlen : n ≤ zs.length := by rw [hn]; split <;> omega
  have ht : ((zs.take n).map Int.toNat).length = n := by rw [List.length_map, List.length_take]; omega
  have hz : ∀ z ∈ zs, 0 ≤ z ∧ z ≤ 18446744073709551615 := fun z hz => bounds_u64 (hw z hz)
  have hsp : 0 < zs.length → a.spot = none ∧ a.block < w.heap.size := fun h0 => by
   have h00 := hcell 0 h0
   have hb := World.block_lt_of_cell? _ _ h00
   rw [block_add] at hb
   refine ⟨?_, hb⟩
   rw [Addr.add, if_pos rfl] at h00
   unfold World.cell? at h00
   split at h00
   ·rename_i hh
    cases hs : a.spot with
    | none => rfl
    | some _ => rw [hs] at h00; simp at h00
   ·cases h00
  refine ⟨(zs.take n).map Int.toNat, ht.symm, fun h0 => ?_, by rw [ht]; exact hl, hm, fun m hm2 => ?_⟩
  ·rw [ht] at h0
   obtain ⟨hs, hb⟩ := hsp (by omega)
   obtain ⟨b, o, sp⟩ := a
   obtain rfl : sp = none := hs
   refine ⟨b, o, rfl, hb, fun i m hi => ?_⟩
   have hi2 : i < n := by have := (List.getElem?_eq_some_iff.1 hi).1; rw [ht] at this; exact this
   have hc := hcell i (by omega)
   rw [List.getElem?_map, List.getElem?_take_of_lt hi2, List.getElem?_eq_getElem (by omega)] at hi
   simp only [Option.map_some, Option.some.injEq] at hi
   rw [List.getD, List.getElem?_eq_getElem (show i < zs.length by omega)] at hc
   simp only [Option.getD_some] at hc
   have hp := (hz (zs[i]'(by omega)) (List.getElem_mem _)).1
   rw [show ((m : Nat) : Int) = zs[i]'(by omega) by rw [← hi]; exact Int.toNat_of_nonneg hp]
   rw [← show Addr.add ⟨b, o, none⟩ i = ⟨b, o + i, none⟩ by unfold Addr.add; split <;> simp_all]
   exact hc
  ·obtain ⟨z, hz1, rfl⟩ := List.mem_map.1 hm2
   have := hz z (List.mem_of_mem_take hz1)
   omega
theorem read_nums (h : DataW.trod enc Tryz.prog w base spare held fuel 61 cs = some x) : ∃ (A : Option Addr) (c : Nat) (l : List Nat), cs = [.slice A l.length c] ∧ NumsAll w A c l := by
 obtain ⟨A, n, c, rfl⟩ := slice_form under_nums h
 obtain ⟨l, rfl, hl⟩ := openNums2 h
 exact ⟨A, c, l, rfl, hl⟩
theorem openNums (hv : Value.okWide Tryz.prog w r b0 61 v) (h : DataW.Trod enc Tryz.prog w base spare held 61 v d p) : ∃ (A : Option Addr) (c : Nat) (l : List Nat), v = .slice A l.length c ∧ NumsAll w A c l := by
 obtain ⟨fuel, hf⟩ := h
 obtain ⟨A, n, c, rfl⟩ : ∃ A n c, v = .slice A n c := okWide_slice under_nums hv
 obtain ⟨l, rfl, hl⟩ := openNums2 (show DataW.trod enc Tryz.prog w base spare held fuel 61 [.slice A n c] = some (d, p) by simpa [Value.cells] using hf)
 exact ⟨A, c, l, rfl, hl⟩
theorem cellsPl : Tryz.prog.cellsOf 72 = 8 := by kernel_rfl
theorem cells_nums : Tryz.prog.cellsOf 61 = 1 := by kernel_rfl
theorem readPl (h : DataW.trod enc Tryz.prog w base spare held fuel 72 cs = some x) (hb : Rows.uptoBulk x.1 ≤ 1048576) : ∃ a : Pl, cs = plC a ∧ PlAll w a := by
 obtain ⟨xs, n, _, rfl, hl, hlen, hf⟩ := DataW.trod_struct Tryz.underlying72 h
 rw [cellsPl] at hl
 obtain ⟨y0, y1, y2, y3, y4, y5, y6, y7, rfl⟩ : ∃ y0 y1 y2 y3 y4 y5 y6 y7, xs = [y0, y1, y2, y3, y4, y5, y6, y7] := by
  match xs, hlen with
  | [y0, y1, y2, y3, y4, y5, y6, y7], _ => exact ⟨y0, y1, y2, y3, y4, y5, y6, y7, rfl⟩
 have g0 : DataW.trod enc Tryz.prog w base spare held n 22 ((cs.drop 0).take (Tryz.prog.cellsOf 22)) = some y0 := hf 0 _ rfl
 rw [cells_u64] at g0
 obtain ⟨a0, e0, i0⟩ := read_u64 g0
 have g1 : DataW.trod enc Tryz.prog w base spare held n 22 ((cs.drop 1).take (Tryz.prog.cellsOf 22)) = some y1 := hf 1 _ rfl
 rw [cells_u64] at g1
 obtain ⟨a1, e1, i1⟩ := read_u64 g1
 have g2 : DataW.trod enc Tryz.prog w base spare held n 22 ((cs.drop 2).take (Tryz.prog.cellsOf 22)) = some y2 := hf 2 _ rfl
 rw [cells_u64] at g2
 obtain ⟨a2, e2, i2⟩ := read_u64 g2
 have g3 : DataW.trod enc Tryz.prog w base spare held n 61 ((cs.drop 3).take (Tryz.prog.cellsOf 61)) = some y3 := hf 3 _ rfl
 rw [cells_nums] at g3
 obtain ⟨A3, c3, a3, e3, i3⟩ := read_nums g3
 have g4 : DataW.trod enc Tryz.prog w base spare held n 61 ((cs.drop 4).take (Tryz.prog.cellsOf 61)) = some y4 := hf 4 _ rfl
 rw [cells_nums] at g4
 obtain ⟨A4, c4, a4, e4, i4⟩ := read_nums g4
 have g5 : DataW.trod enc Tryz.prog w base spare held n 22 ((cs.drop 5).take (Tryz.prog.cellsOf 22)) = some y5 := hf 5 _ rfl
 rw [cells_u64] at g5
 obtain ⟨a5, e5, i5⟩ := read_u64 g5
 have g6 : DataW.trod enc Tryz.prog w base spare held n 9 ((cs.drop 6).take (Tryz.prog.cellsOf 9)) = some y6 := hf 6 _ rfl
 rw [cells_str] at g6
 obtain ⟨a6, e6, i6⟩ := read_str g6 (agg_part hb (by simp))
 have g7 : DataW.trod enc Tryz.prog w base spare held n 9 ((cs.drop 7).take (Tryz.prog.cellsOf 9)) = some y7 := hf 7 _ rfl
 rw [cells_str] at g7
 obtain ⟨a7, e7, i7⟩ := read_str g7 (agg_part hb (by simp))
 refine ⟨⟨a0, a1, a2, A3, c3, a3, A4, c4, a4, a5, a6, a7⟩, ?_, i0, i1, i2, i3, i4, i5, i6, i7⟩
 show cs = _
 have ed : cs.drop 8 = [] := List.drop_eq_nil_of_le (by omega)
 rw [show cs = cs.drop 0 from rfl, cut_list cs 0 1 1 rfl, e0, cut_list cs 1 1 2 rfl, e1, cut_list cs 2 1 3 rfl, e2, cut_list cs 3 1 4 rfl, e3, cut_list cs 4 1 5 rfl, e4, cut_list cs 5 1 6 rfl, e5, cut_list cs 6 1 7 rfl, e6, cut_list cs 7 1 8 rfl, e7, ed]
 simp [plC]
theorem openPl (hv : Value.okWide Tryz.prog w r b0 72 v) (h : DataW.Trod enc Tryz.prog w base spare held 72 v d p) (hb : Rows.uptoBulk d ≤ 1048576) : ∃ a : Pl, v = plV a ∧ PlAll w a := by
 obtain ⟨cs, rfl, hsz⟩ := okWide_struct Tryz.underlying72 hv
 obtain ⟨fuel, hf⟩ := h
 obtain ⟨a, e, i⟩ := readPl (x := (d, p)) (by simpa [Value.cells] using hf) hb
 exact ⟨a, by rw [plV, plA, ← e], i⟩
end
def plD0 (H : Type) : DataW H := .agg [.lit (.int .u64 0), .lit (.int .u64 0), .lit (.int .u64 0), .nil, .nil, .lit (.int .u64 0), .lit (.string []), .lit (.string [])]

/-! two Boots alike, by the reference -/
def sameBt (a b : Bt) : Bool := sameLt a.lt b.lt && (sameCm a.now b.now && a.br.l == b.br.l)
def Bt.bare (b : Bt) : Bt := ⟨b.lt.bare, b.now.bare, b.br.bare⟩
theorem sameBt_bare {a b : Bt} (h : a.bare = b.bare) : sameBt a b = true := by
 have h2 : sameBt a b = sameBt a.bare b.bare := rfl
 rw [h2, h]
 unfold sameBt
 rw [sameLt_refl, sameCm_refl, beq_self_eq_true]
 rfl
theorem rsameBt_calls (a b : Bt) (w : World) (ha : BtIn w a) (hb : BtIn w b) : Calls Tryz.prog 46 #[btV a, btV b] w (Ret w (.bool (sameBt a b))) := by
 have n1 := fun W (hB : Below w.heap.size w W) => rsameLt_calls a.lt b.lt W (ha.1.below hB) (hb.1.below hB)
 have n2 := fun W (hB : Below w.heap.size w W) => rsameCm_calls a.now b.now W (ha.2.1.below hB) (hb.2.1.below hB)
 have n3 := fun W (hB : Below w.heap.size w W) => lrowsame a.br.addr b.br.addr a.br.cap b.br.cap a.br.l b.br.l ha.2.2.2.2.1 hb.2.2.2.2.1 W (Txts.below ha.2.2.1 hB) (Txts.below hb.2.2.1 hB)
 have hE : sameBt a b = (sameLt a.lt b.lt && (sameCm a.now b.now && a.br.l == b.br.l)) := rfl
 rw [hE]
 clear hE
 generalize sameLt a.lt b.lt = r1 at *
 generalize sameCm a.now b.now = r2 at *
 generalize (a.br.l == b.br.l) = r3 at *
 replace n1 := Lib.hid n1
 replace n2 := Lib.hid n2
 replace n3 := Lib.hid n3
 clear ha hb
 go_enter Tryz.func46, Tryz.ntmps46
 go_upto_region 1 with fail
 have HB : Below w.heap.size w ((w.alloc (.cells (btA a) 45)).alloc (.cells (btA b) 45)) := bel
 have K0 := (Blk.new0 w 45 (btA a)).alloc (.cells (btA b) 45)
 have K1 := Blk.new1 w (.cells (btA a) 45) 45 (btA b)
 obtain ⟨W, hW⟩ : ∃ W, ((w.alloc (.cells (btA a) 45)).alloc (.cells (btA b) 45)) = W := ⟨_, rfl⟩
 rw [hW] at HB K0 K1 ⊢
 clear hW
 have hgl : w.heap.size ≤ w.heap.size := Nat.le_refl _
 obtain ⟨g, hg⟩ : ∃ g, w.heap.size = g := ⟨_, rfl⟩
 rw [hg] at K0 K1 ⊢
 replace hgl : w.heap.size ≤ g := by omega
 replace K0 := Lib.hid K0
 replace K1 := Lib.hid K1
 clear hg
 (obtain ⟨k0, f0, l0, m0⟩ := rl_ K0; obtain ⟨k1, f1, l1, m1⟩ := rl_ K1)
 go_wp2_with fail
 (refine (n1.out _ HB).mono ?_; rintro e w1 ⟨rfl, hN⟩; replace K0 := hn_ K0 hN; replace K1 := hn_ K1 hN; replace HB : Below w.heap.size w w1 := Below.on hN HB; clear hN k0 f0 l0 m0 k1 f1 l1 m1; obtain ⟨k0, f0, l0, m0⟩ := rl_ K0; obtain ⟨k1, f1, l1, m1⟩ := rl_ K1)
 go_wp2_with fail
 (refine (n2.out _ HB).mono ?_; rintro e w2 ⟨rfl, hN⟩; replace K0 := hn_ K0 hN; replace K1 := hn_ K1 hN; replace HB : Below w.heap.size w w2 := Below.on hN HB; clear hN k0 f0 l0 m0 k1 f1 l1 m1; obtain ⟨k0, f0, l0, m0⟩ := rl_ K0; obtain ⟨k1, f1, l1, m1⟩ := rl_ K1)
 cases r1 with
 | false =>
  go_wp2_with fail
  go_ret
  exact ⟨rfl, HB⟩
 | true =>
  cases r2 with
  | false =>
   go_wp2_with fail
   go_ret
   exact ⟨rfl, HB⟩
  | true =>
   go_wp2_with fail
   (refine (n3.out _ HB).mono ?_; rintro e w3 ⟨rfl, hN⟩; replace K0 := hn_ K0 hN; replace K1 := hn_ K1 hN; replace HB : Below w.heap.size w w3 := Below.on hN HB; clear hN k0 f0 l0 m0 k1 f1 l1 m1; obtain ⟨k0, f0, l0, m0⟩ := rl_ K0; obtain ⟨k1, f1, l1, m1⟩ := rl_ K1)
   go_wp2_with fail
   go_ret
   exact ⟨rfl, HB⟩
end Go.Proofs.YtegaaccioppfjaaGreatDoor
end
section
namespace Go.Proofs.YtegaaccioppfjaaGreatDoor
open BigFrame Go.RowKit Go.Phx Go.Shelf
attribute [local go_sem] Oper.semAt_some

theorem run_zeros15 (n : Nat) (hn : n ≤ 65536) (w : World) : ∃ w1 v, (Instr.makeSlice 108 (.int .i64 n) (.int .i64 n)).run Tryz.prog w = .ok v w1 ∧ (convert 108 9 v).run Tryz.prog w1 = .ok (.string (bs (List.replicate n 0))) w1 ∧ Below w.heap.size w w1 := by
 obtain ⟨i0, hi, hz0, hz1, hz2⟩ := info_parts infoU8
 obtain ⟨w1, hmk, hown, hgr⟩ := run_make_full (P := Tryz.prog) w w.heap.size 108 5 i0 (.int .u8 0) 1 Tryz.underlying108 hi hz0 hz1 .i64 .i64 n (by rw [hz2]; omega) (by unfold maxLen; omega) (Nat.le_refl _)
 have hcs : (madeCells (Value.int .u8 0).cells (n * 1)).toList = (List.replicate n (0 : UInt8)).map bv := by
  rw [show (Value.int IntKind.u8 0).cells = #[Value.int .u8 0] from rfl, Nat.mul_one, toList_madeCells_one, List.map_replicate]
  rfl
 rw [hcs] at hown
 exact ⟨w1, _, hmk, conv_cells w1 _ _ n n (by simp) (own_cells hown), (Below.refl w.heap.size w).grown hgr (Nat.le_refl _) (fun k e => by cases e)⟩
theorem rmnought_calls (w : World) : Calls Tryz.prog 104 #[] w (Ret w (.string (bs zero32))) := by
 obtain ⟨w1, v, hmk, hcv, hB⟩ := run_zeros15 32 (by omega) w
 simp only [show ((32 : Nat) : Int) = 32 from rfl] at hmk
 replace hcv : (convert 108 9 v).run Tryz.prog w1 = .ok (.string (bs zero32)) w1 := hcv
 go_enter Tryz.func104, Tryz.ntmps104
 go_wp2_with fail
 go_ret
 exact ⟨rfl, hB⟩
theorem build_hd5 (h : Hd) (w : World) : (Instr.build 24 #[(0, .int .u64 h.slot), (1, .int .u64 h.prop), (2, .string (bs h.parent)), (3, .string (bs h.state)), (4, .string (bs h.body))]).run Tryz.prog w = .ok (hdV h) w :=
 run_build w _ _ (hdA h) (by kernel_rfl)
theorem build_lt3 (l : Lt) (w : World) : (Instr.build 29 #[(0, hdV l.b), (1, exV l.x), (2, .slice l.br.addr l.br.l.length l.br.cap)]).run Tryz.prog w = .ok (ltV l) w :=
 run_build w _ _ (ltA l) (by kernel_rfl)
theorem rmlight_calls (slot : Nat) (a r st : Bytes) (hn : slot < 18446744073709551616) (w : World) : Calls Tryz.prog 43 #[.int .u64 slot, .string (bs a), .string (bs r), .string (bs st)] w
  (fun e w' => ∃ lt, e = .returned (.tuple #[ltV lt, .int .i64 (lightE a r st)]) ∧ LtOf w' slot a r st lt ∧ RwNew w.heap.size lt.br ∧ Below w.heap.size w w') := by
 have K0 := Lib.hid (Blk.new0 w 29 (ltA Lt.zero))
 have HB : Below w.heap.size w (w.alloc (.cells (ltA Lt.zero) 29)) := bel
 go_enter Tryz.func43, Tryz.ntmps43
 go_upto_region 1 with fail
 obtain ⟨W, hW⟩ : ∃ W, w.alloc (.cells (ltA Lt.zero) 29) = W := ⟨_, rfl⟩
 have hsz := Lib.hid (show W.heap.size = w.heap.size + 1 by rw [← hW]; simp)
 rw [hW] at K0 HB ⊢
 clear hW
 obtain ⟨g, hg⟩ : ∃ g, w.heap.size = g := ⟨_, rfl⟩
 have hgl : w.heap.size ≤ g := by omega
 replace hsz := Lib.hid (show W.heap.size = g + 1 by rw [hsz.out, hg])
 rw [hg] at K0 ⊢
 clear hg
 (obtain ⟨k0, f0, l0, m0⟩ := rl_ K0)
 by_cases h1 : a.length = 32
 rotate_left
 ·have e1 : ((a.length : Int) != 32) = true := by simp; omega
  have e2 : ((a.length : Int) == 32) = false := by simp; omega
  have hk0 := Lib.hid (show lightOk a r st = false by unfold lightOk; simp [h1])
  have hE := Lib.hid (show lightE a r st = 2 by unfold lightE; rw [hk0.out]; rfl)
  clear h1 hn hsz
  (go_wp2_with (first | (with_reducible refine wsh (stLt _ K0.out (Lt.zero)) rfl rfl ?_)); generalize hWN : setRow _ _ _ _ = WN; replace K0 := Lib.hid (show Blk WN _ _ _ by rw [← hWN]; exact Blk.row K0.out.lt); replace HB : Below w.heap.size w WN := (by rw [← hWN]; exact Below.row HB (by omega) HB.size); clear hWN k0 f0 l0 m0; obtain ⟨k0, f0, l0, m0⟩ := rl_ K0; unfold Halted)
  go_wp2_with fail
  exact bodyPost_ret (results_cell2 rfl rfl (ldLt _ K0.out)) rfl ⟨Lt.zero, by rw [hE.out]; rfl, ⟨LtIn.zero _, fun h => (by rw [hk0.out] at h; cases h), fun _ => rfl⟩, RwNew.zero _, HB⟩
 have e1 : ((a.length : Int) != 32) = false := by simp; omega
 have e2 : ((a.length : Int) == 32) = true := by simp; omega
 by_cases h2 : r.length = 32
 rotate_left
 ·have e3 : ((r.length : Int) != 32) = true := by simp; omega
  have e4 : ((r.length : Int) == 32) = false := by simp; omega
  have hk0 := Lib.hid (show lightOk a r st = false by unfold lightOk; simp [h2])
  have hE := Lib.hid (show lightE a r st = 2 by unfold lightE; rw [hk0.out]; rfl)
  clear h1 h2 hn hsz
  (go_wp2_with (first | (with_reducible refine wsh (stLt _ K0.out (Lt.zero)) rfl rfl ?_)); generalize hWN : setRow _ _ _ _ = WN; replace K0 := Lib.hid (show Blk WN _ _ _ by rw [← hWN]; exact Blk.row K0.out.lt); replace HB : Below w.heap.size w WN := (by rw [← hWN]; exact Below.row HB (by omega) HB.size); clear hWN k0 f0 l0 m0; obtain ⟨k0, f0, l0, m0⟩ := rl_ K0; unfold Halted)
  go_wp2_with fail
  exact bodyPost_ret (results_cell2 rfl rfl (ldLt _ K0.out)) rfl ⟨Lt.zero, by rw [hE.out]; rfl, ⟨LtIn.zero _, fun h => (by rw [hk0.out] at h; cases h), fun _ => rfl⟩, RwNew.zero _, HB⟩
 have e3 : ((r.length : Int) != 32) = false := by simp; omega
 have e4 : ((r.length : Int) == 32) = true := by simp; omega
 by_cases h3 : st.length = 32
 rotate_left
 ·have e5 : ((st.length : Int) != 32) = true := by simp; omega
  have e6 : ((st.length : Int) == 32) = false := by simp; omega
  have hk0 := Lib.hid (show lightOk a r st = false by unfold lightOk; simp [h3])
  have hE := Lib.hid (show lightE a r st = 2 by unfold lightE; rw [hk0.out]; rfl)
  clear h1 h2 h3 hn hsz
  (go_wp2_with (first | (with_reducible refine wsh (stLt _ K0.out (Lt.zero)) rfl rfl ?_)); generalize hWN : setRow _ _ _ _ = WN; replace K0 := Lib.hid (show Blk WN _ _ _ by rw [← hWN]; exact Blk.row K0.out.lt); replace HB : Below w.heap.size w WN := (by rw [← hWN]; exact Below.row HB (by omega) HB.size); clear hWN k0 f0 l0 m0; obtain ⟨k0, f0, l0, m0⟩ := rl_ K0; unfold Halted)
  go_wp2_with fail
  exact bodyPost_ret (results_cell2 rfl rfl (ldLt _ K0.out)) rfl ⟨Lt.zero, by rw [hE.out]; rfl, ⟨LtIn.zero _, fun h => (by rw [hk0.out] at h; cases h), fun _ => rfl⟩, RwNew.zero _, HB⟩
 have e5 : ((st.length : Int) != 32) = false := by simp; omega
 have e6 : ((st.length : Int) == 32) = true := by simp; omega
 have hk1 := Lib.hid (show lightOk a r st = true by unfold lightOk; simp [h1, h2, h3])
 have hE := Lib.hid (show lightE a r st = 0 by unfold lightE; rw [hk1.out]; rfl)
 have hx : ExIn w (exS slot a r) := ⟨by show a.length ≤ _; omega, by show r.length ≤ _; omega, hn⟩
 have n1 := fun W (hB : Below w.heap.size w W) => reroot_calls (exS slot a r) W (hx.below hB)
 have n2 := fun W => rnumber_calls slot hn W
 have hR := leaves_right slot a r (by omega) (by omega)
 have n3 : ∀ A W, Txts W A (leavesS slot a r) → Calls Tryz.prog 92 #[.slice A 3 3, .int .i64 2] W (Ret W (.tuple #[.string (bs (rootP (leavesS slot a r) 2)), .int .i64 0])) := fun A W hT => rroot_yes A 3 (leavesS slot a r) 2 hR W hT
 have n4 : ∀ A W, Txts W A (leavesS slot a r) → Calls Tryz.prog 105 #[.slice A 3 3, .int .i64 2, .int .i64 2] W (fun e w' => ∃ v, e = .returned (.tuple #[v, .int .i64 0]) ∧ LRow W.heap.size w' v (branchP (leavesS slot a r) 2 2) ∧ Below W.heap.size W w') := fun A W hT => rbranch_yes A 3 (leavesS slot a r) 2 2 hR (by decide) W hT
 have hst : st.length ≤ 1048576 := by omega
 have hrl : (rootP (leavesS slot a r) 2).length ≤ 1048576 := by rw [rootP_len hR.2.2.2.2]; decide
 have hbrl : (branchP (leavesS slot a r) 2 2).length = 2 := branchP_len _ _ _
 have hbra : ∀ x ∈ branchP (leavesS slot a r) 2 2, x.length ≤ 1048576 := fun x hx => by rw [branch_all9 _ hR.2.2.2.2 _ _ x hx]; decide
 have hnpl : (numP slot).length ≤ 1048576 := by rw [numP_len]; decide
 have hp : slot % 16 < 18446744073709551616 := by omega
 have hr1 : ((slot : Int) % 16) = ((slot % 16 : Nat) : Int) := by omega
 have hr2 : IntKind.u64.wrap ((slot % 16 : Nat) : Int) = ((slot % 16 : Nat) : Int) := IntWalk.u64_in _ (by omega)
 have hr3 : Int.tmod (slot : Int) 16 = ((slot % 16 : Nat) : Int) := by rw [Int.tmod_eq_emod_of_nonneg (by omega)]; exact hr1
 have hTx : ∀ W : World, Txts (W.alloc (.cells #[.string (bs (numP slot)), .string (bs zero32), .string (bs (exRoot (exS slot a r)))] 9)) (some ⟨W.heap.size, 0, none⟩) (leavesS slot a r) := fun W => txts_new W (leavesS slot a r)
 obtain ⟨ro, hro⟩ : ∃ ro, rootP (leavesS slot a r) 2 = ro := ⟨_, rfl⟩
 obtain ⟨br, hbr⟩ : ∃ br, branchP (leavesS slot a r) 2 2 = br := ⟨_, rfl⟩
 rw [hro] at n3 hrl
 rw [hbr] at n4 hbrl hbra
 replace hbra := Lib.hid hbra
 replace hbrl := Lib.hid hbrl
 obtain ⟨er, her⟩ : ∃ er, exRoot (exS slot a r) = er := ⟨_, rfl⟩
 obtain ⟨ee, hee⟩ : ∃ ee, exE (exS slot a r) = ee := ⟨_, rfl⟩
 rw [her, hee] at n1
 rw [her] at hTx
 obtain ⟨np, hnp⟩ : ∃ np, numP slot = np := ⟨_, rfl⟩
 rw [hnp] at n2 hnpl hTx
 obtain ⟨p, hpe⟩ : ∃ p, slot % 16 = p := ⟨_, rfl⟩
 rw [hpe] at hr1 hr2 hr3 hp
 obtain ⟨L, hL⟩ : ∃ L, leavesS slot a r = L := ⟨_, rfl⟩
 rw [hL] at n3 n4 hTx
 replace n1 := Lib.hid n1
 replace n2 := Lib.hid n2
 replace n3 := Lib.hid n3
 replace n4 := Lib.hid n4
 replace hTx := Lib.hid hTx
 replace hx := Lib.hid hx
 replace hro := Lib.hid hro
 replace hbr := Lib.hid hbr
 replace hnp := Lib.hid hnp
 replace hpe := Lib.hid hpe
 clear hee her hL hR h1 h2 h3
 go_upto_region 3 with fail
 clear e1 e2 e3 e4 e5 e6
 (go_wp2_with (first | (with_reducible refine wpList_build_run (o := ⟨_, .build 26 _, _, _, _, none⟩) (build_ex slot a r _) rfl _ rfl (by with_unfolding_all rfl) ?_) | (with_reducible refine wsh (stEx (Ex.zero) (Blk.new0 W 26 (exA (Ex.zero))) (exS slot a r)) rfl rfl ?_)); generalize hWN : setRow _ _ _ _ = WN; replace K0 := Lib.hid (show Blk WN _ _ _ by rw [← hWN]; exact Blk.rowOver (Nat.ne_of_lt K0.out.lt) (K0.out.alloc _)); replace K1 := (show Blk WN (World.heap W).size 26 (exA (exS slot a r)) by rw [← hWN]; exact Blk.row (by simp)); have HBn : Below w.heap.size w WN := (by rw [← hWN]; exact Below.row (HB.alloc HB.size _) HB.size (by have := HB.size; simp; omega)); obtain ⟨g1, hgj⟩ : ∃ g, (World.heap W).size = g := ⟨_, rfl⟩; have hg0_1 : _ < g1 := (by rw [← hgj]; exact l0); have hgl1 : w.heap.size ≤ g1 := (by rw [← hgj]; exact HB.size); rw [hgj] at K1 ⊢; replace K1 := Lib.hid K1; clear hWN hgj HB k0 f0 l0 m0; have HB := HBn; clear HBn; obtain ⟨k0, f0, l0, m0⟩ := rl_ K0; obtain ⟨k1, f1, l1, m1⟩ := rl_ K1; unfold Halted)
 clear hsz
 obtain ⟨w2, rfl⟩ : ∃ w', w' = WN := ⟨_, rfl⟩
 go_wp2_with (with_reducible refine wlr (ldEx _ K1.out) rfl ?_)
 (refine (n1.out _ HB).mono ?_; rintro e w3 ⟨rfl, hN⟩; replace K0 := hn_ K0 hN; replace K1 := hn_ K1 hN; replace HB : Below w.heap.size w w3 := Below.on hN HB; clear hN k0 f0 l0 m0 k1 f1 l1 m1; obtain ⟨k0, f0, l0, m0⟩ := rl_ K0; obtain ⟨k1, f1, l1, m1⟩ := rl_ K1)
 go_wp2_with fail
 (refine (n2.out _).mono ?_; rintro e w4 ⟨rfl, hN⟩; replace K0 := hn_ K0 hN; replace K1 := hn_ K1 hN; replace HB : Below w.heap.size w w4 := Below.on hN HB; clear hN k0 f0 l0 m0 k1 f1 l1 m1; obtain ⟨k0, f0, l0, m0⟩ := rl_ K0; obtain ⟨k1, f1, l1, m1⟩ := rl_ K1)
 go_wp2_with fail
 (refine (rmnought_calls _).mono ?_; rintro e w5 ⟨rfl, hN⟩; replace K0 := hn_ K0 hN; replace K1 := hn_ K1 hN; replace HB : Below w.heap.size w w5 := Below.on hN HB; clear hN k0 f0 l0 m0 k1 f1 l1 m1; obtain ⟨k0, f0, l0, m0⟩ := rl_ K0; obtain ⟨k1, f1, l1, m1⟩ := rl_ K1)
 go_upto_region 6 with fail
 obtain ⟨W6, hW6⟩ : ∃ W', w5.alloc (.cells #[.string (bs np), .string (bs zero32), .string (bs er)] 9) = W' := ⟨_, rfl⟩
 obtain ⟨g6, hg6⟩ : ∃ g6, w5.heap.size = g6 := ⟨_, rfl⟩
 have N0 := Lib.hid (show Blk W6 _ _ _ by rw [← hW6]; exact K0.out.alloc _)
 have N1 := Lib.hid (show Blk W6 _ _ _ by rw [← hW6]; exact K1.out.alloc _)
 have TX := Lib.hid (show Txts W6 (some ⟨g6, 0, none⟩) L by rw [← hW6, ← hg6]; exact hTx.out w5)
 have HBn : Below w.heap.size w W6 := by rw [← hW6]; exact HB.alloc HB.size _
 have hz6 : g1 + 1 ≤ W6.heap.size := by rw [← hW6]; simp; omega
 rw [hW6, hg6]
 clear hW6 hg6 k0 f0 l0 m0 K0 k1 f1 l1 m1 K1 HB hTx n1
 have K0 := N0; have K1 := N1; have HB := HBn
 clear N0 N1 HBn
 (obtain ⟨k0, f0, l0, m0⟩ := rl_ K0; obtain ⟨k1, f1, l1, m1⟩ := rl_ K1)
 go_wp2_with fail
 (refine (n3.out _ _ TX.out).mono ?_; rintro e w7 ⟨rfl, hN⟩; replace K0 := hn_ K0 hN; replace K1 := hn_ K1 hN; have NTX := Lib.hid (TX.out.below hN); replace HB : Below w.heap.size w w7 := Below.on hN HB; clear hN k0 f0 l0 m0 k1 f1 l1 m1 TX; have TX := NTX; clear NTX; obtain ⟨k0, f0, l0, m0⟩ := rl_ K0; obtain ⟨k1, f1, l1, m1⟩ := rl_ K1)
 have hz7 : g1 + 1 ≤ w7.heap.size := by omega
 clear n3
 go_wp2_with fail
 (refine (n4.out _ _ TX.out).mono ?_; rintro e w8 ⟨v, rfl, hRv, hN⟩; replace K0 := hn_ K0 hN; replace K1 := hn_ K1 hN; replace HB : Below w.heap.size w w8 := Below.on hN HB; clear hN k0 f0 l0 m0 k1 f1 l1 m1; obtain ⟨k0, f0, l0, m0⟩ := rl_ K0; obtain ⟨k1, f1, l1, m1⟩ := rl_ K1)
 obtain ⟨A5, c5, rfl, _⟩ := hRv.txts
 have F1 := Lib.hid (row_in hRv (by rw [hbrl.out]; decide) hbra.out)
 have F1n := Lib.hid (row_newer (base' := g + 1) hRv (by omega))
 clear hRv n4 TX hz6 hz7
 go_wp2_with fail
 (refine (n2.out _).mono ?_; rintro e w9 ⟨rfl, hN⟩; replace K0 := hn_ K0 hN; replace K1 := hn_ K1 hN; have NF1 := Lib.hid (F1.out.below hN); replace HB : Below w.heap.size w w9 := Below.on hN HB; clear hN k0 f0 l0 m0 k1 f1 l1 m1 F1; have F1 := NF1; clear NF1; obtain ⟨k0, f0, l0, m0⟩ := rl_ K0; obtain ⟨k1, f1, l1, m1⟩ := rl_ K1)
 (go_wp2_with (first | (with_reducible refine wpList_build_run (o := ⟨_, .build 24 _, _, _, _, none⟩) (build_hd5 ⟨slot, p, np, st, ro⟩ _) rfl _ rfl (by with_unfolding_all rfl) ?_) | (with_reducible refine wsh (stHd (Hd.zero) (Blk.new0 w9 24 (hdA (Hd.zero))) (⟨slot, p, np, st, ro⟩)) rfl rfl ?_)); generalize hWN : setRow _ _ _ _ = WN; replace K0 := Lib.hid (show Blk WN _ _ _ by rw [← hWN]; exact Blk.rowOver (Nat.ne_of_lt K0.out.lt) (K0.out.alloc _)); replace K1 := Lib.hid (show Blk WN _ _ _ by rw [← hWN]; exact Blk.rowOver (Nat.ne_of_lt K1.out.lt) (K1.out.alloc _)); replace K2 := (show Blk WN (World.heap w9).size 24 (hdA (⟨slot, p, np, st, ro⟩)) by rw [← hWN]; exact Blk.row (by simp)); have HBn : Below w.heap.size w WN := (by rw [← hWN]; exact Below.row (HB.alloc HB.size _) HB.size (by have := HB.size; simp; omega)); have HBx : Below (World.heap w9).size w9 WN := (by rw [← hWN]; exact Below.row ((Below.refl _ _).alloc (Nat.le_refl _) _) (Nat.le_refl _) (by simp)); have NF1 := Lib.hid (F1.out.below HBx); obtain ⟨g2, hgj⟩ : ∃ g, (World.heap w9).size = g := ⟨_, rfl⟩; have hg0_2 : _ < g2 := (by rw [← hgj]; exact l0); have hg1_2 : _ < g2 := (by rw [← hgj]; exact l1); have hgl2 : w.heap.size ≤ g2 := (by rw [← hgj]; exact HB.size); rw [hgj] at K2 ⊢; replace K2 := Lib.hid K2; clear hWN hgj HB HBx k0 f0 l0 m0 k1 f1 l1 m1 F1; have F1 := NF1; clear NF1; have HB := HBn; clear HBn; obtain ⟨k0, f0, l0, m0⟩ := rl_ K0; obtain ⟨k1, f1, l1, m1⟩ := rl_ K1; obtain ⟨k2, f2, l2, m2⟩ := rl_ K2; unfold Halted)
 obtain ⟨w10, rfl⟩ : ∃ w', w' = WN := ⟨_, rfl⟩
 clear n2
 go_wp2_with (first | (with_reducible refine wlr (ldHd _ K2.out) rfl ?_) | (with_reducible refine wlr (ldEx _ K1.out) rfl ?_) | (with_reducible refine wpList_build_run (o := ⟨_, .build 29 _, _, _, _, none⟩) (build_lt3 ⟨⟨slot, p, np, st, ro⟩, exS slot a r, ⟨A5, c5, br⟩⟩ _) rfl _ rfl (by with_unfolding_all rfl) ?_) | (with_reducible refine wsh (stLt _ K0.out ⟨⟨slot, p, np, st, ro⟩, exS slot a r, ⟨A5, c5, br⟩⟩) rfl rfl ?_))
 generalize hWN : setRow _ _ _ _ = WN
 have N0 := Lib.hid (show Blk WN g 29 (ltA ⟨⟨slot, p, np, st, ro⟩, exS slot a r, ⟨A5, c5, br⟩⟩) by rw [← hWN]; exact Blk.row K0.out.lt)
 have R9 := Lib.hid (show RwIn WN ⟨A5, c5, br⟩ by rw [← hWN]; exact F1.out.put F1n.out (by omega))
 have HBn : Below w.heap.size w WN := (by rw [← hWN]; exact Below.row HB (by omega) HB.size)
 clear hWN HB K0 k0 f0 l0 m0 K1 k1 f1 l1 m1 K2 k2 f2 l2 m2 F1
 have K0 := N0; have HB := HBn
 clear N0 HBn
 (obtain ⟨k0, f0, l0, m0⟩ := rl_ K0)
 unfold Halted
 go_wp2_with fail
 have hin : LtIn WN ⟨⟨slot, p, np, st, ro⟩, exS slot a r, ⟨A5, c5, br⟩⟩ := ⟨⟨hn, hp, hnpl, hst, hrl⟩, hx.out.below HB, R9.out⟩
 have hnn : RwNew w.heap.size ⟨A5, c5, br⟩ := F1n.out.mono (by omega)
 exact bodyPost_ret (results_cell2 rfl rfl (ldLt _ K0.out)) rfl ⟨⟨⟨slot, p, np, st, ro⟩, exS slot a r, ⟨A5, c5, br⟩⟩, by rw [hE.out]; rfl, ⟨hin, fun _ => ⟨by unfold hdS; rw [hpe.out, hnp.out, hro.out], rfl, hbr.out.symm⟩, fun h => (by rw [hk1.out] at h; cases h)⟩, hnn, HB⟩
/-! a row of numbers of the call's own -/
def nv (n : Nat) : Value := .int .u64 (n : Int)
def NRow (base : Nat) (w : World) (v : Value) (l : List Nat) : Prop := w.ownsRow base 22 1 v l.length (l.map nv)
theorem infoU64 : (Tryz.prog.info? 22).map (fun i => (i.zero, i.size, i.bytes)) = some (some (.int .u64 0), 1, 8) := by kernel_rfl
theorem NRow.nums {base : Nat} {w : World} {v : Value} {l : List Nat} (h : NRow base w v l) : ∃ A c, v = .slice A l.length c ∧ Nums w A l := by
 rcases h.2 with ⟨rfl, h0⟩ | ⟨g, cap, cur, rfl, _⟩
 ·obtain rfl := List.eq_nil_of_length_eq_zero h0
  exact ⟨none, 0, rfl, fun h => absurd h (by simp)⟩
 ·refine ⟨_, _, rfl, fun _ => ⟨g, 0, rfl, (h.lt g rfl).2, fun i n hn => ?_⟩⟩
  have hi := (List.getElem?_eq_some_iff.1 hn).1
  rw [Nat.zero_add, World.ownsRow.cellAt h i (by omega), List.getElem?_map, hn]
  rfl
theorem NRow.keep {base : Nat} {w w' : World} {v : Value} {l : List Nat} {r : Option Nat} (h : NRow base w v l) (hg : w.grownBy w' r) (hn : ∀ j, v.ownBlock = some j → r ≠ some j) : NRow base w' v l :=
 h.kept hg (by
  cases hv : v.ownBlock with
  | none => exact .inl rfl
  | some g => exact .inr fun e => hn g hv e.symm)
theorem NRow.on {base : Nat} {w : World} {v : Value} {l : List Nat} (h : NRow base w v l) (o : Obj) : NRow base (w.alloc o) v l :=
 h.keep (World.grownBy_alloc w o none) fun _ _ e => by cases e
theorem wpList_append_num {ops : Array Oper} {rest : List Oper} {o : Oper} {a : Act} {w : World} {Q : Exit → Act → World → Prop} (hgd : o.guard = none) (s x : Operand)
  (ho : o.op = .call { callee := .builtin .append, args := #[s, x], argTypes := #[61, 61] }) (base : Nat) (v : Value) (L : List Nat) (hs : a.eval s = v) (R : NRow base w v L)
  (u : Nat) (ad : Addr) (hx : a.eval x = .slice (some ad) 1 1) (hc : w.cell? (ad.add 0) = some (nv u)) (hl : L.length ≤ 1000000000) (hb : base ≤ w.heap.size)
  (h : ∀ v' w', NRow base w' v' (L ++ [u]) → w.grownBy w' v.ownBlock → wpList Tryz.prog ops Q rest (a.put o.dst v') w') : wpList Tryz.prog ops Q (o :: rest) a w := by
 refine wpList_plain hgd fun K hK => ?_
 obtain ⟨i0, hi, hz0, hz1, hz2⟩ := info_parts infoU64
 obtain ⟨v', w', hr, h2, h3, _, h5⟩ := run_append_own_at (P := Tryz.prog) w base 61 o.type 22 i0 (.int .u64 0) 1 8 Tryz.underlying61 hi hz0 hz1 hz2 rfl (by decide) v L.length (L.map nv) R ad 1 1 [nv u] rfl (fun j y hy => by
  match j, hy with
  | 0, hy => simp at hy; subst hy; exact hc) (by simp [Value.oneCell', nv]) (by unfold maxLen; omega) (by omega) hb
 unfold Oper.wp execOp
 simp only [ho, resolve, invoke, builtin, Sem.run_bind, Sem.run_pure, Result.andThen_ok, List.map_toArray, List.map_cons, List.map_nil, hs, hx, hr]
 refine hK _ _ (h v' w' ?_ h3)
 unfold NRow
 rw [List.length_append, List.map_append]
 exact h2
theorem take16 : ∀ k, k < 16 → l16.take (k + 1) = l16.take k ++ [k + 1] := by decide
theorem len16 : ∀ k, k ≤ 16 → (l16.take k).length = k := by decide
theorem sixteen_calls (w : World) : Calls Tryz.prog 95 #[] w (fun e w' => ∃ A c, e = .returned (.slice A 16 c) ∧ NumsIn w' A l16 ∧ Below w.heap.size w w') := by
 go_enter Tryz.func95, Tryz.ntmps95
 go_wp2_with fail
 go_loopw [1, 2] (fun u i wr => ∃ (v : Value) (k : Nat), v = u ∧ k ≤ 16 ∧ i = .int .u64 ((k : Int) + 1) ∧ NRow w.heap.size wr v (l16.take k) ∧ Below w.heap.size w wr) (fun _ i _ => (18 - intOf i).toNat)
 case atStart => exact ⟨_, 0, rfl, by omega, rfl, World.ownsRow_nil _ _ _ _, Below.refl _ _⟩
 case round =>
  obtain ⟨v, k, rfl, hk6, rfl, OWN, HB⟩ := hrel
  have hll := len16 k hk6
  by_cases hlt : k < 16
  ·have h1 : (k : Int) + 1 ≤ 16 := by omega
   have h2 : IntKind.u64.wrap ((k : Int) + 1 + 1) = (k : Int) + 1 + 1 := IntWalk.u64_in _ (by omega)
   have hst := Lib.hid (take16 k hlt)
   obtain ⟨q, hq⟩ : ∃ q, l16.take k = q := ⟨_, rfl⟩
   rw [hq] at OWN hll hst
   replace OWN := Lib.hid OWN
   have hzz := HB.size
   go_wp2_with (at_builtin; refine wpList_append_num rfl _ _ rfl w.heap.size v q rfl (OWN.out.on _) (k + 1) ⟨wr.heap.size, 0, none⟩ rfl (new_cell _ _ _) (by omega) (by simp; omega) ?_)
   intro v4 w5 OWN4 hg4
   have hlr : ∀ j, v.ownBlock = some j → w.heap.size ≤ j := fun j hj => (OWN.out.lt j hj).1
   have hgW : wr.grownBy w5 v.ownBlock := ⟨hg4.os, hg4.tape, hg4.output, Nat.le_trans (by simp) hg4.size, fun j hj hr => (hg4.block j (by simp; omega) hr).trans (Below.heap_alloc _ _ j hj)⟩
   have HBn : Below w.heap.size w w5 := HB.grown hgW HB.size fun j e => hlr j e
   replace OWN4 := Lib.hid OWN4
   clear hg4 HB hgW hlr
   go_wp2_with fail
   go_roundw
   case rel => exact ⟨_, k + 1, rfl, by omega, by congr 1, by rw [hst.out]; exact OWN4.out, HBn⟩
   case measure => simp [intOf]; omega
  ·obtain rfl : k = 16 := by omega
   obtain ⟨A5, c5, rfl, T5⟩ := OWN.nums
   have hle : ¬ ((16 : Nat) : Int) + 1 ≤ 16 := by omega
   go_wp2_with fail
   go_ret
   exact ⟨_, ⟨_, rfl⟩, ⟨T5, by decide, by decide⟩, HB⟩
theorem build_pl15 (A : Option Addr) (c : Nat) (w : World) : (Instr.build 72 #[(0, .int .u64 9), (1, .int .u64 10), (2, .int .u64 7), (3, .slice A 16 c), (5, .int .u64 2047), (6, .string (bs zero32)), (7, .string (bs zero32))]).run Tryz.prog w = .ok (plV (pl15 A c)) w :=
 run_build w _ _ (plA (pl15 A c)) (by kernel_rfl)
theorem pl15_in {w : World} {A : Option Addr} {c : Nat} (hl : NumsIn w A l16) : PlIn w (pl15 A c) :=
 ⟨(by decide : (9 : Nat) < 18446744073709551616), (by decide : (10 : Nat) < 18446744073709551616), (by decide : (7 : Nat) < 18446744073709551616), hl, ⟨fun h => absurd h (by show ¬ 0 < 0; decide), (by decide : (0 : Nat) ≤ 20), fun n hn => by cases hn⟩, (by decide : (2047 : Nat) < 18446744073709551616), (by decide : zero32.length ≤ 1048576), (by decide : zero32.length ≤ 1048576)⟩
theorem goodB15 : goodB l16 zero32 zero32 = true := by
 unfold goodB
 rw [good16]
 rfl
theorem beginP_in {w : World} {b : Bt} (h : BtIn w b) : SrIn w (beginP b) := by
 have hz := SrIn.zero w
 exact ⟨h.1, h.1, h.2.1, hz.2.2.2.1, hz.2.2.2.2.1, hz.2.2.2.2.2⟩
theorem shown15_calls (w : World) (hk : HasK w) : Calls Tryz.prog 39 #[] w (Ret w (.bool true)) := by
 obtain ⟨wz, vz, hmk, hcv, hBz⟩ := run_zeros15 32 (by omega) w
 simp only [show ((32 : Nat) : Int) = 32 from rfl] at hmk
 replace hcv : (convert 108 9 vz).run Tryz.prog wz = .ok (.string (bs zero32)) wz := hcv
 have n1 := Lib.hid (fun A c W (hB : Below w.heap.size w W) (hl : NumsIn W A l16) => mboot_calls 5 A c l16 zero32 zero32 (by decide) W (hk.on hB) hl)
 have n2 := Lib.hid (fun root b W (hB : Below w.heap.size w W) (hb : BtIn W b) => begin_calls root b W (hk.on hB) hb)
 have n3 := Lib.hid (fun A c W (hB : Below w.heap.size w W) (hl : NumsIn W A l16) => mupdate_calls (pl15 A c) W (hk.on hB) (pl15_in hl))
 have n4 := Lib.hid (fun s u W (hB : Below w.heap.size w W) (hs : SrIn W s) (hu : UpIn W u) => lgcheck_calls s u 10 W (hk.on hB) hs hu (by decide))
 have hbE : bootE l16 zero32 zero32 = 0 := by unfold bootE; rw [goodB15]; rfl
 have hbE2 : (5 : Int) = ((5 : Nat) : Int) := rfl
 rw [hbE] at n1
 have huE : ∀ A c, updE (pl15 A c) = 0 := fun A c => by unfold updE; rw [good15]; rfl
 simp only [huE] at n3
 obtain ⟨z, hz⟩ : ∃ z, zero32 = z := ⟨_, rfl⟩
 have hgl0 := hBz.size
 replace n1 : RowKit.Hid (∀ A c W, Below w.heap.size w W → NumsIn W A l16 → Calls Tryz.prog 44 #[.int .u64 5, .slice A 16 c, .string (bs zero32), .string (bs zero32)] W (fun e w' => ∃ bt, e = .returned (.tuple #[.string (bs (bootR 5 l16 zero32 zero32)), btV bt, .int .i64 0]) ∧ BtOf w' 5 l16 zero32 zero32 bt ∧ Below W.heap.size W w')) := n1
 replace n3 : RowKit.Hid (∀ A c W, Below w.heap.size w W → NumsIn W A l16 → Calls Tryz.prog 47 #[plV (pl15 A c)] W (fun e w' => ∃ u, e = .returned (.tuple #[upV u, .int .i64 0]) ∧ UpOf w' (pl15 A c) u ∧ Below W.heap.size W w')) := n3
 obtain ⟨rt, hrt⟩ : ∃ rt, bootR 5 l16 zero32 zero32 = rt := ⟨_, rfl⟩
 rw [hrt] at n1
 replace hrt := Lib.hid hrt
 clear hk hbE huE hbE2 hz
 go_enter Tryz.func39, Tryz.ntmps39
 go_upto_region 2 with fail
 have HB := hBz
 clear hmk hcv hBz hgl0
 go_wp2_with fail
 (refine (sixteen_calls _).mono ?_; rintro e w1 ⟨A1, c1, rfl, hN1, hN⟩; replace HB : Below w.heap.size w w1 := Below.on hN HB; clear hN)
 go_wp2_with fail
 (refine (n1.out A1 c1 _ HB hN1).mono ?_; rintro e w2 ⟨bt, rfl, hbt, hN⟩; replace HB : Below w.heap.size w w2 := Below.on hN HB; clear hN)
 have BI := Lib.hid hbt.1
 have hb2 := Lib.hid (hbt.2.1 goodB15)
 have hbe := begin_made goodB15 hb2.out.1 hb2.out.2.1 hb2.out.2.2.1 hb2.out.2.2.2.1 hb2.out.2.2.2.2.1 hb2.out.2.2.2.2.2
 have hbs : beginS (bootR 5 l16 zero32 zero32) bt = beginP bt := by unfold beginS; rw [if_pos hbe]
 rw [hrt.out] at hbe hbs
 have n22 := n2.out rt bt
 rw [hbe, hbs] at n22
 obtain ⟨s, hs⟩ : ∃ s, beginP bt = s := ⟨_, rfl⟩
 rw [hs] at n22
 replace n22 := Lib.hid n22
 clear hbt hN1 hbe hbs n1 n2
 (go_wp2_with (first | (with_reducible refine wsh (stBt (Bt.zero) (Blk.new0 w2 45 (btA (Bt.zero))) (bt)) rfl rfl ?_)); generalize hWN : setRow _ _ _ _ = WN; replace K0 := (show Blk WN (World.heap w2).size 45 (btA (bt)) by rw [← hWN]; exact Blk.row (by simp)); have HBn : Below w.heap.size w WN := (by rw [← hWN]; exact Below.row (HB.alloc HB.size _) HB.size (by have := HB.size; simp; omega)); have HBx : Below (World.heap w2).size w2 WN := (by rw [← hWN]; exact Below.row ((Below.refl _ _).alloc (Nat.le_refl _) _) (Nat.le_refl _) (by simp)); have NBI := Lib.hid (BI.out.below HBx); obtain ⟨g0, hgj⟩ : ∃ g, (World.heap w2).size = g := ⟨_, rfl⟩; have hgl0 : w.heap.size ≤ g0 := (by rw [← hgj]; exact HB.size); rw [hgj] at K0 ⊢; replace K0 := Lib.hid K0; clear hWN hgj HB HBx BI; have BI := NBI; clear NBI; have HB := HBn; clear HBn; obtain ⟨k0, f0, l0, m0⟩ := rl_ K0; unfold Halted)
 obtain ⟨w3, rfl⟩ : ∃ w', w' = WN := ⟨_, rfl⟩
 go_wp2_with (first | (with_reducible refine wlr (ldBt _ K0.out) rfl ?_) | (with_reducible refine wlg (ldBt _ K0.out) (by with_unfolding_all rfl) rfl ?_))
 (refine (n22.out _ HB BI.out).mono ?_; rintro e w4 ⟨rfl, hN⟩; replace K0 := hn_ K0 hN; have NBI := Lib.hid (BI.out.below hN); replace HB : Below w.heap.size w w4 := Below.on hN HB; clear hN k0 f0 l0 m0 BI; have BI := NBI; clear NBI; obtain ⟨k0, f0, l0, m0⟩ := rl_ K0)
 clear n22
 have SI := Lib.hid (show SrIn w4 s by rw [← hs]; exact beginP_in BI.out)
 replace hs := Lib.hid hs
 clear BI
 (go_wp2_with (first | (with_reducible refine wsh (stSr (Sr.zero) (Blk.new0 w4 35 (srA (Sr.zero))) (s)) rfl rfl ?_)); generalize hWN : setRow _ _ _ _ = WN; replace K1 := (show Blk WN (World.heap w4).size 35 (srA (s)) by rw [← hWN]; exact Blk.row (by simp)); have HBn : Below w.heap.size w WN := (by rw [← hWN]; exact Below.row (HB.alloc HB.size _) HB.size (by have := HB.size; simp; omega)); have HBx : Below (World.heap w4).size w4 WN := (by rw [← hWN]; exact Below.row ((Below.refl _ _).alloc (Nat.le_refl _) _) (Nat.le_refl _) (by simp)); have NSI := Lib.hid (SI.out.below HBx); obtain ⟨g1, hgj⟩ : ∃ g, (World.heap w4).size = g := ⟨_, rfl⟩; have hgl1 : w.heap.size ≤ g1 := (by rw [← hgj]; exact HB.size); rw [hgj] at K1 ⊢; replace K1 := Lib.hid K1; clear hWN hgj HB HBx SI; have SI := NSI; clear NSI; have HB := HBn; clear HBn; obtain ⟨k1, f1, l1, m1⟩ := rl_ K1; unfold Halted)
 obtain ⟨w5, rfl⟩ : ∃ w', w' = WN := ⟨_, rfl⟩
 go_wp2_with fail
 (refine (sixteen_calls _).mono ?_; rintro e w6 ⟨A2, c2, rfl, hN2, hN⟩; replace K1 := hn_ K1 hN; have NSI := Lib.hid (SI.out.below hN); replace HB : Below w.heap.size w w6 := Below.on hN HB; clear hN k1 f1 l1 m1 SI; have SI := NSI; clear NSI; obtain ⟨k1, f1, l1, m1⟩ := rl_ K1)
 go_wp2_with (with_reducible refine wpList_build_run (o := ⟨_, .build 72 _, _, _, _, none⟩) (build_pl15 A2 c2 _) rfl _ rfl (by with_unfolding_all rfl) ?_)
 (refine (n3.out A2 c2 _ HB hN2).mono ?_; rintro e w7 ⟨u, rfl, huo, hN⟩; replace K1 := hn_ K1 hN; have NSI := Lib.hid (SI.out.below hN); replace HB : Below w.heap.size w w7 := Below.on hN HB; clear hN k1 f1 l1 m1 SI; have SI := NSI; clear NSI; obtain ⟨k1, f1, l1, m1⟩ := rl_ K1)
 have UI := Lib.hid huo.1
 have hck := check15 hb2.out.1 hb2.out.2.2.1 (huo.2.1 (good15 A2 c2))
 rw [hs.out] at hck
 have n42 := n4.out s u
 rw [hck] at n42
 replace n42 := Lib.hid n42
 clear huo hN2 hck n3 n4 hb2 hs
 (go_wp2_with (first | (with_reducible refine wsh (stUp (Up.zero) (Blk.new0 w7 33 (upA (Up.zero))) (u)) rfl rfl ?_)); generalize hWN : setRow _ _ _ _ = WN; replace K1 := Lib.hid (show Blk WN _ _ _ by rw [← hWN]; exact Blk.rowOver (Nat.ne_of_lt K1.out.lt) (K1.out.alloc _)); replace K2 := (show Blk WN (World.heap w7).size 33 (upA (u)) by rw [← hWN]; exact Blk.row (by simp)); have HBn : Below w.heap.size w WN := (by rw [← hWN]; exact Below.row (HB.alloc HB.size _) HB.size (by have := HB.size; simp; omega)); have HBx : Below (World.heap w7).size w7 WN := (by rw [← hWN]; exact Below.row ((Below.refl _ _).alloc (Nat.le_refl _) _) (Nat.le_refl _) (by simp)); have NSI := Lib.hid (SI.out.below HBx); have NUI := Lib.hid (UI.out.below HBx); obtain ⟨g2, hgj⟩ : ∃ g, (World.heap w7).size = g := ⟨_, rfl⟩; have hg1_2 : _ < g2 := (by rw [← hgj]; exact l1); have hgl2 : w.heap.size ≤ g2 := (by rw [← hgj]; exact HB.size); rw [hgj] at K2 ⊢; replace K2 := Lib.hid K2; clear hWN hgj HB HBx k1 f1 l1 m1 SI UI; have SI := NSI; clear NSI; have UI := NUI; clear NUI; have HB := HBn; clear HBn; obtain ⟨k1, f1, l1, m1⟩ := rl_ K1; obtain ⟨k2, f2, l2, m2⟩ := rl_ K2; unfold Halted)
 obtain ⟨w8, rfl⟩ : ∃ w', w' = WN := ⟨_, rfl⟩
 go_wp2_with (first | (with_reducible refine wlr (ldSr _ K1.out) rfl ?_) | (with_reducible refine wlg (ldSr _ K1.out) (by with_unfolding_all rfl) rfl ?_) | (with_reducible refine wlr (ldUp _ K2.out) rfl ?_) | (with_reducible refine wlg (ldUp _ K2.out) (by with_unfolding_all rfl) rfl ?_))
 (refine (n42.out _ HB SI.out UI.out).mono ?_; rintro e w9 ⟨rfl, hN⟩; replace K1 := hn_ K1 hN; replace K2 := hn_ K2 hN; replace HB : Below w.heap.size w w9 := Below.on hN HB; clear hN k1 f1 l1 m1 k2 f2 l2 m2; obtain ⟨k1, f1, l1, m1⟩ := rl_ K1; obtain ⟨k2, f2, l2, m2⟩ := rl_ K2)
 go_wp2_with fail
 go_ret
 exact ⟨by simp, HB⟩

/-! by the program and by the reference alike -/
theorem CmOf.same {w w' : World} {l : List Nat} {c d : Cm} (h : CmOf w l c) (k : CmOf w' l d) : c.bare = d.bare := by
 cases hg : goodS l with
 | true => rw [h.bare hg, k.bare hg]
 | false => rw [h.2.2 hg, k.2.2 hg]
theorem LtOf.same {w w' : World} {slot : Nat} {a r st : Bytes} {c d : Lt} (h : LtOf w slot a r st c) (k : LtOf w' slot a r st d) : c.bare = d.bare := by
 cases hg : lightOk a r st with
 | true => rw [h.bare hg, k.bare hg]
 | false => rw [h.2.2 hg, k.2.2 hg]
theorem BtOf.same {w w' : World} {slot : Nat} {l : List Nat} {a r : Bytes} {c d : Bt} (h : BtOf w slot l a r c) (k : BtOf w' slot l a r d) : c.bare = d.bare := by
 cases hg : goodB l a r with
 | true =>
  obtain ⟨h1, h2, h3, h4, h5, h6⟩ := h.2.1 hg
  obtain ⟨k1, k2, k3, k4, k5, k6⟩ := k.2.1 hg
  unfold Bt.bare Lt.bare Cm.bare Rw.bare
  rw [h1, h2, h3, h4, h5, h6, k1, k2, k3, k4, k5, k6]
 | false => rw [h.2.2 hg, k.2.2 hg]
theorem UpOf.same {w w' : World} {p : Pl} {c d : Up} (h : UpOf w p c) (k : UpOf w' p d) : c.bare = d.bare := by
 cases hg : goodU p with
 | true => rw [h.2.1 hg, k.2.1 hg]
 | false => rw [h.2.2 hg, k.2.2 hg]
end Go.Proofs.YtegaaccioppfjaaGreatDoor
end
