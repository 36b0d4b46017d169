/- Plain laws and walks, each by its own conditions. -/
import Derived.Test.YtobgigcdpiikaaaGreatDoorUc26
set_option linter.unusedSimpArgs false
set_option linter.unusedVariables false
set_option maxRecDepth 100000
set_option maxHeartbeats 16000000
namespace Go.Proofs.YtobgigcdpiikaaaGreatDoor
section
open BigFrame Go.RowKit Go.Phx Go.Shelf
attribute [local go_sem] Oper.semAt_some
theorem UpNew.zero(n:Nat):UpNew n Up.zero:=⟨(fun _ _ e=>by cases e),(fun _ _ e=>by cases e),(fun _ _ e=>by cases e),(fun _ _ e=>by cases e),(fun _ _ e=>by cases e)⟩
theorem UpNew.mono{m n:Nat}{u:Up} (h:UpNew m u) (k:n≤m):UpNew n u :=
 ⟨fun b o e=>Nat.le_trans k (h.1 b o e),fun b o e=>Nat.le_trans k (h.2.1 b o e),fun b o e=>Nat.le_trans k (h.2.2.1 b o e),fun b o e=>Nat.le_trans k (h.2.2.2.1 b o e),fun b o e=>Nat.le_trans k (h.2.2.2.2 b o e)⟩
theorem mupdate_new(p:Pl) (w:World) (hk:HasK w) (hp:PlIn w p) :
  Calls Tryz.prog 6 #[plV p] w
  (fun e w'=>∃ u,e=.returned (.tuple #[upV u,.int .i64 (updE p)])∧(UpOf w' p u∧UpNew w.heap.size u)∧Below w.heap.size w w'):=by
 have n1:=Z (fun W (hB:Below w.heap.size w W)=>mcomm_calls p.nowA p.nowC p.now W (hp.2.2.2.1.below hB))
 have n2:=Z (fun cm W (hB:Below w.heap.size w W) (h:CmIn W cm)=>croot_calls cm W (hk.on hB) h)
 have n4:=Z (fun n (hn:n<18446744073709551616) st W (hB:Below w.heap.size w W)=>mlight_calls n p.acc p.rcp st hn W (hk.on hB))
 have n5:=Z (fun lt W (hB:Below w.heap.size w W) (h:LtIn W lt)=>hroot_calls lt.b W (hk.on hB) h.1)
 have n6:=Z (fun W (hB:Below w.heap.size w W)=>mcomm_calls p.nextA p.nextC p.next W (hp.2.2.2.2.1.below hB))
 have n7:=Z (fun lt (h16:p.now.length=16) W (hB:Below w.heap.size w W) (h:LtIn W lt)=>msig_calls p lt.b W (hk.on hB) (hp.below hB) h.1 h16)
 have hE0:∀ b,goodU p=b→updE p=if b then 0 else 2:=fun b h=>by unfold updE;rw[h]
 have hcE:commE p.now=if goodS p.now then 0 else 2:=rfl
 have hxE:commE p.next=if goodS p.next then 0 else 2:=rfl
 have hseen:=Z hp.1
 have hfin:=Z hp.2.2.1
 have hbits:=Z hp.2.2.2.2.2.1
 have hslot:=Z hp.2.1
 have hx20:=Z hp.2.2.2.2.1.2.1
 have K0:=Z ((Blk.new0 w 43 (plA p)).alloc (.cells (upA Up.zero) 37))
 have K1:=Z (Blk.new1 w (.cells (plA p) 43) 37 (upA Up.zero))
 have HB:Below w.heap.size w ((w.alloc (.cells (plA p) 43)).alloc (.cells (upA Up.zero) 37)):=bel
 obtain⟨ce,hce⟩:∃ ce,commE p.now=ce:=⟨_,rfl⟩
 rw[hce]at n1 hcE
 obtain⟨xe,hxe⟩:∃ xe,commE p.next=xe:=⟨_,rfl⟩
 rw[hxe]at n6 hxE
 replace hk:=Z hk
 replace hp:=Z hp
 replace hE0:=Z hE0
 replace hcE:=Z hcE
 replace hxE:=Z hxE
 clear hce hxe
 go_enter Tryz.func6, Tryz.ntmps6
 go_upto_region 1 with fail
 obtain⟨W,hW⟩:∃ W,((w.alloc (.cells (plA p) 43)).alloc (.cells (upA Up.zero) 37))=W:=⟨_,rfl⟩
 rw[hW]at K0 K1 HB ⊢
 clear hW
 obtain⟨g,hg⟩:∃ g,w.heap.size=g:=⟨_,rfl⟩
 have hgl:w.heap.size≤g:=by omega
 rw[hg]at K0 K1 ⊢
 clear hg
 (obtain⟨k0,f0,l0,m0⟩:=rl_ K0;obtain⟨k1,f1,l1,m1⟩:=rl_ K1)
 go_wp2_with fail
 (refine(n1.out W HB).mono ?_;rintro e w1 ⟨cm,rfl,hcm,hcn,hN⟩;replace K0:=hn_ K0 hN;replace K1:=hn_ K1 hN;replace HB:Below w.heap.size w w1:=Below.on hN HB;clear hN k0 f0 l0 m0 k1 f1 l1 m1;obtain⟨k0,f0,l0,m0⟩:=rl_ K0;obtain⟨k1,f1,l1,m1⟩:=rl_ K1)
 have C1:=Z hcm.1
 have hc2:=Z hcm
 clear hcm hcn n1
 (go_wp2_with(first|(with_reducible refine wsh (stCm (Cm.zero) (Blk.new0 w1 35 (cmA (Cm.zero))) (cm)) rfl rfl ?_));generalize hWN:setRow _ _ _ _=WN;replace K0:=Z (show Blk WN _ _ _ by rw[←hWN];exact Blk.rowOver (Nat.ne_of_lt K0.out.lt) (K0.out.alloc _));replace K1:=Z (show Blk WN _ _ _ by rw[←hWN];exact Blk.rowOver (Nat.ne_of_lt K1.out.lt) (K1.out.alloc _));replace K2:=(show Blk WN (World.heap w1).size 35 (cmA (cm)) by rw[←hWN];exact Blk.row (by simp));have HBn:Below w.heap.size w WN:=(by rw[←hWN];exact Below.row (HB.alloc HB.size _) HB.size (by have:=HB.size;simp;omega));have HBx:Below (World.heap w1).size w1 WN:=(by rw[←hWN];exact Below.row ((Below.refl _ _).alloc (Nat.le_refl _) _) (Nat.le_refl _) (by simp));have NC1:=Z (C1.out.below HBx);obtain⟨g2,hgj⟩:∃ g,(World.heap w1).size=g:=⟨_,rfl⟩;have hg0_2:_<g2:=(by rw[←hgj];exact l0);have hg1_2:_<g2:=(by rw[←hgj];exact l1);have hgl2:w.heap.size≤g2:=(by rw[←hgj];exact HB.size);rw[hgj]at K2 ⊢;replace K2:=Z K2;clear hWN hgj HB HBx k0 f0 l0 m0 k1 f1 l1 m1 C1;have C1:=NC1;clear NC1;have HB:=HBn;clear HBn;obtain⟨k0,f0,l0,m0⟩:=rl_ K0;obtain⟨k1,f1,l1,m1⟩:=rl_ K1;obtain⟨k2,f2,l2,m2⟩:=rl_ K2;unfold Halted)
 cases hgs:goodS p.now with
 | false =>
  have hce0:ce=2:=by rw[hcE.out,hgs];rfl
  subst hce0
  have hgu:=Z (show goodU p=false by unfold goodU;rw[hgs];rfl)
  have hE:=Z (show updE p=2 from hE0.out _ hgu.out)
  clear hE0 hcE hc2 hgs C1 n2 n4 n5 n6 n7 hxE
  (go_wp2_with(first|(with_reducible refine wsh (stUp _ K1.out (Up.zero)) rfl rfl ?_));generalize hWN:setRow _ _ _ _=WN;replace K1:=Z (show Blk WN _ _ _ by rw[←hWN];exact Blk.row K1.out.lt);replace K0:=Z (show Blk WN _ _ _ by rw[←hWN];exact Blk.rowOver (by omega) K0.out);replace K2:=Z (show Blk WN _ _ _ by rw[←hWN];exact Blk.rowOver (by omega) K2.out);replace HB:Below w.heap.size w WN:=(by rw[←hWN];exact Below.row HB (by omega) HB.size);clear hWN k1 f1 l1 m1 k0 f0 l0 m0 k2 f2 l2 m2;obtain⟨k1,f1,l1,m1⟩:=rl_ K1;obtain⟨k0,f0,l0,m0⟩:=rl_ K0;obtain⟨k2,f2,l2,m2⟩:=rl_ K2;unfold Halted)
  go_wp2_with fail
  exact bodyPost_ret (results_cell2 rfl rfl (ldUp _ K1.out)) rfl ⟨Up.zero,by rw[hE.out];rfl,⟨⟨UpIn.zero _,fun h=>(by rw[hgu.out]at h;cases h),fun _=>rfl⟩,UpNew.zero _⟩,HB⟩
 | true =>
  have hce0:ce=0:=by rw[hcE.out,hgs];rfl
  subst hce0
  have hcr:=Z (cmRoot_bare (show cm.bare=(cmS p.now).bare from hc2.out.bare hgs))
  have h16:p.now.length=16:=by
   unfold goodS at hgs
   simp only[Bool.and_eq_true,decide_eq_true_eq]at hgs
   exact hgs.2
  replace h16:=Z h16
  replace hgs:=Z hgs
  clear hcE hc2
  obtain⟨w2,rfl⟩:∃ w',w'=WN:=⟨_,rfl⟩
  (go_wp2_with(first|(with_reducible refine wpList_build_run (o:=⟨_,.build 37 _,_,_,_,none⟩) (build_up p.bits p.slot _) rfl _ rfl (by with_unfolding_all rfl) ?_)|(with_reducible refine wsh (stUp (Up.zero) (Blk.new0 w2 37 (upA (Up.zero))) (⟨Lt.zero,Cm.zero,Rw.zero,Lt.zero,Rw.zero,p.bits,[],p.slot⟩)) rfl rfl ?_));generalize hWN:setRow _ _ _ _=WN;replace K0:=Z (show Blk WN _ _ _ by rw[←hWN];exact Blk.rowOver (Nat.ne_of_lt K0.out.lt) (K0.out.alloc _));replace K1:=Z (show Blk WN _ _ _ by rw[←hWN];exact Blk.rowOver (Nat.ne_of_lt K1.out.lt) (K1.out.alloc _));replace K2:=Z (show Blk WN _ _ _ by rw[←hWN];exact Blk.rowOver (Nat.ne_of_lt K2.out.lt) (K2.out.alloc _));replace K3:=(show Blk WN (World.heap w2).size 37 (upA (⟨Lt.zero,Cm.zero,Rw.zero,Lt.zero,Rw.zero,p.bits,[],p.slot⟩)) by rw[←hWN];exact Blk.row (by simp));have HBn:Below w.heap.size w WN:=(by rw[←hWN];exact Below.row (HB.alloc HB.size _) HB.size (by have:=HB.size;simp;omega));have HBx:Below (World.heap w2).size w2 WN:=(by rw[←hWN];exact Below.row ((Below.refl _ _).alloc (Nat.le_refl _) _) (Nat.le_refl _) (by simp));have NC1:=Z (C1.out.below HBx);obtain⟨g3,hgj⟩:∃ g,(World.heap w2).size=g:=⟨_,rfl⟩;have hg0_3:_<g3:=(by rw[←hgj];exact l0);have hg1_3:_<g3:=(by rw[←hgj];exact l1);have hg2_3:_<g3:=(by rw[←hgj];exact l2);have hgl3:w.heap.size≤g3:=(by rw[←hgj];exact HB.size);rw[hgj]at K3 ⊢;replace K3:=Z K3;clear hWN hgj HB HBx k0 f0 l0 m0 k1 f1 l1 m1 k2 f2 l2 m2 C1;have C1:=NC1;clear NC1;have HB:=HBn;clear HBn;obtain⟨k0,f0,l0,m0⟩:=rl_ K0;obtain⟨k1,f1,l1,m1⟩:=rl_ K1;obtain⟨k2,f2,l2,m2⟩:=rl_ K2;obtain⟨k3,f3,l3,m3⟩:=rl_ K3;unfold Halted)
  go_wp2_with fail
  (refine(mnought_calls _).mono ?_;rintro e w3 ⟨rfl,hN⟩;replace K0:=hn_ K0 hN;replace K1:=hn_ K1 hN;replace K2:=hn_ K2 hN;replace K3:=hn_ K3 hN;have NC1:=Z (C1.out.below hN);replace HB:Below w.heap.size w w3:=Below.on hN HB;clear hN k0 f0 l0 m0 k1 f1 l1 m1 k2 f2 l2 m2 k3 f3 l3 m3 C1;have C1:=NC1;clear NC1;obtain⟨k0,f0,l0,m0⟩:=rl_ K0;obtain⟨k1,f1,l1,m1⟩:=rl_ K1;obtain⟨k2,f2,l2,m2⟩:=rl_ K2;obtain⟨k3,f3,l3,m3⟩:=rl_ K3)
  go_upto_region 7 with fail
  obtain⟨W4,hW4⟩:∃ W',w3.alloc (.cells (lvA zero32 zero32 zero32) 9)=W':=⟨_,rfl⟩
  obtain⟨g4,hg4⟩:∃ g4,w3.heap.size=g4:=⟨_,rfl⟩
  have N0:=Z (show Blk W4 _ _ _ by rw[←hW4];exact K0.out.alloc _)
  have N1:=Z (show Blk W4 _ _ _ by rw[←hW4];exact K1.out.alloc _)
  have N2:=Z (show Blk W4 _ _ _ by rw[←hW4];exact K2.out.alloc _)
  have N3:=Z (show Blk W4 _ _ _ by rw[←hW4];exact K3.out.alloc _)
  have N4:=Z (show Blk W4 g4 9 (lvA zero32 zero32 zero32) by rw[←hW4,←hg4];exact Blk.new0 _ _ _)
  have NC1:=Z (show CmIn W4 cm by rw[←hW4];exact C1.out.below ((Below.refl _ _).alloc (Nat.le_refl _) _))
  have HBn:Below w.heap.size w W4:=by rw[←hW4];exact HB.alloc HB.size _
  have hg34:g3<g4:=by omega
  have hgl4:w.heap.size≤g4:=by omega
  rw[hW4,hg4]
  clear hW4 hg4 k0 f0 l0 m0 K0 k1 f1 l1 m1 K1 k2 f2 l2 m2 K2 k3 f3 l3 m3 K3 HB C1
  have K0:=N0;have K1:=N1;have K2:=N2;have K3:=N3;have K4:=N4;have C1:=NC1;have HB:=HBn
  clear N0 N1 N2 N3 N4 NC1 HBn
  (obtain⟨k0,f0,l0,m0⟩:=rl_ K0;obtain⟨k1,f1,l1,m1⟩:=rl_ K1;obtain⟨k2,f2,l2,m2⟩:=rl_ K2;obtain⟨k3,f3,l3,m3⟩:=rl_ K3;obtain⟨k4,f4,l4,m4⟩:=rl_ K4)
  obtain⟨cr,hcr2⟩:∃ cr,cmRoot cm=cr:=⟨_,rfl⟩
  obtain⟨cq,hcq⟩:∃ cq,cmE cm=cq:=⟨_,rfl⟩
  have n22:=n2.out cm
  rw[hcr2,hcq]at n22
  replace n22:=Z n22
  replace hcr:=Z (show cmRoot (cmS p.now)=cr by rw[←hcr.out,hcr2])
  clear hcr2 hcq
  go_wp2_with(first|(with_reducible refine wlr (ldCm _ K2.out) rfl ?_)|(with_reducible refine wlg (ldCm _ K2.out) (by with_unfolding_all rfl) rfl ?_))
  (refine(n22.out _ HB C1.out).mono ?_;rintro e w5 ⟨rfl,hN⟩;replace K0:=hn_ K0 hN;replace K1:=hn_ K1 hN;replace K3:=hn_ K3 hN;replace K4:=hn_ K4 hN;replace HB:Below w.heap.size w w5:=Below.on hN HB;clear hN k0 f0 l0 m0 k1 f1 l1 m1 k3 f3 l3 m3 k4 f4 l4 m4;obtain⟨k0,f0,l0,m0⟩:=rl_ K0;obtain⟨k1,f1,l1,m1⟩:=rl_ K1;obtain⟨k3,f3,l3,m3⟩:=rl_ K3;obtain⟨k4,f4,l4,m4⟩:=rl_ K4)
  go_upto_region 8 with fail
  (obtain⟨WN,hWN⟩:∃ W',World.setCell w5 ⟨g4,4,none⟩ (.string (bs cr))=W':=⟨_,rfl⟩;replace K4:=Z (show Blk WN _ _ (lvA zero32 cr zero32) by rw[←hWN];exact Blk.to (Blk.set_ K4.out 4 _) rfl);replace K0:=Z (show Blk WN _ _ _ by rw[←hWN];exact K0.out.far (by simp;omega) _);replace K1:=Z (show Blk WN _ _ _ by rw[←hWN];exact K1.out.far (by simp;omega) _);replace K3:=Z (show Blk WN _ _ _ by rw[←hWN];exact K3.out.far (by simp;omega) _);replace HB:Below w.heap.size w WN:=(by rw[←hWN];exact HB.setCell (by simp;omega) _);rw[hWN];clear hWN k4 f4 l4 m4 k0 f0 l0 m0 k1 f1 l1 m1 k3 f3 l3 m3;obtain⟨k4,f4,l4,m4⟩:=rl_ K4;obtain⟨k0,f0,l0,m0⟩:=rl_ K0;obtain⟨k1,f1,l1,m1⟩:=rl_ K1;obtain⟨k3,f3,l3,m3⟩:=rl_ K3)
  obtain⟨w6,rfl⟩:∃ w',w'=WN:=⟨_,rfl⟩
  clear n22 K2 k2 f2 l2 m2 C1
  have hM:MuW w g g3 g4 p ⟨Lt.zero,Cm.zero,Rw.zero,Lt.zero,Rw.zero,p.bits,[],p.slot⟩ zero32 cr zero32 w6:=⟨K0.out,K1.out,K3.out,K4.out,⟨LtIn.zero _,CmIn.zero _,RwIn.zero _,LtIn.zero _,RwIn.zero _,hbits.out,Nat.zero_le _,hslot.out⟩,⟨RwNew.zero _,RwNew.zero _,RwNew.zero _,RwNew.zero _,RwNew.zero _⟩,HB⟩
  obtain⟨fe,hfe⟩:∃ fe,(if okC p then(0:Int) else 2)=fe:=⟨_,rfl⟩
  replace hfe:=Z hfe
  obtain⟨bf,hbf⟩:∃ b,((p.fin:Int) != 0)=b:=⟨_,rfl⟩
  have hbf2:((p.fin:Int) == 0) = !bf:=by rw[←hbf,bne,Bool.not_not]
  have hbf3:=Z (show bf = !decide (p.fin=0) by rw[←hbf,Bool.eq_iff_iff];simp)
  go_upto_if 45 with fail
  clear hbf hbf2
  go_cut [5] (fun s5 wx=>∃ lt l3,s5=.int .i64 fe∧(okC p=true→lt.bare=finS p∧l3=l3S p)∧MuW w g g3 g4 p ⟨Lt.zero,Cm.zero,Rw.zero,lt,Rw.zero,p.bits,[],p.slot⟩ l3 cr zero32 wx)
  case first =>
   as_aux_lemma =>
    clear hM n6 hxE hx20 n7
    cases bf with
    | false =>
     have hf:p.fin=0:=by simpa using hbf3.out
     have hok:=Z (show okC p=true by unfold okC;rw[decide_eq_true hf];rfl)
     have hfs:=Z (show finS p=Lt.zero by unfold finS;rw[if_pos hf])
     have hls:=Z (show l3S p=zero32 by unfold l3S;rw[if_pos hf])
     go_wp2_with fail
     go_meet
     case rel=>exact⟨Lt.zero,zero32,by rw[←hfe.out,hok.out];rfl,fun _=>⟨hfs.out.symm,hls.out.symm⟩,K0.out,K1.out,K3.out,K4.out,⟨LtIn.zero _,CmIn.zero _,RwIn.zero _,LtIn.zero _,RwIn.zero _,hbits.out,Nat.zero_le _,hslot.out⟩,⟨RwNew.zero _,RwNew.zero _,RwNew.zero _,RwNew.zero _,RwNew.zero _⟩,HB⟩
    | true =>
     have hf:¬ p.fin=0:=by simpa using hbf3.out
     have hok:=Z (show okC p=lightOk p.acc p.rcp zero32 by unfold okC accOk;rw[decide_eq_false hf,Bool.false_or,lightOk_st z32_len])
     have hfs:=Z (show finS p=ltS p.fin p.acc p.rcp zero32 by unfold finS;rw[if_neg hf])
     have hls:=Z (show l3S p=hdRoot (hdS p.fin p.acc p.rcp zero32) by unfold l3S;rw[if_neg hf])
     have hle:lightE p.acc p.rcp zero32=if okC p then 0 else 2:=by rw[hok.out];rfl
     have n42:=n4.out p.fin hfin.out zero32
     rw[hle]at n42
     rw[hfe.out]at n42
     replace n42:=Z n42
     have hz6:g4+1≤w6.heap.size:=by omega
     clear hle n4 hf
     go_wp2_with fail
     (refine(n42.out _ HB).mono ?_;rintro e w7 ⟨lt,rfl,hlt,hln,hN⟩;replace K0:=hn_ K0 hN;replace K1:=hn_ K1 hN;replace K3:=hn_ K3 hN;replace K4:=hn_ K4 hN;replace HB:Below w.heap.size w w7:=Below.on hN HB;clear hN k0 f0 l0 m0 k1 f1 l1 m1 k3 f3 l3 m3 k4 f4 l4 m4;obtain⟨k0,f0,l0,m0⟩:=rl_ K0;obtain⟨k1,f1,l1,m1⟩:=rl_ K1;obtain⟨k3,f3,l3,m3⟩:=rl_ K3;obtain⟨k4,f4,l4,m4⟩:=rl_ K4)
     have L1:=Z hlt.1
     have L1n:=Z (RwNew.mono hln hz6)
     have hl2:=Z hlt
     clear hlt hln n42 hz6
     (go_wp2_with(first|(with_reducible refine wsh (stUp_fin _ K3.out (lt)) rfl rfl ?_));generalize hWN:setRow _ _ _ _=WN;replace K3:=Z (show Blk WN _ _ _ by rw[←hWN];exact Blk.row K3.out.lt);replace K0:=Z (show Blk WN _ _ _ by rw[←hWN];exact Blk.rowOver (by omega) K0.out);replace K1:=Z (show Blk WN _ _ _ by rw[←hWN];exact Blk.rowOver (by omega) K1.out);replace K4:=Z (show Blk WN _ _ _ by rw[←hWN];exact Blk.rowOver (by omega) K4.out);have NL1:=Z (show LtIn WN _ by rw[←hWN];exact L1.out.kp L1n.out (Kp.row (by omega)));replace HB:Below w.heap.size w WN:=(by rw[←hWN];exact Below.row HB (by omega) HB.size);clear hWN k3 f3 l3 m3 k0 f0 l0 m0 k1 f1 l1 m1 k4 f4 l4 m4 L1;have L1:=NL1;clear NL1;obtain⟨k3,f3,l3,m3⟩:=rl_ K3;obtain⟨k0,f0,l0,m0⟩:=rl_ K0;obtain⟨k1,f1,l1,m1⟩:=rl_ K1;obtain⟨k4,f4,l4,m4⟩:=rl_ K4;unfold Halted)
     obtain⟨w8,rfl⟩:∃ w',w'=WN:=⟨_,rfl⟩
     obtain⟨hr,hhr⟩:∃ hr,hdRoot lt.b=hr:=⟨_,rfl⟩
     obtain⟨hq,hhq⟩:∃ hq,hdE lt.b=hq:=⟨_,rfl⟩
     have n52:=n5.out lt
     rw[hhr,hhq]at n52
     replace n52:=Z n52
     replace hhr:=Z hhr
     clear hhq
     go_wp2_with(with_reducible refine wlr (ldUp_fin_b _ K3.out) rfl ?_)
     (refine(n52.out _ HB L1.out).mono ?_;rintro e w9 ⟨rfl,hN⟩;replace K0:=hn_ K0 hN;replace K1:=hn_ K1 hN;replace K3:=hn_ K3 hN;replace K4:=hn_ K4 hN;have NL1:=Z (L1.out.below hN);replace HB:Below w.heap.size w w9:=Below.on hN HB;clear hN k0 f0 l0 m0 k1 f1 l1 m1 k3 f3 l3 m3 k4 f4 l4 m4 L1;have L1:=NL1;clear NL1;obtain⟨k0,f0,l0,m0⟩:=rl_ K0;obtain⟨k1,f1,l1,m1⟩:=rl_ K1;obtain⟨k3,f3,l3,m3⟩:=rl_ K3;obtain⟨k4,f4,l4,m4⟩:=rl_ K4)
     go_wp2_with fail
     (obtain⟨WN,hWN⟩:∃ W',World.setCell w9 ⟨g4,3,none⟩ (.string (bs hr))=W':=⟨_,rfl⟩;replace K4:=Z (show Blk WN _ _ (lvA hr cr zero32) by rw[←hWN];exact Blk.to (Blk.set_ K4.out 3 _) rfl);replace K0:=Z (show Blk WN _ _ _ by rw[←hWN];exact K0.out.far (by simp;omega) _);replace K1:=Z (show Blk WN _ _ _ by rw[←hWN];exact K1.out.far (by simp;omega) _);replace K3:=Z (show Blk WN _ _ _ by rw[←hWN];exact K3.out.far (by simp;omega) _);have NL1:=Z (show LtIn WN _ by rw[←hWN];exact L1.out.kp L1n.out (Kp.cell (by omega)));replace HB:Below w.heap.size w WN:=(by rw[←hWN];exact HB.setCell (by simp;omega) _);rw[hWN];clear hWN k4 f4 l4 m4 k0 f0 l0 m0 k1 f1 l1 m1 k3 f3 l3 m3 L1;have L1:=NL1;clear NL1;obtain⟨k4,f4,l4,m4⟩:=rl_ K4;obtain⟨k0,f0,l0,m0⟩:=rl_ K0;obtain⟨k1,f1,l1,m1⟩:=rl_ K1;obtain⟨k3,f3,l3,m3⟩:=rl_ K3)
     go_wp2_with fail
     go_meet
     case rel =>
      exact⟨lt,hr,rfl,fun h=>⟨by rw[hfs.out];exact hl2.out.bare (by rw[←hok.out];exact h),by rw[hls.out,←hhr.out,(hl2.out.2.1 (by rw[←hok.out];exact h)).1]⟩,K0.out,K1.out,K3.out,K4.out,⟨LtIn.zero _,CmIn.zero _,RwIn.zero _,L1.out,RwIn.zero _,hbits.out,Nat.zero_le _,hslot.out⟩,⟨RwNew.zero _,RwNew.zero _,RwNew.zero _,L1n.out,RwNew.zero _⟩,HB⟩
  case rest =>
   clear hM k0 f0 l0 m0 k1 f1 l1 m1 k3 f3 l3 m3 k4 f4 l4 m4 K0 K1 K3 K4 HB
   obtain⟨lt,v3,rfl,hlt,hW⟩:=hcut
   replace hlt:=Z hlt
   cases hkc:okC p with
   | false =>
    have hfe0:fe=2:=by rw[←hfe.out,hkc];rfl
    subst hfe0
    have hgu:=Z (show goodU p=false by
     unfold goodU
     have h9:accOk p=false:=by
      unfold okC at hkc
      rw[Bool.or_eq_false_iff]at hkc
      exact hkc.2
     rw[h9];simp)
    have hE:=Z (show updE p=2 from hE0.out _ hgu.out)
    have j0:=Z hW.1
    have j1:=Z hW.2.1
    have j3:=Z hW.2.2.1
    have j4:=Z hW.2.2.2.1
    have UI:=Z hW.2.2.2.2.1
    have UIn:=Z hW.2.2.2.2.2.1
    have HB:=hW.2.2.2.2.2.2
    clear hW
    have K0:=j0;have K1:=j1;have K3:=j3;have K4:=j4
    clear j0 j1 j3 j4
    (obtain⟨k0,f0,l0,m0⟩:=rl_ K0;obtain⟨k1,f1,l1,m1⟩:=rl_ K1;obtain⟨k3,f3,l3,m3⟩:=rl_ K3;obtain⟨k4,f4,l4,m4⟩:=rl_ K4)
    clear hE0 hlt hkc hfe n2 n4 n5 n6 n7 hxE UI UIn
    rcases Nat.eq_zero_or_pos p.next.length with h0|h0
    ·have e1:(p.next.length:Int)=0:=by omega
     (go_wp2_with(first|(with_reducible refine wsh (stUp _ K1.out (Up.zero)) rfl rfl ?_));generalize hWN:setRow _ _ _ _=WN;replace K1:=Z (show Blk WN _ _ _ by rw[←hWN];exact Blk.row K1.out.lt);replace K0:=Z (show Blk WN _ _ _ by rw[←hWN];exact Blk.rowOver (by omega) K0.out);replace HB:Below w.heap.size w WN:=(by rw[←hWN];exact Below.row HB (by omega) HB.size);clear hWN k1 f1 l1 m1 k0 f0 l0 m0;obtain⟨k1,f1,l1,m1⟩:=rl_ K1;obtain⟨k0,f0,l0,m0⟩:=rl_ K0;unfold Halted)
     go_wp2_with fail
     exact bodyPost_ret (results_cell2 rfl rfl (ldUp _ K1.out)) rfl ⟨Up.zero,by rw[hE.out];rfl,⟨⟨UpIn.zero _,fun h=>(by rw[hgu.out]at h;cases h),fun _=>rfl⟩,UpNew.zero _⟩,HB⟩
    ·have e1:(0:Int)<(p.next.length:Int):=by omega
     (go_wp2_with(first|(with_reducible refine wsh (stUp _ K1.out (Up.zero)) rfl rfl ?_));generalize hWN:setRow _ _ _ _=WN;replace K1:=Z (show Blk WN _ _ _ by rw[←hWN];exact Blk.row K1.out.lt);replace K0:=Z (show Blk WN _ _ _ by rw[←hWN];exact Blk.rowOver (by omega) K0.out);replace HB:Below w.heap.size w WN:=(by rw[←hWN];exact Below.row HB (by omega) HB.size);clear hWN k1 f1 l1 m1 k0 f0 l0 m0;obtain⟨k1,f1,l1,m1⟩:=rl_ K1;obtain⟨k0,f0,l0,m0⟩:=rl_ K0;unfold Halted)
     go_wp2_with fail
     exact bodyPost_ret (results_cell2 rfl rfl (ldUp _ K1.out)) rfl ⟨Up.zero,by rw[hE.out];rfl,⟨⟨UpIn.zero _,fun h=>(by rw[hgu.out]at h;cases h),fun _=>rfl⟩,UpNew.zero _⟩,HB⟩
   | true =>
    have hfe0:fe=0:=by rw[←hfe.out,hkc];rfl
    subst hfe0
    have hlt1:=Z (hlt.out hkc).1
    obtain rfl:=(hlt.out hkc).2
    replace hkc:=Z hkc
    clear hlt hfe
    obtain⟨v3,hv3⟩:∃ v3,l3S p=v3:=⟨_,rfl⟩
    rw[hv3]at hW
    replace hv3:=Z hv3
    go_upto_region 11 with fail
    go_cut [74] (fun s wx=>s=.bool (decide (0<p.next.length))∧MuW w g g3 g4 p ⟨Lt.zero,Cm.zero,Rw.zero,lt,Rw.zero,p.bits,[],p.slot⟩ v3 cr zero32 wx)
    case first =>
     have j0:=Z hW.1
     have j1:=Z hW.2.1
     have j3:=Z hW.2.2.1
     have j4:=Z hW.2.2.2.1
     have UI:=Z hW.2.2.2.2.1
     have UIn:=Z hW.2.2.2.2.2.1
     have HB:=hW.2.2.2.2.2.2
     clear hW
     have K0:=j0;have K1:=j1;have K3:=j3;have K4:=j4
     clear j0 j1 j3 j4
     (obtain⟨k0,f0,l0,m0⟩:=rl_ K0;obtain⟨k1,f1,l1,m1⟩:=rl_ K1;obtain⟨k3,f3,l3,m3⟩:=rl_ K3;obtain⟨k4,f4,l4,m4⟩:=rl_ K4)
     rcases Nat.eq_zero_or_pos p.next.length with h0|h0
     ·have e1:(p.next.length:Int)=0:=by omega
      go_wp2_with fail
      go_meet
      case rel=>exact⟨by rw[decide_eq_false (by omega)],K0.out,K1.out,K3.out,K4.out,UI.out,UIn.out,HB⟩
     ·have e1:(0:Int)<(p.next.length:Int):=by omega
      go_wp2_with fail
      go_meet
      case rel=>exact⟨by rw[decide_eq_true h0],K0.out,K1.out,K3.out,K4.out,UI.out,UIn.out,HB⟩
    clear hW
    obtain⟨rfl,hW⟩:=hcut
    obtain⟨bn,hbn⟩:∃ b,decide (0<p.next.length)=b:=⟨_,rfl⟩
    rw[hbn]
    replace hbn:=Z hbn
    obtain⟨ne,hne⟩:∃ ne,(if okN p then(0:Int) else 2)=ne:=⟨_,rfl⟩
    replace hne:=Z hne
    go_upto_if 74 with fail
    go_cut [5] (fun s5 wx=>∃ nx v5,s5=.int .i64 ne∧(okN p=true→nx.bare=nxS p∧v5=l5S p)∧MuW w g g3 g4 p ⟨Lt.zero,nx,Rw.zero,lt,Rw.zero,p.bits,[],p.slot⟩ v3 cr v5 wx)
    case first =>
     as_aux_lemma =>
      have j0:=Z hW.1
      have j1:=Z hW.2.1
      have j3:=Z hW.2.2.1
      have j4:=Z hW.2.2.2.1
      have UI:=Z hW.2.2.2.2.1
      have UIn:=Z hW.2.2.2.2.2.1
      have HB:=hW.2.2.2.2.2.2
      clear hW
      have K0:=j0;have K1:=j1;have K3:=j3;have K4:=j4
      clear j0 j1 j3 j4
      (obtain⟨k0,f0,l0,m0⟩:=rl_ K0;obtain⟨k1,f1,l1,m1⟩:=rl_ K1;obtain⟨k3,f3,l3,m3⟩:=rl_ K3;obtain⟨k4,f4,l4,m4⟩:=rl_ K4)
      cases bn with
      | false =>
       have h0:p.next.length=0:=by have:=of_decide_eq_false hbn.out;omega
       have hok:=Z (show okN p=true by unfold okN;rw[decide_eq_true h0];rfl)
       have hfs:=Z (show nxS p=Cm.zero by unfold nxS;rw[if_pos h0])
       have hls:=Z (show l5S p=zero32 by unfold l5S;rw[if_pos h0])
       clear n2 n4 n5 n6 n7 hxE h0
       go_wp2_with fail
       go_meet
       case rel=>exact⟨Cm.zero,zero32,by rw[←hne.out,hok.out];rfl,fun _=>⟨hfs.out.symm,hls.out.symm⟩,K0.out,K1.out,K3.out,K4.out,UI.out,UIn.out,HB⟩
      | true =>
       have h0:¬ p.next.length=0:=by have:=of_decide_eq_true hbn.out;omega
       have hok:=Z (show okN p=goodS p.next by unfold okN;rw[decide_eq_false h0,Bool.false_or])
       have hfs:=Z (show nxS p=cmS p.next by unfold nxS;rw[if_neg h0])
       have hls:=Z (show l5S p=cmRoot (cmS p.next) by unfold l5S;rw[if_neg h0])
       have hxn:xe=ne:=by rw[hxE.out,←hne.out,hok.out]
       subst hxn
       have hzz:g4+1≤wc.heap.size:=by omega
       clear n4 n5 n7 hxE h0
       go_wp2_with fail
       (refine(n6.out _ HB).mono ?_;rintro e w7 ⟨nx,rfl,hnx,hnn,hN⟩;replace K0:=hn_ K0 hN;replace K1:=hn_ K1 hN;replace K3:=hn_ K3 hN;replace K4:=hn_ K4 hN;have NUI:=Z (UI.out.below hN);replace HB:Below w.heap.size w w7:=Below.on hN HB;clear hN k0 f0 l0 m0 k1 f1 l1 m1 k3 f3 l3 m3 k4 f4 l4 m4 UI;have UI:=NUI;clear NUI;obtain⟨k0,f0,l0,m0⟩:=rl_ K0;obtain⟨k1,f1,l1,m1⟩:=rl_ K1;obtain⟨k3,f3,l3,m3⟩:=rl_ K3;obtain⟨k4,f4,l4,m4⟩:=rl_ K4)
       have N9:=Z hnx.1
       have N9n:=Z (RwNew.mono hnn hzz)
       have hx2:=Z hnx
       clear hnx hnn n6 hzz
       replace N9n:=Z (show RwNew (g4+1) nx.ks from N9n.out)
       (go_wp2_with(first|(with_reducible refine wsh (stUp_next _ K3.out (nx)) rfl rfl ?_));generalize hWN:setRow _ _ _ _=WN;replace K3:=Z (show Blk WN _ _ _ by rw[←hWN];exact Blk.row K3.out.lt);replace K0:=Z (show Blk WN _ _ _ by rw[←hWN];exact Blk.rowOver (by omega) K0.out);replace K1:=Z (show Blk WN _ _ _ by rw[←hWN];exact Blk.rowOver (by omega) K1.out);replace K4:=Z (show Blk WN _ _ _ by rw[←hWN];exact Blk.rowOver (by omega) K4.out);have NUI:=Z (show UpIn WN _ by rw[←hWN];exact UI.out.kp UIn.out (Kp.row (by omega)));have NN9:=Z (show CmIn WN _ by rw[←hWN];exact N9.out.kp N9n.out (Kp.row (by omega)));replace HB:Below w.heap.size w WN:=(by rw[←hWN];exact Below.row HB (by omega) HB.size);clear hWN k3 f3 l3 m3 k0 f0 l0 m0 k1 f1 l1 m1 k4 f4 l4 m4 UI N9;have UI:=NUI;clear NUI;have N9:=NN9;clear NN9;obtain⟨k3,f3,l3,m3⟩:=rl_ K3;obtain⟨k0,f0,l0,m0⟩:=rl_ K0;obtain⟨k1,f1,l1,m1⟩:=rl_ K1;obtain⟨k4,f4,l4,m4⟩:=rl_ K4;unfold Halted)
       obtain⟨w8,rfl⟩:∃ w',w'=WN:=⟨_,rfl⟩
       obtain⟨xr,hxr⟩:∃ xr,cmRoot nx=xr:=⟨_,rfl⟩
       obtain⟨xq,hxq⟩:∃ xq,cmE nx=xq:=⟨_,rfl⟩
       have n52:=n2.out nx
       rw[hxr,hxq]at n52
       replace n52:=Z n52
       replace hxr:=Z hxr
       clear hxq n2
       go_wp2_with(with_reducible refine wlr (ldUp_next _ K3.out) rfl ?_)
       (refine(n52.out _ HB N9.out).mono ?_;rintro e w9 ⟨rfl,hN⟩;replace K0:=hn_ K0 hN;replace K1:=hn_ K1 hN;replace K3:=hn_ K3 hN;replace K4:=hn_ K4 hN;have NUI:=Z (UI.out.below hN);have NN9:=Z (N9.out.below hN);replace HB:Below w.heap.size w w9:=Below.on hN HB;clear hN k0 f0 l0 m0 k1 f1 l1 m1 k3 f3 l3 m3 k4 f4 l4 m4 UI N9;have UI:=NUI;clear NUI;have N9:=NN9;clear NN9;obtain⟨k0,f0,l0,m0⟩:=rl_ K0;obtain⟨k1,f1,l1,m1⟩:=rl_ K1;obtain⟨k3,f3,l3,m3⟩:=rl_ K3;obtain⟨k4,f4,l4,m4⟩:=rl_ K4)
       go_wp2_with fail
       (obtain⟨WN,hWN⟩:∃ W',World.setCell w9 ⟨g4,5,none⟩ (.string (bs xr))=W':=⟨_,rfl⟩;replace K4:=Z (show Blk WN _ _ (lvA v3 cr xr) by rw[←hWN];exact Blk.to (Blk.set_ K4.out 5 _) rfl);replace K0:=Z (show Blk WN _ _ _ by rw[←hWN];exact K0.out.far (by simp;omega) _);replace K1:=Z (show Blk WN _ _ _ by rw[←hWN];exact K1.out.far (by simp;omega) _);replace K3:=Z (show Blk WN _ _ _ by rw[←hWN];exact K3.out.far (by simp;omega) _);have NUI:=Z (show UpIn WN _ by rw[←hWN];exact UI.out.kp UIn.out (Kp.cell (by omega)));have NN9:=Z (show CmIn WN _ by rw[←hWN];exact N9.out.kp N9n.out (Kp.cell (by omega)));replace HB:Below w.heap.size w WN:=(by rw[←hWN];exact HB.setCell (by simp;omega) _);rw[hWN];clear hWN k4 f4 l4 m4 k0 f0 l0 m0 k1 f1 l1 m1 k3 f3 l3 m3 UI N9;have UI:=NUI;clear NUI;have N9:=NN9;clear NN9;obtain⟨k4,f4,l4,m4⟩:=rl_ K4;obtain⟨k0,f0,l0,m0⟩:=rl_ K0;obtain⟨k1,f1,l1,m1⟩:=rl_ K1;obtain⟨k3,f3,l3,m3⟩:=rl_ K3)
       go_wp2_with fail
       go_meet
       case rel =>
        exact⟨nx,xr,rfl,fun h=>⟨by rw[hfs.out];exact hx2.out.bare (by rw[←hok.out];exact h),by rw[hls.out,←hxr.out];exact cmRoot_bare (hx2.out.bare (by rw[←hok.out];exact h))⟩,K0.out,K1.out,K3.out,K4.out,⟨UI.out.1,N9.out,UI.out.2.2⟩,⟨UIn.out.1,N9n.out,UIn.out.2.2⟩,HB⟩
    clear hW
    obtain⟨nx,v5,rfl,hnx,hW⟩:=hcut
    replace hnx:=Z hnx
    clear n6 hxE
    cases hkn:okN p with
    | false =>
     have hne0:ne=2:=by rw[←hne.out,hkn];rfl
     subst hne0
     have hgu:=Z (show goodU p=false by unfold goodU;rw[hkn];simp)
     have hE:=Z (show updE p=2 from hE0.out _ hgu.out)
     have j0:=Z hW.1
     have j1:=Z hW.2.1
     have j3:=Z hW.2.2.1
     have j4:=Z hW.2.2.2.1
     have UI:=Z hW.2.2.2.2.1
     have UIn:=Z hW.2.2.2.2.2.1
     have HB:=hW.2.2.2.2.2.2
     clear hW
     have K0:=j0;have K1:=j1;have K3:=j3;have K4:=j4
     clear j0 j1 j3 j4
     (obtain⟨k0,f0,l0,m0⟩:=rl_ K0;obtain⟨k1,f1,l1,m1⟩:=rl_ K1;obtain⟨k3,f3,l3,m3⟩:=rl_ K3;obtain⟨k4,f4,l4,m4⟩:=rl_ K4)
     clear hE0 hnx hkn hne n2 n4 n5 n7 UI UIn
     (go_wp2_with(first|(with_reducible refine wsh (stUp _ K1.out (Up.zero)) rfl rfl ?_));generalize hWN:setRow _ _ _ _=WN;replace K1:=Z (show Blk WN _ _ _ by rw[←hWN];exact Blk.row K1.out.lt);replace K0:=Z (show Blk WN _ _ _ by rw[←hWN];exact Blk.rowOver (by omega) K0.out);replace HB:Below w.heap.size w WN:=(by rw[←hWN];exact Below.row HB (by omega) HB.size);clear hWN k1 f1 l1 m1 k0 f0 l0 m0;obtain⟨k1,f1,l1,m1⟩:=rl_ K1;obtain⟨k0,f0,l0,m0⟩:=rl_ K0;unfold Halted)
     go_wp2_with fail
     exact bodyPost_ret (results_cell2 rfl rfl (ldUp _ K1.out)) rfl ⟨Up.zero,by rw[hE.out];rfl,⟨⟨UpIn.zero _,fun h=>(by rw[hgu.out]at h;cases h),fun _=>rfl⟩,UpNew.zero _⟩,HB⟩
    | true =>
     have hne0:ne=0:=by rw[←hne.out,hkn];rfl
     subst hne0
     have hnx1:=Z (hnx.out hkn).1
     obtain rfl:=(hnx.out hkn).2
     clear hnx hne
     have hx1:=Z hkn
     obtain⟨v5,hv5⟩:∃ v5,l5S p=v5:=⟨_,rfl⟩
     rw[hv5]at hW
     have hRr:=leavesU_right hgs.out hkc.out hkn
     have hlv:leavesU p=[zero32,zero32,zero32,v3,cr,v5]:=by unfold leavesU;rw[hv3.out,hcr.out,hv5]
     have hstl:=Z (stateU_len hgs.out hkc.out hkn)
     have n8:=Z (fun W (hB:Below w.heap.size w W) (h:Blk W g4 9 (lvA v3 cr v5))=>mtree_calls (some ⟨g4,0,none⟩) 6 (leavesU p) 3 3 hRr (by decide) W (hk.out.on hB) (txts_blk (by rw[hlv];exact h)))
     have n9:=Z (fun W (hB:Below w.heap.size w W) (h:Blk W g4 9 (lvA v3 cr v5))=>mtree_calls (some ⟨g4,0,none⟩) 6 (leavesU p) 3 5 hRr (by decide) W (hk.out.on hB) (txts_blk (by rw[hlv];exact h)))
     have hbl3:=Z (branchP_len (leavesU p) 3 3)
     have hbl5:=Z (branchP_len (leavesU p) 5 3)
     have hba3:∀ x∈branchP (leavesU p) 3 3,x.length≤1048576:=fun x hx=>by rw[branchP_all _ hRr.2.2.2.2 _ _ x hx];decide
     have hba5:∀ x∈branchP (leavesU p) 5 3,x.length≤1048576:=fun x hx=>by rw[branchP_all _ hRr.2.2.2.2 _ _ x hx];decide
     replace hba3:=Z hba3
     replace hba5:=Z hba5
     have hst:rootP (leavesU p) 3=stateU p:=rfl
     have hfb:=Z (show fbS p=if p.fin=0 then [] else branchP (leavesU p) 3 3 from rfl)
     have hnb:=Z (show nbS p=if p.next.length=0 then [] else branchP (leavesU p) 5 3 from rfl)
     obtain⟨st,hst2⟩:∃ st,stateU p=st:=⟨_,rfl⟩
     rw[hst,hst2]at n8 n9
     rw[hst2]at hstl
     replace hst2:=Z hst2
     obtain⟨r3,hr3⟩:∃ r,branchP (leavesU p) 3 3=r:=⟨_,rfl⟩
     obtain⟨r5,hr5⟩:∃ r,branchP (leavesU p) 5 3=r:=⟨_,rfl⟩
     rw[hr3]at n8 hbl3 hba3 hfb
     rw[hr5]at n9 hbl5 hba5 hnb
     have n8':∀ W,Below w.heap.size w W→Blk W g4 9 (lvA v3 cr v5)→Calls Tryz.prog 23 #[.int .i64 3,.int .i64 3,.slice (some ⟨g4,0,none⟩) 6 6] W (fun e w'=>∃ v,e=.returned (.tuple #[.string (bs st),v])∧LRow W.heap.size w' v r3∧Below W.heap.size W w'):=n8.out
     have n9':∀ W,Below w.heap.size w W→Blk W g4 9 (lvA v3 cr v5)→Calls Tryz.prog 23 #[.int .i64 3,.int .i64 5,.slice (some ⟨g4,0,none⟩) 6 6] W (fun e w'=>∃ v,e=.returned (.tuple #[.string (bs st),v])∧LRow W.heap.size w' v r5∧Below W.heap.size W w'):=n9.out
     replace n8:=Z n8'
     replace n9:=Z n9'
     clear n8' n9' hst hr3 hr5 hRr hlv hkn n2 n5 hv5
     have j0:=Z hW.1
     have j1:=Z hW.2.1
     have j3:=Z hW.2.2.1
     have j4:=Z hW.2.2.2.1
     have UI:=Z hW.2.2.2.2.1
     have UIn:=Z hW.2.2.2.2.2.1
     have HB:=hW.2.2.2.2.2.2
     clear hW
     have K0:=j0;have K1:=j1;have K3:=j3;have K4:=j4
     clear j0 j1 j3 j4
     (obtain⟨k0,f0,l0,m0⟩:=rl_ K0;obtain⟨k1,f1,l1,m1⟩:=rl_ K1;obtain⟨k3,f3,l3,m3⟩:=rl_ K3;obtain⟨k4,f4,l4,m4⟩:=rl_ K4)
     have hzz:g4+1≤wc.heap.size:=by omega
     go_wp2_with fail
     (refine(n8.out _ HB K4.out).mono ?_;rintro e w7 ⟨v,rfl,hRv,hN⟩;replace K0:=hn_ K0 hN;replace K1:=hn_ K1 hN;replace K3:=hn_ K3 hN;replace K4:=hn_ K4 hN;have NUI:=Z (UI.out.below hN);replace HB:Below w.heap.size w w7:=Below.on hN HB;clear hN k0 f0 l0 m0 k1 f1 l1 m1 k3 f3 l3 m3 k4 f4 l4 m4 UI;have UI:=NUI;clear NUI;obtain⟨k0,f0,l0,m0⟩:=rl_ K0;obtain⟨k1,f1,l1,m1⟩:=rl_ K1;obtain⟨k3,f3,l3,m3⟩:=rl_ K3;obtain⟨k4,f4,l4,m4⟩:=rl_ K4)
     obtain⟨A5,c5,rfl,_⟩:=hRv.txts
     have F1:=Z (row_in hRv (by rw[hbl3.out];decide) hba3.out)
     have F1n:=Z (row_newer (base':=g4+1) hRv hzz)
     clear hRv n8 hzz
     have hzz:g4+1≤w7.heap.size:=by omega
     go_wp2_with fail
     (refine(n9.out _ HB K4.out).mono ?_;rintro e w8 ⟨v,rfl,hRv,hN⟩;replace K0:=hn_ K0 hN;replace K1:=hn_ K1 hN;replace K3:=hn_ K3 hN;replace K4:=hn_ K4 hN;have NUI:=Z (UI.out.below hN);have NF1:=Z (F1.out.below hN);replace HB:Below w.heap.size w w8:=Below.on hN HB;clear hN k0 f0 l0 m0 k1 f1 l1 m1 k3 f3 l3 m3 k4 f4 l4 m4 UI F1;have UI:=NUI;clear NUI;have F1:=NF1;clear NF1;obtain⟨k0,f0,l0,m0⟩:=rl_ K0;obtain⟨k1,f1,l1,m1⟩:=rl_ K1;obtain⟨k3,f3,l3,m3⟩:=rl_ K3;obtain⟨k4,f4,l4,m4⟩:=rl_ K4)
     obtain⟨A6,c6,rfl,_⟩:=hRv.txts
     have F2:=Z (row_in hRv (by rw[hbl5.out];decide) hba5.out)
     have F2n:=Z (row_newer (base':=g4+1) hRv hzz)
     clear hRv n9 hzz
     obtain⟨bf,hbf⟩:∃ b,((p.fin:Int) != 0)=b:=⟨_,rfl⟩
     have hbf2:((p.fin:Int) == 0) = !bf:=by rw[←hbf,bne,Bool.not_not]
     have hbf4:=Z (show bf = !decide (p.fin=0) by rw[←hbf,Bool.eq_iff_iff];simp)
     go_upto_if 106 with fail
     clear hbf hbf2
     go_cut [] (fun wx=>∃ fb:Rw,(fb.l=fbS p∧RwIn wx ⟨A6,c6,r5⟩)∧MuW w g g3 g4 p ⟨Lt.zero,nx,Rw.zero,lt,fb,p.bits,[],p.slot⟩ v3 cr v5 wx)
     case first =>
      cases bf with
      | false =>
       have hf:p.fin=0:=by simpa using hbf4.out
       have hfb2:=Z (show fbS p=[] by rw[hfb.out,if_pos hf])
       go_wp2_with fail
       go_meet
       case rel=>exact⟨Rw.zero,⟨hfb2.out.symm,F2.out⟩,K0.out,K1.out,K3.out,K4.out,UI.out,UIn.out,HB⟩
      | true =>
       have hf:¬ p.fin=0:=by simpa using hbf4.out
       have hfb2:=Z (show fbS p=r3 by rw[hfb.out,if_neg hf])
       go_wp2_with fail
       (obtain⟨WN,hWN⟩:∃ W',World.setCell w8 ⟨g3,21,none⟩ (.slice A5 r3.length c5)=W':=⟨_,rfl⟩;replace K3:=Z (show Blk WN _ _ (upA ⟨Lt.zero,nx,Rw.zero,lt,⟨A5,c5,r3⟩,p.bits,[],p.slot⟩) by rw[←hWN];exact Blk.to (Blk.set_ K3.out 21 _) rfl);replace K0:=Z (show Blk WN _ _ _ by rw[←hWN];exact K0.out.far (by simp;omega) _);replace K1:=Z (show Blk WN _ _ _ by rw[←hWN];exact K1.out.far (by simp;omega) _);replace K4:=Z (show Blk WN _ _ _ by rw[←hWN];exact K4.out.far (by simp;omega) _);have NUI:=Z (show UpIn WN _ by rw[←hWN];exact UI.out.kp UIn.out (Kp.cell (by omega)));have NF1:=Z (show RwIn WN _ by rw[←hWN];exact F1.out.kp F1n.out (Kp.cell (by omega)));have NF2:=Z (show RwIn WN _ by rw[←hWN];exact F2.out.kp F2n.out (Kp.cell (by omega)));replace HB:Below w.heap.size w WN:=(by rw[←hWN];exact HB.setCell (by simp;omega) _);rw[hWN];clear hWN k3 f3 l3 m3 k0 f0 l0 m0 k1 f1 l1 m1 k4 f4 l4 m4 UI F1 F2;have UI:=NUI;clear NUI;have F1:=NF1;clear NF1;have F2:=NF2;clear NF2;obtain⟨k3,f3,l3,m3⟩:=rl_ K3;obtain⟨k0,f0,l0,m0⟩:=rl_ K0;obtain⟨k1,f1,l1,m1⟩:=rl_ K1;obtain⟨k4,f4,l4,m4⟩:=rl_ K4)
       go_meet
       case rel=>exact⟨⟨A5,c5,r3⟩,⟨hfb2.out.symm,F2.out⟩,K0.out,K1.out,K3.out,K4.out,⟨UI.out.1,UI.out.2.1,UI.out.2.2.1,UI.out.2.2.2.1,F1.out,UI.out.2.2.2.2.2⟩,⟨UIn.out.1,UIn.out.2.1,UIn.out.2.2.1,UIn.out.2.2.2.1,F1n.out⟩,HB⟩
     clear k0 f0 l0 m0 k1 f1 l1 m1 k3 f3 l3 m3 k4 f4 l4 m4 K0 K1 K3 K4 HB UI UIn
     clear F1 F1n F2
     obtain⟨fb,⟨hfb2,hF2⟩,hW⟩:=hcut
     have F2:=Z hF2
     replace hfb2:=Z hfb2
     clear hF2 hfb hbf4
     go_upto_region 20 with fail
     go_cut [112] (fun s wx=>s=.bool bn∧RwIn wx ⟨A6,c6,r5⟩∧MuW w g g3 g4 p ⟨Lt.zero,nx,Rw.zero,lt,fb,p.bits,[],p.slot⟩ v3 cr v5 wx)
     case first =>
      have j0:=Z hW.1
      have j1:=Z hW.2.1
      have j3:=Z hW.2.2.1
      have j4:=Z hW.2.2.2.1
      have UI:=Z hW.2.2.2.2.1
      have UIn:=Z hW.2.2.2.2.2.1
      have HB:=hW.2.2.2.2.2.2
      clear hW
      have K0:=j0;have K1:=j1;have K3:=j3;have K4:=j4
      clear j0 j1 j3 j4
      (obtain⟨k0,f0,l0,m0⟩:=rl_ K0;obtain⟨k1,f1,l1,m1⟩:=rl_ K1;obtain⟨k3,f3,l3,m3⟩:=rl_ K3;obtain⟨k4,f4,l4,m4⟩:=rl_ K4)
      rcases Nat.eq_zero_or_pos p.next.length with h0|h0
      ·have e1:(p.next.length:Int)=0:=by omega
       go_wp2_with fail
       go_meet
       case rel=>exact⟨by rw[←hbn.out,decide_eq_false (by omega)],F2.out,K0.out,K1.out,K3.out,K4.out,UI.out,UIn.out,HB⟩
      ·have e1:(0:Int)<(p.next.length:Int):=by omega
       go_wp2_with fail
       go_meet
       case rel=>exact⟨by rw[←hbn.out,decide_eq_true h0],F2.out,K0.out,K1.out,K3.out,K4.out,UI.out,UIn.out,HB⟩
     clear hW F2
     obtain⟨rfl,hF2,hW⟩:=hcut
     have F2:=Z hF2
     clear hF2
     go_upto_if 112 with fail
     go_cut [] (fun wx=>∃ nb:Rw,nb.l=nbS p∧MuW w g g3 g4 p ⟨Lt.zero,nx,nb,lt,fb,p.bits,[],p.slot⟩ v3 cr v5 wx)
     case first =>
      have j0:=Z hW.1
      have j1:=Z hW.2.1
      have j3:=Z hW.2.2.1
      have j4:=Z hW.2.2.2.1
      have UI:=Z hW.2.2.2.2.1
      have UIn:=Z hW.2.2.2.2.2.1
      have HB:=hW.2.2.2.2.2.2
      clear hW
      have K0:=j0;have K1:=j1;have K3:=j3;have K4:=j4
      clear j0 j1 j3 j4
      (obtain⟨k0,f0,l0,m0⟩:=rl_ K0;obtain⟨k1,f1,l1,m1⟩:=rl_ K1;obtain⟨k3,f3,l3,m3⟩:=rl_ K3;obtain⟨k4,f4,l4,m4⟩:=rl_ K4)
      cases bn with
      | false =>
       have h0:p.next.length=0:=by have:=of_decide_eq_false hbn.out;omega
       have hnb2:=Z (show nbS p=[] by rw[hnb.out,if_pos h0])
       clear h0
       go_wp2_with fail
       go_meet
       case rel=>exact⟨Rw.zero,hnb2.out.symm,K0.out,K1.out,K3.out,K4.out,UI.out,UIn.out,HB⟩
      | true =>
       have h0:¬ p.next.length=0:=by have:=of_decide_eq_true hbn.out;omega
       have hnb2:=Z (show nbS p=r5 by rw[hnb.out,if_neg h0])
       clear h0
       go_wp2_with fail
       (obtain⟨WN,hWN⟩:∃ W',World.setCell wc ⟨g3,11,none⟩ (.slice A6 r5.length c6)=W':=⟨_,rfl⟩;replace K3:=Z (show Blk WN _ _ (upA ⟨Lt.zero,nx,⟨A6,c6,r5⟩,lt,fb,p.bits,[],p.slot⟩) by rw[←hWN];exact Blk.to (Blk.set_ K3.out 11 _) rfl);replace K0:=Z (show Blk WN _ _ _ by rw[←hWN];exact K0.out.far (by simp;omega) _);replace K1:=Z (show Blk WN _ _ _ by rw[←hWN];exact K1.out.far (by simp;omega) _);replace K4:=Z (show Blk WN _ _ _ by rw[←hWN];exact K4.out.far (by simp;omega) _);have NUI:=Z (show UpIn WN _ by rw[←hWN];exact UI.out.kp UIn.out (Kp.cell (by omega)));have NF2:=Z (show RwIn WN _ by rw[←hWN];exact F2.out.kp F2n.out (Kp.cell (by omega)));replace HB:Below w.heap.size w WN:=(by rw[←hWN];exact HB.setCell (by simp;omega) _);rw[hWN];clear hWN k3 f3 l3 m3 k0 f0 l0 m0 k1 f1 l1 m1 k4 f4 l4 m4 UI F2;have UI:=NUI;clear NUI;have F2:=NF2;clear NF2;obtain⟨k3,f3,l3,m3⟩:=rl_ K3;obtain⟨k0,f0,l0,m0⟩:=rl_ K0;obtain⟨k1,f1,l1,m1⟩:=rl_ K1;obtain⟨k4,f4,l4,m4⟩:=rl_ K4)
       go_meet
       case rel=>exact⟨⟨A6,c6,r5⟩,hnb2.out.symm,K0.out,K1.out,K3.out,K4.out,⟨UI.out.1,UI.out.2.1,F2.out,UI.out.2.2.2⟩,⟨UIn.out.1,UIn.out.2.1,F2n.out,UIn.out.2.2.2⟩,HB⟩
     clear hW F2 F2n hnb hbn
     obtain⟨nb,hnb2,hW⟩:=hcut
     replace hnb2:=Z hnb2
     have hle:lightE p.acc p.rcp st=if accOk p then 0 else 2:=by
      unfold lightE
      rw[lightOk_st hstl.out]
      rfl
     have hok:=Z (show lightOk p.acc p.rcp st=accOk p from lightOk_st hstl.out)
     obtain⟨se,hse⟩:∃ se,(if accOk p then(0:Int) else 2)=se:=⟨_,rfl⟩
     have n42:=n4.out p.seen hseen.out st
     rw[hle,hse]at n42
     replace n42:=Z n42
     replace hse:=Z hse
     clear hle n4
     have j0:=Z hW.1
     have j1:=Z hW.2.1
     have j3:=Z hW.2.2.1
     have j4:=Z hW.2.2.2.1
     have UI:=Z hW.2.2.2.2.1
     have UIn:=Z hW.2.2.2.2.2.1
     have HB:=hW.2.2.2.2.2.2
     clear hW
     have K0:=j0;have K1:=j1;have K3:=j3;have K4:=j4
     clear j0 j1 j3 j4
     (obtain⟨k0,f0,l0,m0⟩:=rl_ K0;obtain⟨k1,f1,l1,m1⟩:=rl_ K1;obtain⟨k3,f3,l3,m3⟩:=rl_ K3;obtain⟨k4,f4,l4,m4⟩:=rl_ K4)
     have hzz:g4+1≤wc.heap.size:=by omega
     go_wp2_with fail
     (refine(n42.out _ HB).mono ?_;rintro e w9 ⟨l2,rfl,hlt,hln,hN⟩;replace K0:=hn_ K0 hN;replace K1:=hn_ K1 hN;replace K3:=hn_ K3 hN;have NUI:=Z (UI.out.below hN);replace HB:Below w.heap.size w w9:=Below.on hN HB;clear hN k0 f0 l0 m0 k1 f1 l1 m1 k3 f3 l3 m3 UI;have UI:=NUI;clear NUI;obtain⟨k0,f0,l0,m0⟩:=rl_ K0;obtain⟨k1,f1,l1,m1⟩:=rl_ K1;obtain⟨k3,f3,l3,m3⟩:=rl_ K3)
     have L2:=Z hlt.1
     have L2n:=Z (RwNew.mono hln hzz)
     have hl2:=Z hlt
     clear hlt hln n42 hzz K4 k4 f4 l4 m4
     (go_wp2_with(first|(with_reducible refine wsh (stUp_seen _ K3.out (l2)) rfl rfl ?_));generalize hWN:setRow _ _ _ _=WN;replace K3:=Z (show Blk WN _ _ _ by rw[←hWN];exact Blk.row K3.out.lt);replace K0:=Z (show Blk WN _ _ _ by rw[←hWN];exact Blk.rowOver (by omega) K0.out);replace K1:=Z (show Blk WN _ _ _ by rw[←hWN];exact Blk.rowOver (by omega) K1.out);have NUI:=Z (show UpIn WN _ by rw[←hWN];exact UI.out.kp UIn.out (Kp.row (by omega)));have NL2:=Z (show LtIn WN _ by rw[←hWN];exact L2.out.kp L2n.out (Kp.row (by omega)));replace HB:Below w.heap.size w WN:=(by rw[←hWN];exact Below.row HB (by omega) HB.size);clear hWN k3 f3 l3 m3 k0 f0 l0 m0 k1 f1 l1 m1 UI L2;have UI:=NUI;clear NUI;have L2:=NL2;clear NL2;obtain⟨k3,f3,l3,m3⟩:=rl_ K3;obtain⟨k0,f0,l0,m0⟩:=rl_ K0;obtain⟨k1,f1,l1,m1⟩:=rl_ K1;unfold Halted)
     cases hacc:accOk p with
     | false =>
      have hse0:se=2:=by rw[←hse.out,hacc];rfl
      subst hse0
      have hgu:=Z (show goodU p=false by unfold goodU;rw[hacc];simp)
      have hE:=Z (show updE p=2 from hE0.out _ hgu.out)
      clear hE0 hacc hse n7 UI UIn hl2 L2 L2n
      (go_wp2_with(first|(with_reducible refine wsh (stUp _ K1.out (Up.zero)) rfl rfl ?_));generalize hWN:setRow _ _ _ _=WN;replace K1:=Z (show Blk WN _ _ _ by rw[←hWN];exact Blk.row K1.out.lt);replace K0:=Z (show Blk WN _ _ _ by rw[←hWN];exact Blk.rowOver (by omega) K0.out);replace K3:=Z (show Blk WN _ _ _ by rw[←hWN];exact Blk.rowOver (by omega) K3.out);replace HB:Below w.heap.size w WN:=(by rw[←hWN];exact Below.row HB (by omega) HB.size);clear hWN k1 f1 l1 m1 k0 f0 l0 m0 k3 f3 l3 m3;obtain⟨k1,f1,l1,m1⟩:=rl_ K1;obtain⟨k0,f0,l0,m0⟩:=rl_ K0;obtain⟨k3,f3,l3,m3⟩:=rl_ K3;unfold Halted)
      go_wp2_with fail
      exact bodyPost_ret (results_cell2 rfl rfl (ldUp _ K1.out)) rfl ⟨Up.zero,by rw[hE.out];rfl,⟨⟨UpIn.zero _,fun h=>(by rw[hgu.out]at h;cases h),fun _=>rfl⟩,UpNew.zero _⟩,HB⟩
     | true =>
      have hse0:se=0:=by rw[←hse.out,hacc];rfl
      subst hse0
      have hgu:=Z (show goodU p=true by unfold goodU;rw[hacc,hgs.out,hx1.out];rfl)
      have hE:=Z (show updE p=0 from hE0.out _ hgu.out)
      have hb2:=Z (show l2.bare=ltS p.seen p.acc p.rcp st from hl2.out.bare (by rw[hok.out,hacc]))
      have hlb:=Z (show l2.b=hdS p.seen p.acc p.rcp st from(hl2.out.2.1 (by rw[hok.out,hacc])).1)
      have n72:=n7.out l2 h16.out
      obtain⟨sg,hsg⟩:∃ sg,sigP p l2.b=sg:=⟨_,rfl⟩
      have hsl:=Z (sigP_len p l2.b)
      rw[hsg]at n72 hsl
      replace n72:=Z n72
      replace hsg:=Z hsg
      clear hE0 hse n7 hl2 hacc
      go_wp2_with(first|(with_reducible refine wlr (ldPl _ K0.out) rfl ?_)|(with_reducible refine wlr (ldUp_seen_b _ K3.out) rfl ?_))
      have NB:=Z (show UpNew w.heap.size ⟨l2,nx,nb,lt,fb,p.bits,sg,p.slot⟩ from UpNew.mono ⟨L2n.out,UIn.out.2⟩ (by omega))
      (refine(n72.out _ HB L2.out).mono ?_;rintro e w10 ⟨rfl,hN⟩;replace K0:=hn_ K0 hN;replace K1:=hn_ K1 hN;replace K3:=hn_ K3 hN;have NUI:=Z (UI.out.below hN);have NL2:=Z (L2.out.below hN);replace HB:Below w.heap.size w w10:=Below.on hN HB;clear hN k0 f0 l0 m0 k1 f1 l1 m1 k3 f3 l3 m3 UI L2;have UI:=NUI;clear NUI;have L2:=NL2;clear NL2;obtain⟨k0,f0,l0,m0⟩:=rl_ K0;obtain⟨k1,f1,l1,m1⟩:=rl_ K1;obtain⟨k3,f3,l3,m3⟩:=rl_ K3)
      (go_wp2_with(first|(with_reducible refine wsh (stcUp_sig _ K3.out (sg)) rfl rfl ?_));generalize hWN:setRow _ _ _ _=WN;replace K3:=Z (show Blk WN _ _ _ by rw[←hWN];exact Blk.row K3.out.lt);replace K0:=Z (show Blk WN _ _ _ by rw[←hWN];exact Blk.rowOver (by omega) K0.out);replace K1:=Z (show Blk WN _ _ _ by rw[←hWN];exact Blk.rowOver (by omega) K1.out);have NUI:=Z (show UpIn WN _ by rw[←hWN];exact UI.out.kp UIn.out (Kp.row (by omega)));have NL2:=Z (show LtIn WN _ by rw[←hWN];exact L2.out.kp L2n.out (Kp.row (by omega)));replace HB:Below w.heap.size w WN:=(by rw[←hWN];exact Below.row HB (by omega) HB.size);clear hWN k3 f3 l3 m3 k0 f0 l0 m0 k1 f1 l1 m1 UI L2;have UI:=NUI;clear NUI;have L2:=NL2;clear NL2;obtain⟨k3,f3,l3,m3⟩:=rl_ K3;obtain⟨k0,f0,l0,m0⟩:=rl_ K0;obtain⟨k1,f1,l1,m1⟩:=rl_ K1;unfold Halted)
      obtain⟨w11,rfl⟩:∃ w',w'=WN:=⟨_,rfl⟩
      (go_wp2_with(first|(with_reducible refine wlr (ldUp _ K3.out) rfl ?_)|(with_reducible refine wlg (ldUp _ K3.out) (by with_unfolding_all rfl) rfl ?_)|(with_reducible refine wsh (stUp _ K1.out (⟨l2,nx,nb,lt,fb,p.bits,sg,p.slot⟩)) rfl rfl ?_));generalize hWN:setRow _ _ _ _=WN;replace K1:=Z (show Blk WN _ _ _ by rw[←hWN];exact Blk.row K1.out.lt);replace K0:=Z (show Blk WN _ _ _ by rw[←hWN];exact Blk.rowOver (by omega) K0.out);replace K3:=Z (show Blk WN _ _ _ by rw[←hWN];exact Blk.rowOver (by omega) K3.out);have NUI:=Z (show UpIn WN _ by rw[←hWN];exact UI.out.kp UIn.out (Kp.row (by omega)));have NL2:=Z (show LtIn WN _ by rw[←hWN];exact L2.out.kp L2n.out (Kp.row (by omega)));replace HB:Below w.heap.size w WN:=(by rw[←hWN];exact Below.row HB (by omega) HB.size);clear hWN k1 f1 l1 m1 k0 f0 l0 m0 k3 f3 l3 m3 UI L2;have UI:=NUI;clear NUI;have L2:=NL2;clear NL2;obtain⟨k1,f1,l1,m1⟩:=rl_ K1;obtain⟨k0,f0,l0,m0⟩:=rl_ K0;obtain⟨k3,f3,l3,m3⟩:=rl_ K3;unfold Halted)
      go_wp2_with fail
      exact bodyPost_ret (results_cell2 rfl rfl (ldUp _ K1.out)) rfl ⟨⟨l2,nx,nb,lt,fb,p.bits,sg,p.slot⟩,by rw[hE.out];rfl,⟨⟨⟨L2.out,UI.out.2.1,UI.out.2.2.1,UI.out.2.2.2.1,UI.out.2.2.2.2.1,hbits.out,hsl.out,hslot.out⟩,fun _=>by
       show Up.mk l2.bare nx.bare (Rw.bare nb) lt.bare (Rw.bare fb) p.bits sg p.slot=upS p
       unfold upS Rw.bare
       rw[hb2.out,hnx1.out,hnb2.out,hlt1.out,hfb2.out,hst2.out,←hsg.out,hlb.out],fun h=>(by rw[hgu.out]at h;cases h)⟩,NB.out⟩,HB⟩
end
section
open BigFrame Go.RowKit Go.Phx Go.Shelf
attribute [local go_sem] Oper.semAt_some
def NumsAll(w:World) (A:Option Addr) (c:Nat) (l:List Nat):Prop:=Nums w A l∧l.length≤c∧c≤maxLen∧∀ n∈l,n<18446744073709551616
theorem Nums.take{w:World}{A:Option Addr}{l:List Nat} (h:Nums w A l) (k:Nat):Nums w A (l.take k):=fun h0=>by
 obtain⟨b,o,ha,hb,hc⟩:=h (by rw[List.length_take]at h0;omega)
 refine⟨b,o,ha,hb,fun i n hn=>hc i n ?_⟩
 have hi:=(List.getElem?_eq_some_iff.1 hn).1
 rw[List.getElem?_take_of_lt (by rw[List.length_take]at hi;omega)]at hn
 exact hn
theorem NumsAll.cut{w:World}{A:Option Addr}{c:Nat}{l:List Nat} (h:NumsAll w A c l):NumsIn w A (l.take 20):=⟨h.1.take 20,by rw[List.length_take];omega,fun n hn=>h.2.2.2 n (List.mem_of_mem_take hn)⟩
def PlAll(w:World) (p:Pl):Prop:=p.seen<18446744073709551616∧p.slot<18446744073709551616∧p.fin<18446744073709551616∧NumsAll w p.nowA p.nowC p.now∧NumsAll w p.nextA p.nextC p.next∧p.bits<18446744073709551616∧p.acc.length≤1048576∧p.rcp.length≤1048576
def Pl.cut(p:Pl):Pl:=⟨p.seen,p.slot,p.fin,p.nowA,p.nowC,p.now.take 20,p.nextA,p.nextC,p.next.take 20,p.bits,p.acc,p.rcp⟩
theorem PlAll.cut{w:World}{p:Pl} (h:PlAll w p):PlIn w p.cut:=⟨h.1,h.2.1,h.2.2.1,h.2.2.2.1.cut,h.2.2.2.2.1.cut,h.2.2.2.2.2⟩
def Pl.zero:Pl:=⟨0,0,0,none,0,[],none,0,[],0,[],[]⟩
section
open Go.ChangeShapes Go.WideShapes Go.ChangeAt Go.Joins
set_option maxRecDepth 100000
variable {H:Type}{enc:TypeId×Value→H}{w:World}{base:Nat}{spare:Nat→Bool}{held:Bool}{r:Reach}{b0:Nat}{v:Value}{d:DataW H}{p:List MemPlace}{fuel:Nat}{cs:List Value}{x:DataW H×List MemPlace}
theorem under_nums:Tryz.prog.underlying 24 = some (.slice 22):=by kernel_rfl
theorem under_num:Tryz.prog.underlying 22 = some (.int .u64):=by kernel_rfl
theorem openNums2{A:Option Addr}{n c:Nat} (hf:DataW.trod enc Tryz.prog w base spare held fuel 24 [.slice A n c]=some x):∃ l:List Nat,n=l.length∧NumsAll w A c l:=by
 rcases open_ints under_nums under_num U hf with ⟨hc,hx⟩|⟨a,len,cap,zs,hc,_,hl,hm,hn,hx,hcell,hw⟩
 ·simp at hc
  obtain⟨rfl,rfl,rfl⟩:=hc
  exact⟨[],rfl,fun h0=>absurd h0 (by simp),Nat.le_refl _,Nat.zero_le _,by simp⟩
 ·simp at hc
  obtain⟨rfl,rfl,rfl⟩:=hc
  have hlen:n≤zs.length:=by rw[hn];split <;> omega
  have ht:((zs.take n).map Int.toNat).length=n:=by rw[List.length_map,List.length_take];omega
  have hz:∀ z∈zs,0≤z∧z≤18446744073709551615:=fun z hz=>bounds_u64 (hw z hz)
  have hsp:0<zs.length→a.spot=none∧a.block<w.heap.size:=fun h0=>by
   have h00:=hcell 0 h0
   have hb:=World.block_lt_of_cell? _ _ h00
   rw[block_add]at hb
   refine⟨?_,hb⟩
   rw[Addr.add,if_pos rfl]at h00
   unfold World.cell? at h00
   split at h00
   ·rename_i hh
    cases hs:a.spot with
    | none=>rfl
    | some _=>rw[hs]at h00;simp at h00
   ·cases h00
  refine⟨(zs.take n).map Int.toNat,ht.symm,fun h0=>?_,by rw[ht];exact hl,hm,fun m hm2=>?_⟩
  ·rw[ht]at h0
   obtain⟨hs,hb⟩:=hsp (by omega)
   obtain⟨b,o,sp⟩:=a
   obtain rfl:sp=none:=hs
   refine⟨b,o,rfl,hb,fun i m hi=>?_⟩
   have hi2:i<n:=by have:=(List.getElem?_eq_some_iff.1 hi).1;rw[ht]at this;exact this
   have hc:=hcell i (by omega)
   rw[List.getElem?_map,List.getElem?_take_of_lt hi2,List.getElem?_eq_getElem (by omega)]at hi
   simp only[Option.map_some,Option.some.injEq]at hi
   rw[List.getD,List.getElem?_eq_getElem (show i<zs.length by omega)]at hc
   simp only[Option.getD_some]at hc
   have hp:=(hz (zs[i]'(by omega)) (List.getElem_mem _)).1
   rw[show((m:Nat):Int)=zs[i]'(by omega) by rw[←hi];exact Int.toNat_of_nonneg hp]
   rw[←show Addr.add ⟨b,o,none⟩ i=⟨b,o+i,none⟩ by unfold Addr.add;split <;> simp_all]
   exact hc
  ·obtain⟨z,hz1,rfl⟩:=List.mem_map.1 hm2
   have:=hz z (List.mem_of_mem_take hz1)
   omega
theorem read_nums(h:DataW.trod enc Tryz.prog w base spare held fuel 24 cs=some x):∃ (A:Option Addr) (c:Nat) (l:List Nat),cs=[.slice A l.length c]∧NumsAll w A c l:=by
 obtain⟨A,n,c,rfl⟩:=slice_form under_nums h
 obtain⟨l,rfl,hl⟩:=openNums2 h
 exact⟨A,c,l,rfl,hl⟩
theorem openNums(hv:Value.okWide Tryz.prog w r b0 24 v) (h:DataW.Trod enc Tryz.prog w base spare held 24 v d p):∃ (A:Option Addr) (c:Nat) (l:List Nat),v=.slice A l.length c∧NumsAll w A c l:=by
 obtain⟨fuel,hf⟩:=h
 obtain⟨A,n,c,rfl⟩:∃ A n c,v=.slice A n c:=okWide_slice under_nums hv
 obtain⟨l,rfl,hl⟩:=openNums2 (show DataW.trod enc Tryz.prog w base spare held fuel 24 [.slice A n c]=some (d,p) by simpa[Value.cells] using hf)
 exact⟨A,c,l,rfl,hl⟩
theorem cellsPl:Tryz.prog.cellsOf 43 = 8:=by kernel_rfl
theorem cells_nums:Tryz.prog.cellsOf 24 = 1:=by kernel_rfl
theorem readPl(h:DataW.trod enc Tryz.prog w base spare held fuel 43 cs=some x) (hb:Rows.uptoBulk x.1≤1048576):∃ a:Pl,cs=plC a∧PlAll w a:=by
 obtain⟨xs,n,_,rfl,hl,hlen,hf⟩:=DataW.trod_struct Tryz.underlying43 h
 rw[cellsPl]at hl
 obtain⟨y0,y1,y2,y3,y4,y5,y6,y7,rfl⟩:∃ y0 y1 y2 y3 y4 y5 y6 y7,xs=[y0,y1,y2,y3,y4,y5,y6,y7]:=by
  match xs,hlen with
  | [y0,y1,y2,y3,y4,y5,y6,y7],_=>exact⟨y0,y1,y2,y3,y4,y5,y6,y7,rfl⟩
 have g0:DataW.trod enc Tryz.prog w base spare held n 22 ((cs.drop 0).take (Tryz.prog.cellsOf 22))=some y0:=hf 0 _ rfl
 rw[cells_u64]at g0
 obtain⟨a0,e0,i0⟩:=read_u64 g0
 have g1:DataW.trod enc Tryz.prog w base spare held n 22 ((cs.drop 1).take (Tryz.prog.cellsOf 22))=some y1:=hf 1 _ rfl
 rw[cells_u64]at g1
 obtain⟨a1,e1,i1⟩:=read_u64 g1
 have g2:DataW.trod enc Tryz.prog w base spare held n 22 ((cs.drop 2).take (Tryz.prog.cellsOf 22))=some y2:=hf 2 _ rfl
 rw[cells_u64]at g2
 obtain⟨a2,e2,i2⟩:=read_u64 g2
 have g3:DataW.trod enc Tryz.prog w base spare held n 24 ((cs.drop 3).take (Tryz.prog.cellsOf 24))=some y3:=hf 3 _ rfl
 rw[cells_nums]at g3
 obtain⟨A3,c3,a3,e3,i3⟩:=read_nums g3
 have g4:DataW.trod enc Tryz.prog w base spare held n 24 ((cs.drop 4).take (Tryz.prog.cellsOf 24))=some y4:=hf 4 _ rfl
 rw[cells_nums]at g4
 obtain⟨A4,c4,a4,e4,i4⟩:=read_nums g4
 have g5:DataW.trod enc Tryz.prog w base spare held n 22 ((cs.drop 5).take (Tryz.prog.cellsOf 22))=some y5:=hf 5 _ rfl
 rw[cells_u64]at g5
 obtain⟨a5,e5,i5⟩:=read_u64 g5
 have g6:DataW.trod enc Tryz.prog w base spare held n 9 ((cs.drop 6).take (Tryz.prog.cellsOf 9))=some y6:=hf 6 _ rfl
 rw[cells_str]at g6
 obtain⟨a6,e6,i6⟩:=read_str g6 (agg_part hb (by simp))
 have g7:DataW.trod enc Tryz.prog w base spare held n 9 ((cs.drop 7).take (Tryz.prog.cellsOf 9))=some y7:=hf 7 _ rfl
 rw[cells_str]at g7
 obtain⟨a7,e7,i7⟩:=read_str g7 (agg_part hb (by simp))
 refine⟨⟨a0,a1,a2,A3,c3,a3,A4,c4,a4,a5,a6,a7⟩,?_,i0,i1,i2,i3,i4,i5,i6,i7⟩
 show cs=_
 have ed:cs.drop 8=[]:=List.drop_eq_nil_of_le (by omega)
 rw[show cs=cs.drop 0 from rfl,cut_list cs 0 1 1 rfl,e0,cut_list cs 1 1 2 rfl,e1,cut_list cs 2 1 3 rfl,e2,cut_list cs 3 1 4 rfl,e3,cut_list cs 4 1 5 rfl,e4,cut_list cs 5 1 6 rfl,e5,cut_list cs 6 1 7 rfl,e6,cut_list cs 7 1 8 rfl,e7,ed]
 simp[plC]
end
def Bt.bare(b:Bt):Bt:=⟨b.lt.bare,b.now.bare,b.br.bare⟩
end
section
open BigFrame Go.RowKit Go.Phx Go.Shelf
attribute [local go_sem] Oper.semAt_some
theorem run_zeros15(n:Nat) (hn:n≤65536) (w:World):∃ w1 v,(Instr.makeSlice 55 (.int .i64 n) (.int .i64 n)).run Tryz.prog w=.ok v w1∧(convert 55 9 v).run Tryz.prog w1=.ok (.string (bs (List.replicate n 0))) w1∧Below w.heap.size w w1:=by
 obtain⟨i0,hi,hz0,hz1,hz2⟩:=info_parts infoU8
 obtain⟨w1,hmk,hown,hgr⟩:=run_make_full (P:=Tryz.prog) w w.heap.size 55 5 i0 (.int .u8 0) 1 Tryz.underlying55 hi hz0 hz1 .i64 .i64 n (by rw[hz2];omega) (by unfold maxLen;omega) (Nat.le_refl _)
 have hcs:(madeCells (Value.int .u8 0).cells (n*1)).toList=(List.replicate n (0:UInt8)).map bv:=by
  rw[show(Value.int IntKind.u8 0).cells = #[Value.int .u8 0] from rfl,Nat.mul_one,toList_madeCells_one,List.map_replicate]
  rfl
 rw[hcs]at hown
 exact⟨w1,_,hmk,conv_cells w1 _ _ n n (by simp) (own_cells hown),(Below.refl w.heap.size w).grown hgr (Nat.le_refl _) (fun k e=>by cases e)⟩
def nv(n:Nat):Value:=.int .u64 (n:Int)
def NRow(base:Nat) (w:World) (v:Value) (l:List Nat):Prop:=w.ownsRow base 22 1 v l.length (l.map nv)
theorem infoU64:(Tryz.prog.info? 22).map (fun i=>(i.zero,i.size,i.bytes))=some (some (.int .u64 0),1,8):=by kernel_rfl
theorem NRow.nums{base:Nat}{w:World}{v:Value}{l:List Nat} (h:NRow base w v l):∃ A c,v=.slice A l.length c∧Nums w A l:=by
 rcases h.2 with ⟨rfl,h0⟩|⟨g,cap,cur,rfl,_⟩
 ·obtain rfl:=List.eq_nil_of_length_eq_zero h0
  exact⟨none,0,rfl,fun h=>absurd h (by simp)⟩
 ·refine⟨_,_,rfl,fun _=>⟨g,0,rfl,(h.lt g rfl).2,fun i n hn=>?_⟩⟩
  have hi:=(List.getElem?_eq_some_iff.1 hn).1
  rw[Nat.zero_add,World.ownsRow.cellAt h i (by omega),List.getElem?_map,hn]
  rfl
theorem NRow.keep{base:Nat}{w w':World}{v:Value}{l:List Nat}{r:Option Nat} (h:NRow base w v l) (hg:w.grownBy w' r) (hn:∀ j,v.ownBlock=some j→r≠some j):NRow base w' v l :=
 h.kept hg (by
  cases hv:v.ownBlock with
  | none=>exact .inl rfl
  | some g=>exact .inr fun e=>hn g hv e.symm)
theorem NRow.on{base:Nat}{w:World}{v:Value}{l:List Nat} (h:NRow base w v l) (o:Obj):NRow base (w.alloc o) v l :=
 h.keep (World.grownBy_alloc w o none) fun _ _ e=>by cases e
theorem wpList_append_num{ops:Array Oper}{rest:List Oper}{o:Oper}{a:Act}{w:World}{Q:Exit→Act→World→Prop} (hgd:o.guard=none) (s x:Operand)
  (ho:o.op=.call { callee:=.builtin .append,args := #[s,x],argTypes := #[24, 24] }) (base:Nat) (v:Value) (L:List Nat) (hs:a.eval s=v) (R:NRow base w v L)
  (u:Nat) (ad:Addr) (hx:a.eval x=.slice (some ad) 1 1) (hc:w.cell? (ad.add 0)=some (nv u)) (hl:L.length≤1000000000) (hb:base≤w.heap.size)
  (h:∀ v' w',NRow base w' v' (L ++ [u])→w.grownBy w' v.ownBlock→wpList Tryz.prog ops Q rest (a.put o.dst v') w'):wpList Tryz.prog ops Q (o :: rest) a w:=by
 refine wpList_plain hgd fun K hK=>?_
 obtain⟨i0,hi,hz0,hz1,hz2⟩:=info_parts infoU64
 obtain⟨v',w',hr,h2,h3,_,h5⟩:=run_append_own_at (P:=Tryz.prog) w base 24 o.type 22 i0 (.int .u64 0) 1 8 Tryz.underlying24 hi hz0 hz1 hz2 rfl (by decide) v L.length (L.map nv) R ad 1 1 [nv u] rfl (fun j y hy=>by
  match j,hy with
  | 0,hy=>simp at hy;subst hy;exact hc) (by simp[Value.oneCell',nv]) (by unfold maxLen;omega) (by omega) hb
 unfold Oper.wp execOp
 simp only[ho,resolve,invoke,builtin,Sem.run_bind,Sem.run_pure,Result.andThen_ok,List.map_toArray,List.map_cons,List.map_nil,hs,hx,hr]
 refine hK _ _ (h v' w' ?_ h3)
 unfold NRow
 rw[List.length_append,List.map_append]
 exact h2
theorem take16:∀ k,k<16→l16.take (k+1)=l16.take k ++ [k+1]:=by decide
theorem len16:∀ k,k≤16→(l16.take k).length=k:=by decide
theorem goodB15:goodB l16 zero32 zero32=true:=by
 unfold goodB
 rw[good16]
 rfl
theorem beginP_in{w:World}{b:Bt} (h:BtIn w b):SrIn w (beginP b):=by
 have hz:=SrIn.zero w
 exact⟨h.1,h.1,h.2.1,hz.2.2.2.1,hz.2.2.2.2.1,hz.2.2.2.2.2⟩
end
end Go.Proofs.YtobgigcdpiikaaaGreatDoor
