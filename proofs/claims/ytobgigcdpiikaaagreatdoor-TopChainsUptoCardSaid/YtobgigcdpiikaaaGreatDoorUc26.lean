/- Plain laws and walks, each by its own conditions. -/
import Derived.Test.YtobgigcdpiikaaaGreatDoorUc25
set_option linter.unusedSimpArgs false
set_option linter.unusedVariables false
set_option maxRecDepth 100000
set_option maxHeartbeats 16000000
namespace Go.Proofs.YtobgigcdpiikaaaGreatDoor
section
open BigFrame Go.RowKit Go.Phx Go.Shelf
attribute [local go_sem] Oper.semAt_some
theorem rlight_calls(N q:Nat) (x:Lt) (hs:x.b.slot<18446744073709551616) (hp:x.b.prop<18446744073709551616) (hn:x.x.num<18446744073709551616) (hb:x.br.l.length≤1000) (l:List It) (hl:l.length≤1000000) (w:World) (R:RdI N w q (ltI x :: l)) :
  Calls Tryz.prog 77 #[.pointer (some ⟨q,0,none⟩)] w (fun e w'=>∃ x':Lt,e=.returned (ltV x')∧x'.bare=x.bare∧RwS (fun b=>w.heap.size≤b) w' x'.br∧RdI N w' q l∧KpL [q] w w'):=by
 have hNq:=R.hq
 have hqw:=R.lt
 have HK:=Z (KpL.refl [q] w)
 have Rq:=Z R
 clear R
 obtain⟨⟨slot,prop,parent,state,body⟩,⟨acc,rcp,num⟩,br⟩:=x
 simp only at hs hp hn hb
 replace hs:=Z hs
 replace hp:=Z hp
 replace hn:=Z hn
 go_enter Tryz.func77, Tryz.ntmps77
 go_wp2_with fail
 (obtain⟨g0,hgj⟩:∃ g,(World.heap w).size=g:=⟨_,rfl⟩;obtain⟨w1,hWN⟩:∃ W',World.alloc w (.cells (ltA Lt.zero) 33)=W':=⟨_,rfl⟩;have hN:KpL [] w w1:=(by rw[←hWN];exact(KpL.refl _ _).alloc _);replace K0:=Z (show Blk w1 g0 33 (ltA Lt.zero) by rw[←hWN];exact Blk.newAt hgj);have hq_0:q<g0:=(by rw[←hgj];exact Rq.out.lt);have hw_0:w.heap.size≤g0:=(by rw[←hgj];exact HK.out.size);rw[hWN];(try rw[hgj]);clear hWN hgj;replace Rq:=rK Rq hN;replace HK:=jK HK hN;clear hN;obtain⟨k0,f0,l0,m0⟩:=rl_ K0)
 (refine(item_calls N q _ l hl _ Rq.out).mono ?_;rintro e w2 ⟨v,rfl,hv,RN,hN⟩;clear k0 f0 l0 m0;replace K0:=bK K0 hN;replace HK:=jK HK hN;clear hN;(try clear Rq);have NZ:=Z RN;clear RN;have Rq:=NZ;clear NZ;(obtain⟨k0,f0,l0,m0⟩:=rl_ K0))
 obtain⟨f,t,A,n,cc⟩:=v
 obtain⟨rfl,rfl,rfl,hcc,hcm,hr⟩:=hv.row
 clear hv
 go_wp2_with fail
 (refine(open_calls _ _ 3 (.inr rfl) (by simp) A cc hcc hcm N _ Rq.out.sz hr).mono ?_;rintro e w3 ⟨i,rfl,hi9,RN9,hB9⟩;have hN:=KpL.of (bs:=[]) hB9;clear hB9;have h0_i:=Nat.lt_of_lt_of_le K0.out.lt hi9;have hq_i:=Nat.lt_of_lt_of_le Rq.out.lt hi9;have hw_i:=Nat.le_trans HK.out.size hi9;clear hi9;clear k0 f0 l0 m0;replace K0:=bK K0 hN;replace Rq:=rK Rq hN;replace HK:=jK HK hN;clear hN;(try clear Ri);have NZ:=Z RN9;clear RN9;have Ri:=NZ;clear NZ;(obtain⟨k0,f0,l0,m0⟩:=rl_ K0))
 clear hr hcc hcm
 go_wp2_with fail
 (refine(item_calls N i _ _ (by simp) _ Ri.out).mono ?_;rintro e w4 ⟨v,rfl,hv,RN,hN⟩;clear k0 f0 l0 m0;replace K0:=bK K0 hN;replace Rq:=rK Rq hN;replace HK:=jK HK hN;clear hN;(try clear Ri);have NZ:=Z RN;clear RN;have Ri:=NZ;clear NZ;(obtain⟨k0,f0,l0,m0⟩:=rl_ K0))
 obtain⟨f,t,A,n,cc⟩:=v
 obtain⟨rfl,rfl,rfl,hcc,hcm,hr⟩:=hv.row
 clear hv
 go_wp2_with fail
 (refine(open_calls _ _ 5 (.inr rfl) (by simp) A cc hcc hcm N _ Rq.out.sz hr).mono ?_;rintro e w5 ⟨h,rfl,hi9,RN9,hB9⟩;have hN:=KpL.of (bs:=[]) hB9;clear hB9;have h0_h:=Nat.lt_of_lt_of_le K0.out.lt hi9;have hq_h:=Nat.lt_of_lt_of_le Rq.out.lt hi9;have hi_h:=Nat.lt_of_lt_of_le Ri.out.lt hi9;have hw_h:=Nat.le_trans HK.out.size hi9;clear hi9;clear k0 f0 l0 m0;replace K0:=bK K0 hN;replace Rq:=rK Rq hN;replace Ri:=rK Ri hN;replace HK:=jK HK hN;clear hN;(try clear Rh);have NZ:=Z RN9;clear RN9;have Rh:=NZ;clear NZ;(obtain⟨k0,f0,l0,m0⟩:=rl_ K0))
 clear hr hcc hcm
 go_wp2_with fail
 (refine(item_calls N i _ _ (by simp) _ Ri.out).mono ?_;rintro e w6 ⟨v,rfl,hv,RN,hN⟩;clear k0 f0 l0 m0;replace K0:=bK K0 hN;replace Rq:=rK Rq hN;replace Rh:=rK Rh hN;replace HK:=jK HK hN;clear hN;(try clear Ri);have NZ:=Z RN;clear RN;have Ri:=NZ;clear NZ;(obtain⟨k0,f0,l0,m0⟩:=rl_ K0))
 obtain⟨f,t,A,n,cc⟩:=v
 obtain⟨rfl,rfl,rfl,hcc,hcm,hr⟩:=hv.row
 clear hv
 go_wp2_with fail
 (refine(open_calls _ _ 3 (.inr rfl) (by simp) A cc hcc hcm N _ Rq.out.sz hr).mono ?_;rintro e w7 ⟨y,rfl,hi9,RN9,hB9⟩;have hN:=KpL.of (bs:=[]) hB9;clear hB9;have h0_y:=Nat.lt_of_lt_of_le K0.out.lt hi9;have hq_y:=Nat.lt_of_lt_of_le Rq.out.lt hi9;have hi_y:=Nat.lt_of_lt_of_le Ri.out.lt hi9;have hh_y:=Nat.lt_of_lt_of_le Rh.out.lt hi9;have hw_y:=Nat.le_trans HK.out.size hi9;clear hi9;clear k0 f0 l0 m0;replace K0:=bK K0 hN;replace Rq:=rK Rq hN;replace Ri:=rK Ri hN;replace Rh:=rK Rh hN;replace HK:=jK HK hN;clear hN;(try clear Ry);have NZ:=Z RN9;clear RN9;have Ry:=NZ;clear NZ;(obtain⟨k0,f0,l0,m0⟩:=rl_ K0))
 clear hr hcc hcm
 go_wp2_with fail
 (obtain⟨g1,hgj⟩:∃ g,(World.heap w7).size=g:=⟨_,rfl⟩;obtain⟨w8,hWN⟩:∃ W',World.alloc w7 (.cells (ltA Lt.zero) 33)=W':=⟨_,rfl⟩;have hN:KpL [] w7 w8:=(by rw[←hWN];exact(KpL.refl _ _).alloc _);replace K1:=Z (show Blk w8 g1 33 (ltA Lt.zero) by rw[←hWN];exact Blk.newAt hgj);have h0_1:g0<g1:=(by rw[←hgj];exact K0.out.lt);have hq_1:q<g1:=(by rw[←hgj];exact Rq.out.lt);have hi_1:i<g1:=(by rw[←hgj];exact Ri.out.lt);have hh_1:h<g1:=(by rw[←hgj];exact Rh.out.lt);have hy_1:y<g1:=(by rw[←hgj];exact Ry.out.lt);have hw_1:w.heap.size≤g1:=(by rw[←hgj];exact HK.out.size);rw[hWN];(try rw[hgj]);clear hWN hgj k0 f0 l0 m0;replace K0:=bK K0 hN;replace Rq:=rK Rq hN;replace Ri:=rK Ri hN;replace Rh:=rK Rh hN;replace Ry:=rK Ry hN;replace HK:=jK HK hN;clear hN;obtain⟨k0,f0,l0,m0⟩:=rl_ K0;obtain⟨k1,f1,l1,m1⟩:=rl_ K1)
 trace_state
 (refine(rdnum_calls N h q slot hs.out _ (by simp) _ Rh.out Rq.out.bd).mono ?_;rintro e w9 ⟨rfl,RN,hN⟩;clear k0 f0 l0 m0 k1 f1 l1 m1;replace K0:=bK K0 hN;replace K1:=bK K1 hN;replace Rq:=rK Rq hN;replace Ri:=rK Ri hN;replace Ry:=rK Ry hN;replace HK:=jK HK hN;clear hN;(try clear Rh);have NZ:=Z RN;clear RN;have Rh:=NZ;clear NZ;(obtain⟨k0,f0,l0,m0⟩:=rl_ K0;obtain⟨k1,f1,l1,m1⟩:=rl_ K1))
 go_wp2_with fail
 (obtain⟨wa,hWN⟩:∃ W',World.setCell w9 ⟨g1,0,none⟩ (.int .u64 (slot:Int))=W':=⟨_,rfl⟩;have hN:KpL [g1] w9 wa:=(by rw[←hWN];exact(KpL.refl _ _).set (.inl (by simp)));replace K1:=Z (show Blk wa _ _ (ltA ⟨⟨slot,0,[],[],[]⟩,Ex.zero,Rw.zero⟩) by rw[←hWN];exact Blk.to (Blk.set_ K1.out 0 _) rfl);rw[hWN];clear hWN k1 f1 l1 m1 k0 f0 l0 m0;replace K0:=bK K0 hN;replace Rq:=rK Rq hN;replace Ri:=rK Ri hN;replace Rh:=rK Rh hN;replace Ry:=rK Ry hN;replace HK:=jK HK hN;clear hN;obtain⟨k0,f0,l0,m0⟩:=rl_ K0;obtain⟨k1,f1,l1,m1⟩:=rl_ K1)
 (refine(rdnum_calls N h q prop hp.out _ (by simp) _ Rh.out Rq.out.bd).mono ?_;rintro e wb ⟨rfl,RN,hN⟩;clear k0 f0 l0 m0 k1 f1 l1 m1;replace K0:=bK K0 hN;replace K1:=bK K1 hN;replace Rq:=rK Rq hN;replace Ri:=rK Ri hN;replace Ry:=rK Ry hN;replace HK:=jK HK hN;clear hN;(try clear Rh);have NZ:=Z RN;clear RN;have Rh:=NZ;clear NZ;(obtain⟨k0,f0,l0,m0⟩:=rl_ K0;obtain⟨k1,f1,l1,m1⟩:=rl_ K1))
 go_wp2_with fail
 (obtain⟨wc,hWN⟩:∃ W',World.setCell wb ⟨g1,1,none⟩ (.int .u64 (prop:Int))=W':=⟨_,rfl⟩;have hN:KpL [g1] wb wc:=(by rw[←hWN];exact(KpL.refl _ _).set (.inl (by simp)));replace K1:=Z (show Blk wc _ _ (ltA ⟨⟨slot,prop,[],[],[]⟩,Ex.zero,Rw.zero⟩) by rw[←hWN];exact Blk.to (Blk.set_ K1.out 1 _) rfl);rw[hWN];clear hWN k1 f1 l1 m1 k0 f0 l0 m0;replace K0:=bK K0 hN;replace Rq:=rK Rq hN;replace Ri:=rK Ri hN;replace Rh:=rK Rh hN;replace Ry:=rK Ry hN;replace HK:=jK HK hN;clear hN;obtain⟨k0,f0,l0,m0⟩:=rl_ K0;obtain⟨k1,f1,l1,m1⟩:=rl_ K1)
 (refine(rdtext_calls N h q parent _ (by simp) _ Rh.out Rq.out.bd).mono ?_;rintro e wd ⟨rfl,RN,hN⟩;clear k0 f0 l0 m0 k1 f1 l1 m1;replace K0:=bK K0 hN;replace K1:=bK K1 hN;replace Rq:=rK Rq hN;replace Ri:=rK Ri hN;replace Ry:=rK Ry hN;replace HK:=jK HK hN;clear hN;(try clear Rh);have NZ:=Z RN;clear RN;have Rh:=NZ;clear NZ;(obtain⟨k0,f0,l0,m0⟩:=rl_ K0;obtain⟨k1,f1,l1,m1⟩:=rl_ K1))
 go_wp2_with fail
 (obtain⟨we,hWN⟩:∃ W',World.setCell wd ⟨g1,2,none⟩ (.string (bs parent))=W':=⟨_,rfl⟩;have hN:KpL [g1] wd we:=(by rw[←hWN];exact(KpL.refl _ _).set (.inl (by simp)));replace K1:=Z (show Blk we _ _ (ltA ⟨⟨slot,  prop,  parent,  [],  []⟩,⟨[],  [],  0⟩,Rw.zero⟩) by rw[←hWN];exact Blk.to (Blk.set_ K1.out 2 _) rfl);rw[hWN];clear hWN k1 f1 l1 m1 k0 f0 l0 m0;replace K0:=bK K0 hN;replace Rq:=rK Rq hN;replace Ri:=rK Ri hN;replace Rh:=rK Rh hN;replace Ry:=rK Ry hN;replace HK:=jK HK hN;clear hN;obtain⟨k0,f0,l0,m0⟩:=rl_ K0;obtain⟨k1,f1,l1,m1⟩:=rl_ K1)
 (refine(rdtext_calls N h q state _ (by simp) _ Rh.out Rq.out.bd).mono ?_;rintro e wf ⟨rfl,RN,hN⟩;clear k0 f0 l0 m0 k1 f1 l1 m1;replace K0:=bK K0 hN;replace K1:=bK K1 hN;replace Rq:=rK Rq hN;replace Ri:=rK Ri hN;replace Ry:=rK Ry hN;replace HK:=jK HK hN;clear hN;(try clear Rh);have NZ:=Z RN;clear RN;have Rh:=NZ;clear NZ;(obtain⟨k0,f0,l0,m0⟩:=rl_ K0;obtain⟨k1,f1,l1,m1⟩:=rl_ K1))
 go_wp2_with fail
 (obtain⟨wg,hWN⟩:∃ W',World.setCell wf ⟨g1,3,none⟩ (.string (bs state))=W':=⟨_,rfl⟩;have hN:KpL [g1] wf wg:=(by rw[←hWN];exact(KpL.refl _ _).set (.inl (by simp)));replace K1:=Z (show Blk wg _ _ (ltA ⟨⟨slot,  prop,  parent,  state,  []⟩,⟨[],  [],  0⟩,Rw.zero⟩) by rw[←hWN];exact Blk.to (Blk.set_ K1.out 3 _) rfl);rw[hWN];clear hWN k1 f1 l1 m1 k0 f0 l0 m0;replace K0:=bK K0 hN;replace Rq:=rK Rq hN;replace Ri:=rK Ri hN;replace Rh:=rK Rh hN;replace Ry:=rK Ry hN;replace HK:=jK HK hN;clear hN;obtain⟨k0,f0,l0,m0⟩:=rl_ K0;obtain⟨k1,f1,l1,m1⟩:=rl_ K1)
 (refine(rdtext_calls N h q body _ (by simp) _ Rh.out Rq.out.bd).mono ?_;rintro e wh ⟨rfl,RN,hN⟩;clear k0 f0 l0 m0 k1 f1 l1 m1;replace K0:=bK K0 hN;replace K1:=bK K1 hN;replace Rq:=rK Rq hN;replace Ri:=rK Ri hN;replace Ry:=rK Ry hN;replace HK:=jK HK hN;clear hN;(try clear Rh);have NZ:=Z RN;clear RN;have Rh:=NZ;clear NZ;(obtain⟨k0,f0,l0,m0⟩:=rl_ K0;obtain⟨k1,f1,l1,m1⟩:=rl_ K1))
 go_wp2_with fail
 (obtain⟨wi,hWN⟩:∃ W',World.setCell wh ⟨g1,4,none⟩ (.string (bs body))=W':=⟨_,rfl⟩;have hN:KpL [g1] wh wi:=(by rw[←hWN];exact(KpL.refl _ _).set (.inl (by simp)));replace K1:=Z (show Blk wi _ _ (ltA ⟨⟨slot,  prop,  parent,  state,  body⟩,⟨[],  [],  0⟩,Rw.zero⟩) by rw[←hWN];exact Blk.to (Blk.set_ K1.out 4 _) rfl);rw[hWN];clear hWN k1 f1 l1 m1 k0 f0 l0 m0;replace K0:=bK K0 hN;replace Rq:=rK Rq hN;replace Ri:=rK Ri hN;replace Rh:=rK Rh hN;replace Ry:=rK Ry hN;replace HK:=jK HK hN;clear hN;obtain⟨k0,f0,l0,m0⟩:=rl_ K0;obtain⟨k1,f1,l1,m1⟩:=rl_ K1)
 (refine(rdtext_calls N y q acc _ (by simp) _ Ry.out Rq.out.bd).mono ?_;rintro e wj ⟨rfl,RN,hN⟩;clear k0 f0 l0 m0 k1 f1 l1 m1;replace K0:=bK K0 hN;replace K1:=bK K1 hN;replace Rq:=rK Rq hN;replace Ri:=rK Ri hN;replace Rh:=rK Rh hN;replace HK:=jK HK hN;clear hN;(try clear Ry);have NZ:=Z RN;clear RN;have Ry:=NZ;clear NZ;(obtain⟨k0,f0,l0,m0⟩:=rl_ K0;obtain⟨k1,f1,l1,m1⟩:=rl_ K1))
 go_wp2_with fail
 (obtain⟨wk,hWN⟩:∃ W',World.setCell wj ⟨g1,5,none⟩ (.string (bs acc))=W':=⟨_,rfl⟩;have hN:KpL [g1] wj wk:=(by rw[←hWN];exact(KpL.refl _ _).set (.inl (by simp)));replace K1:=Z (show Blk wk _ _ (ltA ⟨⟨slot,  prop,  parent,  state,  body⟩,⟨acc,  [],  0⟩,Rw.zero⟩) by rw[←hWN];exact Blk.to (Blk.set_ K1.out 5 _) rfl);rw[hWN];clear hWN k1 f1 l1 m1 k0 f0 l0 m0;replace K0:=bK K0 hN;replace Rq:=rK Rq hN;replace Ri:=rK Ri hN;replace Rh:=rK Rh hN;replace Ry:=rK Ry hN;replace HK:=jK HK hN;clear hN;obtain⟨k0,f0,l0,m0⟩:=rl_ K0;obtain⟨k1,f1,l1,m1⟩:=rl_ K1)
 (refine(rdtext_calls N y q rcp _ (by simp) _ Ry.out Rq.out.bd).mono ?_;rintro e wl ⟨rfl,RN,hN⟩;clear k0 f0 l0 m0 k1 f1 l1 m1;replace K0:=bK K0 hN;replace K1:=bK K1 hN;replace Rq:=rK Rq hN;replace Ri:=rK Ri hN;replace Rh:=rK Rh hN;replace HK:=jK HK hN;clear hN;(try clear Ry);have NZ:=Z RN;clear RN;have Ry:=NZ;clear NZ;(obtain⟨k0,f0,l0,m0⟩:=rl_ K0;obtain⟨k1,f1,l1,m1⟩:=rl_ K1))
 go_wp2_with fail
 (obtain⟨wm,hWN⟩:∃ W',World.setCell wl ⟨g1,6,none⟩ (.string (bs rcp))=W':=⟨_,rfl⟩;have hN:KpL [g1] wl wm:=(by rw[←hWN];exact(KpL.refl _ _).set (.inl (by simp)));replace K1:=Z (show Blk wm _ _ (ltA ⟨⟨slot,  prop,  parent,  state,  body⟩,⟨acc,  rcp,  0⟩,Rw.zero⟩) by rw[←hWN];exact Blk.to (Blk.set_ K1.out 6 _) rfl);rw[hWN];clear hWN k1 f1 l1 m1 k0 f0 l0 m0;replace K0:=bK K0 hN;replace Rq:=rK Rq hN;replace Ri:=rK Ri hN;replace Rh:=rK Rh hN;replace Ry:=rK Ry hN;replace HK:=jK HK hN;clear hN;obtain⟨k0,f0,l0,m0⟩:=rl_ K0;obtain⟨k1,f1,l1,m1⟩:=rl_ K1)
 (refine(rdnum_calls N y q num hn.out _ (by simp) _ Ry.out Rq.out.bd).mono ?_;rintro e wn ⟨rfl,RN,hN⟩;clear k0 f0 l0 m0 k1 f1 l1 m1;replace K0:=bK K0 hN;replace K1:=bK K1 hN;replace Rq:=rK Rq hN;replace Ri:=rK Ri hN;replace Rh:=rK Rh hN;replace HK:=jK HK hN;clear hN;(try clear Ry);have NZ:=Z RN;clear RN;have Ry:=NZ;clear NZ;(obtain⟨k0,f0,l0,m0⟩:=rl_ K0;obtain⟨k1,f1,l1,m1⟩:=rl_ K1))
 go_wp2_with fail
 (obtain⟨wo,hWN⟩:∃ W',World.setCell wn ⟨g1,7,none⟩ (.int .u64 (num:Int))=W':=⟨_,rfl⟩;have hN:KpL [g1] wn wo:=(by rw[←hWN];exact(KpL.refl _ _).set (.inl (by simp)));replace K1:=Z (show Blk wo _ _ (ltA ⟨⟨slot,prop,parent,state,body⟩,⟨acc,rcp,num⟩,Rw.zero⟩) by rw[←hWN];exact Blk.to (Blk.set_ K1.out 7 _) rfl);rw[hWN];clear hWN k1 f1 l1 m1 k0 f0 l0 m0;replace K0:=bK K0 hN;replace Rq:=rK Rq hN;replace Ri:=rK Ri hN;replace Rh:=rK Rh hN;replace Ry:=rK Ry hN;replace HK:=jK HK hN;clear hN;obtain⟨k0,f0,l0,m0⟩:=rl_ K0;obtain⟨k1,f1,l1,m1⟩:=rl_ K1)
 have hzo:=HK.out.size
 have hzi:=Ri.out.lt
 have hz0:=K0.out.lt
 have hz1:=K1.out.lt
 (refine(rtexts_calls N i br.l hb _ (by simp) _ Ri.out).mono ?_;rintro e wp ⟨r,rfl,hr,RWx,RN,hN⟩;clear k0 f0 l0 m0 k1 f1 l1 m1;replace K0:=bK K0 hN;replace K1:=bK K1 hN;replace Rq:=rK Rq hN;replace Rh:=rK Rh hN;replace Ry:=rK Ry hN;replace HK:=jK HK hN;clear hN;(try clear Ri);have NZ:=Z RN;clear RN;have Ri:=NZ;clear NZ;(obtain⟨k0,f0,l0,m0⟩:=rl_ K0;obtain⟨k1,f1,l1,m1⟩:=rl_ K1))
 obtain⟨A1,c1,l1⟩:=r
 simp only at hr
 subst hr
 replace RWx:=Z RWx
 (obtain⟨wq,hWN⟩:∃ W',World.setCell wp ⟨g1,8,none⟩ (.slice A1 br.l.length c1)=W':=⟨_,rfl⟩;have hN:KpL [g1] wp wq:=(by rw[←hWN];exact(KpL.refl _ _).set (.inl (by simp)));have kp1:=Blk.cell K1.out;have fp1:=Blk.free K1.out;have lp1:=Blk.lt K1.out;replace K1:=Z (show Blk wq _ _ (ltA ⟨⟨slot,prop,parent,state,body⟩,⟨acc,rcp,num⟩,⟨A1,c1,br.l⟩⟩) by rw[←hWN];exact Blk.to (Blk.set_ K1.out 8 _) rfl);have hWN_wq:=hWN;clear hWN k1 f1 l1 m1 k0 f0 l0 m0;replace K0:=bK K0 hN;replace Rq:=rK Rq hN;replace Ri:=rK Ri hN;replace RWx:=Z (RWx.out.kp hN);replace HK:=jK HK hN;clear hN;obtain⟨k0,f0,l0,m0⟩:=rl_ K0;obtain⟨k1,f1,l1,m1⟩:=rl_ K1)
 have e2:=Rq.out.bd.set
 obtain⟨xq,hxq⟩:=Rq.out.bd
 obtain⟨xi,hxi⟩:=Ri.out.bd
 have K5:=Z hxq
 have K6:=Z hxi
 clear hxq hxi
 (obtain⟨k5,f5,l5,m5⟩:=rl_ K5;obtain⟨k6,f6,l6,m6⟩:=rl_ K6)
 (go_wp2_with(first|(with_reducible refine wlr (ldLt _ K1.out) rfl ?_)|(with_reducible refine wlg (ldLt _ K1.out) (by with_unfolding_all rfl) rfl ?_)|(with_reducible refine wsh (stLt _ K0.out (⟨⟨slot,prop,parent,state,body⟩,⟨acc,rcp,num⟩,⟨A1,c1,br.l⟩⟩)) rfl rfl ?_));generalize hWN:setRow _ _ _ _=wr;have hN:KpL [g0] wq wr:=(by rw[←hWN];exact(KpL.refl _ _).row (.inl (by simp)) (Nat.le_of_lt l0));replace K0:=Z (show Blk wr _ _ (ltA ⟨⟨slot,prop,parent,state,body⟩,⟨acc,rcp,num⟩,⟨A1,c1,br.l⟩⟩) by rw[←hWN];exact Blk.row K0.out.lt);clear hWN k0 f0 l0 m0 k1 f1 l1 m1;replace K1:=bK K1 hN;replace Rq:=rK Rq hN;replace RWx:=Z (RWx.out.kp hN);replace HK:=jK HK hN;clear hN;obtain⟨k1,f1,l1,m1⟩:=rl_ K1;obtain⟨k0,f0,l0,m0⟩:=rl_ K0;unfold Halted)
 go_wp2_with fail
 exact bodyPost_ret (results_cell rfl rfl (ldLt _ K0.out)) rfl ⟨⟨⟨slot,prop,parent,state,body⟩,⟨acc,rcp,num⟩,⟨A1,c1,br.l⟩⟩,rfl,rfl,RWx.out.weak fun b hb _=>Nat.le_trans hzo hb,Rq.out,HK.out⟩
theorem all_calls':∀ (N:Nat) (l:List It),(putL l).length≤N→N≤1000000000→∀ w,Calls Tryz.prog 154 #[.string (bs (putL l))] w (AllP w l)
 | 0,l,h,hN=>all_step l (by omega) fun x hx l' e w'=>by
  have h1:=putL_mem_le hx
  have h2:=put_pos x
  omega
 | N+1,l,h,hN=>all_step l (by omega) fun x hx l' e w'=>by
  subst e
  have h1:=putL_mem_le hx
  have h2:=put_list_ge l'
  exact all_calls' N l' (by omega) (by omega) w'
def DecP(w:World) (x:It) (e:Ending) (w':World):Prop:=∃ v:Iv,e=.returned (.tuple #[v.val,.int .i64 0])∧RepS (fun b=>w.heap.size≤b) w' x v∧Below w.heap.size w w'
theorem decode_calls(x:It) (hd:deepI x≤12) (hp:(putI x).length≤65536) (w:World):Calls Tryz.prog 119 #[.string (bs (putI x))] w (DecP w x):=by
 have n1:=fun w=>all_calls' 1000000000 [x] (by simp[putL];omega) (Nat.le_refl _) w
 have e1:putL [x]=putI x:=by simp[putL]
 rw[e1]at n1
 have n2:=fun v w' (hB:Rep w' x v)=>deep_calls (deepI x) x (Nat.le_refl _) 12 (by omega) v w' hB
 have hdf:decide (12<deepI x)=false:=decide_eq_false (by omega)
 simp only[hdf]at n2
 simp only[show((12:Nat):Int)=12 from rfl]at n2
 have hpn:¬ 65536<((putI x).length:Int):=by omega
 generalize putI x=q at *
 replace n1:=Z n1
 replace n2:=Z n2
 clear hp e1 hd hdf
 go_enter Tryz.func119, Tryz.ntmps119
 go_wp2_with fail
 refine(n1.out _).mono ?_
 rintro e w1 ⟨A,c,rfl,hlc,hcm,hrl,hB1⟩
 simp only[List.length_singleton]at hlc ⊢
 have hz1:=hB1.size
 have P1:=(Blk.new0 w 79 #[.bool false,.string ⟨#[]⟩,.slice none 0 0]).below hB1
 simp only[size_alloc]at hrl hz1
 obtain⟨b,o,v,rfl,hb,c0,c1,c2,R⟩:=hrl.at 0 x rfl
 obtain⟨f,t,vA,vn,vc⟩:=v
 simp only[Nat.zero_mul,Nat.add_zero]at c0 c1 c2
 have n2':=n2.out ⟨f,t,vA,vn,vc⟩ w1 R.rep
 have HB1:=Z (Below.on hB1 ((Below.refl _ w).alloc (Nat.le_refl _) (Obj.cells #[.bool false,.string ⟨#[]⟩,.slice none 0 0] 79)))
 replace R:=Z R
 replace n2':=Z n2'
 have K0:=Z P1
 clear hrl hB1 P1 n1 n2
 (obtain⟨k0,f0,l0,m0⟩:=rl_ K0)
 go_wp2_with fail
 refine n2'.out.mono ?_
 rintro e w2 ⟨rfl,hB2⟩
 have HB2:=Z (HB1.out.trans (hB2.mono HB1.out.size))
 have d0:=(hB2.cell (p:=⟨b,o,none⟩) hb).trans c0
 have d1:=(hB2.cell (p:=⟨b,o+1,none⟩) hb).trans c1
 have d2:=(hB2.cell (p:=⟨b,o+2,none⟩) hb).trans c2
 have R2:=Z (R.out.on hB2)
 have hb2:b<w2.heap.size:=Nat.lt_of_lt_of_le hb hB2.size
 have K1:=Z (K0.out.below hB2)
 have hz2:=hB2.size
 clear k0 f0 l0 m0 K0 hB2 R HB1 c0 c1 c2 n2'
 have hbne:w.heap.size≠b→True:=fun _=>trivial
 (obtain⟨k1,f1,l1,m1⟩:=rl_ K1)
 go_wp2_with fail
 refine bodyPost_ret (v:=.tuple #[itV f t vA vn vc,.int .i64 0]) (by simp (maxDischargeDepth:=9) [results,Tryz.results119, go_sem, *]) rfl ⟨⟨f,t,vA,vn,vc⟩,rfl,R2.out.keep (by simp) fun b hb hlt=>⟨by omega,?_⟩,((HB2.out.setCell (by simp) _).setCell (by simp) _).setCell (by simp) _⟩
 rw[Below.heap_setCell _ _ _ _ (by simp;omega),Below.heap_setCell _ _ _ _ (by simp;omega),Below.heap_setCell _ _ _ _ (by simp;omega)]
end
section
open BigFrame Go.RowKit Go.Phx Go.Shelf
theorem key_sm(n:Int) (p:E):(keyB n p).length≤32:=by
 unfold keyB
 split
 ·rw[bytesE_len];decide
 ·simp
theorem sum_sm(L:List Bytes):(sumB L).length≤32:=by
 unfold sumB
 split
 ·simp
 ·rw[bytesE_len];decide
theorem keys_sm{l:List Nat} (h:l.length≤20):RwSm (keysS l):=⟨by rw[keysS_len];exact h,fun x hx=>by
 unfold keysS at hx
 obtain⟨n,_,rfl⟩:=List.mem_map.1 hx
 exact key_sm _ _⟩
theorem branch_sm{L:List Bytes}{i d:Nat} (hL:∀ x∈L,x.length=32) (hd:d≤20):RwSm (branchP L i d):=⟨by rw[branchP_len];exact hd,fun x hx=>by rw[branchP_all L hL i d x hx];decide⟩
theorem RwSm.nil:RwSm []:=⟨by decide,fun x hx=>by cases hx⟩
theorem light_parts{a r st:Bytes} (h:lightOk a r st=true):a.length=32∧r.length=32∧st.length=32:=by
 unfold lightOk at h
 simpa only[Bool.and_eq_true,decide_eq_true_eq] using h
theorem ltS_sm{slot:Nat}{a r st:Bytes} (h:lightOk a r st=true):LtSm (ltS slot a r st):=by
 obtain⟨h1,h2,h3⟩:=light_parts h
 have hR:=(leaves_right slot a r h1 h2).2.2.2.2
 refine⟨⟨?_,?_,?_⟩,⟨?_,?_⟩,branch_sm hR (by decide)⟩
 ·show(numP slot).length≤32;rw[numP_len];decide
 ·show st.length≤32;omega
 ·show(rootP (leavesS slot a r) 2).length≤32;rw[rootP_len hR];decide
 ·show a.length≤32;omega
 ·show r.length≤32;omega
theorem LtSm.zero:LtSm Lt.zero:=⟨⟨by decide,by decide,by decide⟩,⟨by decide,by decide⟩,RwSm.nil⟩
theorem cmS_sm{l:List Nat} (h:l.length≤20):CmSm (cmS l):=⟨keys_sm h,sum_sm _⟩
theorem CmSm.zero:CmSm Cm.zero:=⟨RwSm.nil,by decide⟩
theorem up_small{p:Pl}{u:Up} (hg:goodU p=true) (hn:p.next.length≤20) (h:u.bare=upS p):UpSm u:=by
 obtain⟨h1,h2,h3,h4⟩:=good_parts hg
 have hR:=(leavesU_right h1 h4 h2).2.2.2.2
 have hs:UpSm u.bare:=by
  rw[h]
  refine⟨ltS_sm (up_lightOk hg),?_,?_,?_,?_,sum_sm _⟩
  ·show CmSm (nxS p)
   unfold nxS
   split
   ·exact CmSm.zero
   ·exact cmS_sm hn
  ·show RwSm (nbS p)
   unfold nbS
   split
   ·exact RwSm.nil
   ·exact branch_sm hR (by decide)
  ·show LtSm (finS p)
   unfold finS
   split
   ·exact LtSm.zero
   ·refine ltS_sm ?_
    rw[lightOk_st z32_len]
    exact h3
  ·show RwSm (fbS p)
   unfold fbS
   split
   ·exact RwSm.nil
   ·exact branch_sm hR (by decide)
 exact hs
theorem bt_small{w:World}{slot:Nat}{l:List Nat}{a r:Bytes}{b:Bt} (hg:goodB l a r=true) (hl:l.length≤20) (h:BtOf w slot l a r b):BtSm b:=by
 obtain⟨h1,h2,h3,h4,h5,h6⟩:=h.2.1 hg
 have hs:goodS l=true:=by
  unfold goodB at hg
  rw[Bool.and_eq_true]at hg
  exact hg.1
 have ho:lightOk a r (bootSt l)=true:=by rw[←goodB_eq hs];exact hg
 have hlt:=ltS_sm (slot:=slot) ho
 refine⟨⟨?_,?_,?_⟩,⟨?_,?_⟩,?_⟩
 ·rw[h3];exact hlt.1
 ·rw[h4];exact hlt.2.1
 ·rw[h5];exact hlt.2.2
 ·rw[h1];exact keys_sm hl
 ·rw[h2];exact sum_sm _
 ·rw[h6];exact branch_sm (leavesB_right hs).2.2.2.2 (by decide)
end
section
open BigFrame Go.RowKit Go.Phx Go.Shelf
attribute [local go_sem] Oper.semAt_some
theorem opened_calls(l:List It) (hd:deepI (.list l)≤12) (hp:(putI (.list l)).length≤65536) (hl:l.length≤1000000) (w:World) :
  Calls Tryz.prog 76 #[.string (bs (putI (.list l))),.int .i64 (l.length:Int)] w (fun e w'=>∃ N q,e=.returned (.pointer (some ⟨q,0,none⟩))∧w.heap.size≤N∧RdI N w' q l∧KpL [] w w'):=by
 have n1:=Z (decode_calls (.list l) hd hp w)
 obtain⟨sx,hsx⟩:∃ sx,putI (.list l)=sx:=⟨_,rfl⟩
 rw[hsx]at n1 ⊢
 clear hsx hd hp
 obtain⟨k,hk⟩:∃ k,l.length=k:=⟨_,rfl⟩
 have HKL:=Z hk
 rw[hk]at hl ⊢
 clear hk
 go_enter Tryz.func76, Tryz.ntmps76
 go_wp2_with fail
 refine n1.out.mono ?_
 rintro e w1 ⟨v,rfl,hv,hB1⟩
 obtain⟨f,t,A,n,cc⟩:=v
 obtain⟨rfl,rfl,rfl,hcc,hcm,hr⟩:=hv.row
 have hz1:=hB1.size
 have HK:=Z (KpL.of (bs:=[]) hB1)
 obtain⟨N,hN⟩:∃ N,w1.heap.size=N:=⟨_,rfl⟩
 have HN:=Z hN
 have hrN:RepLS (fun b=>b<N) w1 l A:=hr.keep (Nat.le_refl _) fun b hb hl=>⟨by omega,rfl⟩
 have hwN:w.heap.size≤N:=by omega
 replace hrN:=Z hrN
 clear n1 hv hr hB1 hN
 have K9:=(Blk.new1 w1 (.cells #[.bool true,.string (bs []),.slice A l.length cc] 79) 144 #[.slice none 0 0,.bool false])
 have HV:Below w1.heap.size w1 ((w1.alloc (.cells #[.bool true,.string (bs []),.slice A l.length cc] 79)).alloc (.cells #[.slice none 0 0,.bool false] 144)):=((Below.refl _ _).alloc (Nat.le_refl _) _).alloc (by simp) _
 have hr2:=hrN.out.below HV
 have hsV:=HV.size
 have HK2:=Z (HK.out.on HV)
 have n2:=fun p=>open_calls p l (k:Int) (.inr (by rw[HKL.out])) (by rw[HKL.out];exact hl) A cc hcc hcm N _ (by have:=HN.out;omega) hr2
 replace n2:=Z n2
 obtain⟨b9,hb9⟩:∃ b,w1.heap.size+1=b:=⟨_,rfl⟩
 have HB9:=Z hb9
 replace K9:=Z K9
 clear hr2 HV hcc hcm hrN HK hsV hb9
 go_wp2_with fail
 refine(n2.out _).mono ?_
 rintro e w2 ⟨q,rfl,hq,RN,hB2⟩
 have K0:=Z (K9.out.below hB2)
 have HF:=Z (HK2.out.on hB2)
 have e2:=RN.bd.set
 have R2:=Z RN
 clear n2 K9 HK2 hB2 RN hq
 (obtain⟨k0,f0,l0,m0⟩:=rl_ K0)
 obtain⟨xq,hxq⟩:=R2.out.bd
 have K1:=Z hxq
 clear hxq
 (obtain⟨k1,f1,l1,m1⟩:=rl_ K1)
 go_wp2_with fail
 go_ret
 exact⟨N,q,rfl,hwN,R2.out,HF.out⟩
theorem bootFrom_calls(b:Bt) (hs:BtSm b) (h1:b.lt.b.slot<18446744073709551616) (h2:b.lt.b.prop<18446744073709551616) (h3:b.lt.x.num<18446744073709551616) (w:World) :
  Calls Tryz.prog 47 #[.string (bs (putI (btI b)))] w (fun e w'=>∃ b':Bt,e=.returned (.tuple #[btV b',.int .i64 0])∧(b'.lt.bare=b.lt.bare∧b'.now.bare=b.now.bare∧b'.br.bare=b.br.bare)∧(RwS (fun x=>w.heap.size≤x) w' b'.lt.br∧RwS (fun x=>w.heap.size≤x) w' b'.now.ks∧RwS (fun x=>w.heap.size≤x) w' b'.br)∧Below w.heap.size w w'):=by
 have n1:=Z (fun W=>opened_calls [ltI b.lt,cmI b.now,textsI b.br.l] (Nat.le_trans (deep_bt b) (by decide)) (Nat.le_trans (bt_sm hs) (by decide)) (by simp) W)
 have h4:b.lt.br.l.length≤1000:=Nat.le_trans hs.1.2.2.1 (by decide)
 have h5:b.now.ks.l.length≤1000:=Nat.le_trans hs.2.1.1.1 (by decide)
 have h6:b.br.l.length≤1000:=Nat.le_trans hs.2.2.1 (by decide)
 replace h1:=Z h1
 replace h2:=Z h2
 replace h3:=Z h3
 have hbt:btI b=.list [ltI b.lt,cmI b.now,textsI b.br.l]:=rfl
 rw[hbt]
 obtain⟨sx,hsx⟩:∃ sx,putI (.list [ltI b.lt,cmI b.now,textsI b.br.l])=sx:=⟨_,rfl⟩
 rw[hsx]at n1 ⊢
 have HK:=Z (KpL.refl [] w)
 clear hs hbt hsx
 go_enter Tryz.func47, Tryz.ntmps47
 go_wp2_with fail
 (obtain⟨g0,hgj⟩:∃ g,(World.heap w).size=g:=⟨_,rfl⟩;obtain⟨w1,hWN⟩:∃ W',World.alloc w (.cells (btA Bt.zero) 59)=W':=⟨_,rfl⟩;have hN:KpL [] w w1:=(by rw[←hWN];exact(KpL.refl _ _).alloc _);replace K0:=Z (show Blk w1 g0 59 (btA Bt.zero) by rw[←hWN];exact Blk.newAt hgj);have hw_0:w.heap.size≤g0:=(by rw[←hgj];exact HK.out.size);rw[hWN];(try rw[hgj]);clear hWN hgj;replace HK:=jK HK hN;clear hN;obtain⟨k0,f0,l0,m0⟩:=rl_ K0)
 refine(n1.out _).mono ?_
 rintro e w2 ⟨N,q,rfl,hN9,RN,hN⟩
 have hN8:=KpL.join HK.out hN (by simp)
 have hq0:g0<q:=Nat.lt_of_lt_of_le (Nat.lt_of_lt_of_le K0.out.lt hN9) RN.hq
 have hNq:=RN.hq
 have P0:=Z (K0.out.kp hN (by simp))
 clear HK k0 f0 l0 m0 K0 hN n1
 have HK:=Z hN8
 have K0:=P0
 have Rq:=Z RN
 clear P0 RN hN8
 have hwq:w.heap.size≤q:=by omega
 (obtain⟨k0,f0,l0,m0⟩:=rl_ K0)
 go_wp2_with fail
 (obtain⟨g1,hgj⟩:∃ g,(World.heap w2).size=g:=⟨_,rfl⟩;obtain⟨w3,hWN⟩:∃ W',World.alloc w2 (.cells (btA Bt.zero) 59)=W':=⟨_,rfl⟩;have hN:KpL [] w2 w3:=(by rw[←hWN];exact(KpL.refl _ _).alloc _);replace K1:=Z (show Blk w3 g1 59 (btA Bt.zero) by rw[←hWN];exact Blk.newAt hgj);have h0_1:g0<g1:=(by rw[←hgj];exact K0.out.lt);have hq_1:q<g1:=(by rw[←hgj];exact Rq.out.lt);have hw_1:w.heap.size≤g1:=(by rw[←hgj];exact HK.out.size);rw[hWN];(try rw[hgj]);clear hWN hgj k0 f0 l0 m0;replace K0:=bK K0 hN;replace Rq:=rK Rq hN;replace HK:=jK HK hN;clear hN;obtain⟨k0,f0,l0,m0⟩:=rl_ K0;obtain⟨k1,f1,l1,m1⟩:=rl_ K1)
 have z0:=K0.out.lt
 have z1:=K1.out.lt
 have zq:=Rq.out.lt
 have zw:=HK.out.size
 (refine(rlight_calls N q b.lt h1.out h2.out h3.out h4 _ (by simp) _ Rq.out).mono ?_;rintro e w4 ⟨x,rfl,hx,RWa,RN,hN⟩;clear k0 f0 l0 m0 k1 f1 l1 m1;replace K0:=bK K0 hN;replace K1:=bK K1 hN;replace HK:=jK HK hN;clear hN;(try clear Rq);have NZ:=Z RN;clear RN;have Rq:=NZ;clear NZ;have NZ:=Z RWa;clear RWa;have RWa:=NZ;clear NZ;(obtain⟨k0,f0,l0,m0⟩:=rl_ K0;obtain⟨k1,f1,l1,m1⟩:=rl_ K1))
 replace RWa:=Z (RWa.out.weak (S':=fun b=>w.heap.size≤b∧b≠g0∧b≠g1∧b≠q) fun b hb _=>⟨Nat.le_trans zw hb,Nat.ne_of_gt (Nat.lt_of_lt_of_le z0 hb),Nat.ne_of_gt (Nat.lt_of_lt_of_le z1 hb),Nat.ne_of_gt (Nat.lt_of_lt_of_le zq hb)⟩)
 clear z0 z1 zq zw
 (go_wp2_with(first|(with_reducible refine wsh (stBt_lt _ K1.out (x)) rfl rfl ?_));generalize hWN:setRow _ _ _ _=w5;have hN:KpL [g1] w4 w5:=(by rw[←hWN];exact(KpL.refl _ _).row (.inl (by simp)) (Nat.le_of_lt l1));replace K1:=Z (show Blk w5 _ _ (btA ⟨x,Cm.zero,Rw.zero⟩) by rw[←hWN];exact Blk.row K1.out.lt);clear hWN k1 f1 l1 m1 k0 f0 l0 m0;replace K0:=bK K0 hN;replace Rq:=rK Rq hN;replace RWa:=Z (RWa.out.kp hN);replace HK:=jK HK hN;clear hN;obtain⟨k0,f0,l0,m0⟩:=rl_ K0;obtain⟨k1,f1,l1,m1⟩:=rl_ K1;unfold Halted)
 go_wp2_with fail
 have z0:=K0.out.lt
 have z1:=K1.out.lt
 have zq:=Rq.out.lt
 have zw:=HK.out.size
 (refine(rcomm_calls N q b.now h5 _ (by simp) _ Rq.out).mono ?_;rintro e w6 ⟨c,rfl,hc,RWb,RN,hN⟩;clear k0 f0 l0 m0 k1 f1 l1 m1;replace K0:=bK K0 hN;replace K1:=bK K1 hN;replace RWa:=Z (RWa.out.kp hN);replace HK:=jK HK hN;clear hN;(try clear Rq);have NZ:=Z RN;clear RN;have Rq:=NZ;clear NZ;have NZ:=Z RWb;clear RWb;have RWb:=NZ;clear NZ;(obtain⟨k0,f0,l0,m0⟩:=rl_ K0;obtain⟨k1,f1,l1,m1⟩:=rl_ K1))
 replace RWb:=Z (RWb.out.weak (S':=fun b=>w.heap.size≤b∧b≠g0∧b≠g1∧b≠q) fun b hb _=>⟨Nat.le_trans zw hb,Nat.ne_of_gt (Nat.lt_of_lt_of_le z0 hb),Nat.ne_of_gt (Nat.lt_of_lt_of_le z1 hb),Nat.ne_of_gt (Nat.lt_of_lt_of_le zq hb)⟩)
 clear z0 z1 zq zw
 (go_wp2_with(first|(with_reducible refine wsh (stBt_now _ K1.out (c)) rfl rfl ?_));generalize hWN:setRow _ _ _ _=w7;have hN:KpL [g1] w6 w7:=(by rw[←hWN];exact(KpL.refl _ _).row (.inl (by simp)) (Nat.le_of_lt l1));replace K1:=Z (show Blk w7 _ _ (btA ⟨x,c,Rw.zero⟩) by rw[←hWN];exact Blk.row K1.out.lt);clear hWN k1 f1 l1 m1 k0 f0 l0 m0;replace K0:=bK K0 hN;replace Rq:=rK Rq hN;replace RWa:=Z (RWa.out.kp hN);replace RWb:=Z (RWb.out.kp hN);replace HK:=jK HK hN;clear hN;obtain⟨k0,f0,l0,m0⟩:=rl_ K0;obtain⟨k1,f1,l1,m1⟩:=rl_ K1;unfold Halted)
 go_wp2_with fail
 have z0:=K0.out.lt
 have z1:=K1.out.lt
 have zq:=Rq.out.lt
 have zw:=HK.out.size
 (refine(rtexts_calls N q b.br.l h6 _ (by simp) _ Rq.out).mono ?_;rintro e w8 ⟨r,rfl,hr,RWc,RN,hN⟩;clear k0 f0 l0 m0 k1 f1 l1 m1;replace K0:=bK K0 hN;replace K1:=bK K1 hN;replace RWa:=Z (RWa.out.kp hN);replace RWb:=Z (RWb.out.kp hN);replace HK:=jK HK hN;clear hN;(try clear Rq);have NZ:=Z RN;clear RN;have Rq:=NZ;clear NZ;have NZ:=Z RWc;clear RWc;have RWc:=NZ;clear NZ;(obtain⟨k0,f0,l0,m0⟩:=rl_ K0;obtain⟨k1,f1,l1,m1⟩:=rl_ K1))
 replace RWc:=Z (RWc.out.weak (S':=fun b=>w.heap.size≤b∧b≠g0∧b≠g1∧b≠q) fun b hb _=>⟨Nat.le_trans zw hb,Nat.ne_of_gt (Nat.lt_of_lt_of_le z0 hb),Nat.ne_of_gt (Nat.lt_of_lt_of_le z1 hb),Nat.ne_of_gt (Nat.lt_of_lt_of_le zq hb)⟩)
 clear z0 z1 zq zw
 obtain⟨A1,c1,l1⟩:=r
 simp only at hr
 subst hr
 (obtain⟨w9,hWN⟩:∃ W',World.setCell w8 ⟨g1,11,none⟩ (.slice A1 b.br.l.length c1)=W':=⟨_,rfl⟩;have hN:KpL [g1] w8 w9:=(by rw[←hWN];exact(KpL.refl _ _).set (.inl (by simp)));have kp1:=Blk.cell K1.out;have fp1:=Blk.free K1.out;have lp1:=Blk.lt K1.out;replace K1:=Z (show Blk w9 _ _ (btA ⟨x,c,⟨A1,c1,b.br.l⟩⟩) by rw[←hWN];exact Blk.to (Blk.set_ K1.out 11 _) rfl);have hWN_w9:=hWN;clear hWN k1 f1 l1 m1 k0 f0 l0 m0;replace K0:=bK K0 hN;replace Rq:=rK Rq hN;replace RWa:=Z (RWa.out.kp hN);replace RWb:=Z (RWb.out.kp hN);replace RWc:=Z (RWc.out.kp hN);replace HK:=jK HK hN;clear hN;obtain⟨k0,f0,l0,m0⟩:=rl_ K0;obtain⟨k1,f1,l1,m1⟩:=rl_ K1)
 have e2:=Rq.out.bd.set
 obtain⟨xq,hxq⟩:=Rq.out.bd
 have K5:=Z hxq
 clear hxq
 (obtain⟨k5,f5,l5,m5⟩:=rl_ K5)
 (go_wp2_with(first|(with_reducible refine wlr (ldBt _ K1.out) rfl ?_)|(with_reducible refine wlg (ldBt _ K1.out) (by with_unfolding_all rfl) rfl ?_)|(with_reducible refine wsh (stBt _ K0.out (⟨x,c,⟨A1,c1,b.br.l⟩⟩)) rfl rfl ?_));generalize hWN:setRow _ _ _ _=wa;have hN:KpL [g0] w9 wa:=(by rw[←hWN];exact(KpL.refl _ _).row (.inl (by simp)) (Nat.le_of_lt l0));replace K0:=Z (show Blk wa _ _ (btA ⟨x,c,⟨A1,c1,b.br.l⟩⟩) by rw[←hWN];exact Blk.row K0.out.lt);clear hWN k0 f0 l0 m0 k1 f1 l1 m1;replace K1:=bK K1 hN;replace RWa:=Z (RWa.out.kp hN);replace RWb:=Z (RWb.out.kp hN);replace RWc:=Z (RWc.out.kp hN);replace HK:=jK HK hN;clear hN;obtain⟨k1,f1,l1,m1⟩:=rl_ K1;obtain⟨k0,f0,l0,m0⟩:=rl_ K0;unfold Halted)
 go_wp2_with fail
 exact bodyPost_ret (results_cell2 rfl rfl (ldBt _ K0.out)) rfl ⟨⟨x,c,⟨A1,c1,b.br.l⟩⟩,rfl,⟨hx,hc,rfl⟩,⟨RWa.out.weak fun b hb _=>hb.1,RWb.out.weak fun b hb _=>hb.1,RWc.out.weak fun b hb _=>hb.1⟩,HK.out.below (Nat.le_refl _) (by simp)⟩
theorem from_calls(u:Up) (hs:UpSm u) (h1:u.seen.b.slot<18446744073709551616) (h2:u.seen.b.prop<18446744073709551616) (h3:u.seen.x.num<18446744073709551616)
  (i1:u.fin.b.slot<18446744073709551616) (i2:u.fin.b.prop<18446744073709551616) (i3:u.fin.x.num<18446744073709551616) (h7:u.bits<18446744073709551616) (h8:u.slot<18446744073709551616) (w:World) :
  Calls Tryz.prog 42 #[.string (bs (putI (upI u)))] w (fun e w'=>∃ u':Up,e=.returned (.tuple #[upV u',.int .i64 0])∧u'.bare=u.bare ∧
   (RwS (fun x=>w.heap.size≤x) w' u'.seen.br∧RwS (fun x=>w.heap.size≤x) w' u'.next.ks∧RwS (fun x=>w.heap.size≤x) w' u'.nb∧RwS (fun x=>w.heap.size≤x) w' u'.fin.br∧RwS (fun x=>w.heap.size≤x) w' u'.fb)∧Below w.heap.size w w'):=by
 have n1:=Z (fun W=>opened_calls [ltI u.seen,cmI u.next,textsI u.nb.l,ltI u.fin,textsI u.fb.l,numI u.bits,.text u.sig,numI u.slot] (Nat.le_trans (deep_up u) (by decide)) (Nat.le_trans (up_sm hs) (by decide)) (by simp) W)
 have h4:u.seen.br.l.length≤1000:=Nat.le_trans hs.1.2.2.1 (by decide)
 have h5:u.next.ks.l.length≤1000:=Nat.le_trans hs.2.1.1.1 (by decide)
 have h6:u.nb.l.length≤1000:=Nat.le_trans hs.2.2.1.1 (by decide)
 have i4:u.fin.br.l.length≤1000:=Nat.le_trans hs.2.2.2.1.2.2.1 (by decide)
 have i6:u.fb.l.length≤1000:=Nat.le_trans hs.2.2.2.2.1.1 (by decide)
 replace h1:=Z h1
 replace h2:=Z h2
 replace h3:=Z h3
 replace i1:=Z i1
 replace i2:=Z i2
 replace i3:=Z i3
 replace h7:=Z h7
 replace h8:=Z h8
 have hbt:upI u=.list [ltI u.seen,cmI u.next,textsI u.nb.l,ltI u.fin,textsI u.fb.l,numI u.bits,.text u.sig,numI u.slot]:=rfl
 rw[hbt]
 obtain⟨sx,hsx⟩:∃ sx,putI (.list [ltI u.seen,cmI u.next,textsI u.nb.l,ltI u.fin,textsI u.fb.l,numI u.bits,.text u.sig,numI u.slot])=sx:=⟨_,rfl⟩
 rw[hsx]at n1 ⊢
 have HK:=Z (KpL.refl [] w)
 clear hs hbt hsx
 obtain⟨seen,next,⟨nA,nC,nl⟩,fin,⟨fA,fC,fl⟩,bits,sig,slot⟩:=u
 simp only at n1 h1 h2 h3 i1 i2 i3 h4 h5 h6 i4 i6 h7 h8
 go_enter Tryz.func42, Tryz.ntmps42
 go_wp2_with fail
 (obtain⟨g0,hgj⟩:∃ g,(World.heap w).size=g:=⟨_,rfl⟩;obtain⟨w1,hWN⟩:∃ W',World.alloc w (.cells (upA Up.zero) 37)=W':=⟨_,rfl⟩;have hN:KpL [] w w1:=(by rw[←hWN];exact(KpL.refl _ _).alloc _);replace K0:=Z (show Blk w1 g0 37 (upA Up.zero) by rw[←hWN];exact Blk.newAt hgj);have hw_0:w.heap.size≤g0:=(by rw[←hgj];exact HK.out.size);rw[hWN];(try rw[hgj]);clear hWN hgj;replace HK:=jK HK hN;clear hN;obtain⟨k0,f0,l0,m0⟩:=rl_ K0)
 refine(n1.out _).mono ?_
 rintro e w2 ⟨N,q,rfl,hN9,RN,hN⟩
 have hN8:=KpL.join HK.out hN (by simp)
 have hq0:g0<q:=Nat.lt_of_lt_of_le (Nat.lt_of_lt_of_le K0.out.lt hN9) RN.hq
 have hNq:=RN.hq
 have P0:=Z (K0.out.kp hN (by simp))
 clear HK k0 f0 l0 m0 K0 hN n1
 have HK:=Z hN8
 have K0:=P0
 have Rq:=Z RN
 clear P0 RN hN8
 have hwq:w.heap.size≤q:=by omega
 (obtain⟨k0,f0,l0,m0⟩:=rl_ K0)
 go_wp2_with fail
 (obtain⟨g1,hgj⟩:∃ g,(World.heap w2).size=g:=⟨_,rfl⟩;obtain⟨w3,hWN⟩:∃ W',World.alloc w2 (.cells (upA Up.zero) 37)=W':=⟨_,rfl⟩;have hN:KpL [] w2 w3:=(by rw[←hWN];exact(KpL.refl _ _).alloc _);replace K1:=Z (show Blk w3 g1 37 (upA Up.zero) by rw[←hWN];exact Blk.newAt hgj);have h0_1:g0<g1:=(by rw[←hgj];exact K0.out.lt);have hq_1:q<g1:=(by rw[←hgj];exact Rq.out.lt);have hw_1:w.heap.size≤g1:=(by rw[←hgj];exact HK.out.size);rw[hWN];(try rw[hgj]);clear hWN hgj k0 f0 l0 m0;replace K0:=bK K0 hN;replace Rq:=rK Rq hN;replace HK:=jK HK hN;clear hN;obtain⟨k0,f0,l0,m0⟩:=rl_ K0;obtain⟨k1,f1,l1,m1⟩:=rl_ K1)
 have z0:=K0.out.lt
 have z1:=K1.out.lt
 have zq:=Rq.out.lt
 have zw:=HK.out.size
 (refine(rlight_calls N q seen h1.out h2.out h3.out h4 _ (by simp) _ Rq.out).mono ?_;rintro e w4 ⟨x,rfl,hx,RWa,RN,hN⟩;clear k0 f0 l0 m0 k1 f1 l1 m1;replace K0:=bK K0 hN;replace K1:=bK K1 hN;replace HK:=jK HK hN;clear hN;(try clear Rq);have NZ:=Z RN;clear RN;have Rq:=NZ;clear NZ;have NZ:=Z RWa;clear RWa;have RWa:=NZ;clear NZ;(obtain⟨k0,f0,l0,m0⟩:=rl_ K0;obtain⟨k1,f1,l1,m1⟩:=rl_ K1))
 replace RWa:=Z (RWa.out.weak (S':=fun b=>w.heap.size≤b∧b≠g0∧b≠g1∧b≠q) fun b hb _=>⟨Nat.le_trans zw hb,Nat.ne_of_gt (Nat.lt_of_lt_of_le z0 hb),Nat.ne_of_gt (Nat.lt_of_lt_of_le z1 hb),Nat.ne_of_gt (Nat.lt_of_lt_of_le zq hb)⟩)
 clear z0 z1 zq zw
 (go_wp2_with(first|(with_reducible refine wsh (stUp_seen _ K1.out (x)) rfl rfl ?_));generalize hWN:setRow _ _ _ _=w5;have hN:KpL [g1] w4 w5:=(by rw[←hWN];exact(KpL.refl _ _).row (.inl (by simp)) (Nat.le_of_lt l1));replace K1:=Z (show Blk w5 _ _ (upA ⟨x,Cm.zero,Rw.zero,Lt.zero,Rw.zero,0,[],0⟩) by rw[←hWN];exact Blk.row K1.out.lt);clear hWN k1 f1 l1 m1 k0 f0 l0 m0;replace K0:=bK K0 hN;replace Rq:=rK Rq hN;replace RWa:=Z (RWa.out.kp hN);replace HK:=jK HK hN;clear hN;obtain⟨k0,f0,l0,m0⟩:=rl_ K0;obtain⟨k1,f1,l1,m1⟩:=rl_ K1;unfold Halted)
 go_wp2_with fail
 have z0:=K0.out.lt
 have z1:=K1.out.lt
 have zq:=Rq.out.lt
 have zw:=HK.out.size
 (refine(rcomm_calls N q next h5 _ (by simp) _ Rq.out).mono ?_;rintro e w6 ⟨c,rfl,hc,RWb,RN,hN⟩;clear k0 f0 l0 m0 k1 f1 l1 m1;replace K0:=bK K0 hN;replace K1:=bK K1 hN;replace RWa:=Z (RWa.out.kp hN);replace HK:=jK HK hN;clear hN;(try clear Rq);have NZ:=Z RN;clear RN;have Rq:=NZ;clear NZ;have NZ:=Z RWb;clear RWb;have RWb:=NZ;clear NZ;(obtain⟨k0,f0,l0,m0⟩:=rl_ K0;obtain⟨k1,f1,l1,m1⟩:=rl_ K1))
 replace RWb:=Z (RWb.out.weak (S':=fun b=>w.heap.size≤b∧b≠g0∧b≠g1∧b≠q) fun b hb _=>⟨Nat.le_trans zw hb,Nat.ne_of_gt (Nat.lt_of_lt_of_le z0 hb),Nat.ne_of_gt (Nat.lt_of_lt_of_le z1 hb),Nat.ne_of_gt (Nat.lt_of_lt_of_le zq hb)⟩)
 clear z0 z1 zq zw
 (go_wp2_with(first|(with_reducible refine wsh (stUp_next _ K1.out (c)) rfl rfl ?_));generalize hWN:setRow _ _ _ _=w7;have hN:KpL [g1] w6 w7:=(by rw[←hWN];exact(KpL.refl _ _).row (.inl (by simp)) (Nat.le_of_lt l1));replace K1:=Z (show Blk w7 _ _ (upA ⟨x,c,Rw.zero,Lt.zero,Rw.zero,0,[],0⟩) by rw[←hWN];exact Blk.row K1.out.lt);clear hWN k1 f1 l1 m1 k0 f0 l0 m0;replace K0:=bK K0 hN;replace Rq:=rK Rq hN;replace RWa:=Z (RWa.out.kp hN);replace RWb:=Z (RWb.out.kp hN);replace HK:=jK HK hN;clear hN;obtain⟨k0,f0,l0,m0⟩:=rl_ K0;obtain⟨k1,f1,l1,m1⟩:=rl_ K1;unfold Halted)
 go_wp2_with fail
 have z0:=K0.out.lt
 have z1:=K1.out.lt
 have zq:=Rq.out.lt
 have zw:=HK.out.size
 (refine(rtexts_calls N q nl h6 _ (by simp) _ Rq.out).mono ?_;rintro e w8 ⟨r,rfl,hr,RWc,RN,hN⟩;clear k0 f0 l0 m0 k1 f1 l1 m1;replace K0:=bK K0 hN;replace K1:=bK K1 hN;replace RWa:=Z (RWa.out.kp hN);replace RWb:=Z (RWb.out.kp hN);replace HK:=jK HK hN;clear hN;(try clear Rq);have NZ:=Z RN;clear RN;have Rq:=NZ;clear NZ;have NZ:=Z RWc;clear RWc;have RWc:=NZ;clear NZ;(obtain⟨k0,f0,l0,m0⟩:=rl_ K0;obtain⟨k1,f1,l1,m1⟩:=rl_ K1))
 replace RWc:=Z (RWc.out.weak (S':=fun b=>w.heap.size≤b∧b≠g0∧b≠g1∧b≠q) fun b hb _=>⟨Nat.le_trans zw hb,Nat.ne_of_gt (Nat.lt_of_lt_of_le z0 hb),Nat.ne_of_gt (Nat.lt_of_lt_of_le z1 hb),Nat.ne_of_gt (Nat.lt_of_lt_of_le zq hb)⟩)
 clear z0 z1 zq zw
 obtain⟨A1,cx,lx⟩:=r
 simp only at hr
 subst hr
 go_wp2_with fail
 (obtain⟨w9,hWN⟩:∃ W',World.setCell w8 ⟨g1,11,none⟩ (.slice A1 lx.length cx)=W':=⟨_,rfl⟩;have hN:KpL [g1] w8 w9:=(by rw[←hWN];exact(KpL.refl _ _).set (.inl (by simp)));replace K1:=Z (show Blk w9 _ _ (upA ⟨x,c,⟨A1,cx,lx⟩,Lt.zero,Rw.zero,0,[],0⟩) by rw[←hWN];exact Blk.to (Blk.set_ K1.out 11 _) rfl);rw[hWN];clear hWN k1 f1 l1 m1 k0 f0 l0 m0;replace K0:=bK K0 hN;replace Rq:=rK Rq hN;replace RWa:=Z (RWa.out.kp hN);replace RWb:=Z (RWb.out.kp hN);replace RWc:=Z (RWc.out.kp hN);replace HK:=jK HK hN;clear hN;obtain⟨k0,f0,l0,m0⟩:=rl_ K0;obtain⟨k1,f1,l1,m1⟩:=rl_ K1)
 have z0:=K0.out.lt
 have z1:=K1.out.lt
 have zq:=Rq.out.lt
 have zw:=HK.out.size
 (refine(rlight_calls N q fin i1.out i2.out i3.out i4 _ (by simp) _ Rq.out).mono ?_;rintro e wa ⟨y,rfl,hy,RWd,RN,hN⟩;clear k0 f0 l0 m0 k1 f1 l1 m1;replace K0:=bK K0 hN;replace K1:=bK K1 hN;replace RWa:=Z (RWa.out.kp hN);replace RWb:=Z (RWb.out.kp hN);replace RWc:=Z (RWc.out.kp hN);replace HK:=jK HK hN;clear hN;(try clear Rq);have NZ:=Z RN;clear RN;have Rq:=NZ;clear NZ;have NZ:=Z RWd;clear RWd;have RWd:=NZ;clear NZ;(obtain⟨k0,f0,l0,m0⟩:=rl_ K0;obtain⟨k1,f1,l1,m1⟩:=rl_ K1))
 replace RWd:=Z (RWd.out.weak (S':=fun b=>w.heap.size≤b∧b≠g0∧b≠g1∧b≠q) fun b hb _=>⟨Nat.le_trans zw hb,Nat.ne_of_gt (Nat.lt_of_lt_of_le z0 hb),Nat.ne_of_gt (Nat.lt_of_lt_of_le z1 hb),Nat.ne_of_gt (Nat.lt_of_lt_of_le zq hb)⟩)
 clear z0 z1 zq zw
 (go_wp2_with(first|(with_reducible refine wsh (stUp_fin _ K1.out (y)) rfl rfl ?_));generalize hWN:setRow _ _ _ _=wb;have hN:KpL [g1] wa wb:=(by rw[←hWN];exact(KpL.refl _ _).row (.inl (by simp)) (Nat.le_of_lt l1));replace K1:=Z (show Blk wb _ _ (upA ⟨x,c,⟨A1,cx,lx⟩,y,Rw.zero,0,[],0⟩) by rw[←hWN];exact Blk.row K1.out.lt);clear hWN k1 f1 l1 m1 k0 f0 l0 m0;replace K0:=bK K0 hN;replace Rq:=rK Rq hN;replace RWa:=Z (RWa.out.kp hN);replace RWb:=Z (RWb.out.kp hN);replace RWc:=Z (RWc.out.kp hN);replace RWd:=Z (RWd.out.kp hN);replace HK:=jK HK hN;clear hN;obtain⟨k0,f0,l0,m0⟩:=rl_ K0;obtain⟨k1,f1,l1,m1⟩:=rl_ K1;unfold Halted)
 go_wp2_with fail
 have z0:=K0.out.lt
 have z1:=K1.out.lt
 have zq:=Rq.out.lt
 have zw:=HK.out.size
 (refine(rtexts_calls N q fl i6 _ (by simp) _ Rq.out).mono ?_;rintro e wc ⟨r,rfl,hr,RWe,RN,hN⟩;clear k0 f0 l0 m0 k1 f1 l1 m1;replace K0:=bK K0 hN;replace K1:=bK K1 hN;replace RWa:=Z (RWa.out.kp hN);replace RWb:=Z (RWb.out.kp hN);replace RWc:=Z (RWc.out.kp hN);replace RWd:=Z (RWd.out.kp hN);replace HK:=jK HK hN;clear hN;(try clear Rq);have NZ:=Z RN;clear RN;have Rq:=NZ;clear NZ;have NZ:=Z RWe;clear RWe;have RWe:=NZ;clear NZ;(obtain⟨k0,f0,l0,m0⟩:=rl_ K0;obtain⟨k1,f1,l1,m1⟩:=rl_ K1))
 replace RWe:=Z (RWe.out.weak (S':=fun b=>w.heap.size≤b∧b≠g0∧b≠g1∧b≠q) fun b hb _=>⟨Nat.le_trans zw hb,Nat.ne_of_gt (Nat.lt_of_lt_of_le z0 hb),Nat.ne_of_gt (Nat.lt_of_lt_of_le z1 hb),Nat.ne_of_gt (Nat.lt_of_lt_of_le zq hb)⟩)
 clear z0 z1 zq zw
 obtain⟨A2,cy,ly⟩:=r
 simp only at hr
 subst hr
 go_wp2_with fail
 (obtain⟨wd,hWN⟩:∃ W',World.setCell wc ⟨g1,21,none⟩ (.slice A2 ly.length cy)=W':=⟨_,rfl⟩;have hN:KpL [g1] wc wd:=(by rw[←hWN];exact(KpL.refl _ _).set (.inl (by simp)));replace K1:=Z (show Blk wd _ _ (upA ⟨x,c,⟨A1,cx,lx⟩,y,⟨A2,cy,ly⟩,0,[],0⟩) by rw[←hWN];exact Blk.to (Blk.set_ K1.out 21 _) rfl);rw[hWN];clear hWN k1 f1 l1 m1 k0 f0 l0 m0;replace K0:=bK K0 hN;replace Rq:=rK Rq hN;replace RWa:=Z (RWa.out.kp hN);replace RWb:=Z (RWb.out.kp hN);replace RWc:=Z (RWc.out.kp hN);replace RWd:=Z (RWd.out.kp hN);replace RWe:=Z (RWe.out.kp hN);replace HK:=jK HK hN;clear hN;obtain⟨k0,f0,l0,m0⟩:=rl_ K0;obtain⟨k1,f1,l1,m1⟩:=rl_ K1)
 (refine(rdnum_calls N q q bits h7.out _ (by simp) _ Rq.out Rq.out.bd).mono ?_;rintro e we ⟨rfl,RN,hN⟩;clear k0 f0 l0 m0 k1 f1 l1 m1;replace K0:=bK K0 hN;replace K1:=bK K1 hN;replace RWa:=Z (RWa.out.kp hN);replace RWb:=Z (RWb.out.kp hN);replace RWc:=Z (RWc.out.kp hN);replace RWd:=Z (RWd.out.kp hN);replace RWe:=Z (RWe.out.kp hN);replace HK:=jK HK hN;clear hN;(try clear Rq);have NZ:=Z RN;clear RN;have Rq:=NZ;clear NZ;(obtain⟨k0,f0,l0,m0⟩:=rl_ K0;obtain⟨k1,f1,l1,m1⟩:=rl_ K1))
 go_wp2_with fail
 (obtain⟨wf,hWN⟩:∃ W',World.setCell we ⟨g1,22,none⟩ (.int .u64 (bits:Int))=W':=⟨_,rfl⟩;have hN:KpL [g1] we wf:=(by rw[←hWN];exact(KpL.refl _ _).set (.inl (by simp)));replace K1:=Z (show Blk wf _ _ (upA ⟨x,c,⟨A1,cx,lx⟩,y,⟨A2,cy,ly⟩,bits,[],0⟩) by rw[←hWN];exact Blk.to (Blk.set_ K1.out 22 _) rfl);rw[hWN];clear hWN k1 f1 l1 m1 k0 f0 l0 m0;replace K0:=bK K0 hN;replace Rq:=rK Rq hN;replace RWa:=Z (RWa.out.kp hN);replace RWb:=Z (RWb.out.kp hN);replace RWc:=Z (RWc.out.kp hN);replace RWd:=Z (RWd.out.kp hN);replace RWe:=Z (RWe.out.kp hN);replace HK:=jK HK hN;clear hN;obtain⟨k0,f0,l0,m0⟩:=rl_ K0;obtain⟨k1,f1,l1,m1⟩:=rl_ K1)
 (refine(rdtext_calls N q q sig _ (by simp) _ Rq.out Rq.out.bd).mono ?_;rintro e wg ⟨rfl,RN,hN⟩;clear k0 f0 l0 m0 k1 f1 l1 m1;replace K0:=bK K0 hN;replace K1:=bK K1 hN;replace RWa:=Z (RWa.out.kp hN);replace RWb:=Z (RWb.out.kp hN);replace RWc:=Z (RWc.out.kp hN);replace RWd:=Z (RWd.out.kp hN);replace RWe:=Z (RWe.out.kp hN);replace HK:=jK HK hN;clear hN;(try clear Rq);have NZ:=Z RN;clear RN;have Rq:=NZ;clear NZ;(obtain⟨k0,f0,l0,m0⟩:=rl_ K0;obtain⟨k1,f1,l1,m1⟩:=rl_ K1))
 go_wp2_with fail
 (obtain⟨wh,hWN⟩:∃ W',World.setCell wg ⟨g1,23,none⟩ (.string (bs sig))=W':=⟨_,rfl⟩;have hN:KpL [g1] wg wh:=(by rw[←hWN];exact(KpL.refl _ _).set (.inl (by simp)));replace K1:=Z (show Blk wh _ _ (upA ⟨x,c,⟨A1,cx,lx⟩,y,⟨A2,cy,ly⟩,bits,sig,0⟩) by rw[←hWN];exact Blk.to (Blk.set_ K1.out 23 _) rfl);rw[hWN];clear hWN k1 f1 l1 m1 k0 f0 l0 m0;replace K0:=bK K0 hN;replace Rq:=rK Rq hN;replace RWa:=Z (RWa.out.kp hN);replace RWb:=Z (RWb.out.kp hN);replace RWc:=Z (RWc.out.kp hN);replace RWd:=Z (RWd.out.kp hN);replace RWe:=Z (RWe.out.kp hN);replace HK:=jK HK hN;clear hN;obtain⟨k0,f0,l0,m0⟩:=rl_ K0;obtain⟨k1,f1,l1,m1⟩:=rl_ K1)
 (refine(rdnum_calls N q q slot h8.out _ (by simp) _ Rq.out Rq.out.bd).mono ?_;rintro e wi ⟨rfl,RN,hN⟩;clear k0 f0 l0 m0 k1 f1 l1 m1;replace K0:=bK K0 hN;replace K1:=bK K1 hN;replace RWa:=Z (RWa.out.kp hN);replace RWb:=Z (RWb.out.kp hN);replace RWc:=Z (RWc.out.kp hN);replace RWd:=Z (RWd.out.kp hN);replace RWe:=Z (RWe.out.kp hN);replace HK:=jK HK hN;clear hN;(try clear Rq);have NZ:=Z RN;clear RN;have Rq:=NZ;clear NZ;(obtain⟨k0,f0,l0,m0⟩:=rl_ K0;obtain⟨k1,f1,l1,m1⟩:=rl_ K1))
 (obtain⟨wj,hWN⟩:∃ W',World.setCell wi ⟨g1,24,none⟩ (.int .u64 (slot:Int))=W':=⟨_,rfl⟩;have hN:KpL [g1] wi wj:=(by rw[←hWN];exact(KpL.refl _ _).set (.inl (by simp)));have kp1:=Blk.cell K1.out;have fp1:=Blk.free K1.out;have lp1:=Blk.lt K1.out;replace K1:=Z (show Blk wj _ _ (upA ⟨x,c,⟨A1,cx,lx⟩,y,⟨A2,cy,ly⟩,bits,sig,slot⟩) by rw[←hWN];exact Blk.to (Blk.set_ K1.out 24 _) rfl);have hWN_wj:=hWN;clear hWN k1 f1 l1 m1 k0 f0 l0 m0;replace K0:=bK K0 hN;replace Rq:=rK Rq hN;replace RWa:=Z (RWa.out.kp hN);replace RWb:=Z (RWb.out.kp hN);replace RWc:=Z (RWc.out.kp hN);replace RWd:=Z (RWd.out.kp hN);replace RWe:=Z (RWe.out.kp hN);replace HK:=jK HK hN;clear hN;obtain⟨k0,f0,l0,m0⟩:=rl_ K0;obtain⟨k1,f1,l1,m1⟩:=rl_ K1)
 have e2:=Rq.out.bd.set
 obtain⟨xq,hxq⟩:=Rq.out.bd
 have K5:=Z hxq
 clear hxq
 (obtain⟨k5,f5,l5,m5⟩:=rl_ K5)
 (go_wp2_with(first|(with_reducible refine wlr (ldUp _ K1.out) rfl ?_)|(with_reducible refine wlg (ldUp _ K1.out) (by with_unfolding_all rfl) rfl ?_)|(with_reducible refine wsh (stUp _ K0.out (⟨x,c,⟨A1,cx,lx⟩,y,⟨A2,cy,ly⟩,bits,sig,slot⟩)) rfl rfl ?_));generalize hWN:setRow _ _ _ _=wk;have hN:KpL [g0] wj wk:=(by rw[←hWN];exact(KpL.refl _ _).row (.inl (by simp)) (Nat.le_of_lt l0));replace K0:=Z (show Blk wk _ _ (upA ⟨x,c,⟨A1,cx,lx⟩,y,⟨A2,cy,ly⟩,bits,sig,slot⟩) by rw[←hWN];exact Blk.row K0.out.lt);clear hWN k0 f0 l0 m0 k1 f1 l1 m1;replace K1:=bK K1 hN;replace RWa:=Z (RWa.out.kp hN);replace RWb:=Z (RWb.out.kp hN);replace RWc:=Z (RWc.out.kp hN);replace RWd:=Z (RWd.out.kp hN);replace RWe:=Z (RWe.out.kp hN);replace HK:=jK HK hN;clear hN;obtain⟨k1,f1,l1,m1⟩:=rl_ K1;obtain⟨k0,f0,l0,m0⟩:=rl_ K0;unfold Halted)
 go_wp2_with fail
 refine bodyPost_ret (results_cell2 rfl rfl (ldUp _ K0.out)) rfl ⟨⟨x,c,⟨A1,cx,lx⟩,y,⟨A2,cy,ly⟩,bits,sig,slot⟩,rfl,?_,⟨RWa.out.weak fun b hb _=>hb.1,RWb.out.weak fun b hb _=>hb.1,RWc.out.weak fun b hb _=>hb.1,RWd.out.weak fun b hb _=>hb.1,RWe.out.weak fun b hb _=>hb.1⟩,HK.out.below (Nat.le_refl _) (by simp)⟩
 unfold Up.bare
 simp only
 rw[hx,hc,hy]
 rfl
theorem or_chain(a b c X:Int):(if a≠0 then a else if b≠0 then b else if c≠0 then c else X)=if orE a b c=0 then X else orE a b c:=by
 unfold orE
 by_cases h:a=0
 ·by_cases k:b=0
  ·by_cases m:c=0
   ·simp[h,k,m]
   ·simp[h,k,m]
  ·simp[h,k]
 ·simp[h]
def SgW(w:World) (g b:Nat) (s:Sr) (u:Up) (c:Cm) (wx:World):Prop:=Blk wx g 39 (srA s)∧Blk wx (g+1) 37 (upA u)∧Blk wx b 35 (cmA c)∧Below w.heap.size w wx
theorem lgsig_calls(s:Sr) (u:Up) (w:World) (hk:HasK w) (hs:SrIn w s) (hu:UpIn w u):Calls Tryz.prog 70 #[srV s,upV u] w (Ret w (.int .i64 (sigE s u))):=by
 have p1:=fun W=>period_q u.slot hu.2.2.2.2.2.2.2 W
 have p2:=fun W=>period_q s.fin.b.slot hs.1.1.1 W
 have p3:=fun b W=>pickC_calls b s.now s.next W
 have hcc:CmIn w (commP s u):=by
  unfold commP
  split
  ·exact hs.2.2.1
  ·exact hs.2.2.2.1
 have hpick:(if decide (period u.slot=period s.fin.b.slot)=true then s.now else s.next)=commP s u:=by simp[commP]
 have hE:sigE s u=if allB (keysP (commP s u).ks.l u.bits) (textP u.seen.b u.slot) u.sig then 0 else 147:=rfl
 have q3:=fun W (hB:Below w.heap.size w W)=>lgtext_calls u.seen.b u.slot W (hk.on hB) (hu.1.1.below hB) hu.2.2.2.2.2.2.2
 have ht:=textP_len u.seen.b u.slot
 have hl:=keysP_len (commP s u).ks.l u.bits
 generalize sigE s u=E at *
 generalize period u.slot=pu at *
 generalize period s.fin.b.slot=pf at *
 have e1:((pu:Int) == (pf:Int))=decide (pu=pf):=by rw[Bool.eq_iff_iff];simp;omega
 generalize decide (pu=pf)=b1 at *
 generalize commP s u=cc at *
 generalize textP u.seen.b u.slot=tx at *
 have p4:=fun W=>p3 b1 W
 rw[hpick]at p4
 have q1:∀ W,Calls Tryz.prog 114 #[cmV cc,.int .u64 u.bits] W (fun e w'=>∃ b,e=.returned (.func (.func 152) #[] #[.pointer (some ⟨b,0,none⟩),.pointer (some ⟨b+1,0,none⟩)])∧(Blk w' b 35 (cmA cc)∧Blk w' (b+1) 22 #[.int .u64 u.bits])∧Below W.heap.size W w'):=fun W=>(lgkeys_calls cc u.bits W).mono fun e w' ⟨he,hw⟩=>⟨_,he,by rw[hw];exact⟨(Blk.new0 _ _ _).alloc _,Blk.new1 _ _ _ _⟩,by rw[hw];exact bel⟩
 have q2:=fun b W (hB:Below w.heap.size w W) K0 K1=>lgcollect_calls b cc u.bits hu.2.2.2.2.2.1 W ((hcc.below hB).1) K0 K1
 have q4:=fun A cp W (hB:Below w.heap.size w W) (hT:Txts W A (keysP cc.ks.l u.bits))=>all_calls A cp (keysP cc.ks.l u.bits) (by omega) tx u.sig ht W (hk.on hB) hT
 generalize allB (keysP cc.ks.l u.bits) tx u.sig=al at *
 replace hE:=Z hE
 replace p1:=Z p1
 replace p2:=Z p2
 replace p4:=Z p4
 replace q1:=Z q1
 replace q2:=Z q2
 replace q3:=Z q3
 replace q4:=Z q4
 clear hs hu hk p3 hcc hpick ht hl
 go_enter Tryz.func70, Tryz.ntmps70
 go_upto_region 1 with fail
 have HB:Below w.heap.size w ((w.alloc (.cells (srA s) 39)).alloc (.cells (upA u) 37)):=bel
 have K0:=(Blk.new0 w 39 (srA s)).alloc (.cells (upA u) 37)
 have K1:=Blk.new1 w (.cells (srA s) 39) 37 (upA u)
 obtain⟨W,hW⟩:∃ W,((w.alloc (.cells (srA s) 39)).alloc (.cells (upA u) 37))=W:=⟨_,rfl⟩
 rw[hW]at HB K0 K1 ⊢
 clear hW
 have hgl:w.heap.size≤w.heap.size:=Nat.le_refl _
 obtain⟨g,hg⟩:∃ g,w.heap.size=g:=⟨_,rfl⟩
 rw[hg]at K0 K1 ⊢
 replace hgl:w.heap.size≤g:=by omega
 replace K0:=Z K0
 replace K1:=Z K1
 clear hg
 (obtain⟨k0,f0,l0,m0⟩:=rl_ K0;obtain⟨k1,f1,l1,m1⟩:=rl_ K1)
 go_cut [5] (fun s5 wx=>∃ b,s5=.pointer (some ⟨b,0,none⟩)∧SgW w g b s u cc wx)
 case first =>
  have hwf:∀ f,Fence.wide.fn f:=fun _=>trivial
  refine(wpIn_wide (n:=9)).1 ?_
  refine wpIn_round_held (fun w'=>Below W.heap.size W w') (fun j=>true) U ?_
  have hS0:(fun w'=>Below W.heap.size W w') W.drew:=(Below.refl _ _).drew
  refine S_tg 0 (.pointer (some ⟨(g+1),24,none⟩)) rfl hS0 ?_
  refine S_tk 1 (.int .u64 (u.slot:Int)) rfl hS0 (fun w' hw=>exec_load rfl U (run_load_cell (i:=24) (K1.out.below hw) rfl szU64 nrU64)) ?_
  refine S_tg 3 (.pointer (some ⟨g,0,none⟩)) rfl hS0 ?_
  refine S_tg 4 (.pointer (some ⟨g,0,none⟩)) rfl hS0 ?_
  refine S_tg 5 (.pointer (some ⟨g,0,none⟩)) rfl hS0 ?_
  refine S_tk 6 (.int .u64 (s.fin.b.slot:Int)) rfl hS0 (fun w' hw=>exec_load rfl U (run_load_cell (i:=0) (K0.out.below hw) rfl szU64 nrU64)) ?_
  refine S_tg 9 (.pointer (some ⟨g,18,none⟩)) rfl hS0 ?_
  refine S_tk 10 (cmV (s.now)) rfl hS0 (fun w' hw=>exec_load rfl U (ldSr_now (s) (K0.out.below hw))) ?_
  refine S_tg 11 (.pointer (some ⟨g,20,none⟩)) rfl hS0 ?_
  refine S_tk 12 (cmV (s.next)) rfl hS0 (fun w' hw=>exec_load rfl U (ldSr_next (s) (K0.out.below hw))) ?_
  refine S_list [2,14] U (by decide) ⟨?_,?_,trivial⟩
  ·show wpOpIn _ _ _ _ _ 2 _ _ _
   refine op_call (nd:=fun j=>true) (S:=fun w'=>Below W.heap.size W w') (i:=2) rfl (fun K hK=>?_)
   go_simp
   gi_wp2_with(gi_at_call 36; refine(callsIn_wide.2 (p1.out _)).mono ?_;rintro e Wh1 ⟨rfl,hN⟩;obtain rfl:W.drew=Wh1:=(by first|exact hN|exact hN.symm))
   refine⟨(fun _=>hS0),?_⟩
   refine S_list [7,14] U (by decide) ⟨?_,?_,trivial⟩
   ·show wpOpIn _ _ _ _ _ 7 _ _ _
    refine op_call (nd:=fun j=>true) (S:=fun w'=>Below W.heap.size W w') (i:=7) rfl (fun K hK=>?_)
    go_simp
    gi_wp2_with(gi_at_call 36; refine(callsIn_wide.2 (p2.out _)).mono ?_;rintro e Wh2 ⟨rfl,hN⟩;obtain rfl:W.drew=Wh2:=(by first|exact hN|exact hN.symm))
    refine⟨(fun _=>hS0),?_⟩
    refine S_tg 8 (.bool b1) rfl hS0 ?_
    refine S_list [13,14] U (by decide) ⟨?_,?_,trivial⟩
    ·show wpOpIn _ _ _ _ _ 13 _ _ _
     refine op_call (nd:=fun j=>true) (S:=fun w'=>Below W.heap.size W w') (i:=13) rfl (fun K hK=>?_)
     go_simp
     gi_wp2_with(gi_at_call 111; refine(callsIn_wide.2 (p4.out _)).mono ?_;rintro e Wh3 ⟨rfl,hN⟩)
     replace hS0:=hS0.trans (hN.mono hS0.size)
     clear hN
     refine⟨(fun _=>hS0),?_⟩
     obtain⟨x5n4,hbx⟩:∃ x,Wh3.heap.size=x:=⟨_,rfl⟩
     have hbx2:=hbx
     (try simp[go_sem]at hbx2)
     have hb5:W.heap.size≤x5n4:=by rw[←hbx];exact hS0.size
     have KA5:=Blk.new0 Wh3 35 (cmA Cm.zero)
     rw[hbx]at KA5
     replace KA5:=Z KA5
     replace hS0:Below _ _ (Wh3.alloc (.cells (cmA Cm.zero) 35)):=hS0.alloc hS0.size _
     refine S_go 14 (fun _=>trivial) U U rfl U (.pointer (some ⟨x5n4,0,none⟩)) (Wh3.alloc (.cells (cmA Cm.zero) 35)) (by first|(go_simp;done)|(go_simp;rfl)|(go_simp;exact⟨hbx2,rfl⟩)) (fun _=>hS0) ?_
     clear hbx hbx2
     have hS1:(fun w'=>Below W.heap.size W w') (setRow (Wh3.alloc (.cells (cmA Cm.zero) 35)) (x5n4) 35 (cmA cc)):=Below.row hS0 hb5 hS0.size
     refine S_store 15 (fun _=>trivial) U U rfl U (setRow (Wh3.alloc (.cells (cmA Cm.zero) 35)) (x5n4) 35 (cmA cc)) (exec_store _ _ rfl U U (stCm Cm.zero KA5.out cc)) (fun _=>hS1) ?_
     clear hS0
     have hS0:=hS1
     clear hS1
     replace KA5:=Z (Blk.row (t := 35) (cs:=cmA cc) KA5.out.lt)
     refine⟨by kernel_rfl,rfl,?_⟩
     (try simp only[World.size_alloc]at hS0 KA5)
     go_wp2_with fail
     go_meet
     case rel =>
      refine⟨_,rfl,?_⟩
      (try simp only[World.size_alloc])
      exact⟨K0.out.below hS0,K1.out.below hS0,KA5.out,Below.on hS0 HB⟩
    ·show wpOpIn _ _ _ _ _ 14 _ _ _
     obtain⟨x5n5,hbx⟩:∃ x,W.drew.heap.size=x:=⟨_,rfl⟩
     have hbx2:=hbx
     (try simp[go_sem]at hbx2)
     have hb5:W.heap.size≤x5n5:=by rw[←hbx];exact hS0.size
     have KA5:=Blk.new0 W.drew 35 (cmA Cm.zero)
     rw[hbx]at KA5
     replace KA5:=Z KA5
     replace hS0:Below _ _ (W.drew.alloc (.cells (cmA Cm.zero) 35)):=hS0.alloc hS0.size _
     refine op_go (nd:=fun j=>true) (S:=fun w'=>Below W.heap.size W w') (i:=14) (fun _=>trivial) U rfl U (.pointer (some ⟨x5n5,0,none⟩)) (W.drew.alloc (.cells (cmA Cm.zero) 35)) (by first|(go_simp;done)|(go_simp;rfl)|(go_simp;exact⟨hbx2,rfl⟩)) (fun _=>hS0) ?_
     clear hbx hbx2
     refine S_one 13 U rfl (fun K hK=>?_)
     go_simp
     gi_wp2_with(gi_at_call 111; refine(callsIn_wide.2 (p4.out _)).mono ?_;rintro e Wh6 ⟨rfl,hN⟩)
     replace KA5:=hn_ KA5 hN
     replace hS0:=hS0.trans (hN.mono hS0.size)
     clear hN
     refine⟨(fun _=>hS0),?_⟩
     have hS1:(fun w'=>Below W.heap.size W w') (setRow Wh6 (x5n5) 35 (cmA cc)):=Below.row hS0 hb5 hS0.size
     refine S_store 15 (fun _=>trivial) U U rfl U (setRow Wh6 (x5n5) 35 (cmA cc)) (exec_store _ _ rfl U U (stCm Cm.zero KA5.out cc)) (fun _=>hS1) ?_
     clear hS0
     have hS0:=hS1
     clear hS1
     replace KA5:=Z (Blk.row (t := 35) (cs:=cmA cc) KA5.out.lt)
     refine⟨by kernel_rfl,rfl,?_⟩
     (try simp only[World.size_alloc]at hS0 KA5)
     go_wp2_with fail
     go_meet
     case rel =>
      refine⟨_,rfl,?_⟩
      (try simp only[World.size_alloc])
      exact⟨K0.out.below hS0,K1.out.below hS0,KA5.out,Below.on hS0 HB⟩
   ·show wpOpIn _ _ _ _ _ 14 _ _ _
    obtain⟨x5n7,hbx⟩:∃ x,W.drew.heap.size=x:=⟨_,rfl⟩
    have hbx2:=hbx
    (try simp[go_sem]at hbx2)
    have hb5:W.heap.size≤x5n7:=by rw[←hbx];exact hS0.size
    have KA5:=Blk.new0 W.drew 35 (cmA Cm.zero)
    rw[hbx]at KA5
    replace KA5:=Z KA5
    replace hS0:Below _ _ (W.drew.alloc (.cells (cmA Cm.zero) 35)):=hS0.alloc hS0.size _
    refine op_go (nd:=fun j=>true) (S:=fun w'=>Below W.heap.size W w') (i:=14) (fun _=>trivial) U rfl U (.pointer (some ⟨x5n7,0,none⟩)) (W.drew.alloc (.cells (cmA Cm.zero) 35)) (by first|(go_simp;done)|(go_simp;rfl)|(go_simp;exact⟨hbx2,rfl⟩)) (fun _=>hS0) ?_
    clear hbx hbx2
    refine S_one 7 U rfl (fun K hK=>?_)
    go_simp
    gi_wp2_with(gi_at_call 36; refine(callsIn_wide.2 (p2.out _)).mono ?_;rintro e Wh8 ⟨rfl,hN⟩;obtain rfl:(W.drew.alloc (.cells (cmA Cm.zero) 35))=Wh8:=(by first|exact hN|exact hN.symm);clear hN)
    refine⟨(fun _=>hS0),?_⟩
    refine S_tg 8 (.bool b1) rfl hS0 ?_
    refine S_one 13 U rfl (fun K hK=>?_)
    go_simp
    gi_wp2_with(gi_at_call 111; refine(callsIn_wide.2 (p4.out _)).mono ?_;rintro e Wh9 ⟨rfl,hN⟩)
    replace KA5:=hn_ KA5 hN
    replace hS0:=hS0.trans (hN.mono hS0.size)
    clear hN
    refine⟨(fun _=>hS0),?_⟩
    have hS1:(fun w'=>Below W.heap.size W w') (setRow Wh9 (x5n7) 35 (cmA cc)):=Below.row hS0 hb5 hS0.size
    refine S_store 15 (fun _=>trivial) U U rfl U (setRow Wh9 (x5n7) 35 (cmA cc)) (exec_store _ _ rfl U U (stCm Cm.zero KA5.out cc)) (fun _=>hS1) ?_
    clear hS0
    have hS0:=hS1
    clear hS1
    replace KA5:=Z (Blk.row (t := 35) (cs:=cmA cc) KA5.out.lt)
    refine⟨by kernel_rfl,rfl,?_⟩
    (try simp only[World.size_alloc]at hS0 KA5)
    go_wp2_with fail
    go_meet
    case rel =>
     refine⟨_,rfl,?_⟩
     (try simp only[World.size_alloc])
     exact⟨K0.out.below hS0,K1.out.below hS0,KA5.out,Below.on hS0 HB⟩
  ·show wpOpIn _ _ _ _ _ 14 _ _ _
   obtain⟨x5n10,hbx⟩:∃ x,W.drew.heap.size=x:=⟨_,rfl⟩
   have hbx2:=hbx
   (try simp[go_sem]at hbx2)
   have hb5:W.heap.size≤x5n10:=by rw[←hbx];exact hS0.size
   have KA5:=Blk.new0 W.drew 35 (cmA Cm.zero)
   rw[hbx]at KA5
   replace KA5:=Z KA5
   replace hS0:Below _ _ (W.drew.alloc (.cells (cmA Cm.zero) 35)):=hS0.alloc hS0.size _
   refine op_go (nd:=fun j=>true) (S:=fun w'=>Below W.heap.size W w') (i:=14) (fun _=>trivial) U rfl U (.pointer (some ⟨x5n10,0,none⟩)) (W.drew.alloc (.cells (cmA Cm.zero) 35)) (by first|(go_simp;done)|(go_simp;rfl)|(go_simp;exact⟨hbx2,rfl⟩)) (fun _=>hS0) ?_
   clear hbx hbx2
   refine S_one 2 U rfl (fun K hK=>?_)
   go_simp
   gi_wp2_with(gi_at_call 36; refine(callsIn_wide.2 (p1.out _)).mono ?_;rintro e Wh11 ⟨rfl,hN⟩;obtain rfl:(W.drew.alloc (.cells (cmA Cm.zero) 35))=Wh11:=(by first|exact hN|exact hN.symm);clear hN)
   refine⟨(fun _=>hS0),?_⟩
   refine S_one 7 U rfl (fun K hK=>?_)
   go_simp
   gi_wp2_with(gi_at_call 36; refine(callsIn_wide.2 (p2.out _)).mono ?_;rintro e Wh12 ⟨rfl,hN⟩;obtain rfl:(W.drew.alloc (.cells (cmA Cm.zero) 35))=Wh12:=(by first|exact hN|exact hN.symm);clear hN)
   refine⟨(fun _=>hS0),?_⟩
   refine S_tg 8 (.bool b1) rfl hS0 ?_
   refine S_one 13 U rfl (fun K hK=>?_)
   go_simp
   gi_wp2_with(gi_at_call 111; refine(callsIn_wide.2 (p4.out _)).mono ?_;rintro e Wh13 ⟨rfl,hN⟩)
   replace KA5:=hn_ KA5 hN
   replace hS0:=hS0.trans (hN.mono hS0.size)
   clear hN
   refine⟨(fun _=>hS0),?_⟩
   have hS1:(fun w'=>Below W.heap.size W w') (setRow Wh13 (x5n10) 35 (cmA cc)):=Below.row hS0 hb5 hS0.size
   refine S_store 15 (fun _=>trivial) U U rfl U (setRow Wh13 (x5n10) 35 (cmA cc)) (exec_store _ _ rfl U U (stCm Cm.zero KA5.out cc)) (fun _=>hS1) ?_
   clear hS0
   have hS0:=hS1
   clear hS1
   replace KA5:=Z (Blk.row (t := 35) (cs:=cmA cc) KA5.out.lt)
   refine⟨by kernel_rfl,rfl,?_⟩
   (try simp only[World.size_alloc]at hS0 KA5)
   go_wp2_with fail
   go_meet
   case rel =>
    refine⟨_,rfl,?_⟩
    (try simp only[World.size_alloc])
    exact⟨K0.out.below hS0,K1.out.below hS0,KA5.out,Below.on hS0 HB⟩
 case rest =>
  obtain⟨b5,rfl,hW⟩:=hcut
  have j0:=Z hW.1
  have j1:=Z hW.2.1
  have j2:=Z hW.2.2.1
  have HBn:=hW.2.2.2
  clear hW k0 f0 l0 m0 k1 f1 l1 m1 K0 K1 HB p1 p2 p4 e1
  have K0:=j0;have K1:=j1;have K2:=j2;have HB:=HBn
  clear j0 j1 j2 HBn
  go_upto_region 2 with fail
  have hwf:∀ f,Fence.wide.fn f:=fun _=>trivial
  refine(wpIn_wide (n:=9)).1 ?_
  refine wpIn_round_held (fun w'=>Below wc.heap.size wc w') (fun j=>true) U ?_
  have hS0:(fun w'=>Below wc.heap.size wc w') wc.drew:=(Below.refl _ _).drew
  refine S_tk 0 (cmV (cc)) rfl hS0 (fun w' hw=>exec_load rfl U (ldCm (cc) (K2.out.below hw))) ?_
  refine S_tg 1 (.pointer (some ⟨(g+1),22,none⟩)) rfl hS0 ?_
  refine S_tk 2 (.int .u64 (u.bits:Int)) rfl hS0 (fun w' hw=>exec_load rfl U (run_load_cell (i:=22) (K1.out.below hw) rfl szU64 nrU64)) ?_
  refine S_tg 5 (.pointer (some ⟨(g+1),0,none⟩)) rfl hS0 ?_
  refine S_tg 6 (.pointer (some ⟨(g+1),0,none⟩)) rfl hS0 ?_
  refine S_tk 7 (hdV (u.seen.b)) rfl hS0 (fun w' hw=>exec_load rfl U (ldUp_seen_b (u) (K1.out.below hw))) ?_
  refine S_tg 8 (.pointer (some ⟨(g+1),24,none⟩)) rfl hS0 ?_
  refine S_tk 9 (.int .u64 (u.slot:Int)) rfl hS0 (fun w' hw=>exec_load rfl U (run_load_cell (i:=24) (K1.out.below hw) rfl szU64 nrU64)) ?_
  refine S_tg 11 (.pointer (some ⟨(g+1),23,none⟩)) rfl hS0 ?_
  refine S_tk 12 (.string (bs u.sig)) rfl hS0 (fun w' hw=>exec_load rfl U (run_load_cell (i:=23) (K1.out.below hw) rfl szStr nrStr)) ?_
  refine S_one 3 U rfl (fun K hK=>?_)
  go_simp
  gi_wp2_with(gi_at_call 114; refine(callsIn_wide.2 (q1.out _)).mono ?_;rintro e wch1 ⟨B23,rfl,FX23,hN⟩)
  replace hS0:=hS0.trans (hN.mono hS0.size)
  clear hN
  refine⟨(fun _=>hS0),?_⟩
  refine S_one 4 U rfl (fun K hK=>?_)
  go_simp
  gi_wp2_with(gi_at_call 113; refine(callsIn_wide.2 (q2.out _ _ (Below.on hS0 HB) FX23.1 FX23.2)).mono ?_;rintro e wch2 ⟨A24,C24,rfl,hT,hN⟩)
  have TX24:=Z hT
  clear hT
  replace hS0:=hS0.trans (hN.mono hS0.size)
  clear hN
  refine⟨(fun _=>hS0),?_⟩
  refine S_one 10 U rfl (fun K hK=>?_)
  go_simp
  gi_wp2_with(gi_at_call 115; refine(callsIn_wide.2 (q3.out _ (Below.on hS0 HB))).mono ?_;rintro e wch3 ⟨rfl,hN⟩)
  replace TX24:=Z (Txts.below TX24.out hN)
  replace hS0:=hS0.trans (hN.mono hS0.size)
  clear hN
  refine⟨(fun _=>hS0),?_⟩
  refine S_one 13 U rfl (fun K hK=>?_)
  go_simp
  gi_wp2_with(gi_at_call 112; refine(callsIn_wide.2 (q4.out _ _ _ (Below.on hS0 HB) TX24.out)).mono ?_;rintro e wch4 ⟨rfl,hN⟩)
  replace TX24:=Z (Txts.below TX24.out hN)
  replace hS0:=hS0.trans (hN.mono hS0.size)
  clear hN
  refine⟨(fun _=>hS0),?_⟩
  refine S_tg 14 (.bool (!al)) rfl hS0 ?_
  refine⟨by kernel_rfl,rfl,?_⟩
  cases al
  all_goals
   go_wp2_with fail
   go_ret
   exact⟨by rw[hE.out];rfl,Below.on hS0 HB⟩
theorem lgcheck_calls(s:Sr) (u:Up) (now:Nat) (w:World) (hk:HasK w) (hs:SrIn w s) (hu:UpIn w u) (hn:now<18446744073709551616):Calls Tryz.prog 32 #[srV s,upV u,.int .u64 now] w (Ret w (.int .i64 (checkE s u now))):=by
 have hE:checkE s u now=if onesP u.bits=0 then 141 else if holdsP u.seen then if orE (slotsE s u now) (finalE u) (nextE s u)=0 then sigE s u else orE (slotsE s u now) (finalE u) (nextE s u) else 130:=by
  unfold checkE
  rw[or_chain]
 by_cases h0:onesP u.bits=0
 ·rw[hE,if_pos h0]
  exact check_few s u now h0 w
 rw[if_neg h0]at hE
 cases hh:holdsP u.seen with
 | false =>
  rw[hE,if_neg (by rw[hh];decide)]
  exact check_head s u now h0 hh w hk hu.1
 | true =>
  rw[if_pos hh]at hE
  have p1:=fun W=>signers_calls u W
  have p2:=fun W (hB:Below w.heap.size w W)=>lholds_calls u.seen W (hk.on hB) (hu.1.below hB)
  have p3:=fun W=>lgslots_calls s u now hs.1.1.1 hu.1.1.1 hu.2.2.2.2.2.2.2 hn W
  have p4:=fun W (hB:Below w.heap.size w W)=>lgfinal_calls u W (hk.on hB) (hu.below hB)
  have p5:=fun W (hB:Below w.heap.size w W)=>lgnext_calls s u W (hk.on hB) (hs.below hB) (hu.below hB)
  have p6:=or_calls (slotsE s u now) (finalE u) (nextE s u)
  have p7:=fun W (hB:Below w.heap.size w W)=>lgsig_calls s u W (hk.on hB) (hs.below hB) (hu.below hB)
  rw[hh]at p2
  have e1:(((onesP u.bits:Nat):Int) == 0)=false:=by simp;exact h0
  generalize onesP u.bits=k at *
  generalize checkE s u now=C at *
  generalize slotsE s u now=E1 at *
  generalize finalE u=E2 at *
  generalize nextE s u=E3 at *
  generalize orE E1 E2 E3=E at *
  generalize sigE s u=S at *
  replace hE:=Z hE
  replace p1:=Z p1
  replace p2:=Z p2
  replace p3:=Z p3
  replace p4:=Z p4
  replace p5:=Z p5
  replace p6:=Z p6
  replace p7:=Z p7
  clear h0 hh hu hs hk hn
  go_enter Tryz.func32, Tryz.ntmps32
  go_upto_region 1 with fail
  have HB:Below w.heap.size w ((w.alloc (.cells (srA s) 39)).alloc (.cells (upA u) 37)):=bel
  have K0:=(Blk.new0 w 39 (srA s)).alloc (.cells (upA u) 37)
  have K1:=Blk.new1 w (.cells (srA s) 39) 37 (upA u)
  obtain⟨W,hW⟩:∃ W,((w.alloc (.cells (srA s) 39)).alloc (.cells (upA u) 37))=W:=⟨_,rfl⟩
  rw[hW]at HB K0 K1 ⊢
  clear hW
  have hgl:w.heap.size≤w.heap.size:=Nat.le_refl _
  obtain⟨g,hg⟩:∃ g,w.heap.size=g:=⟨_,rfl⟩
  rw[hg]at K0 K1 ⊢
  replace hgl:w.heap.size≤g:=by omega
  replace K0:=Z K0
  replace K1:=Z K1
  clear hg
  (obtain⟨k0,f0,l0,m0⟩:=rl_ K0;obtain⟨k1,f1,l1,m1⟩:=rl_ K1)
  go_wp2_with(first|(with_reducible refine wlr (ldUp _ K1.out) rfl ?_)|(with_reducible refine wlg (ldUp _ K1.out) (by with_unfolding_all rfl) rfl ?_))
  (refine(p1.out _).mono ?_;rintro e w1 ⟨rfl,hN⟩;replace K0:=hn_ K0 hN;replace K1:=hn_ K1 hN;replace HB:Below w.heap.size w w1:=Below.on hN HB;clear hN k0 f0 l0 m0 k1 f1 l1 m1;obtain⟨k0,f0,l0,m0⟩:=rl_ K0;obtain⟨k1,f1,l1,m1⟩:=rl_ K1)
  go_wp2_with fail
  (refine(p2.out _ HB).mono ?_;rintro e w2 ⟨rfl,hN⟩;replace K0:=hn_ K0 hN;replace K1:=hn_ K1 hN;replace HB:Below w.heap.size w w2:=Below.on hN HB;clear hN k0 f0 l0 m0 k1 f1 l1 m1;obtain⟨k0,f0,l0,m0⟩:=rl_ K0;obtain⟨k1,f1,l1,m1⟩:=rl_ K1)
  go_upto_region 5 with fail
  go_cut [7] (fun s7 wx=>s7=.int .i64 E∧SuW w g s u wx)
  case first =>
   have hwf:∀ f,Fence.wide.fn f:=fun _=>trivial
   refine(wpIn_wide (n:=9)).1 ?_
   refine wpIn_round_held (fun w'=>Below w2.heap.size w2 w') (fun j=>true) U ?_
   have hS0:(fun w'=>Below w2.heap.size w2 w') w2.drew:=(Below.refl _ _).drew
   refine S_tk 0 (srV (s)) rfl hS0 (fun w' hw=>exec_load rfl U (ldSr (s) (K0.out.below hw))) ?_
   refine S_tk 1 (upV (u)) rfl hS0 (fun w' hw=>exec_load rfl U (ldUp (u) (K1.out.below hw))) ?_
   refine S_tg 2 (.int .u64 (now:Int)) rfl hS0 ?_
   refine S_tk 4 (upV (u)) rfl hS0 (fun w' hw=>exec_load rfl U (ldUp (u) (K1.out.below hw))) ?_
   refine S_tk 6 (srV (s)) rfl hS0 (fun w' hw=>exec_load rfl U (ldSr (s) (K0.out.below hw))) ?_
   refine S_tk 7 (upV (u)) rfl hS0 (fun w' hw=>exec_load rfl U (ldUp (u) (K1.out.below hw))) ?_
   refine S_one 3 U rfl (fun K hK=>?_)
   go_simp
   gi_wp2_with(gi_at_call 67; refine(callsIn_wide.2 (p3.out _)).mono ?_;rintro e w2h1 ⟨rfl,hN⟩)
   replace hS0:=hS0.trans (hN.mono hS0.size)
   clear hN
   refine⟨(fun _=>hS0),?_⟩
   refine S_one 5 U rfl (fun K hK=>?_)
   go_simp
   gi_wp2_with(gi_at_call 68; refine(callsIn_wide.2 (p4.out _ (Below.on hS0 HB))).mono ?_;rintro e w2h2 ⟨rfl,hN⟩)
   replace hS0:=hS0.trans (hN.mono hS0.size)
   clear hN
   refine⟨(fun _=>hS0),?_⟩
   refine S_one 8 U rfl (fun K hK=>?_)
   go_simp
   gi_wp2_with(gi_at_call 69; refine(callsIn_wide.2 (p5.out _ (Below.on hS0 HB))).mono ?_;rintro e w2h3 ⟨rfl,hN⟩)
   replace hS0:=hS0.trans (hN.mono hS0.size)
   clear hN
   refine⟨(fun _=>hS0),?_⟩
   replace hS0:Below _ _ (w2h3.alloc (.cells #[.int .i64 E1,.int .i64 E2,.int .i64 E3] 44)):=hS0.alloc hS0.size _
   refine S_go 9 (fun _=>trivial) U U rfl U (.slice (some ⟨w2h3.heap.size,0,none⟩) 3 3) (w2h3.alloc (.cells #[.int .i64 E1,.int .i64 E2,.int .i64 E3] 44)) (by first|(go_simp;done)|(go_simp;rfl)|(go_simp;exact⟨hbx2,rfl⟩)) (fun _=>hS0) ?_
   refine S_one 10 U rfl (fun K hK=>?_)
   go_simp
   gi_wp2_with(gi_at_call 66; refine(callsIn_wide.2 (p6.out _ _ _ (Blk.new0 _ _ _))).mono ?_;rintro e w2h4 ⟨rfl,hN⟩;obtain rfl:(w2h3.alloc (.cells #[.int .i64 E1,.int .i64 E2,.int .i64 E3] 44))=w2h4:=(by first|exact hN|exact hN.symm);clear hN)
   refine⟨(fun _=>hS0),?_⟩
   refine S_tg 11 (.int .i64 E) rfl hS0 ?_
   refine⟨by kernel_rfl,rfl,?_⟩
   go_wp2_with fail
   go_meet
   case rel=>exact⟨rfl,K0.out.below hS0,K1.out.below hS0,Below.on hS0 HB⟩
  case rest =>
   obtain⟨rfl,hW⟩:=hcut
   have j0:=Z hW.1
   have j1:=Z hW.2.1
   have HBn:=hW.2.2
   clear hW k0 f0 l0 m0 k1 f1 l1 m1 K0 K1 HB
   have K0:=j0;have K1:=j1;have HB:=HBn
   clear j0 j1 HBn
   (obtain⟨k0,f0,l0,m0⟩:=rl_ K0;obtain⟨k1,f1,l1,m1⟩:=rl_ K1)
   clear p1 p2 p3 p4 p5 p6 e1
   by_cases h7:E=0
   ·subst h7
    have hE2:C=S:=by rw[hE.out,if_pos rfl]
    replace hE:=Z hE2
    clear hE2
    go_wp2_with(first|(with_reducible refine wlr (ldSr _ K0.out) rfl ?_)|(with_reducible refine wlg (ldSr _ K0.out) (by with_unfolding_all rfl) rfl ?_)|(with_reducible refine wlr (ldUp _ K1.out) rfl ?_)|(with_reducible refine wlg (ldUp _ K1.out) (by with_unfolding_all rfl) rfl ?_))
    (refine(p7.out _ HB).mono ?_;rintro e w3 ⟨rfl,hN⟩;replace K0:=hn_ K0 hN;replace K1:=hn_ K1 hN;replace HB:Below w.heap.size w w3:=Below.on hN HB;clear hN k0 f0 l0 m0 k1 f1 l1 m1;obtain⟨k0,f0,l0,m0⟩:=rl_ K0;obtain⟨k1,f1,l1,m1⟩:=rl_ K1)
    go_wp2_with fail
    go_ret
    exact⟨by rw[hE.out];rfl,HB⟩
   ·have e3:(E == 0)=false:=by simpa using h7
    have e4:(E != 0)=true:=by simpa using h7
    have hE2:C=E:=by rw[hE.out,if_neg h7]
    replace hE:=Z hE2
    clear hE2 h7 p7
    go_wp2_with fail
    go_ret
    exact⟨by rw[hE.out];rfl,HB⟩
end
end Go.Proofs.YtobgigcdpiikaaaGreatDoor
