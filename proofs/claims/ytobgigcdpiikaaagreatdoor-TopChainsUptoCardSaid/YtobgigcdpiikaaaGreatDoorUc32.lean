/- Plain laws and walks, each by its own conditions. -/
import Derived.Test.YtobgigcdpiikaaaGreatDoorUc31
import Derived.LaidSub
set_option linter.unusedSimpArgs false
set_option linter.unusedVariables false
set_option maxRecDepth 100000
set_option maxHeartbeats 16000000
namespace Go.Proofs.YtobgigcdpiikaaaGreatDoor
section
open BigFrame Go.RowKit Go.Phx Go.Shelf
attribute [local go_sem] Oper.semAt_some
structure FrW (w W:World):Prop where
 h:Below w.heap.size w W
theorem FrW.kp{gs:List Nat}{w0 w W:World} (h:FrW w0 w) (k:KpL gs w W) (hS:∀ b∈gs,w0.heap.size≤b:=by first|(simp;done)|(simp;omega)|omega|(simp;assumption)):FrW w0 W :=
 ⟨⟨k.os.trans h.h.os,k.tape.trans h.h.tape,k.output.trans h.h.output,Nat.le_trans h.h.size k.size,fun j hj=>(k.block j (Nat.lt_of_lt_of_le hj h.h.size) fun hm=>by have:=hS j hm;omega).trans (h.h.block j hj)⟩⟩
structure ChI (m g0 g1 g3:Nat) (root:Bytes) (k:Nat) (s:Sr) (H:Hl) (ys:List Ex) (w W:World):Prop where
 bi:BegI m [g3,g1] W g0 g1 root H ys
 k3:Blk W g3 39 (srA s)
 sr:SrW m [g3,g1] W s
 br:s.bare=H.s.bare
 yl:ys.length≤k+1
 hk:HkW [g3,g1] W
 hb:Below w.heap.size w W
theorem ChI.fr{m g0 g1 g3 k:Nat}{root:Bytes}{s:Sr}{H:Hl}{ys:List Ex}{w W W':World} (h:ChI m g0 g1 g3 root k s H ys w W) (f:FrW W W'):ChI m g0 g1 g3 root k s H ys w W':=by
 obtain⟨a,b,c,d,e,hk,hb⟩:=h
 have hn:=KpL.of (bs:=[]) f.h
 exact⟨a.kp hn (by simp),b.below f.h,c.kp hn (by simp),d,e,hk.kp hn (by simp),Below.on f.h hb⟩
theorem ChI.succ{m g0 g1 g3 k:Nat}{root:Bytes}{s:Sr}{H:Hl}{ys:List Ex}{w W:World} (h:ChI m g0 g1 g3 root k s H ys w W):ChI m g0 g1 g3 root (k+1) s H ys w W:=by
 obtain⟨a,b,c,d,e,hk,hb⟩:=h
 exact⟨a,b,c,d,by omega,hk,hb⟩
theorem plA_one9(r:Pl):(plA r).all (·.oneCell')=true:=by simp[plA,plC,Value.oneCell']
theorem stPl{W:World}{b:Nat} (r:Pl) (h:Blk W b 43 (plA r)) (v:Pl):(Instr.storeAt 43 (.pointer (some ⟨b,0,none⟩)) (plV v)).run Tryz.prog W=.ok () (setRow W b 43 (plA v)):=by
 have:=run_store_part h [] (plC r) [] (by simp[plA]) rfl (plA v) rfl sizePl (plA_one9 v)
 simpa[plA,plV] using this
theorem up_new_w{m:Nat}{gs:List Nat}{w W:World}{p:Pl}{u:Up} (h:UpOf W p u) (hn:UpNew w.heap.size u) (hm:m≤w.heap.size) (hg:∀ g∈gs,g<w.heap.size):UpW m gs W u:=⟨h.1.new hn hm hg⟩
theorem ld_plan{w:World}{b o:Nat}{p:Pl} (h:∀ j u,(plC p)[j]?=some u→w.cell? ⟨b,o+j,none⟩=some u):(Instr.loadAt 43 (.pointer (some ⟨b,o,none⟩))).run Tryz.prog w=.ok (plV p) w:=by
 have c0:w.cell? ⟨b,o,none⟩=some (.int .u64 (p.seen:Int)):=h 0 _ rfl
 have c1:w.cell? ⟨b,o+1,none⟩=some (.int .u64 (p.slot:Int)):=h 1 _ rfl
 have c2:w.cell? ⟨b,o+2,none⟩=some (.int .u64 (p.fin:Int)):=h 2 _ rfl
 have c3:w.cell? ⟨b,o+3,none⟩=some (.slice p.nowA p.now.length p.nowC):=h 3 _ rfl
 have c4:w.cell? ⟨b,o+4,none⟩=some (.slice p.nextA p.next.length p.nextC):=h 4 _ rfl
 have c5:w.cell? ⟨b,o+5,none⟩=some (.int .u64 (p.bits:Int)):=h 5 _ rfl
 have c6:w.cell? ⟨b,o+6,none⟩=some (.string (bs p.acc)):=h 6 _ rfl
 have c7:w.cell? ⟨b,o+7,none⟩=some (.string (bs p.rcp)):=h 7 _ rfl
 clear h
 unfold plV plA plC
 go_simp
theorem chains_walk(slot:Nat) (hn:slot<18446744073709551616) (a r:Bytes) (A:Option Addr) (c:Nat) (L:List Pl) (hL:∀ w':World,True) (An:Option Addr) (cn:Nat) (ln:List Nat) (w:World) (hP:PlsAll w A c L) (hN:NumsAll w An cn ln) (hk:HasK w) :
  Calls Tryz.prog 3 #[.int .u64 (slot:Int),.string (bs a),.string (bs r),.slice A L.length c,.slice An ln.length cn] w (Ret w (.bool true)):=by
 obtain⟨nL,hnL⟩:∃ k,L.length=k:=⟨_,rfl⟩
 obtain⟨nN,hnN⟩:∃ k,ln.length=k:=⟨_,rfl⟩
 have HNL:=Z hnL
 have HNN:=Z hnN
 have hLc:nL≤c:=by rw[←hnL];exact hP.1
 have hNc:nN≤cn:=by rw[←hnN];exact hN.2.1
 rw[hnL,hnN]
 clear hnL hnN hL
 have n1:=Z (shownClient_calls w hk)
 have n2:=Z (fun W (hB:Below w.heap.size w W)=>begun_calls slot a r hn W (hk.on hB))
 have HKK:=Z hk
 replace hP:=Z hP
 replace hN:=Z hN
 have HK:=Z (KpL.refl [] w)
 clear hk hn
 go_enter Tryz.func3, Tryz.ntmps3
 go_wp2_with fail
 refine n1.out.mono ?_
 rintro e w1 ⟨rfl,hB⟩
 have n22:=Z (n2.out w1 hB)
 have hN9:=KpL.of (bs:=[]) hB
 clear hB n1 n2
 have HK1:=Z (KpL.join HK.out hN9 (by simp))
 clear HK hN9
 have HK:=HK1
 clear HK1
 go_wp2_with fail
 refine n22.out.mono ?_
 rintro e w2 ⟨g0,s0,rfl,hB,hyes⟩
 have hN8:=KpL.of (bs:=[]) hB
 have HK1:=Z (KpL.join HK.out hN8 (by simp))
 have hw12:=HK.out.size
 have FR:=Z (FrW.mk (Below.refl _ w2))
 replace hyes:=Z hyes
 clear HK hN8 hB n22
 have HK:=HK1
 clear HK1
 (go_wp2_with(first|(with_reducible refine wsh (stSr (Sr.zero) (Blk.new0 w2 39 (srA (Sr.zero))) (s0)) rfl rfl ?_));generalize hWN:setRow _ _ _ _=w3;obtain⟨g3,hgj⟩:∃ g,(World.heap w2).size=g:=⟨_,rfl⟩;have hN:KpL [] w2 w3:=(by rw[←hWN];exact((KpL.refl _ _).alloc _).row (.inr (Nat.le_refl _)) (by simp));replace K3:=Z (show Blk w3 g3 _ (srA (s0)) by rw[←hWN,←hgj];exact Blk.row (by simp));have hw_3:w.heap.size≤g3:=(by rw[←hgj];exact HK.out.size);have hz_3:(World.heap w2).size≤g3:=(by rw[←hgj];exact Nat.le_refl _);(try rw[hgj]);clear hWN hgj;replace FR:=Z (FR.out.kp hN);replace HK:=jK HK hN;clear hN;obtain⟨k3,f3,l3,m3⟩:=rl_ K3;unfold Halted)
 cases hg:goodB l16 a r with
 | false =>
  go_wp2_with fail
  go_ret
  exact⟨rfl,HK.out.below (Nat.le_refl _) (by simp)⟩
 | true =>
  obtain⟨m,g1,root,W0,ys0,hw0,hw1,hBI,hyl,hsl⟩:=hyes.out hg
  have hw01:w.heap.size≤g0:=Nat.le_trans hw12 hw0
  have hw11:w.heap.size≤g1:=Nat.le_trans hw12 hw1
  have hBel:Below w.heap.size w w3:=HK.out.below (Nat.le_refl _) (by simp)
  have BI3:=hBI.fresh FR.out.h hz_3 K3.out.lt
  have CH:=Z (show ChI m g0 g1 g3 root 0 s0 ⟨s0,W0⟩ ys0 w w3 from⟨BI3,K3.out,BI3.sr,rfl,by omega,HkW.ofL HKK.out hBel (by simp;omega),hBel⟩)
  have hw31:w.heap.size≤g3:=hw_3
  have h30:g3≠g0:=fun e=>by have:=hBI.k0.lt;omega
  have h31:g3≠g1:=fun e=>by have:=hBI.k1.lt;omega
  clear hyes hBI hyl hsl BI3 hBel hw0 hw1 hw12 k3 f3 l3 m3 K3 HK HKK FR hz_3
  go_wp2_with fail
  go_loopw [15] (fun i wr=>∃ (k:Nat) (s:Sr) (H:Hl) (ys:List Ex),k≤5∧i=.int .i64 k∧ChI m g0 g1 g3 root k s H ys w wr) (fun i _=>(5 - intOf i).toNat)
  case atStart=>exact⟨0,s0,_,ys0,by omega,rfl,CH.out⟩
  case round =>
   clear CH
   obtain⟨k,s,H,ys,hk5,rfl,hCH⟩:=hrel
   have HB:=hCH.hb
   have CH:=Z hCH
   clear hCH
   by_cases h1:k<nL
   ·by_cases h2:k<nN
    ·by_cases h3:k<5
     ·have hall:True:=trivial
      obtain⟨p,hp⟩:∃ p,L[k]?=some p:=⟨_,List.getElem?_eq_getElem (by rw[HNL.out];exact h1)⟩
      have hpa:PlAll w p:=hP.out.2.2.1 p (List.mem_of_getElem? hp)
      obtain⟨b,o,rfl,_,hbl,hcs⟩:=hP.out.2.2.2 (by rw[PlL_len,HNL.out];omega)
      have hrun:=Z (ld_plan (w:=wr) (b:=b) (o:=o+k*8) (p:=p) fun j u hu=>by
       have h9:=hcs (k*8+j) u ((PlL_at L k p j hp (List.getElem?_eq_some_iff.1 hu).1).trans hu)
       rw[←Nat.add_assoc]at h9
       exact(HB.cell (p:=⟨b,o+k*8+j,none⟩) hbl).trans h9)
      obtain⟨b2,o2,rfl,hbl2,hcn⟩:=hN.out.1.at k (by rw[HNN.out];exact h2)
      have hnw:ln.getD k 0<18446744073709551616:=by
       rw[List.getD,List.getElem?_eq_getElem (by rw[HNN.out];exact h2)]
       exact hN.out.2.2.2 _ (List.getElem_mem _)
      obtain⟨nw,hnwe⟩:∃ nw,ln.getD k 0=nw:=⟨_,rfl⟩
      rw[hnwe]at hcn hnw
      replace hnw:=Z hnw
      replace hcn:=Z hcn
      obtain⟨q,hq⟩:∃ q,p.cut=q:=⟨_,rfl⟩
      have hi:=hpa.cut
      rw[hq]at hi
      obtain⟨L1,hL1⟩:∃ L,p.now.take 20=L:=⟨_,rfl⟩
      obtain⟨L2,hL2⟩:∃ L,p.next.take 20=L:=⟨_,rfl⟩
      have hl1:L1.length=min p.now.length 20:=by rw[←hL1,List.length_take];omega
      have hl2:L2.length=min p.next.length 20:=by rw[←hL2,List.length_take];omega
      have e1:min (p.now.length:Int) 20=(L1.length:Int):=by omega
      have e2:min (p.next.length:Int) 20=(L2.length:Int):=by omega
      have hy1:L1.length≤p.now.length:=by omega
      have hy2:L2.length≤p.next.length:=by omega
      have hc1:p.now.length≤p.nowC:=hpa.2.2.2.1.2.1
      have hc2:p.next.length≤p.nextC:=hpa.2.2.2.2.1.2.1
      have hy3:L1.length≤p.nowC:=by omega
      have hy4:L2.length≤p.nextC:=by omega
      have hp2:(⟨p.seen,p.slot,p.fin,p.nowA,p.nowC,L1,p.nextA,p.nextC,L2,p.bits,p.acc,p.rcp⟩:Pl)=q:=by rw[←hq,←hL1,←hL2];rfl
      have hq20:=Z (show q.next.length≤20 by rw[←hq];show(p.next.take 20).length≤20;rw[List.length_take];omega)
      replace hp2:=Z hp2
      have HI:=Z (show PlIn wr q from hi.below HB)
      have K3:=Z CH.out.k3
      have FR:=Z (FrW.mk (Below.refl _ wr))
      have HK:=Z (KpL.of (bs:=[]) HB)
      have HBw:=Z HB
      clear hq hL1 hL2 hl1 hl2 hi hpa hp hcs hnwe hbl HB
      (obtain⟨k3,f3,l3,m3⟩:=rl_ K3)
      go_upto_region 8 with fail
      (go_wp2_with(first|(with_reducible refine wpList_load_run (o:=⟨_,.load 43 _,_,_,_,none⟩) hrun.out rfl _ rfl rfl ?_)|(with_reducible refine wsh (stPl (Pl.zero) (Blk.new0 wr 43 (plA (Pl.zero))) (p)) rfl rfl ?_));generalize hWN:setRow _ _ _ _=x1;obtain⟨g4,hgj⟩:∃ g,(World.heap wr).size=g:=⟨_,rfl⟩;have hN:KpL [] wr x1:=(by rw[←hWN];exact((KpL.refl _ _).alloc _).row (.inr (Nat.le_refl _)) (by simp));replace K4:=Z (show Blk x1 g4 _ (plA (p)) by rw[←hWN,←hgj];exact Blk.row (by simp));have h3_4:g3<g4:=(by rw[←hgj];exact K3.out.lt);have hw_4:w.heap.size≤g4:=(by rw[←hgj];exact HK.out.size);have hz_4:(World.heap wr).size≤g4:=(by rw[←hgj];exact Nat.le_refl _);(try rw[hgj]);clear hWN hgj k3 f3 l3 m3;replace K3:=bK K3 hN;replace FR:=Z (FR.out.kp hN);replace HK:=jK HK hN;clear hN;obtain⟨k3,f3,l3,m3⟩:=rl_ K3;obtain⟨k4,f4,l4,m4⟩:=rl_ K4;unfold Halted)
      clear hrun
      go_upto_region 10 with fail
      (obtain⟨x2,hWN⟩:∃ W',World.setCell x1 ⟨g4,3,none⟩ (.slice p.nowA L1.length p.nowC)=W':=⟨_,rfl⟩;have hN:KpL [g4] x1 x2:=(by rw[←hWN];exact(KpL.refl _ _).set (.inl (by simp)));replace K4:=Z (show Blk x2 _ _ (plA ⟨p.seen,p.slot,p.fin,p.nowA,p.nowC,L1,p.nextA,p.nextC,p.next,p.bits,p.acc,p.rcp⟩) by rw[←hWN];exact Blk.to (Blk.set_ K4.out 3 _) rfl);rw[hWN];clear hWN k4 f4 l4 m4 k3 f3 l3 m3;replace K3:=bK K3 hN;replace FR:=Z (FR.out.kp hN);replace HK:=jK HK hN;clear hN;obtain⟨k3,f3,l3,m3⟩:=rl_ K3;obtain⟨k4,f4,l4,m4⟩:=rl_ K4)
      go_upto_region 11 with fail
      (obtain⟨x3,hWN⟩:∃ W',World.setCell x2 ⟨g4,4,none⟩ (.slice p.nextA L2.length p.nextC)=W':=⟨_,rfl⟩;have hN:KpL [g4] x2 x3:=(by rw[←hWN];exact(KpL.refl _ _).set (.inl (by simp)));replace K4:=Z (show Blk x3 _ _ (plA ⟨p.seen,p.slot,p.fin,p.nowA,p.nowC,L1,p.nextA,p.nextC,L2,p.bits,p.acc,p.rcp⟩) by rw[←hWN];exact Blk.to (Blk.set_ K4.out 4 _) rfl);rw[hWN];clear hWN k4 f4 l4 m4 k3 f3 l3 m3;replace K3:=bK K3 hN;replace FR:=Z (FR.out.kp hN);replace HK:=jK HK hN;clear hN;obtain⟨k3,f3,l3,m3⟩:=rl_ K3;obtain⟨k4,f4,l4,m4⟩:=rl_ K4)
      have N4:=K4.out
      rw[hp2.out]at N4
      clear K4 k4 f4 l4 m4 hp2 e1 e2 hy1 hy2 hc1 hc2 hy3 hy4
      have K4:=Z N4
      clear N4
      (obtain⟨k4,f4,l4,m4⟩:=rl_ K4)
      have CH3:=CH.out.fr FR.out
      have hm3:=CH3.bi.hm
      have hgl3:=CH3.bi.hgl
      have n3:=Z (mupdate_new q x3 CH3.hk.hk (HI.out.below FR.out.h))
      obtain⟨ue,hue⟩:∃ ue,updE q=ue:=⟨_,rfl⟩
      rw[hue]at n3
      go_wp2_with(first|(with_reducible refine wlr (ldPl _ K4.out) rfl ?_)|(with_reducible refine wlg (ldPl _ K4.out) (by with_unfolding_all rfl) rfl ?_))
      refine n3.out.mono ?_
      rintro e x4 ⟨u,rfl,⟨huo,hun⟩,hB⟩
      have hN4:=KpL.of (bs:=[]) hB
      have U0:UpW m [g3,g1] x4 u:=up_new_w huo hun hm3 hgl3
      have hub:=Z huo.2.1
      have hN:=hN4
      clear hB hN4 n3 CH3 huo hun HI hm3 hgl3 k4 f4 l4 m4 K4
      have U1:=Z U0
      clear U0
      have hN:=hN
      (clear k3 f3 l3 m3;replace K3:=bK K3 hN;replace FR:=Z (FR.out.kp hN);replace HK:=jK HK hN;clear hN;(obtain⟨k3,f3,l3,m3⟩:=rl_ K3))
      (go_wp2_with(first|(with_reducible refine wsh (stUp (Up.zero) (Blk.new0 x4 37 (upA (Up.zero))) (u)) rfl rfl ?_));generalize hWN:setRow _ _ _ _=x5;obtain⟨g5,hgj⟩:∃ g,(World.heap x4).size=g:=⟨_,rfl⟩;have hN:KpL [] x4 x5:=(by rw[←hWN];exact((KpL.refl _ _).alloc _).row (.inr (Nat.le_refl _)) (by simp));replace K5:=Z (show Blk x5 g5 _ (upA (u)) by rw[←hWN,←hgj];exact Blk.row (by simp));have h3_5:g3<g5:=(by rw[←hgj];exact K3.out.lt);have hw_5:w.heap.size≤g5:=(by rw[←hgj];exact HK.out.size);have hz_5:(World.heap x4).size≤g5:=(by rw[←hgj];exact Nat.le_refl _);(try rw[hgj]);clear hWN hgj k3 f3 l3 m3;replace K3:=bK K3 hN;replace FR:=Z (FR.out.kp hN);replace U1:=Z (U1.out.kp hN);replace HK:=jK HK hN;clear hN;obtain⟨k3,f3,l3,m3⟩:=rl_ K3;obtain⟨k5,f5,l5,m5⟩:=rl_ K5;unfold Halted)
      cases hgu:goodU q with
      | false =>
       have hue2:ue=2:=by rw[←hue];unfold updE;rw[hgu];rfl
       subst hue2
       have CH5:=Z ((CH.out.fr FR.out).succ)
       clear CH FR HK U1 k3 f3 l3 m3 K3 k5 f5 l5 m5 K5 hue hub
       go_wp2_with fail
       go_roundw
       case rel=>exact⟨k+1,s,H,ys,by omega,by go_num,CH5.out⟩
       case measure=>simp[intOf];omega
      | true =>
       have hue2:ue=0:=by rw[←hue];unfold updE;rw[hgu];rfl
       subst hue2
       have hsm:=Z (up_small hgu hq20.out (hub.out hgu))
       clear hue hub
       go_wp2_with(first|(with_reducible refine wlr (ldUp _ K5.out) rfl ?_)|(with_reducible refine wlg (ldUp _ K5.out) (by with_unfolding_all rfl) rfl ?_))
       refine(bytes_calls u hsm.out _ U1.out.up).mono ?_
       rintro e x6 ⟨rfl,hB⟩
       have hN:=KpL.of (bs:=[]) hB
       clear hB
       (clear k3 f3 l3 m3 k5 f5 l5 m5;replace K3:=bK K3 hN;replace K5:=bK K5 hN;replace FR:=Z (FR.out.kp hN);replace U1:=Z (U1.out.kp hN);replace HK:=jK HK hN;clear hN;(obtain⟨k3,f3,l3,m3⟩:=rl_ K3;obtain⟨k5,f5,l5,m5⟩:=rl_ K5))
       obtain⟨sx,hsx⟩:∃ sx,putI (upI u)=sx:=⟨_,rfl⟩
       rw[hsx]
       replace hsx:=Z hsx
       go_wp2_with fail
       have CH6:=Z (CH.out.fr FR.out)
       have n4:=Z (fun W (hB:Below x6.heap.size x6 W)=>lgapply_calls s u nw W (CH6.out.hk.hk.on hB) (CH6.out.sr.sr.below hB) (U1.out.up.below hB) hnw.out)
       have hcw:=Z (fun W (hB:Below x6.heap.size x6 W)=>show W.cell? ⟨b2,o2+k,none⟩=some (.int .u64 (nw:Int)) from
        ((Below.on hB (Below.on FR.out.h HBw.out)).cell (p:=⟨b2,o2+k,none⟩) hbl2).trans hcn.out)
       go_cut [21,22] (fun t1 t2 wx=>∃ g6,t1=.pointer (some ⟨g6,0,none⟩)∧t2=.int .i64 (checkE s u nw)∧x6.heap.size≤g6∧Blk wx g6 39 (srA (applyS s u nw))∧KpL [] x6 wx)
       case first =>
        have hwf:∀ f,Fence.wide.fn f:=fun _=>trivial
        refine(wpIn_wide (n:=9)).1 ?_
        refine wpIn_round_held (fun w'=>Below x6.heap.size x6 w') (fun j=>true) U ?_
        have hS0:(fun w'=>Below x6.heap.size x6 w') x6.drew:=(Below.refl _ _).drew
        refine S_tk 0 (srV (s)) rfl hS0 (fun w' hw=>exec_load rfl U (ldSr (s) (K3.out.below hw))) ?_
        refine S_tk 1 (upV (u)) rfl hS0 (fun w' hw=>exec_load rfl U (ldUp (u) (K5.out.below hw))) ?_
        simp only[Act.put,jA,jE,jF,jB,jC,jD]
        refine S_tg 2 (.slice (some ⟨b2,o2,none⟩) nN cn) rfl hS0 ?_
        refine S_tg 3 (.int .i64 (k:Int)) rfl hS0 ?_
        simp only[Act.put,jA,jE,jF,jB,jC,jD]
        refine S_tg 4 (.pointer (some ⟨b2,o2+k,none⟩)) rfl hS0 ?_
        refine S_tk 5 (.int .u64 (nw:Int)) rfl hS0 (fun w' hw=>by have hcc:=hcw.out w' hw;go_simp) ?_
        simp only[Act.put,jA,jE,jF,jB,jC,jD]
        refine S_list [6,10] U (by decide) ⟨?_,?_,trivial⟩
        ·show wpOpIn _ _ _ _ _ 6 _ _ _
         refine op_call (nd:=fun j=>true) (S:=fun w'=>Below x6.heap.size x6 w') (i:=6) rfl (fun K hK=>?_)
         go_simp
         gi_wp2_with(gi_at_call 8; refine(callsIn_wide.2 (n4.out _ hS0)).mono ?_;rintro e x6h1 ⟨rfl,hN⟩)
         replace hS0:=hS0.trans (hN.mono hS0.size)
         clear hN
         refine⟨(fun _=>hS0),?_⟩
         refine S_tg 7 (.tuple #[srV (applyS s u nw),.int .i64 (checkE s u nw)]) rfl hS0 ?_
         refine S_tg 8 (srV (applyS s u nw)) rfl hS0 ?_
         simp only[Act.put,jA,jE,jF,jB,jC,jD]
         refine S_tg 9 (.int .i64 (checkE s u nw)) rfl hS0 ?_
         obtain⟨x21n2,hbx⟩:∃ x,x6h1.heap.size=x:=⟨_,rfl⟩
         have hbx2:=hbx
         (try simp[go_sem]at hbx2)
         have hb21:x6.heap.size≤x21n2:=by rw[←hbx];exact hS0.size
         have KA21:=Blk.new0 x6h1 39 (srA Sr.zero)
         rw[hbx]at KA21
         replace KA21:=Z KA21
         replace hS0:Below _ _ (x6h1.alloc (.cells (srA Sr.zero) 39)):=hS0.alloc hS0.size _
         refine S_go 10 (fun _=>trivial) U U rfl U (.pointer (some ⟨x21n2,0,none⟩)) (x6h1.alloc (.cells (srA Sr.zero) 39)) (by first|(go_simp;done)|(go_simp;rfl)|(go_simp;exact⟨hbx2,rfl⟩)) (fun _=>hS0) ?_
         clear hbx hbx2
         have hS1:(fun w'=>Below x6.heap.size x6 w') (setRow (x6h1.alloc (.cells (srA Sr.zero) 39)) (x21n2) 39 (srA (applyS s u nw))):=Below.row hS0 hb21 hS0.size
         refine S_store 11 (fun _=>trivial) U U rfl U (setRow (x6h1.alloc (.cells (srA Sr.zero) 39)) (x21n2) 39 (srA (applyS s u nw))) (exec_store _ _ rfl U U (stSr Sr.zero KA21.out (applyS s u nw))) (fun _=>hS1) ?_
         clear hS0
         have hS0:=hS1
         clear hS1
         replace KA21:=Z (Blk.row (t := 39) (cs:=srA (applyS s u nw)) KA21.out.lt)
         refine S_tg 12 (.int .i64 (checkE s u nw)) rfl hS0 ?_
         simp only[Act.put,jA,jE,jF,jB,jC,jD]
         refine⟨by kernel_rfl,rfl,?_⟩
         (try simp only[Act.put,jA,jE,jF,jB,jC,jD])
         go_wp2_with fail
         go_meet
         case rel=>exact⟨_,rfl,rfl,hb21,KA21.out,KpL.of hS0⟩
        ·show wpOpIn _ _ _ _ _ 10 _ _ _
         obtain⟨x21n3,hbx⟩:∃ x,x6.drew.heap.size=x:=⟨_,rfl⟩
         have hbx2:=hbx
         (try simp[go_sem]at hbx2)
         have hb21:x6.heap.size≤x21n3:=by rw[←hbx];exact hS0.size
         have KA21:=Blk.new0 x6.drew 39 (srA Sr.zero)
         rw[hbx]at KA21
         replace KA21:=Z KA21
         replace hS0:Below _ _ (x6.drew.alloc (.cells (srA Sr.zero) 39)):=hS0.alloc hS0.size _
         refine op_go (nd:=fun j=>true) (S:=fun w'=>Below x6.heap.size x6 w') (i:=10) (fun _=>trivial) U rfl U (.pointer (some ⟨x21n3,0,none⟩)) (x6.drew.alloc (.cells (srA Sr.zero) 39)) (by first|(go_simp;done)|(go_simp;rfl)|(go_simp;exact⟨hbx2,rfl⟩)) (fun _=>hS0) ?_
         clear hbx hbx2
         refine S_one 6 U rfl (fun K hK=>?_)
         go_simp
         gi_wp2_with(gi_at_call 8; refine(callsIn_wide.2 (n4.out _ hS0)).mono ?_;rintro e x6h4 ⟨rfl,hN⟩)
         replace KA21:=hn_ KA21 hN
         replace hS0:=hS0.trans (hN.mono hS0.size)
         clear hN
         refine⟨(fun _=>hS0),?_⟩
         refine S_tg 7 (.tuple #[srV (applyS s u nw),.int .i64 (checkE s u nw)]) rfl hS0 ?_
         refine S_tg 8 (srV (applyS s u nw)) rfl hS0 ?_
         simp only[Act.put,jA,jE,jF,jB,jC,jD]
         refine S_tg 9 (.int .i64 (checkE s u nw)) rfl hS0 ?_
         have hS1:(fun w'=>Below x6.heap.size x6 w') (setRow x6h4 (x21n3) 39 (srA (applyS s u nw))):=Below.row hS0 hb21 hS0.size
         refine S_store 11 (fun _=>trivial) U U rfl U (setRow x6h4 (x21n3) 39 (srA (applyS s u nw))) (exec_store _ _ rfl U U (stSr Sr.zero KA21.out (applyS s u nw))) (fun _=>hS1) ?_
         clear hS0
         have hS0:=hS1
         clear hS1
         replace KA21:=Z (Blk.row (t := 39) (cs:=srA (applyS s u nw)) KA21.out.lt)
         refine S_tg 12 (.int .i64 (checkE s u nw)) rfl hS0 ?_
         simp only[Act.put,jA,jE,jF,jB,jC,jD]
         refine⟨by kernel_rfl,rfl,?_⟩
         (try simp only[Act.put,jA,jE,jF,jB,jC,jD])
         go_wp2_with fail
         go_meet
         case rel=>exact⟨_,rfl,rfl,hb21,KA21.out,KpL.of hS0⟩
       case rest =>
        obtain⟨g6,rfl,rfl,hz6,N6,hN⟩:=hcut
        have hbx6:Below x6.heap.size x6 wc:=hN.below (Nat.le_refl _) (by simp)
        have hcc:=hcw.out wc hbx6
        have hg16:g1<g6:=Nat.lt_of_lt_of_le (CH6.out.bi.hgl g1 (by simp)) hz6
        have hg36:g3<g6:=Nat.lt_of_lt_of_le (CH6.out.bi.hgl g3 (by simp)) hz6
        have hg06:g0<g6:=Nat.lt_of_lt_of_le (Nat.lt_of_lt_of_le CH6.out.bi.h0 CH6.out.bi.hm) hz6
        have hw61:w.heap.size≤g6:=by omega
        have K6:=Z N6
        clear N6 n4 hcw hbx6
        (clear k3 f3 l3 m3 k5 f5 l5 m5;replace K3:=bK K3 hN;replace K5:=bK K5 hN;replace FR:=Z (FR.out.kp hN);replace U1:=Z (U1.out.kp hN);replace HK:=jK HK hN;clear hN;(obtain⟨k3,f3,l3,m3⟩:=rl_ K3;obtain⟨k5,f5,l5,m5⟩:=rl_ K5))
        (obtain⟨k6,f6,l6,m6⟩:=rl_ K6)
        have CHc:=CH.out.fr FR.out
        have S6':SrW m [g3,g1] wc (applyS s u nw):=⟨applyS_in nw CHc.sr.h U1.out.h⟩
        have S6:=Z S6'
        have hne:=CHc.bi.hne
        have e1:checkE H.s u nw=checkE s u nw:=by rw[checkE_bare H.s u,checkE_bare s u,CHc.br]
        have e2:(applyS H.s u nw).bare=(applyS s u nw).bare:=by rw[applyS_bare,applyS_bare,CHc.br]
        have n5:=cupdate_calls g0 g1 m [g3,g1] (by simp) hne root H ys (by have:=CHc.yl;omega) u hsm.out nw hnw.out wc CHc.bi.k0 CHc.bi.k1 CHc.bi.wn CHc.bi.hm CHc.bi.hgl CHc.hk CHc.bi.sr _ U1.out.up
        rw[hsx.out,e1,e2]at n5
        have hyl5:=CHc.yl
        have CC:=Z CHc
        replace n5:=Z n5
        clear CHc CH CH6 S6' U1 FR e1 e2 k5 f5 l5 m5 K5 hsx hsm
        go_wp2_with fail
        refine n5.out.mono ?_
        rintro e x7 ⟨rfl,s',W',ys',q1,q2,q3,q4,q5,hN⟩
        have B7:BegI m [g3,g1] x7 g0 g1 root ⟨s',W'⟩ ys':=⟨by simp,hne,CC.out.bi.h0,Nat.le_trans CC.out.bi.hm hN.size,fun x hx=>Nat.lt_of_lt_of_le (CC.out.bi.hgl x hx) hN.size,CC.out.bi.k0.kp hN (by simpa using hne),q1,q3,q4⟩
        have H7:HkW [g3,g1] x7:=CC.out.hk.kp hN (by simp)
        have BI:=Z B7
        have HkL:=Z H7
        have ht:(applyS s u nw).bare=s'.bare:=q2.symm
        replace ht:=Z ht
        have hyl6:ys'.length≤k+1+1:=by omega
        have hN7:=hN
        clear n5 hcc B7 H7 q1 q2 q3 q4 q5 hyl5 CC hN
        have BIx:=BI
        have HkLx:=HkL
        clear BI HkL
        have hN:=hN7
        clear hN7
        (clear k3 f3 l3 m3 k6 f6 l6 m6;replace K3:=bK K3 hN;replace K6:=bK K6 hN;replace S6:=Z (S6.out.kp hN);replace HK:=jK HK hN;clear hN;(obtain⟨k3,f3,l3,m3⟩:=rl_ K3;obtain⟨k6,f6,l6,m6⟩:=rl_ K6))
        have BI:=BIx
        have HkL:=HkLx
        clear BIx HkLx
        obtain⟨ce,hce⟩:∃ ce,checkE s u nw=ce:=⟨_,rfl⟩
        rw[hce]
        clear hce
        obtain⟨t9,ht9⟩:∃ t9,applyS s u nw=t9:=⟨_,rfl⟩
        rw[ht9]at K6 S6 ht
        clear ht9 k6 f6 l6 m6
        (obtain⟨k6,f6,l6,m6⟩:=rl_ K6)
        go_wp2_with fail
        refine(cstore_calls g0 root g1 ⟨s',W'⟩ _ BI.out.k0 BI.out.k1).mono ?_
        rintro e x8 ⟨rfl,hB⟩
        have hN:=KpL.of (bs:=[]) hB
        clear hB
        (clear k3 f3 l3 m3 k6 f6 l6 m6;replace K3:=bK K3 hN;replace K6:=bK K6 hN;replace S6:=Z (S6.out.kp hN);replace BI:=Z (BI.out.kp hN);replace HkL:=Z (HkL.out.kp hN);replace HK:=jK HK hN;clear hN;(obtain⟨k3,f3,l3,m3⟩:=rl_ K3;obtain⟨k6,f6,l6,m6⟩:=rl_ K6))
        (go_wp2_with(first|(with_reducible refine wsh (stSr (Sr.zero) (Blk.new0 x8 39 (srA (Sr.zero))) (s')) rfl rfl ?_));generalize hWN:setRow _ _ _ _=x9;obtain⟨g7,hgj⟩:∃ g,(World.heap x8).size=g:=⟨_,rfl⟩;have hN:KpL [] x8 x9:=(by rw[←hWN];exact((KpL.refl _ _).alloc _).row (.inr (Nat.le_refl _)) (by simp));replace K7:=Z (show Blk x9 g7 _ (srA (s')) by rw[←hWN,←hgj];exact Blk.row (by simp));have h3_7:g3<g7:=(by rw[←hgj];exact K3.out.lt);have h6_7:g6<g7:=(by rw[←hgj];exact K6.out.lt);have hw_7:w.heap.size≤g7:=(by rw[←hgj];exact HK.out.size);have hz_7:(World.heap x8).size≤g7:=(by rw[←hgj];exact Nat.le_refl _);(try rw[hgj]);clear hWN hgj k3 f3 l3 m3 k6 f6 l6 m6;replace K3:=bK K3 hN;replace K6:=bK K6 hN;replace S6:=Z (S6.out.kp hN);replace BI:=Z (BI.out.kp hN);replace HkL:=Z (HkL.out.kp hN);replace HK:=jK HK hN;clear hN;obtain⟨k3,f3,l3,m3⟩:=rl_ K3;obtain⟨k6,f6,l6,m6⟩:=rl_ K6;obtain⟨k7,f7,l7,m7⟩:=rl_ K7;unfold Halted)
        have n6:=rsameSr_calls s' t9 x9 BI.out.sr.sr S6.out.sr
        rw[sameSr_bare ht.out.symm]at n6
        replace n6:=Z n6
        go_wp2_with(first|(with_reducible refine wlr (ldSr _ K7.out) rfl ?_)|(with_reducible refine wlg (ldSr _ K7.out) (by with_unfolding_all rfl) rfl ?_)|(with_reducible refine wlr (ldSr _ K6.out) rfl ?_)|(with_reducible refine wlg (ldSr _ K6.out) (by with_unfolding_all rfl) rfl ?_))
        refine n6.out.mono ?_
        rintro e xa ⟨rfl,hB⟩
        have hN:=KpL.of (bs:=[]) hB
        clear hB n6 k7 f7 l7 m7 K7
        (clear k3 f3 l3 m3 k6 f6 l6 m6;replace K3:=bK K3 hN;replace K6:=bK K6 hN;replace S6:=Z (S6.out.kp hN);replace BI:=Z (BI.out.kp hN);replace HkL:=Z (HkL.out.kp hN);replace HK:=jK HK hN;clear hN;(obtain⟨k3,f3,l3,m3⟩:=rl_ K3;obtain⟨k6,f6,l6,m6⟩:=rl_ K6))
        (go_wp2_with(first|(with_reducible refine wlr (ldSr _ K6.out) rfl ?_)|(with_reducible refine wlg (ldSr _ K6.out) (by with_unfolding_all rfl) rfl ?_)|(with_reducible refine wsh (stSr _ K3.out (t9)) rfl rfl ?_));generalize hWN:setRow _ _ _ _=xb;have hN:KpL [g3] xa xb:=(by rw[←hWN];exact(KpL.refl _ _).row (.inl (by simp)) (Nat.le_of_lt l3));replace K3:=Z (show Blk xb _ _ (srA t9) by rw[←hWN];exact Blk.row K3.out.lt);clear hWN k3 f3 l3 m3 k6 f6 l6 m6;replace K6:=bK K6 hN;replace S6:=Z (S6.out.kp hN);replace BI:=Z (BI.out.kp hN);replace HkL:=Z (HkL.out.kp hN);replace HK:=jK HK hN;clear hN;obtain⟨k6,f6,l6,m6⟩:=rl_ K6;obtain⟨k3,f3,l3,m3⟩:=rl_ K3;unfold Halted)
        have HF:=Z (HK.out.below (Nat.le_refl _) (by simp))
        have CHn:=Z (show ChI m g0 g1 g3 root (k+1) t9 ⟨s',W'⟩ ys' w xb from⟨BI.out,K3.out,S6.out,ht.out,hyl6,HkL.out,HF.out⟩)
        clear BI S6 HkL HK HF k3 f3 l3 m3 K3 k6 f6 l6 m6 K6
        go_wp2_with fail
        go_roundw
        case rel=>exact⟨k+1,t9,_,ys',by omega,by go_num,CHn.out⟩
        case measure=>simp[intOf];omega
     ·replace HB:=Z HB
      clear CH
      go_wp2_with fail
      go_ret
      exact⟨rfl,HB.out⟩
    ·replace HB:=Z HB
     clear CH
     go_wp2_with fail
     go_ret
     exact⟨rfl,HB.out⟩
   ·replace HB:=Z HB
    clear CH
    go_wp2_with fail
    go_ret
    exact⟨rfl,HB.out⟩
end
section
open Go.ChangeShapes Go.WideShapes Go.ChangeAt Go.RowKit Go.Joins Go.Phx
set_option maxRecDepth 100000
theorem cutC{W:World} (h:laidMetH Tryz.prog Rows.topChainsUptoRow.laid W):laidMetH Tryz.prog [("pharos/sha.k", Rows.laid_pharos_sha_k)] W:=by
 have h2:=h.filter (fun y=>y.1 == "pharos/sha.k")
 rw[show(Rows.topChainsUptoRow.laid.filter fun y=>y.1 == "pharos/sha.k")=[("pharos/sha.k", Rows.laid_pharos_sha_k)] from U]at h2
 exact h2
theorem hasKC_of{W:World} (h:laidMetH Tryz.prog Rows.topChainsUptoRow.laid W):HasK W:=hasK_of (cutC h)
def setGC(h:Array Obj) (g:Nat) (c:Array Value):Array Obj:=h.modify g fun
 | .cells _ t frozen=>.cells c t frozen
 | o=>o
noncomputable def laidWorldC (os:Os):World :=
 let W:=World.holding Tryz.prog os ⟨#[],#[],[]⟩
 { W with heap:=[(0, cw kTab),
   (2, (Go.Pinned.utf8FirstZ.map fun(x:Nat)=>Value.int .u8 (x:Int)).toArray),(3, (([128,191,160,191,128,159,144,191,128,143] ++ List.replicate 22 0:List Nat).map fun(x:Nat)=>Value.int .u8 (x:Int)).toArray)].foldl (fun h p=>setGC h p.1 p.2) W.heap }
end
end Go.Proofs.YtobgigcdpiikaaaGreatDoor
