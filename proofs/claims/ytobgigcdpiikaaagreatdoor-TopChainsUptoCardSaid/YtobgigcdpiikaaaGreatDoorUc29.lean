/- Plain laws and walks, each by its own conditions. -/
import Derived.Test.YtobgigcdpiikaaaGreatDoorUc28
import Derived.Test.YtobgigcdpiikaaaGreatDoorUc30
set_option linter.unusedSimpArgs false
set_option linter.unusedVariables false
set_option maxRecDepth 100000
set_option maxHeartbeats 16000000
namespace Go.Proofs.YtobgigcdpiikaaaGreatDoor
section
open BigFrame Go.RowKit Go.Phx Go.Shelf
attribute [local go_sem] Oper.semAt_some
theorem put_size(a:Act) (d:Option Tmp) (v:Value):(a.put d v).tmps.size=a.tmps.size:=by
 cases d <;> simp[Act.put]
theorem eval_put{a:Act}{n:Tmp}{v:Value} (h:n<a.tmps.size):(a.put (some n) v).eval (.tmp n)=v:=by
 simp[Act.put,Act.eval,h]
theorem exec_quo(m q:Int) (hq:IntKind.i64.wrap (Int.tdiv m 2)=q) {o:Oper}{a:Act}{w:World} (ho:o.op=.binOp .quo 3 (.tmp 67) (.const (.int .i64 2)) 3) (hx:a.eval (.tmp 67)=.int .i64 m):(execOp a.eval o).run Tryz.prog w=.ok (.value (.int .i64 q)) w:=by
 have hc:a.eval (.const (.int .i64 2))=.int .i64 2:=rfl
 unfold execOp
 simp only[ho,hx,hc]
 clear ho hx hc
 go_simp
theorem lgapply_calls(s:Sr) (u:Up) (now:Nat) (w:World) (hk:HasK w) (hs:SrIn w s) (hu:UpIn w u) (hn:now<18446744073709551616):Calls Tryz.prog 8 #[srV s,upV u,.int .u64 now] w (Ret w (.tuple #[srV (applyS s u now),.int .i64 (checkE s u now)])):=by
 have n1:=fun W (hB:Below w.heap.size w W)=>lgcheck_calls s u now W (hk.on hB) (hs.below hB) (hu.below hB) hn
 have n2:=fun W=>signers_calls u W
 have n3:=fun W=>better_calls u s.best hu.1.1.1 hu.2.2.2.2.2.2.2 hu.2.2.2.1.1.1 hs.2.2.2.2.1.1.1.1 hs.2.2.2.2.1.2.2.2.2.2.2.2 hs.2.2.2.2.1.2.2.2.1.1.1 W
 have n4:=fun W=>known_calls s.next W
 have n5:=fun W=>hasNext_calls u W
 have n6:=fun W=>isFinal_calls u W
 have n7:=fun W=>period_q u.fin.b.slot hu.2.2.2.1.1.1 W
 have n9:=fun W=>period_q u.seen.b.slot hu.1.1.1 W
 have n8:=fun W=>two_calls u W
 have hA:applyS s u now=if checkE s u now=0 then applyP s u else s:=rfl
 have hon:=ones_le u.bits
 have hla:=hs.2.2.2.2.2.2.1
 have hth:=hs.2.2.2.2.2.2.2.1
 have hsf:=hs.1.1.1
 have huf:=hu.2.2.2.1.1.1
 clear hs hu hn hk
 generalize checkE s u now=e at *
 generalize applyS s u now=S at *
 by_cases he:e=0
 rotate_left
 ·rw[if_neg he]at hA
  have e3:(e == 0)=false:=by simpa using he
  have e4:(e != 0)=true:=by simpa using he
  replace hA:=Z hA
  replace n1:=Z n1
  clear n2 n3 n4 n5 n6 n7 n8 n9 hon hla hth hsf huf he
  go_enter Tryz.func8, Tryz.ntmps8
  go_upto_region 1 with fail
  have HB:Below w.heap.size w (((w.alloc (.cells (srA s) 39)).alloc (.cells (upA u) 37)).alloc (.cells (srA Sr.zero) 39)):=bel
  have K0:=((Blk.new0 w 39 (srA s)).alloc (.cells (upA u) 37)).alloc (.cells (srA Sr.zero) 39)
  have K1:=(Blk.new1 w (.cells (srA s) 39) 37 (upA u)).alloc (.cells (srA Sr.zero) 39)
  have K2:=Blk.new2 w (.cells (srA s) 39) (.cells (upA u) 37) 39 (srA Sr.zero)
  obtain⟨W,hW⟩:∃ W,(((w.alloc (.cells (srA s) 39)).alloc (.cells (upA u) 37)).alloc (.cells (srA Sr.zero) 39))=W:=⟨_,rfl⟩
  rw[hW]at HB K0 K1 K2 ⊢
  clear hW
  have hgl:w.heap.size≤w.heap.size:=Nat.le_refl _
  obtain⟨g,hg⟩:∃ g,w.heap.size=g:=⟨_,rfl⟩
  rw[hg]at K0 K1 K2 ⊢
  replace hgl:w.heap.size≤g:=by omega
  replace K0:=Z K0
  replace K1:=Z K1
  replace K2:=Z K2
  clear hg
  (obtain⟨k0,f0,l0,m0⟩:=rl_ K0;obtain⟨k1,f1,l1,m1⟩:=rl_ K1;obtain⟨k2,f2,l2,m2⟩:=rl_ K2)
  go_wp2_with(first|(with_reducible refine wlr (ldSr _ K0.out) rfl ?_)|(with_reducible refine wlg (ldSr _ K0.out) (by with_unfolding_all rfl) rfl ?_)|(with_reducible refine wlr (ldUp _ K1.out) rfl ?_)|(with_reducible refine wlg (ldUp _ K1.out) (by with_unfolding_all rfl) rfl ?_))
  (refine(n1.out _ HB).mono ?_;rintro e w2 ⟨rfl,hN⟩;replace K0:=hn_ K0 hN;replace K1:=hn_ K1 hN;replace K2:=hn_ K2 hN;replace HB:Below w.heap.size w w2:=Below.on hN HB;clear hN k0 f0 l0 m0 k1 f1 l1 m1 k2 f2 l2 m2;obtain⟨k0,f0,l0,m0⟩:=rl_ K0;obtain⟨k1,f1,l1,m1⟩:=rl_ K1;obtain⟨k2,f2,l2,m2⟩:=rl_ K2)
  go_upto_region 3 with fail
  (go_wp2_with(first|(with_reducible refine wlr (ldSr _ K0.out) rfl ?_)|(with_reducible refine wlg (ldSr _ K0.out) (by with_unfolding_all rfl) rfl ?_)|(with_reducible refine wsh (stSr _ K2.out (s)) rfl rfl ?_));generalize hWN:setRow _ _ _ _=WN;replace K2:=Z (show Blk WN _ _ _ by rw[←hWN];exact Blk.row K2.out.lt);replace K0:=Z (show Blk WN _ _ _ by rw[←hWN];exact Blk.rowOver (by omega) K0.out);replace K1:=Z (show Blk WN _ _ _ by rw[←hWN];exact Blk.rowOver (by omega) K1.out);replace HB:Below w.heap.size w WN:=(by rw[←hWN];exact Below.row HB (by omega) HB.size);clear hWN k2 f2 l2 m2 k0 f0 l0 m0 k1 f1 l1 m1;obtain⟨k2,f2,l2,m2⟩:=rl_ K2;obtain⟨k0,f0,l0,m0⟩:=rl_ K0;obtain⟨k1,f1,l1,m1⟩:=rl_ K1;unfold Halted)
  go_wp2_with fail
  exact bodyPost_ret (results_cell2 rfl rfl (ldSr _ K2.out)) rfl ⟨by rw[hA.out];rfl,HB⟩
 subst he
 rw[if_pos rfl]at hA
 obtain⟨t1,ht1⟩:∃ t,bestP s u=t:=⟨_,rfl⟩
 obtain⟨t2,ht2⟩:∃ t,thisP t1 u=t:=⟨_,rfl⟩
 obtain⟨t3,ht3⟩:∃ t,newP t2 u=t:=⟨_,rfl⟩
 have hA2:S=if goesP s u then clearP (takeP t3 u) else t3:=by rw[hA,←ht3,←ht2,←ht1];rfl
 obtain⟨b1,b2,b3,b4,b5⟩:=best_keeps s u
 rw[ht1]at b1 b2 b3 b4 b5
 have hv1:t1=if(!s.has || betterP u s.best)=true then { s with best:=u,has:=true } else s:=by rw[←ht1];rfl
 have hv2:t2={ t1 with this:=max t1.this (onesP u.bits:Int) }:=by rw[←ht2];rfl
 have c1:t2.fin=s.fin:=by rw[hv2,←b1]
 have c2:t2.next=s.next:=by rw[hv2,←b3]
 have c4:t2.last=s.last:=by rw[hv2,←b4]
 have c5:t2.this=max s.this (onesP u.bits:Int):=by rw[hv2,←b5]
 obtain⟨d1,d2⟩:=new_keeps t2 u
 rw[ht3,c1]at d1
 rw[ht3,c2]at d2
 have hv3:t3=if Int.tdiv (max t2.last t2.this) 2<(onesP u.bits:Int)∧t2.new.b.slot<u.seen.b.slot then { t2 with new:=u.seen } else t2:=by rw[←ht3];rfl
 have hgo:goesP s u=(twoP u && ((!knownP s.next && (hasNextP u && ownFinP u)) || decide (t3.fin.b.slot<u.fin.b.slot))):=by
  rw[d1]
  rfl
 have hof:ownFinP u=(isFinalP u && decide (period u.fin.b.slot=period u.seen.b.slot)):=rfl
 have nt:=fun W=>lgtake_calls t3 u (by rw[d1];exact hsf) huf W
 clear hA ht1 ht2 ht3 b1 b2 b3 b4 c1 c2 d1
 generalize goesP s u=go at *
 generalize clearP (takeP t3 u)=tk at *
 generalize betterP u s.best=bt at *
 generalize hasNextP u=hx at *
 generalize isFinalP u=fi at *
 generalize ownFinP u=of at *
 generalize twoP u=tw at *
 generalize period u.fin.b.slot=pf at *
 generalize period u.seen.b.slot=ps at *
 have ew:((pf:Int) == (ps:Int))=decide (pf=ps):=by rw[Bool.eq_iff_iff];simp;omega
 generalize decide (pf=ps)=ow at *
 generalize knownP s.next=kn at *
 generalize onesP u.bits=n at *
 rw[←b5]at c5
 obtain⟨m,hm⟩:∃ m,max t2.last t2.this=m:=⟨_,rfl⟩
 have hmb : -9223372036854775808≤m∧m≤9223372036854775807:=by rw[←hm,c4,c5,b5];omega
 rw[hm]at hv3
 obtain⟨q,hq⟩:∃ q,Int.tdiv m 2=q:=⟨_,rfl⟩
 have hqb : -9223372036854775808≤q∧q≤9223372036854775807:=by
  have hab:q.natAbs=m.natAbs / 2:=by rw[←hq];exact Int.natAbs_tdiv m 2
  omega
 rw[hq]at hv3
 have hq1:IntKind.i64.wrap (Int.tdiv m 2)=q:=by rw[hq];exact IntWalk.i64_in _ hqb
 have hq2:wrap64 (Int.tdiv m 2)=q:=by rw[hq];exact IntWalk.wrap64_in _ hqb
 replace hA2:=Z hA2
 replace hv1:=Z hv1
 replace hv2:=Z hv2
 replace hv3:=Z hv3
 replace hgo:=Z hgo
 replace hof:=Z hof
 replace n1:=Z n1
 replace n2:=Z n2
 replace n3:=Z n3
 replace n4:=Z n4
 replace n5:=Z n5
 replace n6:=Z n6
 replace n7:=Z n7
 replace n8:=Z n8
 replace n9:=Z n9
 replace nt:=Z nt
 replace d2:=Z d2
 replace hq:=Z hq
 clear c4 c5 b5 hla hth hsf huf hon hmb hqb
 go_enter Tryz.func8, Tryz.ntmps8
 go_upto_region 1 with fail
 have HB:Below w.heap.size w (((w.alloc (.cells (srA s) 39)).alloc (.cells (upA u) 37)).alloc (.cells (srA Sr.zero) 39)):=bel
 have K0:=((Blk.new0 w 39 (srA s)).alloc (.cells (upA u) 37)).alloc (.cells (srA Sr.zero) 39)
 have K1:=(Blk.new1 w (.cells (srA s) 39) 37 (upA u)).alloc (.cells (srA Sr.zero) 39)
 have K2:=Blk.new2 w (.cells (srA s) 39) (.cells (upA u) 37) 39 (srA Sr.zero)
 obtain⟨W,hW⟩:∃ W,(((w.alloc (.cells (srA s) 39)).alloc (.cells (upA u) 37)).alloc (.cells (srA Sr.zero) 39))=W:=⟨_,rfl⟩
 rw[hW]at HB K0 K1 K2 ⊢
 clear hW
 have hgl:w.heap.size≤w.heap.size:=Nat.le_refl _
 obtain⟨g,hg⟩:∃ g,w.heap.size=g:=⟨_,rfl⟩
 rw[hg]at K0 K1 K2 ⊢
 replace hgl:w.heap.size≤g:=by omega
 replace K0:=Z K0
 replace K1:=Z K1
 replace K2:=Z K2
 clear hg
 (obtain⟨k0,f0,l0,m0⟩:=rl_ K0;obtain⟨k1,f1,l1,m1⟩:=rl_ K1;obtain⟨k2,f2,l2,m2⟩:=rl_ K2)
 go_wp2_with(first|(with_reducible refine wlr (ldSr _ K0.out) rfl ?_)|(with_reducible refine wlg (ldSr _ K0.out) (by with_unfolding_all rfl) rfl ?_)|(with_reducible refine wlr (ldUp _ K1.out) rfl ?_)|(with_reducible refine wlg (ldUp _ K1.out) (by with_unfolding_all rfl) rfl ?_))
 (refine(n1.out _ HB).mono ?_;rintro e w2 ⟨rfl,hN⟩;replace K0:=hn_ K0 hN;replace K1:=hn_ K1 hN;replace K2:=hn_ K2 hN;replace HB:Below w.heap.size w w2:=Below.on hN HB;clear hN k0 f0 l0 m0 k1 f1 l1 m1 k2 f2 l2 m2;obtain⟨k0,f0,l0,m0⟩:=rl_ K0;obtain⟨k1,f1,l1,m1⟩:=rl_ K1;obtain⟨k2,f2,l2,m2⟩:=rl_ K2)
 go_upto_region 4 with fail
 go_cut [9] (fun s9 wx=>s9=.bool (!kn && (hx && of))∧TkW w g s u wx)
 case first =>
  as_aux_lemma =>
   cases kn with
   | true =>
    have hwf:∀ f,Fence.wide.fn f:=fun _=>trivial
    refine(wpIn_wide (n:=9)).1 ?_
    refine wpIn_round_held (fun w'=>Below w2.heap.size w2 w') (fun j=>true) U ?_
    have hS0:(fun w'=>Below w2.heap.size w2 w') w2.drew:=(Below.refl _ _).drew
    have KA100:=Z (K0.out.drew)
    have KA101:=Z (K1.out.drew)
    have KA102:=Z (K2.out.drew)
    have HBt:=HB.drew
    refine S_tg 0 (.pointer (some ⟨g,20,none⟩)) rfl hS0 ?_
    refine S_tk 1 (cmV (s.next)) rfl hS0 (fun w' hw=>exec_load rfl U (ldSr_next (s) (K0.out.below hw))) ?_
    refine S_one 2 U rfl (fun K hK=>?_)
    go_simp
    gi_wp2_with(gi_at_call 33; refine(callsIn_wide.2 (n4.out _)).mono ?_;rintro e w2h1 ⟨rfl,hN⟩)
    replace KA100:=hn_ KA100 hN
    replace KA101:=hn_ KA101 hN
    replace KA102:=hn_ KA102 hN
    replace HBt:=Below.on hN HBt
    replace hS0:=hS0.trans (hN.mono hS0.size)
    clear hN
    refine⟨(fun _=>hS0),?_⟩
    refine S_tg 3 (.bool false) rfl hS0 ?_
    simp only[Act.put,jA,jE,jF,jB,jC,jD]
    refine S_tg 4 (.bool false) rfl hS0 ?_
    refine S_sk 5 rfl hS0 ?_
    refine S_sk 6 rfl hS0 ?_
    simp only[Act.put,jA,jE,jF,jB,jC,jD]
    refine S_tg 7 (.bool false) rfl hS0 ?_
    refine S_tg 8 (.bool false) rfl hS0 ?_
    refine S_sk 9 rfl hS0 ?_
    simp only[Act.put,jA,jE,jF,jB,jC,jD]
    refine S_sk 10 rfl hS0 ?_
    refine S_tg 11 (.bool false) rfl hS0 ?_
    refine S_tg 12 (.bool false) rfl hS0 ?_
    simp only[Act.put,jA,jE,jF,jB,jC,jD]
    refine S_sk 13 rfl hS0 ?_
    refine S_sk 14 rfl hS0 ?_
    refine S_sk 15 rfl hS0 ?_
    simp only[Act.put,jA,jE,jF,jB,jC,jD]
    refine S_sk 16 rfl hS0 ?_
    refine S_sk 17 rfl hS0 ?_
    refine S_sk 18 rfl hS0 ?_
    simp only[Act.put,jA,jE,jF,jB,jC,jD]
    refine S_sk 19 rfl hS0 ?_
    refine S_sk 20 rfl hS0 ?_
    refine S_sk 21 rfl hS0 ?_
    simp only[Act.put,jA,jE,jF,jB,jC,jD]
    refine S_sk 22 rfl hS0 ?_
    refine S_sk 23 rfl hS0 ?_
    refine S_tg 24 (.bool false) rfl hS0 ?_
    simp only[Act.put,jA,jE,jF,jB,jC,jD]
    refine S_tg 25 (.bool false) rfl hS0 ?_
    refine⟨by kernel_rfl,rfl,?_⟩
    obtain⟨WN,hWN⟩:∃ WN,w2h1=WN:=⟨_,rfl⟩
    rw[hWN]at KA100 KA101 KA102 HBt ⊢
    clear hWN hwf hS0 HB
    have HB:=HBt
    clear HBt
    clear K0 k0 f0 l0 m0
    clear K1 k1 f1 l1 m1
    clear K2 k2 f2 l2 m2
    have K0:=KA100
    clear KA100
    have K1:=KA101
    clear KA101
    have K2:=KA102
    clear KA102
    (obtain⟨k0,f0,l0,m0⟩:=rl_ K0;obtain⟨k1,f1,l1,m1⟩:=rl_ K1;obtain⟨k2,f2,l2,m2⟩:=rl_ K2)
    go_wp2_with fail
    go_meet
    case rel=>exact⟨rfl,K0.out,K1.out,K2.out,HB⟩
   | false =>
    cases hx with
    | false =>
     have hwf:∀ f,Fence.wide.fn f:=fun _=>trivial
     refine(wpIn_wide (n:=9)).1 ?_
     refine wpIn_round_held (fun w'=>Below w2.heap.size w2 w') (fun j=>true) U ?_
     have hS0:(fun w'=>Below w2.heap.size w2 w') w2.drew:=(Below.refl _ _).drew
     have KA100:=Z (K0.out.drew)
     have KA101:=Z (K1.out.drew)
     have KA102:=Z (K2.out.drew)
     have HBt:=HB.drew
     refine S_tg 0 (.pointer (some ⟨g,20,none⟩)) rfl hS0 ?_
     refine S_tk 1 (cmV (s.next)) rfl hS0 (fun w' hw=>exec_load rfl U (ldSr_next (s) (K0.out.below hw))) ?_
     refine S_one 2 U rfl (fun K hK=>?_)
     go_simp
     gi_wp2_with(gi_at_call 33; refine(callsIn_wide.2 (n4.out _)).mono ?_;rintro e w2h1 ⟨rfl,hN⟩)
     replace KA100:=hn_ KA100 hN
     replace KA101:=hn_ KA101 hN
     replace KA102:=hn_ KA102 hN
     replace HBt:=Below.on hN HBt
     replace hS0:=hS0.trans (hN.mono hS0.size)
     clear hN
     refine⟨(fun _=>hS0),?_⟩
     refine S_tg 3 (.bool true) rfl hS0 ?_
     simp only[Act.put,jA,jE,jF,jB,jC,jD]
     refine S_tg 4 (.bool true) rfl hS0 ?_
     refine S_tk 5 (upV (u)) rfl hS0 (fun w' hw=>exec_load rfl U (ldUp (u) (K1.out.below hw))) ?_
     refine S_one 6 U rfl (fun K hK=>?_)
     go_simp
     gi_wp2_with(gi_at_call 34; refine(callsIn_wide.2 (n5.out _)).mono ?_;rintro e w2h2 ⟨rfl,hN⟩)
     replace KA100:=hn_ KA100 hN
     replace KA101:=hn_ KA101 hN
     replace KA102:=hn_ KA102 hN
     replace HBt:=Below.on hN HBt
     replace hS0:=hS0.trans (hN.mono hS0.size)
     clear hN
     refine⟨(fun _=>hS0),?_⟩
     refine S_tg 7 (.bool false) rfl hS0 ?_
     simp only[Act.put,jA,jE,jF,jB,jC,jD]
     refine S_tg 8 (.bool false) rfl hS0 ?_
     refine S_sk 9 rfl hS0 ?_
     refine S_sk 10 rfl hS0 ?_
     simp only[Act.put,jA,jE,jF,jB,jC,jD]
     refine S_tg 11 (.bool false) rfl hS0 ?_
     refine S_tg 12 (.bool false) rfl hS0 ?_
     refine S_sk 13 rfl hS0 ?_
     simp only[Act.put,jA,jE,jF,jB,jC,jD]
     refine S_sk 14 rfl hS0 ?_
     refine S_sk 15 rfl hS0 ?_
     refine S_sk 16 rfl hS0 ?_
     simp only[Act.put,jA,jE,jF,jB,jC,jD]
     refine S_sk 17 rfl hS0 ?_
     refine S_sk 18 rfl hS0 ?_
     refine S_sk 19 rfl hS0 ?_
     simp only[Act.put,jA,jE,jF,jB,jC,jD]
     refine S_sk 20 rfl hS0 ?_
     refine S_sk 21 rfl hS0 ?_
     refine S_sk 22 rfl hS0 ?_
     simp only[Act.put,jA,jE,jF,jB,jC,jD]
     refine S_sk 23 rfl hS0 ?_
     refine S_tg 24 (.bool false) rfl hS0 ?_
     refine S_tg 25 (.bool false) rfl hS0 ?_
     simp only[Act.put,jA,jE,jF,jB,jC,jD]
     refine⟨by kernel_rfl,rfl,?_⟩
     obtain⟨WN,hWN⟩:∃ WN,w2h2=WN:=⟨_,rfl⟩
     rw[hWN]at KA100 KA101 KA102 HBt ⊢
     clear hWN hwf hS0 HB
     have HB:=HBt
     clear HBt
     clear K0 k0 f0 l0 m0
     clear K1 k1 f1 l1 m1
     clear K2 k2 f2 l2 m2
     have K0:=KA100
     clear KA100
     have K1:=KA101
     clear KA101
     have K2:=KA102
     clear KA102
     (obtain⟨k0,f0,l0,m0⟩:=rl_ K0;obtain⟨k1,f1,l1,m1⟩:=rl_ K1;obtain⟨k2,f2,l2,m2⟩:=rl_ K2)
     go_wp2_with fail
     go_meet
     case rel=>exact⟨rfl,K0.out,K1.out,K2.out,HB⟩
    | true =>
     cases fi with
     | false =>
      have hwf:∀ f,Fence.wide.fn f:=fun _=>trivial
      refine(wpIn_wide (n:=9)).1 ?_
      refine wpIn_round_held (fun w'=>Below w2.heap.size w2 w') (fun j=>true) U ?_
      have hS0:(fun w'=>Below w2.heap.size w2 w') w2.drew:=(Below.refl _ _).drew
      have KA100:=Z (K0.out.drew)
      have KA101:=Z (K1.out.drew)
      have KA102:=Z (K2.out.drew)
      have HBt:=HB.drew
      refine S_tg 0 (.pointer (some ⟨g,20,none⟩)) rfl hS0 ?_
      refine S_tk 1 (cmV (s.next)) rfl hS0 (fun w' hw=>exec_load rfl U (ldSr_next (s) (K0.out.below hw))) ?_
      refine S_one 2 U rfl (fun K hK=>?_)
      go_simp
      gi_wp2_with(gi_at_call 33; refine(callsIn_wide.2 (n4.out _)).mono ?_;rintro e w2h1 ⟨rfl,hN⟩)
      replace KA100:=hn_ KA100 hN
      replace KA101:=hn_ KA101 hN
      replace KA102:=hn_ KA102 hN
      replace HBt:=Below.on hN HBt
      replace hS0:=hS0.trans (hN.mono hS0.size)
      clear hN
      refine⟨(fun _=>hS0),?_⟩
      refine S_tg 3 (.bool true) rfl hS0 ?_
      simp only[Act.put,jA,jE,jF,jB,jC,jD]
      refine S_tg 4 (.bool true) rfl hS0 ?_
      refine S_tk 5 (upV (u)) rfl hS0 (fun w' hw=>exec_load rfl U (ldUp (u) (K1.out.below hw))) ?_
      refine S_one 6 U rfl (fun K hK=>?_)
      go_simp
      gi_wp2_with(gi_at_call 34; refine(callsIn_wide.2 (n5.out _)).mono ?_;rintro e w2h2 ⟨rfl,hN⟩)
      replace KA100:=hn_ KA100 hN
      replace KA101:=hn_ KA101 hN
      replace KA102:=hn_ KA102 hN
      replace HBt:=Below.on hN HBt
      replace hS0:=hS0.trans (hN.mono hS0.size)
      clear hN
      refine⟨(fun _=>hS0),?_⟩
      refine S_tg 7 (.bool true) rfl hS0 ?_
      simp only[Act.put,jA,jE,jF,jB,jC,jD]
      refine S_tg 8 (.bool true) rfl hS0 ?_
      refine S_tk 9 (upV (u)) rfl hS0 (fun w' hw=>exec_load rfl U (ldUp (u) (K1.out.below hw))) ?_
      refine S_one 10 U rfl (fun K hK=>?_)
      go_simp
      gi_wp2_with(gi_at_call 35; refine(callsIn_wide.2 (n6.out _)).mono ?_;rintro e w2h3 ⟨rfl,hN⟩)
      replace KA100:=hn_ KA100 hN
      replace KA101:=hn_ KA101 hN
      replace KA102:=hn_ KA102 hN
      replace HBt:=Below.on hN HBt
      replace hS0:=hS0.trans (hN.mono hS0.size)
      clear hN
      refine⟨(fun _=>hS0),?_⟩
      refine S_tg 11 (.bool false) rfl hS0 ?_
      simp only[Act.put,jA,jE,jF,jB,jC,jD]
      refine S_tg 12 (.bool false) rfl hS0 ?_
      refine S_sk 13 rfl hS0 ?_
      refine S_sk 14 rfl hS0 ?_
      simp only[Act.put,jA,jE,jF,jB,jC,jD]
      refine S_sk 15 rfl hS0 ?_
      refine S_sk 16 rfl hS0 ?_
      refine S_sk 17 rfl hS0 ?_
      simp only[Act.put,jA,jE,jF,jB,jC,jD]
      refine S_sk 18 rfl hS0 ?_
      refine S_sk 19 rfl hS0 ?_
      refine S_sk 20 rfl hS0 ?_
      simp only[Act.put,jA,jE,jF,jB,jC,jD]
      refine S_sk 21 rfl hS0 ?_
      refine S_sk 22 rfl hS0 ?_
      refine S_sk 23 rfl hS0 ?_
      simp only[Act.put,jA,jE,jF,jB,jC,jD]
      refine S_tg 24 (.bool false) rfl hS0 ?_
      refine S_tg 25 (.bool false) rfl hS0 ?_
      refine⟨by kernel_rfl,rfl,?_⟩
      obtain⟨WN,hWN⟩:∃ WN,w2h3=WN:=⟨_,rfl⟩
      rw[hWN]at KA100 KA101 KA102 HBt ⊢
      clear hWN hwf hS0 HB
      have HB:=HBt
      clear HBt
      clear K0 k0 f0 l0 m0
      clear K1 k1 f1 l1 m1
      clear K2 k2 f2 l2 m2
      have K0:=KA100
      clear KA100
      have K1:=KA101
      clear KA101
      have K2:=KA102
      clear KA102
      (obtain⟨k0,f0,l0,m0⟩:=rl_ K0;obtain⟨k1,f1,l1,m1⟩:=rl_ K1;obtain⟨k2,f2,l2,m2⟩:=rl_ K2)
      go_wp2_with fail
      go_meet
      case rel=>exact⟨by rw[hof.out];rfl,K0.out,K1.out,K2.out,HB⟩
     | true =>
      have hwf:∀ f,Fence.wide.fn f:=fun _=>trivial
      refine(wpIn_wide (n:=9)).1 ?_
      refine wpIn_round_held (fun w'=>Below w2.heap.size w2 w') (fun j=>true) U ?_
      have hS0:(fun w'=>Below w2.heap.size w2 w') w2.drew:=(Below.refl _ _).drew
      have KA100:=Z (K0.out.drew)
      have KA101:=Z (K1.out.drew)
      have KA102:=Z (K2.out.drew)
      have HBt:=HB.drew
      refine S_tg 0 (.pointer (some ⟨g,20,none⟩)) rfl hS0 ?_
      refine S_tk 1 (cmV (s.next)) rfl hS0 (fun w' hw=>exec_load rfl U (ldSr_next (s) (K0.out.below hw))) ?_
      refine S_one 2 U rfl (fun K hK=>?_)
      go_simp
      gi_wp2_with(gi_at_call 33; refine(callsIn_wide.2 (n4.out _)).mono ?_;rintro e w2h1 ⟨rfl,hN⟩)
      replace KA100:=hn_ KA100 hN
      replace KA101:=hn_ KA101 hN
      replace KA102:=hn_ KA102 hN
      replace HBt:=Below.on hN HBt
      replace hS0:=hS0.trans (hN.mono hS0.size)
      clear hN
      refine⟨(fun _=>hS0),?_⟩
      refine S_tg 3 (.bool true) rfl hS0 ?_
      simp only[Act.put,jA,jE,jF,jB,jC,jD]
      refine S_tg 4 (.bool true) rfl hS0 ?_
      refine S_tk 5 (upV (u)) rfl hS0 (fun w' hw=>exec_load rfl U (ldUp (u) (K1.out.below hw))) ?_
      refine S_one 6 U rfl (fun K hK=>?_)
      go_simp
      gi_wp2_with(gi_at_call 34; refine(callsIn_wide.2 (n5.out _)).mono ?_;rintro e w2h2 ⟨rfl,hN⟩)
      replace KA100:=hn_ KA100 hN
      replace KA101:=hn_ KA101 hN
      replace KA102:=hn_ KA102 hN
      replace HBt:=Below.on hN HBt
      replace hS0:=hS0.trans (hN.mono hS0.size)
      clear hN
      refine⟨(fun _=>hS0),?_⟩
      refine S_tg 7 (.bool true) rfl hS0 ?_
      simp only[Act.put,jA,jE,jF,jB,jC,jD]
      refine S_tg 8 (.bool true) rfl hS0 ?_
      refine S_tk 9 (upV (u)) rfl hS0 (fun w' hw=>exec_load rfl U (ldUp (u) (K1.out.below hw))) ?_
      refine S_one 10 U rfl (fun K hK=>?_)
      go_simp
      gi_wp2_with(gi_at_call 35; refine(callsIn_wide.2 (n6.out _)).mono ?_;rintro e w2h3 ⟨rfl,hN⟩)
      replace KA100:=hn_ KA100 hN
      replace KA101:=hn_ KA101 hN
      replace KA102:=hn_ KA102 hN
      replace HBt:=Below.on hN HBt
      replace hS0:=hS0.trans (hN.mono hS0.size)
      clear hN
      refine⟨(fun _=>hS0),?_⟩
      refine S_tg 11 (.bool true) rfl hS0 ?_
      simp only[Act.put,jA,jE,jF,jB,jC,jD]
      refine S_tg 12 (.bool true) rfl hS0 ?_
      refine S_tg 13 (.pointer (some ⟨(g+1),12,none⟩)) rfl hS0 ?_
      refine S_tg 14 (.pointer (some ⟨(g+1),12,none⟩)) rfl hS0 ?_
      simp only[Act.put,jA,jE,jF,jB,jC,jD]
      refine S_tg 15 (.pointer (some ⟨(g+1),12,none⟩)) rfl hS0 ?_
      refine S_tk 16 (.int .u64 (u.fin.b.slot:Int)) rfl hS0 (fun w' hw=>exec_load rfl U (run_load_cell (i:=12) (K1.out.below hw) rfl szU64 nrU64)) ?_
      refine S_tg 18 (.pointer (some ⟨(g+1),0,none⟩)) rfl hS0 ?_
      simp only[Act.put,jA,jE,jF,jB,jC,jD]
      refine S_tg 19 (.pointer (some ⟨(g+1),0,none⟩)) rfl hS0 ?_
      refine S_tg 20 (.pointer (some ⟨(g+1),0,none⟩)) rfl hS0 ?_
      refine S_tk 21 (.int .u64 (u.seen.b.slot:Int)) rfl hS0 (fun w' hw=>exec_load rfl U (run_load_cell (i:=0) (K1.out.below hw) rfl szU64 nrU64)) ?_
      simp only[Act.put,jA,jE,jF,jB,jC,jD]
      refine S_one 17 U rfl (fun K hK=>?_)
      go_simp
      gi_wp2_with(gi_at_call 36; refine(callsIn_wide.2 (n7.out _)).mono ?_;rintro e w2h4 ⟨rfl,hN⟩;obtain rfl:w2h3=w2h4:=(by first|exact hN|exact hN.symm))
      refine⟨(fun _=>hS0),?_⟩
      refine S_one 22 U rfl (fun K hK=>?_)
      go_simp
      gi_wp2_with(gi_at_call 36; refine(callsIn_wide.2 (n9.out _)).mono ?_;rintro e w2h5 ⟨rfl,hN⟩;obtain rfl:w2h3=w2h5:=(by first|exact hN|exact hN.symm))
      refine⟨(fun _=>hS0),?_⟩
      refine S_tg 23 (.bool ow) rfl hS0 ?_
      refine S_tg 24 (.bool ow) rfl hS0 ?_
      refine S_tg 25 (.bool ow) rfl hS0 ?_
      simp only[Act.put,jA,jE,jF,jB,jC,jD]
      refine⟨by kernel_rfl,rfl,?_⟩
      obtain⟨WN,hWN⟩:∃ WN,w2h3=WN:=⟨_,rfl⟩
      rw[hWN]at KA100 KA101 KA102 HBt ⊢
      clear hWN hwf hS0 HB
      have HB:=HBt
      clear HBt
      clear K0 k0 f0 l0 m0
      clear K1 k1 f1 l1 m1
      clear K2 k2 f2 l2 m2
      have K0:=KA100
      clear KA100
      have K1:=KA101
      clear KA101
      have K2:=KA102
      clear KA102
      (obtain⟨k0,f0,l0,m0⟩:=rl_ K0;obtain⟨k1,f1,l1,m1⟩:=rl_ K1;obtain⟨k2,f2,l2,m2⟩:=rl_ K2)
      go_wp2_with fail
      go_meet
      case rel=>exact⟨by rw[hof.out];simp,K0.out,K1.out,K2.out,HB⟩
 obtain⟨rfl,hcut⟩:=hcut
 obtain⟨j0,j1,j2,HBn⟩:=hcut
 replace j0:=Z j0
 replace j1:=Z j1
 replace j2:=Z j2
 clear k0 f0 l0 m0 k1 f1 l1 m1 k2 f2 l2 m2 K0 K1 K2 HB
 have K0:=j0;have K1:=j1;have K2:=j2;have HB:=HBn
 clear j0 j1 j2 HBn
 (obtain⟨k0,f0,l0,m0⟩:=rl_ K0;obtain⟨k1,f1,l1,m1⟩:=rl_ K1;obtain⟨k2,f2,l2,m2⟩:=rl_ K2)
 clear n1 n4 n5 n6 n7 n9 hof ew
 have hgo2:=hgo.out
 generalize(!kn && (hx && of))=fst at *
 replace hgo:=Z hgo2
 clear hgo2
 go_upto_region 5 with fail
 go_cut [51] (fun s51 wx=>s51=.bool (!s.has || bt)∧TkW w g s u wx)
 case first =>
  as_aux_lemma =>
   cases hh:s.has with
   | false =>
    go_wp2_with fail
    go_meet
    case rel=>exact⟨by rw[hh];rfl,K0.out,K1.out,K2.out,HB⟩
   | true =>
    go_wp2_with(first|(with_reducible refine wlr (ldUp _ K1.out) rfl ?_)|(with_reducible refine wlg (ldUp _ K1.out) (by with_unfolding_all rfl) rfl ?_)|(with_reducible refine wlr (ldSr_best _ K0.out) rfl ?_)|(with_reducible refine wlg (ldSr_best _ K0.out) (by with_unfolding_all rfl) rfl ?_))
    (refine(n3.out _).mono ?_;rintro e w3 ⟨rfl,hN⟩;replace K0:=hn_ K0 hN;replace K1:=hn_ K1 hN;replace K2:=hn_ K2 hN;replace HB:Below w.heap.size w w3:=Below.on hN HB;clear hN k0 f0 l0 m0 k1 f1 l1 m1 k2 f2 l2 m2;obtain⟨k0,f0,l0,m0⟩:=rl_ K0;obtain⟨k1,f1,l1,m1⟩:=rl_ K1;obtain⟨k2,f2,l2,m2⟩:=rl_ K2)
    go_wp2_with fail
    go_meet
    case rel=>exact⟨by rw[hh];rfl,K0.out,K1.out,K2.out,HB⟩
 obtain⟨rfl,hcut⟩:=hcut
 obtain⟨j0,j1,j2,HBn⟩:=hcut
 replace j0:=Z j0
 replace j1:=Z j1
 replace j2:=Z j2
 clear k0 f0 l0 m0 k1 f1 l1 m1 k2 f2 l2 m2 K0 K1 K2 HB
 have K0:=j0;have K1:=j1;have K2:=j2;have HB:=HBn
 clear j0 j1 j2 HBn
 (obtain⟨k0,f0,l0,m0⟩:=rl_ K0;obtain⟨k1,f1,l1,m1⟩:=rl_ K1;obtain⟨k2,f2,l2,m2⟩:=rl_ K2)
 clear n3
 have hv4:=hv1.out
 generalize(!s.has || bt)=q1 at *
 replace hv1:=Z hv4
 clear hv4
 go_upto_if 51 with fail
 go_cut [] (fun wx=>TkW w g t1 u wx)
 case first =>
  as_aux_lemma =>
   cases q1 with
   | false =>
    have hv4:=hv1.out
    rw[if_neg (by decide)]at hv4
    go_wp2_with fail
    go_meet
    case rel=>exact TkW.mk hv4.symm K0.out K1.out K2.out HB
   | true =>
    have hv4:=hv1.out
    rw[if_pos rfl]at hv4
    replace hv4:=Z hv4
    (go_wp2_with(first|(with_reducible refine wlr (ldUp _ K1.out) rfl ?_)|(with_reducible refine wlg (ldUp _ K1.out) (by with_unfolding_all rfl) rfl ?_)|(with_reducible refine wsh (stSr_best _ K0.out (u)) rfl rfl ?_));generalize hWN:setRow _ _ _ _=WN;replace K0:=Z (show Blk WN _ _ _ by rw[←hWN];exact Blk.row K0.out.lt);replace K1:=Z (show Blk WN _ _ _ by rw[←hWN];exact Blk.rowOver (by omega) K1.out);replace K2:=Z (show Blk WN _ _ _ by rw[←hWN];exact Blk.rowOver (by omega) K2.out);replace HB:Below w.heap.size w WN:=(by rw[←hWN];exact Below.row HB (by omega) HB.size);clear hWN k0 f0 l0 m0 k1 f1 l1 m1 k2 f2 l2 m2;obtain⟨k0,f0,l0,m0⟩:=rl_ K0;obtain⟨k1,f1,l1,m1⟩:=rl_ K1;obtain⟨k2,f2,l2,m2⟩:=rl_ K2;unfold Halted)
    (go_wp2_with(first|(with_reducible refine wsh (stcSr_has _ K0.out (true)) rfl rfl ?_));generalize hWN:setRow _ _ _ _=WN;replace K0:=Z (show Blk WN _ _ _ by rw[←hWN];exact Blk.row K0.out.lt);replace K1:=Z (show Blk WN _ _ _ by rw[←hWN];exact Blk.rowOver (by omega) K1.out);replace K2:=Z (show Blk WN _ _ _ by rw[←hWN];exact Blk.rowOver (by omega) K2.out);replace HB:Below w.heap.size w WN:=(by rw[←hWN];exact Below.row HB (by omega) HB.size);clear hWN k0 f0 l0 m0 k1 f1 l1 m1 k2 f2 l2 m2;obtain⟨k0,f0,l0,m0⟩:=rl_ K0;obtain⟨k1,f1,l1,m1⟩:=rl_ K1;obtain⟨k2,f2,l2,m2⟩:=rl_ K2;unfold Halted)
    go_wp2_with fail
    go_meet
    case rel=>exact TkW.mk hv4.out.symm K0.out K1.out K2.out HB
 obtain⟨j0,j1,j2,HBn⟩:=hcut
 replace j0:=Z j0
 replace j1:=Z j1
 replace j2:=Z j2
 clear k0 f0 l0 m0 k1 f1 l1 m1 k2 f2 l2 m2 K0 K1 K2 HB
 have K0:=j0;have K1:=j1;have K2:=j2;have HB:=HBn
 clear j0 j1 j2 HBn
 (obtain⟨k0,f0,l0,m0⟩:=rl_ K0;obtain⟨k1,f1,l1,m1⟩:=rl_ K1;obtain⟨k2,f2,l2,m2⟩:=rl_ K2)
 clear hv1
 go_upto_region 7 with fail
 go_cut [] (fun wx=>TkW w g t2 u wx)
 case first =>
  as_aux_lemma =>
   have hwf:∀ f,Fence.wide.fn f:=fun _=>trivial
   refine(wpIn_wide (n:=9)).1 ?_
   refine wpIn_round_held (fun w'=>Below wc.heap.size wc w') (fun j => !decide (j∈[6])) U ?_
   have hS0:(fun w'=>Below wc.heap.size wc w') wc.drew:=(Below.refl _ _).drew
   have KA100:=Z (K0.out.drew)
   have KA101:=Z (K1.out.drew)
   have KA102:=Z (K2.out.drew)
   have HBt:=HB.drew
   refine S_tg 0 (.pointer (some ⟨g,49,none⟩)) rfl hS0 ?_
   refine S_tk 1 (.int .i64 t1.this) rfl hS0 (fun w' hw=>exec_load rfl U (run_load_cell (i:=49) (K0.out.below hw) rfl szInt nrInt)) ?_
   refine S_tk 2 (upV (u)) rfl hS0 (fun w' hw=>exec_load rfl U (ldUp (u) (K1.out.below hw))) ?_
   refine S_one 3 U rfl (fun K hK=>?_)
   go_simp
   gi_wp2_with(gi_at_call 38; refine(callsIn_wide.2 (n2.out _)).mono ?_;rintro e wch1 ⟨rfl,hN⟩)
   replace KA100:=hn_ KA100 hN
   replace KA101:=hn_ KA101 hN
   replace KA102:=hn_ KA102 hN
   replace HBt:=Below.on hN HBt
   replace hS0:=hS0.trans (hN.mono hS0.size)
   clear hN
   refine⟨(fun _=>hS0),?_⟩
   refine S_tg 4 (.int .i64 (max t1.this (n:Int))) rfl hS0 ?_
   refine S_tg 5 (.pointer (some ⟨g,49,none⟩)) rfl hS0 ?_
   refine S_store 6 (fun _=>trivial) U U rfl U (setRow wch1 (g) 39 (srA { t1 with this:=max t1.this (n:Int) })) (exec_store _ _ rfl U U (stcSr_this _ KA100.out (max t1.this (n:Int)))) (fun h=>absurd h (by decide)) ?_
   replace KA101:=Z (Blk.rowOver (g':=g) (t' := 39) (cs':=srA { t1 with this:=max t1.this (n:Int) }) (by first|assumption|omega) KA101.out)
   replace KA102:=Z (Blk.rowOver (g':=g) (t' := 39) (cs':=srA { t1 with this:=max t1.this (n:Int) }) (by first|assumption|omega) KA102.out)
   replace KA100:=Z (Blk.row (t := 39) (cs:=srA { t1 with this:=max t1.this (n:Int) }) KA100.out.lt)
   replace HBt:=Below.row HBt (g:=g) (t := 39) (cs:=srA { t1 with this:=max t1.this (n:Int) }) (by omega) HBt.size
   refine⟨by kernel_rfl,rfl,?_⟩
   obtain⟨WN,hWN⟩:∃ WN,(setRow wch1 (g) 39 (srA { t1 with this:=max t1.this (n:Int) }))=WN:=⟨_,rfl⟩
   rw[hWN]at KA100 KA101 KA102 HBt ⊢
   clear hWN hwf hS0 HB
   have HB:=HBt
   clear HBt
   clear K0 k0 f0 l0 m0
   clear K1 k1 f1 l1 m1
   clear K2 k2 f2 l2 m2
   have K0:=KA100
   clear KA100
   have K1:=KA101
   clear KA101
   have K2:=KA102
   clear KA102
   (obtain⟨k0,f0,l0,m0⟩:=rl_ K0;obtain⟨k1,f1,l1,m1⟩:=rl_ K1;obtain⟨k2,f2,l2,m2⟩:=rl_ K2)
   go_wp2_with fail
   go_meet
   case rel=>exact TkW.mk hv2.out.symm K0.out K1.out K2.out HB
 obtain⟨j0,j1,j2,HBn⟩:=hcut
 replace j0:=Z j0
 replace j1:=Z j1
 replace j2:=Z j2
 clear k0 f0 l0 m0 k1 f1 l1 m1 k2 f2 l2 m2 K0 K1 K2 HB
 have K0:=j0;have K1:=j1;have K2:=j2;have HB:=HBn
 clear j0 j1 j2 HBn
 (obtain⟨k0,f0,l0,m0⟩:=rl_ K0;obtain⟨k1,f1,l1,m1⟩:=rl_ K1;obtain⟨k2,f2,l2,m2⟩:=rl_ K2)
 clear hv2
 go_upto_region 8 with fail
 go_cut [80] (fun s80 wx=>s80=.bool (decide (q<(n:Int)) && decide (t2.new.b.slot<u.seen.b.slot))∧TkW w g t2 u wx)
 case first =>
  as_aux_lemma =>
   have e9:decide ((t2.new.b.slot:Int)<(u.seen.b.slot:Int))=decide (t2.new.b.slot<u.seen.b.slot):=decide_eq_decide.2 (by omega)
   by_cases h9:q<(n:Int)
   ·have h9b:decide (q<(n:Int))=true:=decide_eq_true h9
    obtain⟨b9,hb9⟩:∃ b,decide (t2.new.b.slot<u.seen.b.slot)=b:=⟨_,rfl⟩
    clear e9
    have hwf:∀ f,Fence.wide.fn f:=fun _=>trivial
    refine(wpIn_wide (n:=9)).1 ?_
    refine wpIn_round_held (fun w'=>Below wc.heap.size wc w') (fun j=>true) U ?_
    have hS0:(fun w'=>Below wc.heap.size wc w') wc.drew:=(Below.refl _ _).drew
    have KA100:=Z (K0.out.drew)
    have KA101:=Z (K1.out.drew)
    have KA102:=Z (K2.out.drew)
    have HBt:=HB.drew
    refine S_tk 0 (upV (u)) rfl hS0 (fun w' hw=>exec_load rfl U (ldUp (u) (K1.out.below hw))) ?_
    refine S_tg 2 (.pointer (some ⟨g,48,none⟩)) rfl hS0 ?_
    refine S_tk 3 (.int .i64 t2.last) rfl hS0 (fun w' hw=>exec_load rfl U (run_load_cell (i:=48) (K0.out.below hw) rfl szInt nrInt)) ?_
    simp only[Act.put,jA,jE,jF,jB,jC,jD]
    refine S_tg 4 (.pointer (some ⟨g,49,none⟩)) rfl hS0 ?_
    refine S_tk 5 (.int .i64 t2.this) rfl hS0 (fun w' hw=>exec_load rfl U (run_load_cell (i:=49) (K0.out.below hw) rfl szInt nrInt)) ?_
    refine S_tg 6 (.int .i64 m) rfl hS0 ?_
    simp only[Act.put,jA,jE,jF,jB,jC,jD]
    refine S_tk 7 (.int .i64 q) rfl hS0 (fun w' hw=>by first|exact exec_quo m q hq1 rfl (eval_put (by simp only[put_size];exact of_decide_eq_true rfl))|exact exec_quo m q hq1 rfl rfl) ?_
    refine S_one 1 U rfl (fun K hK=>?_)
    go_simp
    gi_wp2_with(gi_at_call 38; refine(callsIn_wide.2 (n2.out _)).mono ?_;rintro e wch1 ⟨rfl,hN⟩)
    replace KA100:=hn_ KA100 hN
    replace KA101:=hn_ KA101 hN
    replace KA102:=hn_ KA102 hN
    replace HBt:=Below.on hN HBt
    replace hS0:=hS0.trans (hN.mono hS0.size)
    clear hN
    refine⟨(fun _=>hS0),?_⟩
    refine S_tg 8 (.bool true) rfl hS0 ?_
    refine S_tg 9 (.bool true) rfl hS0 ?_
    simp only[Act.put,jA,jE,jF,jB,jC,jD]
    refine S_tg 10 (.pointer (some ⟨(g+1),0,none⟩)) rfl hS0 ?_
    refine S_tg 11 (.pointer (some ⟨(g+1),0,none⟩)) rfl hS0 ?_
    refine S_tg 12 (.pointer (some ⟨(g+1),0,none⟩)) rfl hS0 ?_
    simp only[Act.put,jA,jE,jF,jB,jC,jD]
    refine S_tk 13 (.int .u64 (u.seen.b.slot:Int)) rfl hS0 (fun w' hw=>exec_load rfl U (run_load_cell (i:=0) (K1.out.below hw) rfl szU64 nrU64)) ?_
    refine S_tg 14 (.pointer (some ⟨g,9,none⟩)) rfl hS0 ?_
    refine S_tg 15 (.pointer (some ⟨g,9,none⟩)) rfl hS0 ?_
    simp only[Act.put,jA,jE,jF,jB,jC,jD]
    refine S_tg 16 (.pointer (some ⟨g,9,none⟩)) rfl hS0 ?_
    refine S_tk 17 (.int .u64 (t2.new.b.slot:Int)) rfl hS0 (fun w' hw=>exec_load rfl U (run_load_cell (i:=9) (K0.out.below hw) rfl szU64 nrU64)) ?_
    refine S_tg 18 (.bool b9) rfl hS0 ?_
    simp only[Act.put,jA,jE,jF,jB,jC,jD]
    refine S_tg 19 (.bool b9) rfl hS0 ?_
    refine⟨by kernel_rfl,rfl,?_⟩
    obtain⟨WN,hWN⟩:∃ WN,wch1=WN:=⟨_,rfl⟩
    rw[hWN]at KA100 KA101 KA102 HBt ⊢
    clear hWN hwf hS0 HB
    have HB:=HBt
    clear HBt
    clear K0 k0 f0 l0 m0
    clear K1 k1 f1 l1 m1
    clear K2 k2 f2 l2 m2
    have K0:=KA100
    clear KA100
    have K1:=KA101
    clear KA101
    have K2:=KA102
    clear KA102
    (obtain⟨k0,f0,l0,m0⟩:=rl_ K0;obtain⟨k1,f1,l1,m1⟩:=rl_ K1;obtain⟨k2,f2,l2,m2⟩:=rl_ K2)
    go_wp2_with fail
    go_meet
    case rel=>exact⟨by rw[h9b,hb9];rfl,K0.out,K1.out,K2.out,HB⟩
   ·have h9b:decide (q<(n:Int))=false:=decide_eq_false h9
    have hwf:∀ f,Fence.wide.fn f:=fun _=>trivial
    refine(wpIn_wide (n:=9)).1 ?_
    refine wpIn_round_held (fun w'=>Below wc.heap.size wc w') (fun j=>true) U ?_
    have hS0:(fun w'=>Below wc.heap.size wc w') wc.drew:=(Below.refl _ _).drew
    have KA100:=Z (K0.out.drew)
    have KA101:=Z (K1.out.drew)
    have KA102:=Z (K2.out.drew)
    have HBt:=HB.drew
    refine S_tk 0 (upV (u)) rfl hS0 (fun w' hw=>exec_load rfl U (ldUp (u) (K1.out.below hw))) ?_
    refine S_tg 2 (.pointer (some ⟨g,48,none⟩)) rfl hS0 ?_
    refine S_tk 3 (.int .i64 t2.last) rfl hS0 (fun w' hw=>exec_load rfl U (run_load_cell (i:=48) (K0.out.below hw) rfl szInt nrInt)) ?_
    simp only[Act.put,jA,jE,jF,jB,jC,jD]
    refine S_tg 4 (.pointer (some ⟨g,49,none⟩)) rfl hS0 ?_
    refine S_tk 5 (.int .i64 t2.this) rfl hS0 (fun w' hw=>exec_load rfl U (run_load_cell (i:=49) (K0.out.below hw) rfl szInt nrInt)) ?_
    refine S_tg 6 (.int .i64 m) rfl hS0 ?_
    simp only[Act.put,jA,jE,jF,jB,jC,jD]
    refine S_tk 7 (.int .i64 q) rfl hS0 (fun w' hw=>by first|exact exec_quo m q hq1 rfl (eval_put (by simp only[put_size];exact of_decide_eq_true rfl))|exact exec_quo m q hq1 rfl rfl) ?_
    refine S_one 1 U rfl (fun K hK=>?_)
    go_simp
    gi_wp2_with(gi_at_call 38; refine(callsIn_wide.2 (n2.out _)).mono ?_;rintro e wch1 ⟨rfl,hN⟩)
    replace KA100:=hn_ KA100 hN
    replace KA101:=hn_ KA101 hN
    replace KA102:=hn_ KA102 hN
    replace HBt:=Below.on hN HBt
    replace hS0:=hS0.trans (hN.mono hS0.size)
    clear hN
    refine⟨(fun _=>hS0),?_⟩
    refine S_tg 8 (.bool false) rfl hS0 ?_
    refine S_tg 9 (.bool false) rfl hS0 ?_
    simp only[Act.put,jA,jE,jF,jB,jC,jD]
    refine S_sk 10 rfl hS0 ?_
    refine S_sk 11 rfl hS0 ?_
    refine S_sk 12 rfl hS0 ?_
    simp only[Act.put,jA,jE,jF,jB,jC,jD]
    refine S_sk 13 rfl hS0 ?_
    refine S_sk 14 rfl hS0 ?_
    refine S_sk 15 rfl hS0 ?_
    simp only[Act.put,jA,jE,jF,jB,jC,jD]
    refine S_sk 16 rfl hS0 ?_
    refine S_sk 17 rfl hS0 ?_
    refine S_sk 18 rfl hS0 ?_
    simp only[Act.put,jA,jE,jF,jB,jC,jD]
    refine S_tg 19 (.bool false) rfl hS0 ?_
    refine⟨by kernel_rfl,rfl,?_⟩
    obtain⟨WN,hWN⟩:∃ WN,wch1=WN:=⟨_,rfl⟩
    rw[hWN]at KA100 KA101 KA102 HBt ⊢
    clear hWN hwf hS0 HB
    have HB:=HBt
    clear HBt
    clear K0 k0 f0 l0 m0
    clear K1 k1 f1 l1 m1
    clear K2 k2 f2 l2 m2
    have K0:=KA100
    clear KA100
    have K1:=KA101
    clear KA101
    have K2:=KA102
    clear KA102
    (obtain⟨k0,f0,l0,m0⟩:=rl_ K0;obtain⟨k1,f1,l1,m1⟩:=rl_ K1;obtain⟨k2,f2,l2,m2⟩:=rl_ K2)
    go_wp2_with fail
    go_meet
    case rel=>exact⟨by rw[h9b];rfl,K0.out,K1.out,K2.out,HB⟩
 obtain⟨rfl,hcut⟩:=hcut
 obtain⟨j0,j1,j2,HBn⟩:=hcut
 replace j0:=Z j0
 replace j1:=Z j1
 replace j2:=Z j2
 clear k0 f0 l0 m0 k1 f1 l1 m1 k2 f2 l2 m2 K0 K1 K2 HB
 have K0:=j0;have K1:=j1;have K2:=j2;have HB:=HBn
 clear j0 j1 j2 HBn
 (obtain⟨k0,f0,l0,m0⟩:=rl_ K0;obtain⟨k1,f1,l1,m1⟩:=rl_ K1;obtain⟨k2,f2,l2,m2⟩:=rl_ K2)
 have hv4:t3=if(decide (q<(n:Int)) && decide (t2.new.b.slot<u.seen.b.slot))=true then { t2 with new:=u.seen } else t2:=hv3.out.trans (ifc9 (by simp))
 clear hv3 hq1 hq2 hq hm
 generalize(decide (q<(n:Int)) && decide (t2.new.b.slot<u.seen.b.slot))=q2 at *
 replace hv4:=Z hv4
 go_upto_if 80 with fail
 go_cut [] (fun wx=>TkW w g t3 u wx)
 case first =>
  as_aux_lemma =>
   cases q2 with
   | false =>
    have hv5:=hv4.out
    rw[if_neg (by decide)]at hv5
    go_wp2_with fail
    go_meet
    case rel=>exact TkW.mk hv5.symm K0.out K1.out K2.out HB
   | true =>
    have hv5:=hv4.out
    rw[if_pos rfl]at hv5
    replace hv5:=Z hv5
    (go_wp2_with(first|(with_reducible refine wsh (stSr_new _ K0.out (u.seen)) rfl rfl ?_));generalize hWN:setRow _ _ _ _=WN;replace K0:=Z (show Blk WN _ _ _ by rw[←hWN];exact Blk.row K0.out.lt);replace K1:=Z (show Blk WN _ _ _ by rw[←hWN];exact Blk.rowOver (by omega) K1.out);replace K2:=Z (show Blk WN _ _ _ by rw[←hWN];exact Blk.rowOver (by omega) K2.out);replace HB:Below w.heap.size w WN:=(by rw[←hWN];exact Below.row HB (by omega) HB.size);clear hWN k0 f0 l0 m0 k1 f1 l1 m1 k2 f2 l2 m2;obtain⟨k0,f0,l0,m0⟩:=rl_ K0;obtain⟨k1,f1,l1,m1⟩:=rl_ K1;obtain⟨k2,f2,l2,m2⟩:=rl_ K2;unfold Halted)
    go_wp2_with fail
    go_meet
    case rel=>exact TkW.mk hv5.out.symm K0.out K1.out K2.out HB
 obtain⟨j0,j1,j2,HBn⟩:=hcut
 replace j0:=Z j0
 replace j1:=Z j1
 replace j2:=Z j2
 clear k0 f0 l0 m0 k1 f1 l1 m1 k2 f2 l2 m2 K0 K1 K2 HB
 have K0:=j0;have K1:=j1;have K2:=j2;have HB:=HBn
 clear j0 j1 j2 HBn
 (obtain⟨k0,f0,l0,m0⟩:=rl_ K0;obtain⟨k1,f1,l1,m1⟩:=rl_ K1;obtain⟨k2,f2,l2,m2⟩:=rl_ K2)
 clear hv4
 go_upto_region 10 with fail
 go_cut [99] (fun s99 wx=>s99=.bool go∧TkW w g t3 u wx)
 case first =>
  as_aux_lemma =>
   have e9:decide ((t3.fin.b.slot:Int)<(u.fin.b.slot:Int))=decide (t3.fin.b.slot<u.fin.b.slot):=decide_eq_decide.2 (by omega)
   go_wp2_with(first|(with_reducible refine wlr (ldUp _ K1.out) rfl ?_)|(with_reducible refine wlg (ldUp _ K1.out) (by with_unfolding_all rfl) rfl ?_))
   (refine(n8.out _).mono ?_;rintro e w8 ⟨rfl,hN⟩;replace K0:=hn_ K0 hN;replace K1:=hn_ K1 hN;replace K2:=hn_ K2 hN;replace HB:Below w.heap.size w w8:=Below.on hN HB;clear hN k0 f0 l0 m0 k1 f1 l1 m1 k2 f2 l2 m2;obtain⟨k0,f0,l0,m0⟩:=rl_ K0;obtain⟨k1,f1,l1,m1⟩:=rl_ K1;obtain⟨k2,f2,l2,m2⟩:=rl_ K2)
   cases tw with
   | false =>
    go_wp2_with fail
    go_meet
    case rel=>exact⟨by rw[hgo.out];rfl,K0.out,K1.out,K2.out,HB⟩
   | true =>
    cases fst with
    | true =>
     have hg3:go=true:=by rw[hgo.out];rfl
     replace hg3:=Z hg3
     clear e9
     go_wp2_with fail
     go_meet
     case rel=>exact⟨by rw[hg3.out],K0.out,K1.out,K2.out,HB⟩
    | false =>
     have hg3:go=decide (t3.fin.b.slot<u.fin.b.slot):=by rw[hgo.out];rfl
     rw[←hg3]at e9
     replace hg3:=Z hg3
     go_wp2_with fail
     go_meet
     case rel=>exact⟨by first|rfl|rw[hg3.out]|(rw[←e9]),K0.out,K1.out,K2.out,HB⟩
 obtain⟨rfl,hcut⟩:=hcut
 obtain⟨j0,j1,j2,HBn⟩:=hcut
 replace j0:=Z j0
 replace j1:=Z j1
 replace j2:=Z j2
 clear k0 f0 l0 m0 k1 f1 l1 m1 k2 f2 l2 m2 K0 K1 K2 HB
 have K0:=j0;have K1:=j1;have K2:=j2;have HB:=HBn
 clear j0 j1 j2 HBn
 (obtain⟨k0,f0,l0,m0⟩:=rl_ K0;obtain⟨k1,f1,l1,m1⟩:=rl_ K1;obtain⟨k2,f2,l2,m2⟩:=rl_ K2)
 clear hgo n8
 cases go with
 | false =>
  have hS:S=t3:=hA2.out
  replace hS:=Z hS
  clear hA2
  (go_wp2_with(first|(with_reducible refine wlr (ldSr _ K0.out) rfl ?_)|(with_reducible refine wlg (ldSr _ K0.out) (by with_unfolding_all rfl) rfl ?_)|(with_reducible refine wsh (stSr _ K2.out (t3)) rfl rfl ?_));generalize hWN:setRow _ _ _ _=WN;replace K2:=Z (show Blk WN _ _ _ by rw[←hWN];exact Blk.row K2.out.lt);replace K0:=Z (show Blk WN _ _ _ by rw[←hWN];exact Blk.rowOver (by omega) K0.out);replace K1:=Z (show Blk WN _ _ _ by rw[←hWN];exact Blk.rowOver (by omega) K1.out);replace HB:Below w.heap.size w WN:=(by rw[←hWN];exact Below.row HB (by omega) HB.size);clear hWN k2 f2 l2 m2 k0 f0 l0 m0 k1 f1 l1 m1;obtain⟨k2,f2,l2,m2⟩:=rl_ K2;obtain⟨k0,f0,l0,m0⟩:=rl_ K0;obtain⟨k1,f1,l1,m1⟩:=rl_ K1;unfold Halted)
  go_wp2_with fail
  exact bodyPost_ret (results_cell2 rfl rfl (ldSr _ K2.out)) rfl ⟨by rw[hS.out];rfl,HB⟩
 | true =>
  have hS:S=tk:=hA2.out
  replace hS:=Z hS
  clear hA2
  go_wp2_with(first|(with_reducible refine wlr (ldSr _ K0.out) rfl ?_)|(with_reducible refine wlg (ldSr _ K0.out) (by with_unfolding_all rfl) rfl ?_)|(with_reducible refine wlr (ldUp _ K1.out) rfl ?_)|(with_reducible refine wlg (ldUp _ K1.out) (by with_unfolding_all rfl) rfl ?_))
  (refine(nt.out _).mono ?_;rintro e w9 ⟨rfl,hN⟩;replace K0:=hn_ K0 hN;replace K1:=hn_ K1 hN;replace K2:=hn_ K2 hN;replace HB:Below w.heap.size w w9:=Below.on hN HB;clear hN k0 f0 l0 m0 k1 f1 l1 m1 k2 f2 l2 m2;obtain⟨k0,f0,l0,m0⟩:=rl_ K0;obtain⟨k1,f1,l1,m1⟩:=rl_ K1;obtain⟨k2,f2,l2,m2⟩:=rl_ K2)
  (go_wp2_with(first|(with_reducible refine wsh (stSr _ K0.out (tk)) rfl rfl ?_));generalize hWN:setRow _ _ _ _=WN;replace K0:=Z (show Blk WN _ _ _ by rw[←hWN];exact Blk.row K0.out.lt);replace K1:=Z (show Blk WN _ _ _ by rw[←hWN];exact Blk.rowOver (by omega) K1.out);replace K2:=Z (show Blk WN _ _ _ by rw[←hWN];exact Blk.rowOver (by omega) K2.out);replace HB:Below w.heap.size w WN:=(by rw[←hWN];exact Below.row HB (by omega) HB.size);clear hWN k0 f0 l0 m0 k1 f1 l1 m1 k2 f2 l2 m2;obtain⟨k0,f0,l0,m0⟩:=rl_ K0;obtain⟨k1,f1,l1,m1⟩:=rl_ K1;obtain⟨k2,f2,l2,m2⟩:=rl_ K2;unfold Halted)
  (go_wp2_with(first|(with_reducible refine wlr (ldSr _ K0.out) rfl ?_)|(with_reducible refine wlg (ldSr _ K0.out) (by with_unfolding_all rfl) rfl ?_)|(with_reducible refine wsh (stSr _ K2.out (tk)) rfl rfl ?_));generalize hWN:setRow _ _ _ _=WN;replace K2:=Z (show Blk WN _ _ _ by rw[←hWN];exact Blk.row K2.out.lt);replace K0:=Z (show Blk WN _ _ _ by rw[←hWN];exact Blk.rowOver (by omega) K0.out);replace K1:=Z (show Blk WN _ _ _ by rw[←hWN];exact Blk.rowOver (by omega) K1.out);replace HB:Below w.heap.size w WN:=(by rw[←hWN];exact Below.row HB (by omega) HB.size);clear hWN k2 f2 l2 m2 k0 f0 l0 m0 k1 f1 l1 m1;obtain⟨k2,f2,l2,m2⟩:=rl_ K2;obtain⟨k0,f0,l0,m0⟩:=rl_ K0;obtain⟨k1,f1,l1,m1⟩:=rl_ K1;unfold Halted)
  go_wp2_with fail
  exact bodyPost_ret (results_cell2 rfl rfl (ldSr _ K2.out)) rfl ⟨by rw[hS.out];rfl,HB⟩
end
section
open BigFrame Go.RowKit Go.Phx Go.Shelf
attribute [local go_sem] Oper.semAt_some
theorem rw_bare{a b:Rw} (h:a.bare=b.bare):a.l=b.l:=by
 unfold Rw.bare at h
 injection h
theorem RwIn.of_bare{S:Nat→Prop}{w w2:World}{a b:Rw} (h:RwIn w b) (e:a.bare=b.bare) (r:RwS S w2 a):RwIn w2 a:=by
 have e2:=rw_bare e
 exact r.rw (by rw[e2];exact h.2.2.1) (by rw[e2];exact h.2.2.2)
theorem LtIn.of_bare{S:Nat→Prop}{w w2:World}{a b:Lt} (h:LtIn w b) (e:a.bare=b.bare) (r:RwS S w2 a.br):LtIn w2 a:=by
 unfold Lt.bare at e
 injection e with e1 e2 e3
 exact⟨e1 ▸ h.1,e2 ▸ h.2.1,h.2.2.of_bare e3 r⟩
theorem CmIn.of_bare{S:Nat→Prop}{w w2:World}{a b:Cm} (h:CmIn w b) (e:a.bare=b.bare) (r:RwS S w2 a.ks):CmIn w2 a:=by
 unfold Cm.bare at e
 injection e with e1 e2
 exact⟨h.1.of_bare e1 r,e2 ▸ h.2⟩
theorem UpIn.of_bare{S:Nat→Prop}{w w2:World}{a b:Up} (h:UpIn w b) (e:a.bare=b.bare) (r:RwS S w2 a.seen.br∧RwS S w2 a.next.ks∧RwS S w2 a.nb∧RwS S w2 a.fin.br∧RwS S w2 a.fb):UpIn w2 a:=by
 obtain⟨h0,h1,h2,h3,h4,h5,h6,h7⟩:=h
 obtain⟨r0,r1,r2,r3,r4⟩:=r
 unfold Up.bare at e
 injection e with e0 e1 e2 e3 e4 e5 e6 e7
 exact⟨h0.of_bare e0 r0,h1.of_bare e1 r1,h2.of_bare e2 r2,h3.of_bare e3 r3,h4.of_bare e4 r4,e5 ▸ h5,e6 ▸ h6,e7 ▸ h7⟩
theorem RwS.wiped{n m:Nat}{gs:List Nat}{w:World}{r:Rw} (h:RwS (fun x=>n≤x) w r) (hm:m≤n) (hg:∀ g∈gs,g<n):RwS (fun x=>n≤x) (wipe m gs w) r :=
 ⟨h.1.keep (by rw[wipe_size];exact Nat.le_refl _) fun b hb _=>⟨hb,wipe_block (Nat.le_trans hm hb) fun hm=>by have:=hg b hm;omega⟩,h.2⟩
theorem UpRows.wiped{n m:Nat}{gs:List Nat}{w:World}{a:Up} (h:RwS (fun x=>n≤x) w a.seen.br∧RwS (fun x=>n≤x) w a.next.ks∧RwS (fun x=>n≤x) w a.nb∧RwS (fun x=>n≤x) w a.fin.br∧RwS (fun x=>n≤x) w a.fb) (hm:m≤n) (hg:∀ g∈gs,g<n) :
  RwS (fun x=>n≤x) (wipe m gs w) a.seen.br∧RwS (fun x=>n≤x) (wipe m gs w) a.next.ks∧RwS (fun x=>n≤x) (wipe m gs w) a.nb∧RwS (fun x=>n≤x) (wipe m gs w) a.fin.br∧RwS (fun x=>n≤x) (wipe m gs w) a.fb :=
 ⟨h.1.wiped hm hg,h.2.1.wiped hm hg,h.2.2.1.wiped hm hg,h.2.2.2.1.wiped hm hg,h.2.2.2.2.wiped hm hg⟩
theorem HasK.to{w w':World} (h:HasK w) (k:Rds w w'):HasK w':=⟨fun i hi=>k.2 _ _ _ (h.1 i hi),Nat.lt_of_lt_of_le h.2 k.1⟩
structure UpW (m:Nat) (gs:List Nat) (w:World) (u:Up):Prop where
 h:UpIn (wipe m gs w) u
structure SrW (m:Nat) (gs:List Nat) (w:World) (s:Sr):Prop where
 h:SrIn (wipe m gs w) s
structure HkW (gs:List Nat) (w:World):Prop where
 h:HasK (wipe 0 gs w)
section
variable {bs gs:List Nat}{m g:Nat}{w W:World}{u:Up}{s:Sr}
theorem UpW.kp(h:UpW m gs w u) (k:KpL bs w W) (hS:∀ b∈bs,b<m∨b∈gs∨w.heap.size≤b:=by first|(simp;done)|(simp;omega)|omega|(simp;assumption)):UpW m gs W u:=⟨h.h.to (Rds.kp k hS)⟩
theorem SrW.kp(h:SrW m gs w s) (k:KpL bs w W) (hS:∀ b∈bs,b<m∨b∈gs∨w.heap.size≤b:=by first|(simp;done)|(simp;omega)|omega|(simp;assumption)):SrW m gs W s:=⟨h.h.to (Rds.kp k hS)⟩
theorem HkW.kp(h:HkW gs w) (k:KpL bs w W) (hS:∀ b∈bs,b∈gs∨w.heap.size≤b:=by first|(simp;done)|(simp;omega)|omega|(simp;assumption)):HkW gs W:=⟨h.h.to (Rds.kp k fun b hb=>.inr (hS b hb))⟩
theorem SrW.fresh(h:SrW m gs w s) (k:Below w.heap.size w W) (hg:w.heap.size≤g):SrW m (g :: gs) W s:=⟨h.h.to (Rds.fresh k hg)⟩
theorem Rds.freshL(k:Below w.heap.size w W) (hg:∀ g∈gs,w.heap.size≤g):Rds w (wipe 0 gs W):=⟨by rw[wipe_size];exact k.size,fun b o v h=>by
 have hl:=cell_lt h
 rw[wipe_cell (Nat.zero_le _) (fun hm=>by have:=hg b hm;omega)]
 exact(k.cell (p:=⟨b,o,none⟩) hl).trans h⟩
theorem HkW.ofL(h:HasK w) (k:Below w.heap.size w W) (hg:∀ g∈gs,w.heap.size≤g):HkW gs W:=⟨h.to (Rds.freshL k hg)⟩
theorem UpW.up(h:UpW m gs w u):UpIn w u:=h.h.to (Rds.wiped _ _ _)
theorem SrW.sr(h:SrW m gs w s):SrIn w s:=h.h.to (Rds.wiped _ _ _)
theorem HkW.hk(h:HkW gs w):HasK w:=h.h.to (Rds.wiped _ _ _)
end
def WnOk(m:Nat) (gs:List Nat) (W:World) (n:Wn) (ys:List Ex):Prop:=n.len=ys.length∧ys.length≤n.cap∧CsS (fun b=>b∉gs∧m≤b) W n.addr (ExL ys)
theorem WnOk.kp{m:Nat}{gs:List Nat}{W W':World}{n:Wn}{ys:List Ex}{bs:List Nat} (h:WnOk m gs W n ys) (k:KpL bs W W') (hS:∀ b∈bs,b<m∨b∈gs∨W.heap.size≤b:=by first|(simp;done)|(simp;omega)|omega|(simp;assumption)):WnOk m gs W' n ys :=
 ⟨h.1,h.2.1,h.2.2.keep k.size fun b hb hl=>⟨hb,k.block b hl fun hm=>by
  rcases hS b hm with e|e|e
  ·omega
  ·exact hb.1 e
  ·omega⟩⟩
theorem WnOk.fresh{m g:Nat}{gs:List Nat}{W W':World}{n:Wn}{ys:List Ex} (h:WnOk m gs W n ys) (k:Below W.heap.size W W') (hg:W.heap.size≤g):WnOk m (g :: gs) W' n ys :=
 ⟨h.1,h.2.1,h.2.2.keep k.size fun b hb hl=>⟨⟨by simp only[List.mem_cons,not_or];exact⟨by omega,hb.1⟩,hb.2⟩,k.block b hl⟩⟩
theorem if_apply(s:Sr) (u:Up) (now:Nat):(if checkE s u now=0 then applyS s u now else s)=applyS s u now:=by
 split
 ·rfl
 ·rename_i h
  unfold applyS
  rw[if_neg h]
theorem cupdate_calls(g0 g1 m:Nat) (gs:List Nat) (hgs:g1∈gs) (hne:g0≠g1) (root:Bytes) (H:Hl) (xs:List Ex) (hxs:xs.length≤7) (u:Up) (hs:UpSm u) (now:Nat) (hn:now<18446744073709551616) (w:World) (P0:Blk w g0 100 #[.string (bs root),.pointer (some ⟨g1,0,none⟩)]) (P1:Blk w g1 97 (hlA H)) (hw:WnOk m gs w H.w xs) (hm:m≤w.heap.size) (hgl:∀ g∈gs,g<w.heap.size)
  (hk:HkW gs w) (hsr:SrW m gs w H.s) (w0:World) (hu:UpIn w0 u) :
  Calls Tryz.prog 9 #[.pointer (some ⟨g0,0,none⟩),.string (bs (putI (upI u))),.int .u64 (now:Int)] w (fun e w'=>e=.returned (.int .i64 (checkE H.s u now)) ∧
   ∃ (s':Sr) (W:Wn) (ys:List Ex),Blk w' g1 97 (hlA ⟨s',W⟩)∧s'.bare=(applyS H.s u now).bare∧SrW m gs w' s'∧WnOk m gs w' W ys∧ys.length≤xs.length+1∧KpL [g1] w w'):=by
 have n1:=Z (fun W k=>ready_calls g0 root (some ⟨g1,0,none⟩) W k)
 have n2:=Z (from_calls u hs hu.1.1.1 hu.1.1.2.1 hu.1.2.1.2.2 hu.2.2.2.1.1.1 hu.2.2.2.1.1.2.1 hu.2.2.2.1.2.1.2.2 hu.2.2.2.2.2.1 hu.2.2.2.2.2.2.2 w)
 have hg0:=P0.lt
 have hg1:=P1.lt
 have K0:=Z P0
 have K1:=Z P1
 have RX:=Z hw.2.2
 have hl:=hw.1
 have hc:=hw.2.1
 replace hgl:=Z hgl
 have HK:=Z (KpL.refl [] w)
 obtain⟨sx,hsx⟩:∃ sx,putI (upI u)=sx:=⟨_,rfl⟩
 rw[hsx]at n2 ⊢
 replace hu:=Z hu
 have HH:=Z hk
 have S2:=Z hsr
 clear P0 P1 hw hs hsx hk hsr
 (obtain⟨k0,f0,l0,m0⟩:=rl_ K0;obtain⟨k1,f1,l1,m1⟩:=rl_ K1)
 go_enter Tryz.func9, Tryz.ntmps9
 go_wp2_with fail
 refine(n1.out _ K0.out).mono ?_
 rintro e w' ⟨rfl,hww⟩
 obtain rfl:w=w':=hww.symm
 clear hww
 simp only[readyP,Option.isSome_some,if_true]
 go_wp2_with fail
 refine n2.out.mono ?_
 rintro e w1 ⟨u',rfl,hbu,hrows,hB9⟩
 have hN:=KpL.of (bs:=[]) hB9
 have NU:UpW m gs w1 u':=⟨hu.out.of_bare hbu (UpRows.wiped hrows hm hgl.out)⟩
 replace hbu:=Z hbu
 clear hrows hB9 n1 n2
 (clear k0 f0 l0 m0 k1 f1 l1 m1;replace K0:=bK K0 hN;replace K1:=bK K1 hN;replace RX:=Z (RX.out.kp hN);replace S2:=Z (S2.out.kp hN);replace HH:=Z (HH.out.kp hN);replace HK:=jK HK hN;clear hN;(obtain⟨k0,f0,l0,m0⟩:=rl_ K0;obtain⟨k1,f1,l1,m1⟩:=rl_ K1))
 have U2:=Z NU
 clear NU
 (go_wp2_with(first|(with_reducible refine wsh (stUp (Up.zero) (Blk.new0 w1 37 (upA (Up.zero))) (u')) rfl rfl ?_));generalize hWN:setRow _ _ _ _=w2;obtain⟨g2,hgj⟩:∃ g,(World.heap w1).size=g:=⟨_,rfl⟩;have hN:KpL [] w1 w2:=(by rw[←hWN];exact((KpL.refl _ _).alloc _).row (.inr (Nat.le_refl _)) (by simp));replace K2:=Z (show Blk w2 g2 _ (upA (u')) by rw[←hWN,←hgj];exact Blk.row (by simp));have h0_2:g0<g2:=(by rw[←hgj];exact K0.out.lt);have h1_2:g1<g2:=(by rw[←hgj];exact K1.out.lt);have hw_2:w.heap.size≤g2:=(by rw[←hgj];exact HK.out.size);have hz_2:(World.heap w1).size≤g2:=(by rw[←hgj];exact Nat.le_refl _);(try rw[hgj]);clear hWN hgj k0 f0 l0 m0 k1 f1 l1 m1;replace K0:=bK K0 hN;replace K1:=bK K1 hN;replace RX:=Z (RX.out.kp hN);replace S2:=Z (S2.out.kp hN);replace HH:=Z (HH.out.kp hN);replace U2:=Z (U2.out.kp hN);replace HK:=jK HK hN;clear hN;obtain⟨k0,f0,l0,m0⟩:=rl_ K0;obtain⟨k1,f1,l1,m1⟩:=rl_ K1;obtain⟨k2,f2,l2,m2⟩:=rl_ K2;unfold Halted)
 go_wp2_with fail
 have n3:=Z (fun W (hB:Below w2.heap.size w2 W)=>lgapply_calls H.s u' now W (HH.out.hk.on hB) (S2.out.sr.below hB) (U2.out.up.below hB) hn)
 have hwf:∀ f,Fence.wide.fn f:=fun _=>trivial
 refine(wpIn_wide (n:=9)).1 ?_
 refine wpIn_round_held (fun w'=>Below w2.heap.size w2 w') (fun j => !decide (j∈[13,14])) U ?_
 have hS0:(fun w'=>Below w2.heap.size w2 w') w2.drew:=(Below.refl _ _).drew
 refine S_tg 0 (.pointer (some ⟨g0,0,none⟩)) rfl hS0 ?_
 refine S_takeT [1,2,3,4,5,6,7,10,11,12,13,14] (fun _=>trivial) 1 (.pointer (some ⟨g0,0,none⟩)) U rfl U U U U (onlyN_panic _ _) hS0 U (fun w' hw=>by go_simp) ?_
 simp only[Act.put,jA,jE,jF,jB,jC,jD]
 refine S_takeT [2,3,4,5,6,7,10,11,12,13,14] (fun _=>trivial) 2 (.pointer (some ⟨g0,0,none⟩)) U rfl U U U U (onlyN_panic _ _) hS0 U (fun w' hw=>by go_simp) ?_
 refine S_takeT [3,4,5,6,7,10,11,12,13,14] (fun _=>trivial) 3 (.pointer (some ⟨g0,1,none⟩)) U rfl U U U U (onlyN_panic _ _) hS0 U (fun w' hw=>by go_simp) ?_
 simp only[Act.put,jA,jE,jF,jB,jC,jD]
 refine S_takeT [4,5,6,7,10,11,12,13,14] (fun _=>trivial) 4 (.pointer (some ⟨g1,0,none⟩)) U rfl U U U U (onlyN_panic _ _) hS0 U (fun w' hw=>by exact exec_load rfl U (run_load_cell (i:=1) (K0.out.below hw) rfl szHp nrHp)) ?_
 refine S_takeT [5,6,7,10,11,12,13,14] (fun _=>trivial) 5 (.pointer (some ⟨g1,0,none⟩)) U rfl U U U U (onlyN_panic _ _) hS0 U (fun w' hw=>by go_simp) ?_
 simp only[Act.put,jA,jE,jF,jB,jC,jD]
 refine S_takeT [6,7,10,11,12,13,14] (fun _=>trivial) 6 (.pointer (some ⟨g1,0,none⟩)) U rfl U U U U (onlyN_panic _ _) hS0 U (fun w' hw=>by go_simp) ?_
 refine S_takeT [7,10,11,12,13,14] (fun _=>trivial) 7 (srV H.s) U rfl U U U U (onlyN_panic _ _) hS0 U (fun w' hw=>by exact exec_load rfl U (ldHl_s H (K1.out.below hw))) ?_
 simp only[Act.put,jA,jE,jF,jB,jC,jD]
 refine S_takeT [8,10,11,12,13,14] (fun _=>trivial) 8 (upV (u')) U rfl U U U U (onlyN_panic _ _) hS0 U (fun w' hw=>exec_load rfl U (ldUp (u') (K2.out.below hw))) ?_
 refine S_takeT [9,10,11,12,13,14] (fun _=>trivial) 9 (.int .u64 (now:Int)) U rfl U U U U (onlyN_panic _ _) hS0 U (fun w' hw=>by go_simp) ?_
 simp only[Act.put,jA,jE,jF,jB,jC,jD]
 refine S_one 10 U rfl (fun K hK=>?_)
 go_simp
 gi_wp2_with(gi_at_call 8; refine(callsIn_wide.2 (n3.out _ hS0)).mono ?_;rintro e w2h1 ⟨rfl,hN⟩)
 replace hS0:=hS0.trans (hN.mono hS0.size)
 clear hN
 refine⟨(fun _=>hS0),?_⟩
 refine S_tg 11 (srV (applyS H.s u' now)) rfl hS0 ?_
 refine S_tg 12 (.int .i64 (checkE H.s u' now)) rfl hS0 ?_
 simp only[Act.put,jA,jE,jF,jB,jC,jD]
 refine S_one 13 U rfl (fun K hK=>?_)
 go_simp
 gi_wp2_with(gi_at_call 43; refine(callsIn_wide.2 (goes_calls g0 g1 (fun b=>b∉gs∧m≤b) (fun b h e=>h.1 (e ▸ hgs)) hne root H xs hxs (applyS H.s u' now) (checkE H.s u' now) _ (K0.out.below hS0) (K1.out.below hS0) hl hc (fun b h1 _=>⟨fun hx=>by have h2:=hgl.out b hx;have h3:=HK.out.size;have h4:=hS0.size;omega,by have h3:=HK.out.size;have h4:=hS0.size;omega⟩) (RX.out.below hS0))).mono ?_;rintro e w2h2 ⟨rfl,W9,ys,q1,q2,q3,q4,q5,q6⟩)
 refine⟨(fun h=>absurd h (by decide)),?_⟩
 refine S_go 14 (fun _=>trivial) U U rfl U (.int .i64 (checkE H.s u' now)) w2h2 (by first|(go_simp;done)|(go_simp;rfl)) (fun h=>absurd h (by decide)) ?_
 refine⟨by kernel_rfl,rfl,?_⟩
 (try simp only[Act.put,jA,jE,jF,jB,jC,jD])
 go_wp2_with fail
 have T:KpL [g1] w2 w2h2:=KpL.join (KpL.of hS0) q6 (by simp)
 have T0:KpL [g1] w w2:=HK.out.weak (by simp)
 have e1:checkE H.s u' now=checkE H.s u now:=by rw[checkE_bare H.s u',checkE_bare H.s u,hbu.out]
 have e2:(applyS H.s u' now).bare=(applyS H.s u now).bare:=by rw[applyS_bare,applyS_bare,hbu.out]
 rw[if_apply]at q1
 exact bodyPost_ret (v:=.int .i64 (checkE H.s u' now)) (by simp[results,Tryz.results9, go_sem]) rfl ⟨by rw[e1],applyS H.s u' now,W9,ys,q1,e2,⟨applyS_in now (S2.out.kp T (by simp[hgs])).h (U2.out.kp T (by simp[hgs])).h⟩,⟨q2,q4,q5⟩,q3,KpL.join T0 T (by simp)⟩
end
section
open BigFrame Go.RowKit Go.Phx Go.Shelf
attribute [local go_sem] Oper.semAt_some
theorem beginE_bare(root:Bytes) (b:Bt):beginE root b=beginE root b.bare:=rfl
theorem BtIn.of_bare{S:Nat→Prop}{w w2:World}{a b:Bt} (h:BtIn w b) (e:a.lt.bare=b.lt.bare∧a.now.bare=b.now.bare∧a.br.bare=b.br.bare) (r:RwS S w2 a.lt.br∧RwS S w2 a.now.ks∧RwS S w2 a.br):BtIn w2 a :=
 ⟨h.1.of_bare e.1 r.1,h.2.1.of_bare e.2.1 r.2.1,h.2.2.of_bare e.2.2 r.2.2⟩
structure BtX (m:Nat) (gs:List Nat) (w:World) (b:Bt):Prop where
 h:BtIn (wipe m gs w) b
theorem BtX.kp{bs gs:List Nat}{m:Nat}{w W:World}{b:Bt} (h:BtX m gs w b) (k:KpL bs w W) (hS:∀ x∈bs,x<m∨x∈gs∨w.heap.size≤x:=by first|(simp;done)|(simp;omega)|omega|(simp;assumption)):BtX m gs W b:=⟨h.h.to (Rds.kp k hS)⟩
theorem BtX.bt{gs:List Nat}{m:Nat}{w:World}{b:Bt} (h:BtX m gs w b):BtIn w b:=h.h.to (Rds.wiped _ _ _)
theorem Rds.move{m g0 g4:Nat}{w W:World} (k:KpL [g0] w W) (h0:g0<m) (hg:w.heap.size≤g4):Rds (wipe m [] w) (wipe m [g4] W):=by
 refine⟨by rw[wipe_size,wipe_size];exact k.size,fun b o v h=>?_⟩
 have hn:=wipe_ne h
 rw[wipe_cell hn.1 hn.2]at h
 have hl:=cell_lt h
 rw[wipe_cell hn.1 (by simp;omega)]
 exact(World.cell?_of_block (w:=w) (k.block b hl (by simp;omega))).trans h
structure HkH (w:World):Prop where
 h:HasK w
theorem HkH.kp{gs:List Nat}{w W:World} (h:HkH w) (k:KpL gs w W) (hS:∀ x∈gs,w.heap.size≤x:=by first|(simp;done)|(simp;omega)|omega|(simp;assumption)):HkH W:=⟨h.h.on (k.below (Nat.le_refl _) hS)⟩
theorem cboot_calls(g0:Nat) (root:Bytes) (b:Bt) (hs:BtSm b) (w:World) (P0:Blk w g0 100 #[.string (bs root),.pointer none]) (hk:HasK w) (w0:World) (hb:BtIn w0 b) :
  Calls Tryz.prog 17 #[.pointer (some ⟨g0,0,none⟩),.string (bs (putI (btI b)))] w (fun e w'=>e=.returned (.int .i64 (beginE root b))∧KpL [g0] w w' ∧
   (beginE root b≠0→Blk w' g0 100 #[.string (bs root),.pointer none]) ∧
   (beginE root b=0→∃ (g1:Nat) (b':Bt) (W:Wn) (ys:List Ex),w.heap.size≤g1∧Blk w' g0 100 #[.string (bs root),.pointer (some ⟨g1,0,none⟩)]∧Blk w' g1 97 (hlA ⟨beginP b',W⟩)∧b'.bare=b.bare∧SrW w.heap.size [g1] w' (beginP b')∧WnOk w.heap.size [g1] w' W ys∧ys.length=1)):=by
 have n1:=Z (fun W k=>ready_calls g0 root none W k)
 have n2:=Z (bootFrom_calls b hs hb.1.1.1 hb.1.1.2.1 hb.1.2.1.2.2 w)
 have hg0:=P0.lt
 have K0:=Z P0
 have HK:=Z (KpL.refl [] w)
 obtain⟨sx,hsx⟩:∃ sx,putI (btI b)=sx:=⟨_,rfl⟩
 rw[hsx]at n2 ⊢
 replace hb:=Z hb
 have HH:=Z (HkH.mk hk)
 clear P0 hs hsx hk
 (obtain⟨k0,f0,l0,m0⟩:=rl_ K0)
 go_enter Tryz.func17, Tryz.ntmps17
 go_wp2_with fail
 refine(n1.out _ K0.out).mono ?_
 rintro e w' ⟨rfl,hww⟩
 obtain rfl:w=w':=hww.symm
 clear hww
 simp only[readyP,Option.isSome_none,if_false]
 go_wp2_with fail
 refine n2.out.mono ?_
 rintro e w1 ⟨b',rfl,hbb,hrows,hB9⟩
 have hN:=KpL.of (bs:=[]) hB9
 have NU:BtX w.heap.size [] w1 b':=⟨hb.out.of_bare hbb ⟨hrows.1.wiped (Nat.le_refl _) (by simp),hrows.2.1.wiped (Nat.le_refl _) (by simp),hrows.2.2.wiped (Nat.le_refl _) (by simp)⟩⟩
 replace hbb:=Z hbb
 have hE:=Z (show beginE root b'=beginE root b by rw[beginE_bare root b',beginE_bare root b];unfold Bt.bare;rw[hbb.out.1,hbb.out.2.1,hbb.out.2.2])
 clear hrows hB9 n1 n2 hb
 (clear k0 f0 l0 m0;replace K0:=bK K0 hN;replace HH:=Z (HH.out.kp hN);replace HK:=jK HK hN;clear hN;(obtain⟨k0,f0,l0,m0⟩:=rl_ K0))
 have U2:=Z NU
 clear NU
 (go_wp2_with(first|(with_reducible refine wsh (stBt (Bt.zero) (Blk.new0 w1 59 (btA (Bt.zero))) (b')) rfl rfl ?_));generalize hWN:setRow _ _ _ _=w2;obtain⟨g2,hgj⟩:∃ g,(World.heap w1).size=g:=⟨_,rfl⟩;have hN:KpL [] w1 w2:=(by rw[←hWN];exact((KpL.refl _ _).alloc _).row (.inr (Nat.le_refl _)) (by simp));replace K2:=Z (show Blk w2 g2 _ (btA (b')) by rw[←hWN,←hgj];exact Blk.row (by simp));have h0_2:g0<g2:=(by rw[←hgj];exact K0.out.lt);have hw_2:w.heap.size≤g2:=(by rw[←hgj];exact HK.out.size);have hz_2:(World.heap w1).size≤g2:=(by rw[←hgj];exact Nat.le_refl _);(try rw[hgj]);clear hWN hgj k0 f0 l0 m0;replace K0:=bK K0 hN;replace HH:=Z (HH.out.kp hN);replace U2:=Z (U2.out.kp hN);replace HK:=jK HK hN;clear hN;obtain⟨k0,f0,l0,m0⟩:=rl_ K0;obtain⟨k2,f2,l2,m2⟩:=rl_ K2;unfold Halted)
 go_wp2_with fail
 have n3:=Z (fun W (hB:Below w2.heap.size w2 W)=>begin_calls root b' W (HH.out.h.on hB) (U2.out.bt.below hB))
 go_cut [6,7] (fun s6 s7 wx=>∃ g3,s6=.int .i64 (beginE root b')∧s7=.pointer (some ⟨g3,0,none⟩)∧w2.heap.size≤g3∧Blk wx g3 39 (srA (beginS root b'))∧KpL [] w2 wx)
 case first =>
  have hwf:∀ f,Fence.wide.fn f:=fun _=>trivial
  refine(wpIn_wide (n:=9)).1 ?_
  refine wpIn_round_held (fun w'=>Below w2.heap.size w2 w') (fun j=>true) U ?_
  have hS0:(fun w'=>Below w2.heap.size w2 w') w2.drew:=(Below.refl _ _).drew
  refine S_tg 0 (.pointer (some ⟨g0,0,none⟩)) rfl hS0 ?_
  refine S_tg 1 (.pointer (some ⟨g0,0,none⟩)) rfl hS0 ?_
  simp only[Act.put,jA,jE,jF,jB,jC,jD]
  refine S_tg 2 (.pointer (some ⟨g0,0,none⟩)) rfl hS0 ?_
  refine S_tk 3 (.string (bs root)) rfl hS0 (fun w' hw=>by exact exec_load rfl U (run_load_cell (i:=0) (K0.out.below hw) rfl szStr nrStr)) ?_
  simp only[Act.put,jA,jE,jF,jB,jC,jD]
  refine S_tk 4 (btV (b')) rfl hS0 (fun w' hw=>exec_load rfl U (ldBt (b') (K2.out.below hw))) ?_
  refine S_list [5,9] U (by decide) ⟨?_,?_,trivial⟩
  ·show wpOpIn _ _ _ _ _ 5 _ _ _
   refine op_call (nd:=fun j=>true) (S:=fun w'=>Below w2.heap.size w2 w') (i:=5) rfl (fun K hK=>?_)
   go_simp
   gi_wp2_with(gi_at_call 48; refine(callsIn_wide.2 (n3.out _ hS0)).mono ?_;rintro e w2h1 ⟨rfl,hN⟩)
   replace hS0:=hS0.trans (hN.mono hS0.size)
   clear hN
   refine⟨(fun _=>hS0),?_⟩
   refine S_tg 6 (.tuple #[srV (beginS root b'),.int .i64 (beginE root b')]) rfl hS0 ?_
   simp only[Act.put,jA,jE,jF,jB,jC,jD]
   refine S_tg 7 (srV (beginS root b')) rfl hS0 ?_
   refine S_tg 8 (.int .i64 (beginE root b')) rfl hS0 ?_
   simp only[Act.put,jA,jE,jF,jB,jC,jD]
   obtain⟨x7n2,hbx⟩:∃ x,w2h1.heap.size=x:=⟨_,rfl⟩
   have hbx2:=hbx
   (try simp[go_sem]at hbx2)
   have hb7:w2.heap.size≤x7n2:=by rw[←hbx];exact hS0.size
   have KA7:=Blk.new0 w2h1 39 (srA Sr.zero)
   rw[hbx]at KA7
   replace KA7:=Z KA7
   replace hS0:Below _ _ (w2h1.alloc (.cells (srA Sr.zero) 39)):=hS0.alloc hS0.size _
   refine S_go 9 (fun _=>trivial) U U rfl U (.pointer (some ⟨x7n2,0,none⟩)) (w2h1.alloc (.cells (srA Sr.zero) 39)) (by first|(go_simp;done)|(go_simp;rfl)|(go_simp;exact⟨hbx2,rfl⟩)) (fun _=>hS0) ?_
   clear hbx hbx2
   have hS1:(fun w'=>Below w2.heap.size w2 w') (setRow (w2h1.alloc (.cells (srA Sr.zero) 39)) (x7n2) 39 (srA (beginS root b'))):=Below.row hS0 hb7 hS0.size
   refine S_store 10 (fun _=>trivial) U U rfl U (setRow (w2h1.alloc (.cells (srA Sr.zero) 39)) (x7n2) 39 (srA (beginS root b'))) (exec_store _ _ rfl U U (stSr Sr.zero KA7.out (beginS root b'))) (fun _=>hS1) ?_
   clear hS0
   have hS0:=hS1
   clear hS1
   replace KA7:=Z (Blk.row (t := 39) (cs:=srA (beginS root b')) KA7.out.lt)
   refine S_tg 11 (.int .i64 (beginE root b')) rfl hS0 ?_
   refine⟨by kernel_rfl,rfl,?_⟩
   (try simp only[Act.put,jA,jE,jF,jB,jC,jD])
   go_wp2_with fail
   go_meet
   case rel=>exact⟨_,rfl,rfl,hb7,KA7.out,KpL.of hS0⟩
  ·show wpOpIn _ _ _ _ _ 9 _ _ _
   obtain⟨x7n3,hbx⟩:∃ x,w2.drew.heap.size=x:=⟨_,rfl⟩
   have hbx2:=hbx
   (try simp[go_sem]at hbx2)
   have hb7:w2.heap.size≤x7n3:=by rw[←hbx];exact hS0.size
   have KA7:=Blk.new0 w2.drew 39 (srA Sr.zero)
   rw[hbx]at KA7
   replace KA7:=Z KA7
   replace hS0:Below _ _ (w2.drew.alloc (.cells (srA Sr.zero) 39)):=hS0.alloc hS0.size _
   refine op_go (nd:=fun j=>true) (S:=fun w'=>Below w2.heap.size w2 w') (i:=9) (fun _=>trivial) U rfl U (.pointer (some ⟨x7n3,0,none⟩)) (w2.drew.alloc (.cells (srA Sr.zero) 39)) (by first|(go_simp;done)|(go_simp;rfl)|(go_simp;exact⟨hbx2,rfl⟩)) (fun _=>hS0) ?_
   clear hbx hbx2
   refine S_one 5 U rfl (fun K hK=>?_)
   go_simp
   gi_wp2_with(gi_at_call 48; refine(callsIn_wide.2 (n3.out _ hS0)).mono ?_;rintro e w2h4 ⟨rfl,hN⟩)
   replace KA7:=hn_ KA7 hN
   replace hS0:=hS0.trans (hN.mono hS0.size)
   clear hN
   refine⟨(fun _=>hS0),?_⟩
   refine S_tg 6 (.tuple #[srV (beginS root b'),.int .i64 (beginE root b')]) rfl hS0 ?_
   simp only[Act.put,jA,jE,jF,jB,jC,jD]
   refine S_tg 7 (srV (beginS root b')) rfl hS0 ?_
   refine S_tg 8 (.int .i64 (beginE root b')) rfl hS0 ?_
   simp only[Act.put,jA,jE,jF,jB,jC,jD]
   have hS1:(fun w'=>Below w2.heap.size w2 w') (setRow w2h4 (x7n3) 39 (srA (beginS root b'))):=Below.row hS0 hb7 hS0.size
   refine S_store 10 (fun _=>trivial) U U rfl U (setRow w2h4 (x7n3) 39 (srA (beginS root b'))) (exec_store _ _ rfl U U (stSr Sr.zero KA7.out (beginS root b'))) (fun _=>hS1) ?_
   clear hS0
   have hS0:=hS1
   clear hS1
   replace KA7:=Z (Blk.row (t := 39) (cs:=srA (beginS root b')) KA7.out.lt)
   refine S_tg 11 (.int .i64 (beginE root b')) rfl hS0 ?_
   refine⟨by kernel_rfl,rfl,?_⟩
   (try simp only[Act.put,jA,jE,jF,jB,jC,jD])
   go_wp2_with fail
   go_meet
   case rel=>exact⟨_,rfl,rfl,hb7,KA7.out,KpL.of hS0⟩
 case rest =>
  obtain⟨g3,rfl,rfl,hz3,N3,hN⟩:=hcut
  have h0_3:g0<g3:=Nat.lt_of_lt_of_le K0.out.lt hz3
  have h2_3:g2<g3:=Nat.lt_of_lt_of_le K2.out.lt hz3
  have hw_3:w.heap.size≤g3:=by omega
  have K3:=Z N3
  clear N3 n3
  (clear k0 f0 l0 m0 k2 f2 l2 m2;replace K0:=bK K0 hN;replace K2:=bK K2 hN;replace HH:=Z (HH.out.kp hN);replace U2:=Z (U2.out.kp hN);replace HK:=jK HK hN;clear hN;(obtain⟨k0,f0,l0,m0⟩:=rl_ K0;obtain⟨k2,f2,l2,m2⟩:=rl_ K2))
  (obtain⟨k3,f3,l3,m3⟩:=rl_ K3)
  rw[hE.out]
  by_cases h0:beginE root b=0
  ·have hbs:beginS root b'=beginP b':=by unfold beginS;rw[hE.out,if_pos h0]
   rw[hbs]at K3
   rw[h0]
   go_wp2_with(first|(with_reducible refine wpList_load_run (o:=⟨_,.load 39 _,_,_,_,none⟩) (ldSr _ K3.out) rfl _ rfl rfl ?_;simp only[Act.put,jA,jE,jF,jB,jC,jD])|(with_reducible refine wpList_build_run (o:=⟨_,.build 97 _,_,_,_,none⟩) (build_hl (beginP b') _) rfl _ rfl rfl ?_))
   generalize hX:Array.foldl _ _ _ _ _=X
   have hX2:X=hlA ⟨beginP b',⟨none,0,0⟩⟩:=by rw[←hX];kernel_rfl
   clear hX
   subst hX2
   obtain⟨g4,hg4⟩:∃ g,wc.heap.size=g:=⟨_,rfl⟩
   obtain⟨w4,hw4⟩:∃ W',((wc.setCell ⟨g0,1,none⟩ (.pointer (some ⟨wc.heap.size,0,none⟩))).alloc (.cells (hlA ⟨beginP b',⟨none,0,0⟩⟩) 97))=W':=⟨_,rfl⟩
   rw[hw4,hg4]
   have h0_4:g0<g4:=by rw[←hg4];exact K0.out.lt
   have h3_4:g3<g4:=by rw[←hg4];exact K3.out.lt
   have hw_4:w.heap.size≤g4:=by omega
   have N0:=Z (show Blk w4 g0 100 #[.string (bs root),.pointer (some ⟨g4,0,none⟩)] by rw[←hw4,hg4];exact(Blk.to (Blk.set_ K0.out 1 _) rfl:Blk _ g0 _ #[.string (bs root),.pointer (some ⟨g4,0,none⟩)]).alloc _)
   have N4:=Z (show Blk w4 g4 97 (hlA ⟨beginP b',⟨none,0,0⟩⟩) by rw[←hw4];exact Blk.newAt (by rw[size_set];exact hg4))
   have N3:=Z (show Blk w4 g3 39 (srA (beginP b')) by rw[←hw4];exact(K3.out.far (by simp;omega) _).alloc _)
   have NK:KpL [g0] wc w4:=by rw[←hw4];exact((KpL.refl [g0] wc).set (.inl (by simp))).alloc _
   have S4:=Z (show SrW w.heap.size [g4] w4 (beginP b') from⟨(beginP_in U2.out.h).to (Rds.move NK hg0 (by omega))⟩)
   have H4:=Z (KpL.join (HK.out.weak (cs:=[g0]) (by simp)) NK (by simp))
   clear hw4 hg4 K0 k0 f0 l0 m0 K2 k2 f2 l2 m2 K3 k3 f3 l3 m3 HK U2 HH NK
   have K0:=N0
   have K4:=N4
   have K3:=N3
   clear N0 N3 N4
   have hwf:∀ f,Fence.wide.fn f:=fun _=>trivial
   refine(wpIn_wide (n:=9)).1 ?_
   refine wpIn_round_held (fun w'=>Below w4.heap.size w4 w') (fun j => !decide (j∈[7])) U ?_
   have hS0:(fun w'=>Below w4.heap.size w4 w') w4.drew:=(Below.refl _ _).drew
   refine S_takeT [0,1,2,3,7] (fun _=>trivial) 0 (.pointer (some ⟨g0,0,none⟩)) U rfl U U U U (onlyN_panic _ _) hS0 U (fun w' hw=>by go_simp) ?_
   refine S_takeT [1,2,3,7] (fun _=>trivial) 1 (.pointer (some ⟨g0,0,none⟩)) U rfl U U U U (onlyN_panic _ _) hS0 U (fun w' hw=>by go_simp) ?_
   simp only[Act.put,jA,jE,jF,jB,jC,jD]
   refine S_takeT [2,3,7] (fun _=>trivial) 2 (.pointer (some ⟨g0,1,none⟩)) U rfl U U U U (onlyN_panic _ _) hS0 U (fun w' hw=>by go_simp) ?_
   refine S_tk 3 (.pointer (some ⟨g4,0,none⟩)) rfl hS0 (fun w' hw=>by exact exec_load rfl U (run_load_cell (i:=1) (K0.out.below hw) rfl szHp nrHp)) ?_
   simp only[Act.put,jA,jE,jF,jB,jC,jD]
   refine S_takeT [4,5,6,7] (fun _=>trivial) 4 (.pointer (some ⟨g3,0,none⟩)) U rfl U U U U (onlyN_panic _ _) hS0 U (fun w' hw=>by go_simp) ?_
   refine S_takeT [5,6,7] (fun _=>trivial) 5 (.pointer (some ⟨g3,5,none⟩)) U rfl U U U U (onlyN_panic _ _) hS0 U (fun w' hw=>by go_simp) ?_
   simp only[Act.put,jA,jE,jF,jB,jC,jD]
   refine S_tk 6 (exV ((beginP b').fin.x)) rfl hS0 (fun w' hw=>exec_load rfl U (ldSr_fin_x ((beginP b')) (K3.out.below hw))) ?_
   refine S_one 7 U rfl (fun K hK=>?_)
   go_simp
   gi_wp2_with(gi_at_call 49; refine(callsIn_wide.2 (keep_calls g4 ⟨beginP b',⟨none,0,0⟩⟩ [] (by simp) (beginP b').fin.x _ (K4.out.below hS0) rfl (by simp) (CsS.nil _ _ _))).mono ?_;rintro e w4h1 ⟨⟨v,rfl⟩,W9,ys,q1,q2,q3,q4,q5,q6,q7⟩)
   refine⟨(fun h=>absurd h (by decide)),?_⟩
   refine⟨by kernel_rfl,rfl,?_⟩
   (try simp only[Act.put,jA,jE,jF,jB,jC,jD])
   go_wp2_with fail
   have T:KpL [g4] w4 w4h1:=KpL.join (KpL.of hS0) q7 (by simp)
   exact bodyPost_ret (v:=.int .i64 0) (by simp[results,Tryz.results17, go_sem]) rfl ⟨by rw[h0],KpL.join H4.out T (by simp;omega),fun h=>absurd h0 h,fun _=>⟨g4,b',W9,ys,hw_4,K0.out.kp T (by simp;omega),q1,by unfold Bt.bare;rw[hbb.out.1,hbb.out.2.1,hbb.out.2.2],S4.out.kp T (by simp),⟨q2,q5,q6.weak fun b h1 _=>⟨by simpa using h1.1,by have h2:=h1.2;have h3:=H4.out.size;have h4:=hS0.size;omega⟩⟩,by simp at q4;omega⟩⟩
  ·go_wp2_with fail
   exact bodyPost_ret (v:=.int .i64 (beginE root b)) (by simp[results,Tryz.results17, go_sem]) rfl ⟨rfl,HK.out.weak (by simp),fun _=>K0.out,fun h=>absurd h h0⟩
theorem stIt{W:World}{b:Nat}{f0:Bool}{t0:ByteArray}{A0:Option Addr}{n0 c0:Nat} (h:Blk W b 79 #[.bool f0,.string t0,.slice A0 n0 c0]) (f:Bool) (t:Bytes) (A:Option Addr) (n c:Nat) :
  (Instr.storeAt 79 (.pointer (some ⟨b,0,none⟩)) (itV f t A n c)).run Tryz.prog W=.ok () (setRow W b 79 #[.bool f,.string (bs t),.slice A n c]):=by
 have:=run_store_part h [] [.bool f0,.string t0,.slice A0 n0 c0] [] (by simp) rfl #[.bool f,.string (bs t),.slice A n c] rfl sizeItem (by simp[Value.oneCell'])
 simpa using this
theorem hcomm_calls(c:Cm) (hc:c.ks.l.length≤1000) (w:World) (R:Txts w c.ks.addr c.ks.l):Calls Tryz.prog 28 #[cmV c] w (ItP w (cmI c)):=by
 have n1:=fun W (hB:Below w.heap.size w W)=>htexts_calls c.ks.addr c.ks.cap c.ks.l hc W (R.below hB)
 have n2:=fun W=>text_calls c.sum W
 have n3:=fun A n c W=>list_calls A n c W
 have K0:=Z ((Blk.new0 w 35 (cmA c)).alloc (.cells #[.bool false,.string ⟨#[]⟩,.slice none 0 0] 79))
 have K2:=Z (Blk.new1 w (.cells (cmA c) 35) 79 #[.bool false,.string ⟨#[]⟩,.slice none 0 0])
 have HB:Below w.heap.size w ((w.alloc (.cells (cmA c) 35)).alloc (.cells #[.bool false,.string ⟨#[]⟩,.slice none 0 0] 79)):=bel
 have hcI:cmI c=.list [textsI c.ks.l,.text c.sum]:=rfl
 replace n1:=Z n1
 replace n2:=Z n2
 replace n3:=Z n3
 go_enter Tryz.func28, Tryz.ntmps28
 go_wp2_with fail
 obtain⟨W,hW⟩:∃ W,(w.alloc (.cells (cmA c) 35)).alloc (.cells #[.bool false,.string ⟨#[]⟩,.slice none 0 0] 79)=W:=⟨_,rfl⟩
 have hsz:W.heap.size=w.heap.size+2:=by rw[←hW];simp
 rw[hW]at K0 K2 HB ⊢
 clear hW
 obtain⟨g,hg⟩:∃ g,w.heap.size=g:=⟨_,rfl⟩
 rw[hg]at K0 K2 hsz ⊢
 have HG:=Z hg
 have hB0:=Z HB
 have hgw:w.heap.size≤g+1:=by omega
 clear hg
 (obtain⟨k2,f2,l2,m2⟩:=rl_ K2)
 have hwf:∀ f,Fence.wide.fn f:=fun _=>trivial
 refine(wpIn_wide (n:=9)).1 ?_
 refine wpIn_round_held (fun w'=>Below W.heap.size W w') (fun j => !decide (j∈[8])) U ?_
 have hS0:(fun w'=>Below W.heap.size W w') W.drew:=(Below.refl _ _).drew
 have KA100:=Z (K2.out.drew)
 have HBt:=HB.drew
 refine S_tg 0 (.pointer (some ⟨g,0,none⟩)) rfl hS0 ?_
 refine S_tk 1 (.slice c.ks.addr c.ks.l.length c.ks.cap) rfl hS0 (fun w' hw=>exec_load rfl U (run_load_cell (i:=0) (K0.out.below hw) rfl szRw nrRw)) ?_
 refine S_tg 3 (.pointer (some ⟨g,1,none⟩)) rfl hS0 ?_
 refine S_tk 4 (.string (bs c.sum)) rfl hS0 (fun w' hw=>exec_load rfl U (run_load_cell (i:=1) (K0.out.below hw) rfl szStr nrStr)) ?_
 refine S_one 2 U rfl (fun K hK=>?_)
 go_simp
 gi_wp2_with(gi_at_call 29; refine(callsIn_wide.2 (n1.out _ (Below.on hS0 hB0.out))).mono ?_;rintro e Wh1 ⟨V5,rfl,hT,hN⟩)
 replace KA100:=hn_ KA100 hN
 have RX5:=Z (show RepS (fun b=>W.heap.size≤b) Wh1 (textsI c.ks.l) V5 from RepS.weak hT fun b hb _=>Nat.le_trans hS0.size hb)
 clear hT
 replace HBt:=Below.on hN HBt
 replace hS0:=hS0.trans (hN.mono hS0.size)
 clear hN
 refine⟨(fun _=>hS0),?_⟩
 refine S_one 5 U rfl (fun K hK=>?_)
 go_simp
 gi_wp2_with(gi_at_call 31; refine(callsIn_wide.2 (n2.out _)).mono ?_;rintro e Wh2 ⟨rfl,hN⟩)
 replace KA100:=hn_ KA100 hN
 replace RX5:=Z (RepS.on RX5.out hN)
 replace HBt:=Below.on hN HBt
 replace hS0:=hS0.trans (hN.mono hS0.size)
 clear hN
 refine⟨(fun _=>hS0),?_⟩
 obtain⟨x9n3,hbx⟩:∃ x,Wh2.heap.size=x:=⟨_,rfl⟩
 have hbx2:=hbx
 (try simp[go_sem]at hbx2)
 have hA100_9:(g+1)<x9n3:=by rw[←hbx];exact KA100.out.lt
 have hb9:W.heap.size≤x9n3:=by rw[←hbx];exact hS0.size
 replace KA100:=Z (KA100.out.alloc (.cells #[.bool V5.f,.string (bs V5.t),.slice V5.A V5.n V5.c,.bool false,.string (bs c.sum),.slice none 0 0] 79))
 replace RX5:=Z (RepS.on RX5.out ((Below.refl _ _).alloc (Nat.le_refl _) (.cells #[.bool V5.f,.string (bs V5.t),.slice V5.A V5.n V5.c,.bool false,.string (bs c.sum),.slice none 0 0] 79)))
 have KA9:=Blk.new0 Wh2 79 #[.bool V5.f,.string (bs V5.t),.slice V5.A V5.n V5.c,.bool false,.string (bs c.sum),.slice none 0 0]
 rw[hbx]at KA9
 replace KA9:=Z KA9
 replace HBt:=HBt.alloc HBt.size (.cells #[.bool V5.f,.string (bs V5.t),.slice V5.A V5.n V5.c,.bool false,.string (bs c.sum),.slice none 0 0] 79)
 replace hS0:Below _ _ (Wh2.alloc (.cells #[.bool V5.f,.string (bs V5.t),.slice V5.A V5.n V5.c,.bool false,.string (bs c.sum),.slice none 0 0] 79)):=hS0.alloc hS0.size _
 refine S_go 6 (fun _=>trivial) U U rfl U (.slice (some ⟨x9n3,0,none⟩) 2 2) (Wh2.alloc (.cells #[.bool V5.f,.string (bs V5.t),.slice V5.A V5.n V5.c,.bool false,.string (bs c.sum),.slice none 0 0] 79)) (by first|(go_simp;done)|(go_simp;rfl)|(go_simp;exact⟨hbx2,rfl⟩)) (fun _=>hS0) ?_
 clear hbx hbx2
 refine S_one 7 U rfl (fun K hK=>?_)
 go_simp
 gi_wp2_with(gi_at_call 26; refine(callsIn_wide.2 (n3.out _ _ _ _)).mono ?_;rintro e Wh4 ⟨rfl,hN⟩)
 replace KA100:=hn_ KA100 hN
 replace KA9:=hn_ KA9 hN
 replace RX5:=Z (RepS.on RX5.out hN)
 replace HBt:=Below.on hN HBt
 replace hS0:=hS0.trans (hN.mono hS0.size)
 clear hN
 refine⟨(fun _=>hS0),?_⟩
 refine S_store 8 (fun _=>trivial) U U rfl U (setRow Wh4 ((g+1)) 79 (#[.bool true,.string (bs []),.slice (some ⟨x9n3,0,none⟩) 2 2])) (exec_store _ _ rfl U U (stIt KA100.out true [] (some ⟨x9n3,0,none⟩) 2 2)) (fun h=>absurd h (by decide)) ?_
 replace KA9:=Z (Blk.rowOver (g':=(g+1)) (t' := 79) (cs' := #[.bool true,.string (bs []),.slice (some ⟨x9n3,0,none⟩) 2 2]) (by first|assumption|omega) KA9.out)
 replace KA100:=Z (Blk.row (t := 79) (cs := #[.bool true,.string (bs []),.slice (some ⟨x9n3,0,none⟩) 2 2]) KA100.out.lt)
 replace RX5:=Z (RepS.rowAt RX5.out (g:=(g+1)) (by omega) (t := 79) (cs := #[.bool true,.string (bs []),.slice (some ⟨x9n3,0,none⟩) 2 2]))
 replace HBt:=Below.row HBt (g:=(g+1)) (t := 79) (cs := #[.bool true,.string (bs []),.slice (some ⟨x9n3,0,none⟩) 2 2]) (by omega) HBt.size
 refine⟨by kernel_rfl,rfl,?_⟩
 obtain⟨WN,hWN⟩:∃ WN,(setRow Wh4 ((g+1)) 79 (#[.bool true,.string (bs []),.slice (some ⟨x9n3,0,none⟩) 2 2]))=WN:=⟨_,rfl⟩
 rw[hWN]at KA100 KA9 RX5 HBt ⊢
 clear hWN hwf hS0 HB
 have HB:=HBt
 clear HBt
 clear K2 k2 f2 l2 m2
 have K2:=KA100
 clear KA100
 (obtain⟨k2,f2,l2,m2⟩:=rl_ K2)
 go_wp2_with fail
 refine bodyPost_ret (v:=itV true [] (some ⟨x9n3,0,none⟩) 2 2) (by simp (maxDischargeDepth:=9) [results,Tryz.results28, go_sem, *]) rfl ⟨⟨true,[],some ⟨x9n3,0,none⟩,2,2⟩,rfl,?_,HB⟩
 rw[hcI]
 exact row_rep (l:=[textsI c.ks.l,.text c.sum]) (vs:=[V5,tvI c.sum]) KA9.out rfl (by have:=HG.out;omega) ⟨RX5.out.weak fun b hb _=>by have:=HG.out;omega,.text _,trivial⟩ rfl (by decide)
end
end Go.Proofs.YtobgigcdpiikaaaGreatDoor
