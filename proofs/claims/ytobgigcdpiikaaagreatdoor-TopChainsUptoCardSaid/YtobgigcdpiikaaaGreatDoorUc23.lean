/- Plain laws and walks, each by its own conditions. -/
import Derived.Test.YtobgigcdpiikaaaGreatDoorUc21
import Derived.Deep.CutBlock
import Derived.Deep.DeepCutAuto
import Derived.Laws.Tables
set_option linter.unusedSimpArgs false
set_option linter.unusedVariables false
set_option maxRecDepth 100000
set_option maxHeartbeats 16000000
namespace Go.Proofs.YtobgigcdpiikaaaGreatDoor
section
open BigFrame Go.RowKit Go.Phx Go.Shelf
attribute [local go_sem] Oper.semAt_some
theorem equal_calls(A B:Option Addr) (c d:Nat) (L M:List Bytes) (hL:L.length≤9223372036854775807) (hM:M.length≤9223372036854775807) (w:World) (h1:Txts w A L) (h2:Txts w B M) :
  Calls Tryz.prog 148 #[.slice A L.length c,.slice B M.length d] w (Ret w (.bool (L == M))):=by
 rw[show(L == M)=decide (L=M) by rw[Bool.eq_iff_iff];simp]
 by_cases hlen:L.length=M.length
 ·have e1:(L.length:Int)=M.length:=by omega
  go_enter Tryz.func148, Tryz.ntmps148
  go_wp2_with fail
  go_loopw [13] (fun i wr=>Below w.heap.size w wr∧∃ k:Nat,k≤L.length∧i=.int .i64 k∧L.take k=M.take k) (fun i _=>(L.length - intOf i).toNat)
  case atStart=>exact⟨Below.refl _ _,0,by omega,rfl,rfl⟩
  case round =>
   obtain⟨HB,k,hk,rfl,heq⟩:=hrel
   replace h1:Txts wr A L:=Strs.below h1 HB
   replace h2:Txts wr B M:=Strs.below h2 HB
   by_cases hlt:k<L.length
   ·obtain⟨b1,o1,rfl,hb1,hc1⟩:=h1.at k hlt
    obtain⟨b2,o2,rfl,hb2,hc2⟩:=h2.at k (by omega)
    have hst:L.getD k []=M.getD k []→L.take (k+1)=M.take (k+1):=fun h=>by
     rw[List.take_add_one (l:=L),List.take_add_one (l:=M),heq,List.getElem?_eq_getElem hlt,List.getElem?_eq_getElem (show k<M.length by omega)]
     rw[List.getD,List.getD,List.getElem?_eq_getElem hlt,List.getElem?_eq_getElem (show k<M.length by omega)]at h
     have h':L[k]=M[k]:=by simpa using h
     rw[h']
    have hno:L.getD k []≠M.getD k []→L≠M:=fun h e=>h (by rw[e])
    generalize L.getD k []=x at *
    generalize M.getD k []=y at *
    clear h1 h2 heq
    by_cases hxy:x=y
    ·subst hxy
     have HS:=Z (hst rfl)
     clear hst hno
     go_wp2_with fail
     go_region
     go_wp2_with fail
     go_roundw
     case rel=>exact⟨HB.drew,k+1,by omega,by go_num,HS.out⟩
     case measure=>simp[intOf];omega
    ·have HN:=Z (hno hxy)
     have hne:(x == y)=false:=by simpa using hxy
     clear hst hno
     go_wp2_with fail
     go_region
     go_wp2_with fail
     go_ret
     exact⟨by simp[HN.out],HB.drew⟩
   ·obtain rfl:k=L.length:=by omega
    rw[List.take_of_length_le (Nat.le_refl _),List.take_of_length_le (by omega)]at heq
    subst heq
    go_wp2_with fail
    go_ret
    exact⟨by simp,HB⟩
 ·have e1:¬ (L.length:Int)=M.length:=by omega
  have e2:L≠M:=fun h=>hlen (by rw[h])
  go_enter Tryz.func148, Tryz.ntmps148
  go_wp2_with fail
  go_ret
  exact⟨by simp[e2],Below.refl _ _⟩
theorem lsame_calls(a b:Cm) (w:World) (ha:CmIn w a) (hb:CmIn w b):Calls Tryz.prog 110 #[cmV a,cmV b] w (Ret w (.bool (sameCm a b))):=by
 have n1:=fun W (hB:Below w.heap.size w W)=>equal_calls a.ks.addr b.ks.addr a.ks.cap b.ks.cap a.ks.l b.ks.l (by have:=ha.1.2.2.1;omega) (by have:=hb.1.2.2.1;omega) W (Txts.below ha.1.1 hB) (Txts.below hb.1.1 hB)
 have K0:=Z ((Blk.new0 w 35 (cmA a)).alloc (.cells (cmA b) 35))
 have K1:=Z (Blk.new1 w (.cells (cmA a) 35) 35 (cmA b))
 unfold sameCm
 generalize(a.ks.l == b.ks.l)=r at *
 replace n1:=Z n1
 clear ha hb
 by_cases he:a.sum=b.sum
 ·have e1:(a.sum == b.sum)=true:=by simpa using he
  rw[e1]
  go_enter Tryz.func110, Tryz.ntmps110
  go_wp2_with fail
  refine(n1.out _ bel).mono ?_
  rintro e w1 ⟨rfl,h1⟩
  go_wp2_with fail
  go_ret
  exact⟨rfl,Below.on h1 bel⟩
 ·have e1:(a.sum == b.sum)=false:=by simpa using he
  rw[e1]
  go_enter Tryz.func110, Tryz.ntmps110
  go_wp2_with fail
  go_ret
  exact⟨rfl,bel⟩
theorem lgtext_calls(h:Hd) (slot:Nat) (w:World) (hk:HasK w) (hh:HdIn w h) (hs:slot<18446744073709551616):Calls Tryz.prog 115 #[hdV h,.int .u64 slot] w (Ret w (.string (bs (textP h slot)))):=by
 have n1:=fun W (hB:Below w.heap.size w W)=>hroot_calls h W (hk.on hB) (hh.below hB)
 obtain⟨m,hm⟩:∃ m,max slot 1=m:=⟨_,rfl⟩
 have e1:max (slot:Int) 1=(m:Int):=by omega
 have hm1:1≤m:=by omega
 have hm2:m<18446744073709551616:=by omega
 obtain⟨q,hq⟩:∃ q,(m - 1) / 128=q:=⟨_,rfl⟩
 have e2:((m:Int) - 1) / 128=(q:Int):=by omega
 have hq2:q<18446744073709551616:=by omega
 obtain⟨f,hf⟩:∃ f,min 2 q=f:=⟨_,rfl⟩
 have e3:min 2 (q:Int)=(f:Int):=by omega
 have hf2:f≤2:=by omega
 have ht:textP h slot=sha (hdRoot h ++ numP (7+f)):=by
  unfold textP forkP
  rw[hm,hq,hf]
 rw[ht]
 have n2:∀ W,Calls Tryz.prog 57 #[.int .u64 (7+(f:Int))] W (Ret W (.string (bs (numP (7+f))))):=fun W=>by
  have:=number_calls (7+f) (by omega) W
  simpa using this
 have hl1:=hdRoot_len h
 have hl2:=numP_len (7+f)
 have n3:=fun W (hB:Below w.heap.size w W)=>sum2_calls (hdRoot h) (numP (7+f)) (by omega) (by omega) W.heap.size (W.alloc (.cells #[.string (bs (hdRoot h)),.string (bs (numP (7+f)))] 9)) (hk.on (hB.alloc hB.size _)) (strs2 W _ _)
 generalize hdRoot h=r at *
 generalize hdE h=z at *
 generalize numP (7+f)=y at *
 have K0:=Z (Blk.new0 w 28 (hdA h))
 replace n1:=Z n1
 replace n2:=Z n2
 replace n3:=Z n3
 clear ht hm hq hf hk hh hs hl1 hl2
 go_enter Tryz.func115, Tryz.ntmps115
 go_wp2_with fail
 refine(n1.out _ bel).mono ?_
 rintro e w1 ⟨rfl,h1⟩
 have hB1:Below w.heap.size w w1:=Below.on h1 bel
 clear h1
 go_wp2_with fail
 refine(n2.out _).mono ?_
 rintro e w2 ⟨rfl,h2⟩
 have hB2:=Below.on h2 hB1
 clear h2 hB1
 go_wp2_with fail
 refine(n3.out _ hB2).mono ?_
 rintro e w3 ⟨rfl,h3⟩
 go_wp2_with fail
 go_ret
 exact⟨rfl,Below.on h3 (hB2.alloc hB2.size _)⟩
theorem under_calls(root:Bytes) (br:Rw) (leaf:Nat) (state:Bytes) (w:World) (hk:HasK w) (hr:root.length≤1048576) (hs:state.length≤1048576) (hl:leaf<18446744073709551616) (hb:RwIn w br) :
  Calls Tryz.prog 83 #[.string (bs root),rwV br,.int .u64 leaf,.string (bs state)] w (Ret w (.bool (underP root br.l leaf state))):=by
 have n1:=check_calls root br.addr br.cap br.l leaf state (by omega) (by omega) (by have:=hb.2.2.1;omega) hl (fun y hy=>by have:=hb.2.2.2 y hy;omega) w hk hb.1
 unfold underP
 unfold rwV
 generalize decide (CheckP root br.l leaf state)=r at *
 by_cases he:br.l.length=3
 ·have e1:((br.l.length:Int) == 3)=true:=by rw[he];rfl
  rw[decide_eq_true he]
  replace n1:=Z n1
  clear he hb hk
  go_enter Tryz.func83, Tryz.ntmps83
  go_wp2_with fail
  refine n1.out.mono ?_
  rintro e w1 ⟨rfl,h1⟩
  go_wp2_with fail
  go_ret
  exact⟨rfl,h1⟩
 ·have e1:((br.l.length:Int) == 3)=false:=by simp;omega
  rw[decide_eq_false he]
  replace n1:=Z n1
  clear he hb hk
  go_enter Tryz.func83, Tryz.ntmps83
  go_wp2_with fail
  go_ret
  exact⟨rfl,Below.refl _ _⟩
def orE(a b c:Int):Int:=if a≠0 then a else if b≠0 then b else c
theorem or_calls(a b c:Int) (w:World) (g:Nat) (t:TypeId) (K:Blk w g t #[.int .i64 a,.int .i64 b,.int .i64 c]):Calls Tryz.prog 66 #[.slice (some ⟨g,0,none⟩) 3 3] w (fun e w'=>e=.returned (.int .i64 (orE a b c))∧w'=w):=by
 have k0:=K.cell 0
 have k1:=K.cell 1
 have k2:=K.cell 2
 replace k0:w.cell? ⟨g,0,none⟩=some (.int .i64 a):=k0
 replace k1:w.cell? ⟨g,1,none⟩=some (.int .i64 b):=k1
 replace k2:w.cell? ⟨g,2,none⟩=some (.int .i64 c):=k2
 clear K
 unfold orE
 have key:∀ r1 r2 r3:Bool,(a == 0)=r1→(b == 0)=r2→(c == 0)=r3→Calls Tryz.prog 66 #[.slice (some ⟨g,0,none⟩) 3 3] w (fun e w'=>e=.returned (.int .i64 (if r1=false then a else if r2=false then b else c))∧w'=w):=fun r1 r2 r3 e1 e2 e3=>by
  cases r1 <;> cases r2 <;> cases r3
  all_goals
   go_enter Tryz.func66, Tryz.ntmps66
   go_wp2_with fail
   refine wp_loop_rounds 4 ?_
   iterate 4 (try(rw[rounds_succ];go_wp2_with fail))
   go_ret
   simp_all
 have:=key _ _ _ rfl rfl rfl
 simpa using this
theorem period_q(n:Nat) (hn:n<18446744073709551616) (w:World):Calls Tryz.prog 36 #[.int .u64 n] w (fun e w'=>e=.returned (.int .u64 (period n:Nat))∧w=w') :=
 (period_calls n hn w).mono fun e w' h=>⟨h.1,h.2.symm⟩
def TkW(w:World) (g:Nat) (s:Sr) (u:Up) (wx:World):Prop:=Blk wx g 39 (srA s)∧Blk wx (g+1) 37 (upA u)∧Blk wx (g+1+1) 39 (srA Sr.zero)∧Below w.heap.size w wx
theorem TkW.mk{w wx:World}{g:Nat}{s s':Sr}{u:Up} (e:s'=s) (h0:Blk wx g 39 (srA s')) (h1:Blk wx (g+1) 37 (upA u)) (h2:Blk wx (g+1+1) 39 (srA Sr.zero)) (hB:Below w.heap.size w wx):TkW w g s u wx:=by
 subst e
 exact⟨h0,h1,h2,hB⟩
theorem lgtake_calls(s:Sr) (u:Up) (h1:s.fin.b.slot<18446744073709551616) (h2:u.fin.b.slot<18446744073709551616) (w:World):Calls Tryz.prog 40 #[srV s,upV u] w (Ret w (srV (clearP (takeP s u)))):=by
 have ht1:∀ r b:Bool,knownP s.next=r→decide (period s.fin.b.slot=period u.fin.b.slot)=b→r=false→takeP1 s u=if b then { s with next:=u.next } else s:=fun r b e1 e2 e3=>by
  unfold takeP1
  rw[e1,e3,←e2]
  simp
 have ht2:∀ r b:Bool,knownP s.next=r→decide (period s.fin.b.slot+1=period u.fin.b.slot)=b→r=true→takeP1 s u=if b then { s with now:=s.next,next:=u.next,last:=s.this,this:=0 } else s:=fun r b e1 e2 e3=>by
  unfold takeP1
  rw[e1,e3,←e2]
  simp
 have hpl:period s.fin.b.slot<18446744073709551615:=by unfold period;omega
 have hfin:=take1_fin s u
 have hnew:=take1_new s u
 obtain⟨t,ht⟩:∃ t,takeP1 s u=t:=⟨_,rfl⟩
 have hfinal:takeP s u=takeP2 t u:=by unfold takeP;rw[ht]
 rw[ht]at ht1 ht2 hfin hnew
 replace hfinal:=Z hfinal
 replace ht:=Z ht
 replace hfin:=Z hfin
 replace hnew:=Z hnew
 go_enter Tryz.func40, Tryz.ntmps40
 go_wp2_with fail
 have HB:Below w.heap.size w (((w.alloc (.cells (srA s) 39)).alloc (.cells (upA u) 37)).alloc (.cells (srA Sr.zero) 39)):=bel
 have K0:=((Blk.new0 w 39 (srA s)).alloc (.cells (upA u) 37)).alloc (.cells (srA Sr.zero) 39)
 have K1:=(Blk.new1 w (.cells (srA s) 39) 37 (upA u)).alloc (.cells (srA Sr.zero) 39)
 have K2:=Blk.new2 w (.cells (srA s) 39) (.cells (upA u) 37) 39 (srA Sr.zero)
 obtain⟨W,hW⟩:∃ W,(((w.alloc (.cells (srA s) 39)).alloc (.cells (upA u) 37)).alloc (.cells (srA Sr.zero) 39))=W:=⟨_,rfl⟩
 rw[hW]at HB K0 K1 K2 ⊢
 clear hW
 have hgl:w.heap.size≤w.heap.size:=Nat.le_refl _
 obtain⟨g,hg⟩:∃ g,w.heap.size=g:=⟨_,rfl⟩
 rw[hg]at K0 K1 K2 ⊢
 replace hgl:w.heap.size≤g:=by omega
 replace K0:=Z K0
 replace K1:=Z K1
 replace K2:=Z K2
 clear hg
 have n1:=fun W=>period_q s.fin.b.slot h1 W
 have n2:=fun W=>period_q u.fin.b.slot h2 W
 (obtain⟨k0,f0,l0,m0⟩:=rl_ K0;obtain⟨k1,f1,l1,m1⟩:=rl_ K1;obtain⟨k2,f2,l2,m2⟩:=rl_ K2)
 generalize period s.fin.b.slot=p1 at *
 generalize period u.fin.b.slot=p2 at *
 replace n1:=Z n1
 replace n2:=Z n2
 replace ht1:=Z ht1
 replace ht2:=Z ht2
 go_quiet ((first|(go_at_call 36; exact qs (n1.out _))|(go_at_call 36; exact qs (n2.out _))))
 generalize hWN:W.drewN nq=W1
 have N0:=Z (show Blk W1 g _ _ by rw[←hWN];exact K0.out.drewN _)
 have N1:=Z (show Blk W1 (g+1) _ _ by rw[←hWN];exact K1.out.drewN _)
 have N2:=Z (show Blk W1 (g+1+1) _ _ by rw[←hWN];exact K2.out.drewN _)
 have HBn:Below w.heap.size w W1:=by rw[←hWN];exact bel
 clear hWN k0 f0 l0 m0 k1 f1 l1 m1 k2 f2 l2 m2 K0 K1 K2 HB n1 n2
 have K0:=N0;have K1:=N1;have K2:=N2;have HB:=HBn
 clear N0 N1 N2 HBn
 (obtain⟨k0,f0,l0,m0⟩:=rl_ K0;obtain⟨k1,f1,l1,m1⟩:=rl_ K1;obtain⟨k2,f2,l2,m2⟩:=rl_ K2)
 have n3:=fun W=>known_calls s.next W
 obtain⟨r,hr⟩:∃ r,knownP s.next=r:=⟨_,rfl⟩
 have ht3:=Z (ht1.out r _ hr rfl)
 have ht4:=Z (ht2.out r _ hr rfl)
 rw[hr]at n3
 clear ht1 ht2 hr
 replace n3:=Z n3
 have hu:=h2
 clear h1 h2
 go_upto_block 0 with fail
 go_cut [] (fun wx=>TkW w g t u wx)
 case first =>
  go_wp2_with fail
  (refine(n3.out _).mono ?_;rintro e w2 ⟨rfl,hN⟩;replace K0:=hn_ K0 hN;replace K1:=hn_ K1 hN;replace K2:=hn_ K2 hN;replace HB:Below w.heap.size w w2:=Below.on hN HB;clear hN k0 f0 l0 m0 k1 f1 l1 m1 k2 f2 l2 m2;obtain⟨k0,f0,l0,m0⟩:=rl_ K0;obtain⟨k1,f1,l1,m1⟩:=rl_ K1;obtain⟨k2,f2,l2,m2⟩:=rl_ K2)
  cases r with
  | false =>
   have ht5:=ht3.out rfl
   clear ht3 ht4
   by_cases he:p1=p2
   ·subst he
    rw[decide_eq_true rfl,if_pos rfl]at ht5
    replace ht5:=Z ht5
    (go_wp2_with(first|(with_reducible refine wsh (stSr_next _ K0.out (u.next)) rfl rfl ?_));generalize hWN:setRow _ _ _ _=WN;replace K0:=Z (show Blk WN _ _ _ by rw[←hWN];exact Blk.row K0.out.lt);replace K1:=Z (show Blk WN _ _ _ by rw[←hWN];exact Blk.rowOver (by omega) K1.out);replace K2:=Z (show Blk WN _ _ _ by rw[←hWN];exact Blk.rowOver (by omega) K2.out);replace HB:Below w.heap.size w WN:=(by rw[←hWN];exact Below.row HB (by omega) HB.size);clear hWN k0 f0 l0 m0 k1 f1 l1 m1 k2 f2 l2 m2;obtain⟨k0,f0,l0,m0⟩:=rl_ K0;obtain⟨k1,f1,l1,m1⟩:=rl_ K1;obtain⟨k2,f2,l2,m2⟩:=rl_ K2;unfold Halted)
    go_wp2_with fail
    go_meet
    case rel=>exact TkW.mk ht5.out.symm K0.out K1.out K2.out HB
   ·rw[decide_eq_false he,if_neg (by simp)]at ht5
    replace ht5:=Z ht5
    have he2:((p1:Int) == (p2:Int))=false:=by simp;omega
    clear he
    go_wp2_with fail
    (refine(n3.out _).mono ?_;rintro e w3 ⟨rfl,hN⟩;replace K0:=hn_ K0 hN;replace K1:=hn_ K1 hN;replace K2:=hn_ K2 hN;replace HB:Below w.heap.size w w3:=Below.on hN HB;clear hN k0 f0 l0 m0 k1 f1 l1 m1 k2 f2 l2 m2;obtain⟨k0,f0,l0,m0⟩:=rl_ K0;obtain⟨k1,f1,l1,m1⟩:=rl_ K1;obtain⟨k2,f2,l2,m2⟩:=rl_ K2)
    go_wp2_with fail
    go_meet
    case rel=>exact TkW.mk ht5.out.symm K0.out K1.out K2.out HB
  | true =>
   have ht5:=ht4.out rfl
   clear ht3 ht4
   go_wp2_with fail
   (refine(n3.out _).mono ?_;rintro e w3 ⟨rfl,hN⟩;replace K0:=hn_ K0 hN;replace K1:=hn_ K1 hN;replace K2:=hn_ K2 hN;replace HB:Below w.heap.size w w3:=Below.on hN HB;clear hN k0 f0 l0 m0 k1 f1 l1 m1 k2 f2 l2 m2;obtain⟨k0,f0,l0,m0⟩:=rl_ K0;obtain⟨k1,f1,l1,m1⟩:=rl_ K1;obtain⟨k2,f2,l2,m2⟩:=rl_ K2)
   by_cases he:p1+1=p2
   ·subst he
    rw[decide_eq_true rfl,if_pos rfl]at ht5
    replace ht5:=Z ht5
    go_wp2_with fail
    have hwf:∀ f,Fence.wide.fn f:=fun _=>trivial
    refine(wpIn_wide (n:=9)).1 ?_
    refine wpIn_round_held (fun w'=>Blk w' (g+1) 37 (upA u)∧w'.rangeAt g 20 (cmC s.next)) (fun j => !decide (j∈[7])) U ?_
    have hS0:(fun w'=>Blk w' (g+1) 37 (upA u)∧w'.rangeAt g 20 (cmC s.next)) w3.drew:=⟨K1.out.drew,Blk.part (K0.out.drew) (pre:=ltC s.fin ++ ltC s.new ++ cmC s.now) (mid:=cmC s.next) (post:=upC s.best ++ [.bool s.has] ++ [.int .i64 s.last] ++ [.int .i64 s.this] ++ [.bool s.forced]) U U⟩
    refine S_tg 0 (.pointer (some ⟨g,20,none⟩)) rfl hS0 ?_
    refine S_tk 1 (cmV s.next) rfl hS0 (fun w' hw=>by exact exec_load rfl U (run_loadAt_mid _ g 20 _ _ _ hw.2 Tryz.underlying35 rfl sizeCm)) ?_
    refine S_tg 2 (.pointer (some ⟨(g+1),9,none⟩)) rfl hS0 ?_
    refine S_tk 3 (cmV u.next) rfl hS0 (fun w' hw=>by exact exec_load rfl U (ldUp_next u hw.1)) ?_
    refine S_tg 4 (.pointer (some ⟨g,18,none⟩)) rfl hS0 ?_
    have hS1:(fun w'=>Blk w' (g+1) 37 (upA u)∧w'.rangeAt g 20 (cmC s.next)) (setRow w3.drew g 39 (srA { s with now:=s.next })):=⟨Blk.rowOver (by omega) K1.out.drew,Blk.part (Blk.row (w:=w3.drew) K0.out.lt) (pre:=ltC s.fin ++ ltC s.new ++ cmC s.next) (mid:=cmC s.next) (post:=upC s.best ++ [.bool s.has] ++ [.int .i64 s.last] ++ [.int .i64 s.this] ++ [.bool s.forced]) U U⟩
    clear hS0
    have hS0:=hS1
    clear hS1
    refine S_store 5 (fun _=>trivial) U U rfl U (setRow w3.drew g 39 (srA { s with now:=s.next })) (exec_store _ _ rfl U U (stSr_now s K0.out.drew s.next)) (fun _=>hS0) ?_
    refine S_tg 6 (.pointer (some ⟨g,20,none⟩)) rfl hS0 ?_
    refine S_store 7 (fun _=>trivial) U U rfl U (setRow (setRow w3.drew g 39 (srA { s with now:=s.next })) g 39 (srA { s with now:=s.next,next:=u.next })) (exec_store _ _ rfl U U (stSr_next { s with now:=s.next } (Blk.row (w:=w3.drew) K0.out.lt) u.next)) (fun h=>absurd h (by decide)) ?_
    refine⟨by kernel_rfl,rfl,?_⟩
    generalize hWN:setRow (setRow w3.drew _ _ _) _ _ _=WN
    have N0:=Z (show Blk WN g 39 (srA { s with now:=s.next,next:=u.next }) by rw[←hWN];exact Blk.row (by rw[size_row];exact l0))
    have N1:=Z (show Blk WN (g+1) _ _ by rw[←hWN];exact Blk.rowOver (by omega) (Blk.rowOver (by omega) K1.out.drew))
    have N2:=Z (show Blk WN (g+1+1) _ _ by rw[←hWN];exact Blk.rowOver (by omega) (Blk.rowOver (by omega) K2.out.drew))
    have HBn:Below w.heap.size w WN:=by rw[←hWN];exact Below.row (Below.row HB.drew hgl HB.size) hgl (by rw[size_row];exact HB.size)
    clear hS0 hWN hwf k0 f0 l0 m0 k1 f1 l1 m1 k2 f2 l2 m2 K0 K1 K2 HB
    have K0:=N0;have K1:=N1;have K2:=N2;have HB:=HBn
    clear N0 N1 N2 HBn
    (obtain⟨k0,f0,l0,m0⟩:=rl_ K0;obtain⟨k1,f1,l1,m1⟩:=rl_ K1;obtain⟨k2,f2,l2,m2⟩:=rl_ K2)
    (go_wp2_with(first|(with_reducible refine wsh (stcSr_last _ K0.out (s.this)) rfl rfl ?_));generalize hWN:setRow _ _ _ _=WN;replace K0:=Z (show Blk WN _ _ _ by rw[←hWN];exact Blk.row K0.out.lt);replace K1:=Z (show Blk WN _ _ _ by rw[←hWN];exact Blk.rowOver (by omega) K1.out);replace K2:=Z (show Blk WN _ _ _ by rw[←hWN];exact Blk.rowOver (by omega) K2.out);replace HB:Below w.heap.size w WN:=(by rw[←hWN];exact Below.row HB (by omega) HB.size);clear hWN k0 f0 l0 m0 k1 f1 l1 m1 k2 f2 l2 m2;obtain⟨k0,f0,l0,m0⟩:=rl_ K0;obtain⟨k1,f1,l1,m1⟩:=rl_ K1;obtain⟨k2,f2,l2,m2⟩:=rl_ K2;unfold Halted)
    (go_wp2_with(first|(with_reducible refine wsh (stcSr_this _ K0.out (0)) rfl rfl ?_));generalize hWN:setRow _ _ _ _=WN;replace K0:=Z (show Blk WN _ _ _ by rw[←hWN];exact Blk.row K0.out.lt);replace K1:=Z (show Blk WN _ _ _ by rw[←hWN];exact Blk.rowOver (by omega) K1.out);replace K2:=Z (show Blk WN _ _ _ by rw[←hWN];exact Blk.rowOver (by omega) K2.out);replace HB:Below w.heap.size w WN:=(by rw[←hWN];exact Below.row HB (by omega) HB.size);clear hWN k0 f0 l0 m0 k1 f1 l1 m1 k2 f2 l2 m2;obtain⟨k0,f0,l0,m0⟩:=rl_ K0;obtain⟨k1,f1,l1,m1⟩:=rl_ K1;obtain⟨k2,f2,l2,m2⟩:=rl_ K2;unfold Halted)
    go_wp2_with fail
    go_meet
    case rel=>exact TkW.mk ht5.out.symm K0.out K1.out K2.out HB
   ·rw[decide_eq_false he,if_neg (by simp)]at ht5
    replace ht5:=Z ht5
    have he2:((p1:Int)+1 == (p2:Int))=false:=by simp;omega
    clear he
    go_wp2_with fail
    go_meet
    case rel=>exact TkW.mk ht5.out.symm K0.out K1.out K2.out HB
 case rest =>
  obtain⟨j0,j1,j2,HBn⟩:=hcut
  replace j0:=Z j0
  replace j1:=Z j1
  replace j2:=Z j2
  clear k0 f0 l0 m0 k1 f1 l1 m1 k2 f2 l2 m2 K0 K1 K2 HB n3 ht3 ht4
  have K0:=j0;have K1:=j1;have K2:=j2;have HB:=HBn
  clear j0 j1 j2 HBn
  (obtain⟨k0,f0,l0,m0⟩:=rl_ K0;obtain⟨k1,f1,l1,m1⟩:=rl_ K1;obtain⟨k2,f2,l2,m2⟩:=rl_ K2)
  by_cases hf:t.fin.b.slot<u.fin.b.slot
  ·have hf2:(t.fin.b.slot:Int)<(u.fin.b.slot:Int):=by omega
   by_cases hn:t.new.b.slot<u.fin.b.slot
   ·have e2:=Z (show takeP2 t u={ t with fin:=u.fin,new:=u.fin } by unfold takeP2;rw[if_pos hf,if_pos hn])
    have hn2:(t.new.b.slot:Int)<(u.fin.b.slot:Int):=by omega
    clear hf hn
    (go_wp2_with(first|(with_reducible refine wsh (stSr_fin _ K0.out (u.fin)) rfl rfl ?_));generalize hWN:setRow _ _ _ _=WN;replace K0:=Z (show Blk WN _ _ _ by rw[←hWN];exact Blk.row K0.out.lt);replace K1:=Z (show Blk WN _ _ _ by rw[←hWN];exact Blk.rowOver (by omega) K1.out);replace K2:=Z (show Blk WN _ _ _ by rw[←hWN];exact Blk.rowOver (by omega) K2.out);replace HB:Below w.heap.size w WN:=(by rw[←hWN];exact Below.row HB (by omega) HB.size);clear hWN k0 f0 l0 m0 k1 f1 l1 m1 k2 f2 l2 m2;obtain⟨k0,f0,l0,m0⟩:=rl_ K0;obtain⟨k1,f1,l1,m1⟩:=rl_ K1;obtain⟨k2,f2,l2,m2⟩:=rl_ K2;unfold Halted)
    (go_wp2_with(first|(with_reducible refine wsh (stSr_new _ K0.out (u.fin)) rfl rfl ?_));generalize hWN:setRow _ _ _ _=WN;replace K0:=Z (show Blk WN _ _ _ by rw[←hWN];exact Blk.row K0.out.lt);replace K1:=Z (show Blk WN _ _ _ by rw[←hWN];exact Blk.rowOver (by omega) K1.out);replace K2:=Z (show Blk WN _ _ _ by rw[←hWN];exact Blk.rowOver (by omega) K2.out);replace HB:Below w.heap.size w WN:=(by rw[←hWN];exact Below.row HB (by omega) HB.size);clear hWN k0 f0 l0 m0 k1 f1 l1 m1 k2 f2 l2 m2;obtain⟨k0,f0,l0,m0⟩:=rl_ K0;obtain⟨k1,f1,l1,m1⟩:=rl_ K1;obtain⟨k2,f2,l2,m2⟩:=rl_ K2;unfold Halted)
    (go_wp2_with(first|(with_reducible refine wsh (stSr_best _ K0.out (Up.zero)) rfl rfl ?_));generalize hWN:setRow _ _ _ _=WN;replace K0:=Z (show Blk WN _ _ _ by rw[←hWN];exact Blk.row K0.out.lt);replace K1:=Z (show Blk WN _ _ _ by rw[←hWN];exact Blk.rowOver (by omega) K1.out);replace K2:=Z (show Blk WN _ _ _ by rw[←hWN];exact Blk.rowOver (by omega) K2.out);replace HB:Below w.heap.size w WN:=(by rw[←hWN];exact Below.row HB (by omega) HB.size);clear hWN k0 f0 l0 m0 k1 f1 l1 m1 k2 f2 l2 m2;obtain⟨k0,f0,l0,m0⟩:=rl_ K0;obtain⟨k1,f1,l1,m1⟩:=rl_ K1;obtain⟨k2,f2,l2,m2⟩:=rl_ K2;unfold Halted)
    (go_wp2_with(first|(with_reducible refine wsh (stcSr_has _ K0.out (false)) rfl rfl ?_));generalize hWN:setRow _ _ _ _=WN;replace K0:=Z (show Blk WN _ _ _ by rw[←hWN];exact Blk.row K0.out.lt);replace K1:=Z (show Blk WN _ _ _ by rw[←hWN];exact Blk.rowOver (by omega) K1.out);replace K2:=Z (show Blk WN _ _ _ by rw[←hWN];exact Blk.rowOver (by omega) K2.out);replace HB:Below w.heap.size w WN:=(by rw[←hWN];exact Below.row HB (by omega) HB.size);clear hWN k0 f0 l0 m0 k1 f1 l1 m1 k2 f2 l2 m2;obtain⟨k0,f0,l0,m0⟩:=rl_ K0;obtain⟨k1,f1,l1,m1⟩:=rl_ K1;obtain⟨k2,f2,l2,m2⟩:=rl_ K2;unfold Halted)
    (go_wp2_with(first|(with_reducible refine wlr (ldSr _ K0.out) rfl ?_)|(with_reducible refine wlg (ldSr _ K0.out) (by with_unfolding_all rfl) rfl ?_)|(with_reducible refine wsh (stSr _ K2.out (clearP { t with fin:=u.fin,new:=u.fin })) rfl rfl ?_));generalize hWN:setRow _ _ _ _=WN;replace K2:=Z (show Blk WN _ _ _ by rw[←hWN];exact Blk.row K2.out.lt);replace K0:=Z (show Blk WN _ _ _ by rw[←hWN];exact Blk.rowOver (by omega) K0.out);replace K1:=Z (show Blk WN _ _ _ by rw[←hWN];exact Blk.rowOver (by omega) K1.out);replace HB:Below w.heap.size w WN:=(by rw[←hWN];exact Below.row HB (by omega) HB.size);clear hWN k2 f2 l2 m2 k0 f0 l0 m0 k1 f1 l1 m1;obtain⟨k2,f2,l2,m2⟩:=rl_ K2;obtain⟨k0,f0,l0,m0⟩:=rl_ K0;obtain⟨k1,f1,l1,m1⟩:=rl_ K1;unfold Halted)
    go_wp2_with fail
    exact bodyPost_ret (results_cell rfl rfl (ldSr _ K2.out)) rfl ⟨by rw[hfinal.out,e2.out],HB⟩
   ·have e2:=Z (show takeP2 t u={ t with fin:=u.fin } by unfold takeP2;rw[if_pos hf,if_neg hn])
    have hn2:¬ (t.new.b.slot:Int)<(u.fin.b.slot:Int):=by omega
    clear hf hn
    (go_wp2_with(first|(with_reducible refine wsh (stSr_fin _ K0.out (u.fin)) rfl rfl ?_));generalize hWN:setRow _ _ _ _=WN;replace K0:=Z (show Blk WN _ _ _ by rw[←hWN];exact Blk.row K0.out.lt);replace K1:=Z (show Blk WN _ _ _ by rw[←hWN];exact Blk.rowOver (by omega) K1.out);replace K2:=Z (show Blk WN _ _ _ by rw[←hWN];exact Blk.rowOver (by omega) K2.out);replace HB:Below w.heap.size w WN:=(by rw[←hWN];exact Below.row HB (by omega) HB.size);clear hWN k0 f0 l0 m0 k1 f1 l1 m1 k2 f2 l2 m2;obtain⟨k0,f0,l0,m0⟩:=rl_ K0;obtain⟨k1,f1,l1,m1⟩:=rl_ K1;obtain⟨k2,f2,l2,m2⟩:=rl_ K2;unfold Halted)
    (go_wp2_with(first|(with_reducible refine wsh (stSr_best _ K0.out (Up.zero)) rfl rfl ?_));generalize hWN:setRow _ _ _ _=WN;replace K0:=Z (show Blk WN _ _ _ by rw[←hWN];exact Blk.row K0.out.lt);replace K1:=Z (show Blk WN _ _ _ by rw[←hWN];exact Blk.rowOver (by omega) K1.out);replace K2:=Z (show Blk WN _ _ _ by rw[←hWN];exact Blk.rowOver (by omega) K2.out);replace HB:Below w.heap.size w WN:=(by rw[←hWN];exact Below.row HB (by omega) HB.size);clear hWN k0 f0 l0 m0 k1 f1 l1 m1 k2 f2 l2 m2;obtain⟨k0,f0,l0,m0⟩:=rl_ K0;obtain⟨k1,f1,l1,m1⟩:=rl_ K1;obtain⟨k2,f2,l2,m2⟩:=rl_ K2;unfold Halted)
    (go_wp2_with(first|(with_reducible refine wsh (stcSr_has _ K0.out (false)) rfl rfl ?_));generalize hWN:setRow _ _ _ _=WN;replace K0:=Z (show Blk WN _ _ _ by rw[←hWN];exact Blk.row K0.out.lt);replace K1:=Z (show Blk WN _ _ _ by rw[←hWN];exact Blk.rowOver (by omega) K1.out);replace K2:=Z (show Blk WN _ _ _ by rw[←hWN];exact Blk.rowOver (by omega) K2.out);replace HB:Below w.heap.size w WN:=(by rw[←hWN];exact Below.row HB (by omega) HB.size);clear hWN k0 f0 l0 m0 k1 f1 l1 m1 k2 f2 l2 m2;obtain⟨k0,f0,l0,m0⟩:=rl_ K0;obtain⟨k1,f1,l1,m1⟩:=rl_ K1;obtain⟨k2,f2,l2,m2⟩:=rl_ K2;unfold Halted)
    (go_wp2_with(first|(with_reducible refine wlr (ldSr _ K0.out) rfl ?_)|(with_reducible refine wlg (ldSr _ K0.out) (by with_unfolding_all rfl) rfl ?_)|(with_reducible refine wsh (stSr _ K2.out (clearP { t with fin:=u.fin })) rfl rfl ?_));generalize hWN:setRow _ _ _ _=WN;replace K2:=Z (show Blk WN _ _ _ by rw[←hWN];exact Blk.row K2.out.lt);replace K0:=Z (show Blk WN _ _ _ by rw[←hWN];exact Blk.rowOver (by omega) K0.out);replace K1:=Z (show Blk WN _ _ _ by rw[←hWN];exact Blk.rowOver (by omega) K1.out);replace HB:Below w.heap.size w WN:=(by rw[←hWN];exact Below.row HB (by omega) HB.size);clear hWN k2 f2 l2 m2 k0 f0 l0 m0 k1 f1 l1 m1;obtain⟨k2,f2,l2,m2⟩:=rl_ K2;obtain⟨k0,f0,l0,m0⟩:=rl_ K0;obtain⟨k1,f1,l1,m1⟩:=rl_ K1;unfold Halted)
    go_wp2_with fail
    exact bodyPost_ret (results_cell rfl rfl (ldSr _ K2.out)) rfl ⟨by rw[hfinal.out,e2.out],HB⟩
  ·have hf2:¬ (t.fin.b.slot:Int)<(u.fin.b.slot:Int):=by omega
   have e2:=Z (show takeP2 t u=t by unfold takeP2;rw[if_neg hf])
   clear hf
   (go_wp2_with(first|(with_reducible refine wsh (stSr_best _ K0.out (Up.zero)) rfl rfl ?_));generalize hWN:setRow _ _ _ _=WN;replace K0:=Z (show Blk WN _ _ _ by rw[←hWN];exact Blk.row K0.out.lt);replace K1:=Z (show Blk WN _ _ _ by rw[←hWN];exact Blk.rowOver (by omega) K1.out);replace K2:=Z (show Blk WN _ _ _ by rw[←hWN];exact Blk.rowOver (by omega) K2.out);replace HB:Below w.heap.size w WN:=(by rw[←hWN];exact Below.row HB (by omega) HB.size);clear hWN k0 f0 l0 m0 k1 f1 l1 m1 k2 f2 l2 m2;obtain⟨k0,f0,l0,m0⟩:=rl_ K0;obtain⟨k1,f1,l1,m1⟩:=rl_ K1;obtain⟨k2,f2,l2,m2⟩:=rl_ K2;unfold Halted)
   (go_wp2_with(first|(with_reducible refine wsh (stcSr_has _ K0.out (false)) rfl rfl ?_));generalize hWN:setRow _ _ _ _=WN;replace K0:=Z (show Blk WN _ _ _ by rw[←hWN];exact Blk.row K0.out.lt);replace K1:=Z (show Blk WN _ _ _ by rw[←hWN];exact Blk.rowOver (by omega) K1.out);replace K2:=Z (show Blk WN _ _ _ by rw[←hWN];exact Blk.rowOver (by omega) K2.out);replace HB:Below w.heap.size w WN:=(by rw[←hWN];exact Below.row HB (by omega) HB.size);clear hWN k0 f0 l0 m0 k1 f1 l1 m1 k2 f2 l2 m2;obtain⟨k0,f0,l0,m0⟩:=rl_ K0;obtain⟨k1,f1,l1,m1⟩:=rl_ K1;obtain⟨k2,f2,l2,m2⟩:=rl_ K2;unfold Halted)
   (go_wp2_with(first|(with_reducible refine wlr (ldSr _ K0.out) rfl ?_)|(with_reducible refine wlg (ldSr _ K0.out) (by with_unfolding_all rfl) rfl ?_)|(with_reducible refine wsh (stSr _ K2.out (clearP t)) rfl rfl ?_));generalize hWN:setRow _ _ _ _=WN;replace K2:=Z (show Blk WN _ _ _ by rw[←hWN];exact Blk.row K2.out.lt);replace K0:=Z (show Blk WN _ _ _ by rw[←hWN];exact Blk.rowOver (by omega) K0.out);replace K1:=Z (show Blk WN _ _ _ by rw[←hWN];exact Blk.rowOver (by omega) K1.out);replace HB:Below w.heap.size w WN:=(by rw[←hWN];exact Below.row HB (by omega) HB.size);clear hWN k2 f2 l2 m2 k0 f0 l0 m0 k1 f1 l1 m1;obtain⟨k2,f2,l2,m2⟩:=rl_ K2;obtain⟨k0,f0,l0,m0⟩:=rl_ K0;obtain⟨k1,f1,l1,m1⟩:=rl_ K1;unfold Halted)
   go_wp2_with fail
   exact bodyPost_ret (results_cell rfl rfl (ldSr _ K2.out)) rfl ⟨by rw[hfinal.out,e2.out],HB⟩
def SuW(w:World) (g:Nat) (s:Sr) (u:Up) (wx:World):Prop:=Blk wx g 39 (srA s)∧Blk wx (g+1) 37 (upA u)∧Below w.heap.size w wx
theorem lgslots_calls(s:Sr) (u:Up) (now:Nat) (hs:s.fin.b.slot<18446744073709551616) (hu1:u.seen.b.slot<18446744073709551616) (hu2:u.slot<18446744073709551616) (hn:now<18446744073709551616) (w:World):Calls Tryz.prog 67 #[srV s,upV u,.int .u64 now] w (Ret w (.int .i64 (slotsE s u now))):=by
 have n1:=fun W=>isFinal_calls u W
 have hz:=@not_final u
 have n3:=fun W=>known_calls s.next W
 have n4:=fun W=>hasNext_calls u W
 have n5:=fun W=>period_q s.fin.b.slot hs W
 have n6:=fun W=>period_q u.seen.b.slot hu1 W
 have n7:=fun W=>period_q u.slot hu2 W
 have hE:slotsE s u now=if now<u.slot∨u.slot≤u.seen.b.slot∨u.seen.b.slot<finSlot u then 142 else if period u.slot≠period s.fin.b.slot∧laterP s u=false then 143 else if u.seen.b.slot≤s.fin.b.slot∧firstP s u=false then 144 else 0:=rfl
 have hF:firstP s u=(!knownP s.next && (hasNextP u && decide (period u.seen.b.slot=period s.fin.b.slot))):=rfl
 have hL:laterP s u=(knownP s.next && decide (period u.slot=period s.fin.b.slot+1)):=rfl
 have hpl:period s.fin.b.slot<18446744073709551615:=by unfold period;omega
 rw[fin_slot]at hE
 generalize slotsE s u now=E at *
 generalize firstP s u=F at *
 generalize laterP s u=L at *
 generalize isFinalP u=r1 at *
 generalize knownP s.next=kn at *
 generalize hasNextP u=hn' at *
 generalize period s.fin.b.slot=pf at *
 generalize period u.seen.b.slot=ps at *
 generalize period u.slot=pu at *
 have e1:((ps:Int) == (pf:Int))=decide (ps=pf):=by rw[Bool.eq_iff_iff];simp;omega
 have e2:((pu:Int) == (pf:Int)+1)=decide (pu=pf+1):=by rw[Bool.eq_iff_iff];simp;omega
 generalize decide (ps=pf)=b1 at *
 generalize decide (pu=pf+1)=b2 at *
 replace hE:=Z hE
 replace hF:=Z hF
 replace hL:=Z hL
 replace n3:=Z n3
 replace n4:=Z n4
 replace n5:=Z n5
 replace n6:=Z n6
 replace n7:=Z n7
 replace n1:=Z n1
 replace hz:=Z hz
 go_enter Tryz.func67, Tryz.ntmps67
 go_upto_region 1 with fail
 have HB:Below w.heap.size w ((w.alloc (.cells (srA s) 39)).alloc (.cells (upA u) 37)):=bel
 have K0:=(Blk.new0 w 39 (srA s)).alloc (.cells (upA u) 37)
 have K1:=Blk.new1 w (.cells (srA s) 39) 37 (upA u)
 obtain⟨W,hW⟩:∃ W,((w.alloc (.cells (srA s) 39)).alloc (.cells (upA u) 37))=W:=⟨_,rfl⟩
 rw[hW]at HB K0 K1 ⊢
 clear hW
 have hgl:w.heap.size≤w.heap.size:=Nat.le_refl _
 obtain⟨g,hg⟩:∃ g,w.heap.size=g:=⟨_,rfl⟩
 rw[hg]at K0 K1 ⊢
 replace hgl:w.heap.size≤g:=by omega
 replace K0:=Z K0
 replace K1:=Z K1
 clear hg
 (obtain⟨k0,f0,l0,m0⟩:=rl_ K0;obtain⟨k1,f1,l1,m1⟩:=rl_ K1)
 go_wp2_with(first|(with_reducible refine wlr (ldUp _ K1.out) rfl ?_)|(with_reducible refine wlg (ldUp _ K1.out) (by with_unfolding_all rfl) rfl ?_))
 (refine(n1.out _).mono ?_;rintro e w1 ⟨rfl,hN⟩;replace K0:=hn_ K0 hN;replace K1:=hn_ K1 hN;replace HB:Below w.heap.size w w1:=Below.on hN HB;clear hN k0 f0 l0 m0 k1 f1 l1 m1;obtain⟨k0,f0,l0,m0⟩:=rl_ K0;obtain⟨k1,f1,l1,m1⟩:=rl_ K1)
 go_upto_if 13 with fail
 go_cut [7] (fun s7 wx=>s7=.int .u64 (u.fin.b.slot:Int)∧SuW w g s u wx)
 case first =>
  cases r1 with
  | false =>
   have hz2:=hz.out rfl
   go_wp2_with fail
   go_meet
   case rel=>exact⟨by rw[hz2];rfl,K0.out,K1.out,HB⟩
  | true =>
   go_wp2_with fail
   go_meet
   case rel=>exact⟨rfl,K0.out,K1.out,HB⟩
 case rest =>
  obtain⟨rfl,hW⟩:=hcut
  have j0:=Z hW.1
  have j1:=Z hW.2.1
  have HBn:=hW.2.2
  clear hW k0 f0 l0 m0 k1 f1 l1 m1 K0 K1 HB
  have K0:=j0;have K1:=j1;have HB:=HBn
  clear j0 j1 HBn
  (obtain⟨k0,f0,l0,m0⟩:=rl_ K0;obtain⟨k1,f1,l1,m1⟩:=rl_ K1)
  clear n1 hz
  go_wp2_with fail
  go_quiet ((go_at_call 36; exact qs (n5.out _)))
  (generalize hWN:World.drewN wc _=w2;replace K0:=Z (show Blk w2 _ _ _ by rw[←hWN];exact K0.out.drewN _);replace K1:=Z (show Blk w2 _ _ _ by rw[←hWN];exact K1.out.drewN _);replace HB:Below w.heap.size w w2:=(by rw[←hWN];exact below_drewN HB _);clear hWN k0 f0 l0 m0 k1 f1 l1 m1;obtain⟨k0,f0,l0,m0⟩:=rl_ K0;obtain⟨k1,f1,l1,m1⟩:=rl_ K1)
  clear n5
  go_upto_region 5 with fail
  go_cut [10] (fun s10 wx=>s10=.bool F∧SuW w g s u wx)
  case first =>
   go_wp2_with fail
   (refine(n3.out _).mono ?_;rintro e w3 ⟨rfl,hN⟩;replace K0:=hn_ K0 hN;replace K1:=hn_ K1 hN;replace HB:Below w.heap.size w w3:=Below.on hN HB;clear hN k0 f0 l0 m0 k1 f1 l1 m1;obtain⟨k0,f0,l0,m0⟩:=rl_ K0;obtain⟨k1,f1,l1,m1⟩:=rl_ K1)
   cases kn with
   | true =>
    go_wp2_with fail
    go_meet
    case rel=>exact⟨by rw[hF.out];rfl,K0.out,K1.out,HB⟩
   | false =>
    go_wp2_with(first|(with_reducible refine wlr (ldUp _ K1.out) rfl ?_)|(with_reducible refine wlg (ldUp _ K1.out) (by with_unfolding_all rfl) rfl ?_))
    (refine(n4.out _).mono ?_;rintro e w4 ⟨rfl,hN⟩;replace K0:=hn_ K0 hN;replace K1:=hn_ K1 hN;replace HB:Below w.heap.size w w4:=Below.on hN HB;clear hN k0 f0 l0 m0 k1 f1 l1 m1;obtain⟨k0,f0,l0,m0⟩:=rl_ K0;obtain⟨k1,f1,l1,m1⟩:=rl_ K1)
    cases hn' with
    | false =>
     go_wp2_with fail
     go_meet
     case rel=>exact⟨by rw[hF.out];rfl,K0.out,K1.out,HB⟩
    | true =>
     go_wp2_with fail
     refine(n6.out _).mono ?_
     rintro e w5 ⟨rfl,rfl⟩
     go_wp2_with fail
     go_meet
     case rel=>exact⟨by rw[hF.out];rfl,K0.out,K1.out,HB⟩
  case rest =>
   obtain⟨rfl,hW⟩:=hcut
   have j0:=Z hW.1
   have j1:=Z hW.2.1
   have HBn:=hW.2.2
   clear hW k0 f0 l0 m0 k1 f1 l1 m1 K0 K1 HB
   have K0:=j0;have K1:=j1;have HB:=HBn
   clear j0 j1 HBn
   (obtain⟨k0,f0,l0,m0⟩:=rl_ K0;obtain⟨k1,f1,l1,m1⟩:=rl_ K1)
   go_upto_region 6 with fail
   go_cut [11] (fun s11 wx=>s11=.bool L∧SuW w g s u wx)
   case first =>
    go_wp2_with fail
    (refine(n3.out _).mono ?_;rintro e w3 ⟨rfl,hN⟩;replace K0:=hn_ K0 hN;replace K1:=hn_ K1 hN;replace HB:Below w.heap.size w w3:=Below.on hN HB;clear hN k0 f0 l0 m0 k1 f1 l1 m1;obtain⟨k0,f0,l0,m0⟩:=rl_ K0;obtain⟨k1,f1,l1,m1⟩:=rl_ K1)
    cases kn with
    | false =>
     go_wp2_with fail
     go_meet
     case rel=>exact⟨by rw[hL.out];rfl,K0.out,K1.out,HB⟩
    | true =>
     go_wp2_with fail
     refine(n7.out _).mono ?_
     rintro e w5 ⟨rfl,rfl⟩
     go_wp2_with fail
     go_meet
     case rel=>exact⟨by rw[hL.out];rfl,K0.out,K1.out,HB⟩
   case rest =>
    obtain⟨rfl,hW⟩:=hcut
    have j0:=Z hW.1
    have j1:=Z hW.2.1
    have HBn:=hW.2.2
    clear hW k0 f0 l0 m0 k1 f1 l1 m1 K0 K1 HB
    have K0:=j0;have K1:=j1;have HB:=HBn
    clear j0 j1 HBn
    (obtain⟨k0,f0,l0,m0⟩:=rl_ K0;obtain⟨k1,f1,l1,m1⟩:=rl_ K1)
    clear n3 n4 n6 hF hL e1 e2
    by_cases h1:now<u.slot
    ·have h1i:(now:Int)<(u.slot:Int):=by omega
     have hv:E=142:=by rw[hE.out,if_pos (by omega)]
     replace hv:=Z hv
     clear h1 hE
     go_wp2_with fail
     go_ret
     exact⟨by rw[hv.out];rfl,HB⟩
    ·have h1i:¬ (now:Int)<(u.slot:Int):=by omega
     by_cases h2:u.slot≤u.seen.b.slot
     ·have h2i:(u.slot:Int)≤(u.seen.b.slot:Int):=by omega
      have hv:E=142:=by rw[hE.out,if_pos (by omega)]
      replace hv:=Z hv
      clear h1 h2 hE
      go_wp2_with fail
      go_ret
      exact⟨by rw[hv.out];rfl,HB⟩
     ·have h2i:¬ (u.slot:Int)≤(u.seen.b.slot:Int):=by omega
      by_cases h3:u.seen.b.slot<u.fin.b.slot
      ·have h3i:(u.seen.b.slot:Int)<(u.fin.b.slot:Int):=by omega
       have hv:E=142:=by rw[hE.out,if_pos (by omega)]
       replace hv:=Z hv
       clear h1 h2 h3 hE
       go_wp2_with fail
       go_ret
       exact⟨by rw[hv.out];rfl,HB⟩
      ·have h3i:¬ (u.seen.b.slot:Int)<(u.fin.b.slot:Int):=by omega
       have hE2:=hE.out
       rw[if_neg (by omega)]at hE2
       replace hE2:=Z hE2
       clear h1 h2 h3 hE
       by_cases h4:pu=pf
       ·have h4i:((pu:Int) != (pf:Int))=false:=by simp;omega
        have hE3:=hE2.out
        rw[if_neg (fun h=>h.1 h4)]at hE3
        replace hE3:=Z hE3
        clear hE2 h4
        go_wp2_with fail
        refine(n7.out _).mono ?_
        rintro e w5 ⟨rfl,rfl⟩
        clear n7
        by_cases h5:u.seen.b.slot≤s.fin.b.slot
        ·have h5i:(u.seen.b.slot:Int)≤(s.fin.b.slot:Int):=by omega
         cases F with
         | false =>
          have hv:E=144:=by rw[hE3.out,if_pos ⟨h5,rfl⟩]
          replace hv:=Z hv
          clear hE3 h5
          go_wp2_with fail
          go_ret
          exact⟨by rw[hv.out];rfl,HB⟩
         | true =>
          have hv:E=0:=by rw[hE3.out,if_neg (fun h=>by cases h.2)]
          replace hv:=Z hv
          clear hE3 h5
          go_wp2_with fail
          go_ret
          exact⟨by rw[hv.out];rfl,HB⟩
        ·have h5i:¬ (u.seen.b.slot:Int)≤(s.fin.b.slot:Int):=by omega
         have hv:E=0:=by rw[hE3.out,if_neg (fun h=>h5 h.1)]
         replace hv:=Z hv
         clear hE3 h5
         go_wp2_with fail
         go_ret
         exact⟨by rw[hv.out];rfl,HB⟩
       ·have h4i:((pu:Int) != (pf:Int))=true:=by simp;omega
        cases L with
        | false =>
         have hv:E=143:=by rw[hE2.out,if_pos ⟨h4,rfl⟩]
         replace hv:=Z hv
         clear hE2 h4
         go_wp2_with fail
         refine(n7.out _).mono ?_
         rintro e w5 ⟨rfl,rfl⟩
         go_wp2_with fail
         go_ret
         exact⟨by rw[hv.out];rfl,HB⟩
        | true =>
         have hE3:=hE2.out
         rw[if_neg (fun h=>by cases h.2)]at hE3
         replace hE3:=Z hE3
         clear hE2 h4
         go_wp2_with fail
         refine(n7.out _).mono ?_
         rintro e w5 ⟨rfl,rfl⟩
         clear n7
         by_cases h5:u.seen.b.slot≤s.fin.b.slot
         ·have h5i:(u.seen.b.slot:Int)≤(s.fin.b.slot:Int):=by omega
          cases F with
          | false =>
           have hv:E=144:=by rw[hE3.out,if_pos ⟨h5,rfl⟩]
           replace hv:=Z hv
           clear hE3 h5
           go_wp2_with fail
           go_ret
           exact⟨by rw[hv.out];rfl,HB⟩
          | true =>
           have hv:E=0:=by rw[hE3.out,if_neg (fun h=>by cases h.2)]
           replace hv:=Z hv
           clear hE3 h5
           go_wp2_with fail
           go_ret
           exact⟨by rw[hv.out];rfl,HB⟩
         ·have h5i:¬ (u.seen.b.slot:Int)≤(s.fin.b.slot:Int):=by omega
          have hv:E=0:=by rw[hE3.out,if_neg (fun h=>h5 h.1)]
          replace hv:=Z hv
          clear hE3 h5
          go_wp2_with fail
          go_ret
          exact⟨by rw[hv.out];rfl,HB⟩
theorem check_few(s:Sr) (u:Up) (now:Nat) (h0:onesP u.bits=0) (w:World):Calls Tryz.prog 32 #[srV s,upV u,.int .u64 now] w (Ret w (.int .i64 141)):=by
 have n1:=fun W=>signers_calls u W
 rw[h0]at n1
 replace n1:∀ W,Calls Tryz.prog 38 #[upV u] W (Ret W (.int .i64 0)):=n1
 replace n1:=Z n1
 clear h0
 go_enter Tryz.func32, Tryz.ntmps32
 go_upto_region 1 with fail
 have HB:Below w.heap.size w ((w.alloc (.cells (srA s) 39)).alloc (.cells (upA u) 37)):=bel
 have K0:=(Blk.new0 w 39 (srA s)).alloc (.cells (upA u) 37)
 have K1:=Blk.new1 w (.cells (srA s) 39) 37 (upA u)
 obtain⟨W,hW⟩:∃ W,((w.alloc (.cells (srA s) 39)).alloc (.cells (upA u) 37))=W:=⟨_,rfl⟩
 rw[hW]at HB K0 K1 ⊢
 clear hW
 have hgl:w.heap.size≤w.heap.size:=Nat.le_refl _
 obtain⟨g,hg⟩:∃ g,w.heap.size=g:=⟨_,rfl⟩
 rw[hg]at K0 K1 ⊢
 replace hgl:w.heap.size≤g:=by omega
 replace K0:=Z K0
 replace K1:=Z K1
 clear hg
 (obtain⟨k0,f0,l0,m0⟩:=rl_ K0;obtain⟨k1,f1,l1,m1⟩:=rl_ K1)
 go_wp2_with(first|(with_reducible refine wlr (ldUp _ K1.out) rfl ?_)|(with_reducible refine wlg (ldUp _ K1.out) (by with_unfolding_all rfl) rfl ?_))
 (refine(n1.out _).mono ?_;rintro e w1 ⟨rfl,hN⟩;replace K0:=hn_ K0 hN;replace K1:=hn_ K1 hN;replace HB:Below w.heap.size w w1:=Below.on hN HB;clear hN k0 f0 l0 m0 k1 f1 l1 m1;obtain⟨k0,f0,l0,m0⟩:=rl_ K0;obtain⟨k1,f1,l1,m1⟩:=rl_ K1)
 go_wp2_with fail
 go_ret
 exact⟨rfl,HB⟩
theorem check_head(s:Sr) (u:Up) (now:Nat) (h0:onesP u.bits≠0) (hh:holdsP u.seen=false) (w:World) (hk:HasK w) (hu:LtIn w u.seen):Calls Tryz.prog 32 #[srV s,upV u,.int .u64 now] w (Ret w (.int .i64 130)):=by
 have n1:=fun W=>signers_calls u W
 have n2:=fun W (hB:Below w.heap.size w W)=>lholds_calls u.seen W (hk.on hB) (hu.below hB)
 rw[hh]at n2
 have e1:(((onesP u.bits:Nat):Int) == 0)=false:=by simp;exact h0
 generalize onesP u.bits=k at *
 replace n1:=Z n1
 replace n2:=Z n2
 clear h0 hh hu hk
 go_enter Tryz.func32, Tryz.ntmps32
 go_upto_region 1 with fail
 have HB:Below w.heap.size w ((w.alloc (.cells (srA s) 39)).alloc (.cells (upA u) 37)):=bel
 have K0:=(Blk.new0 w 39 (srA s)).alloc (.cells (upA u) 37)
 have K1:=Blk.new1 w (.cells (srA s) 39) 37 (upA u)
 obtain⟨W,hW⟩:∃ W,((w.alloc (.cells (srA s) 39)).alloc (.cells (upA u) 37))=W:=⟨_,rfl⟩
 rw[hW]at HB K0 K1 ⊢
 clear hW
 have hgl:w.heap.size≤w.heap.size:=Nat.le_refl _
 obtain⟨g,hg⟩:∃ g,w.heap.size=g:=⟨_,rfl⟩
 rw[hg]at K0 K1 ⊢
 replace hgl:w.heap.size≤g:=by omega
 replace K0:=Z K0
 replace K1:=Z K1
 clear hg
 (obtain⟨k0,f0,l0,m0⟩:=rl_ K0;obtain⟨k1,f1,l1,m1⟩:=rl_ K1)
 go_wp2_with(first|(with_reducible refine wlr (ldUp _ K1.out) rfl ?_)|(with_reducible refine wlg (ldUp _ K1.out) (by with_unfolding_all rfl) rfl ?_))
 (refine(n1.out _).mono ?_;rintro e w1 ⟨rfl,hN⟩;replace K0:=hn_ K0 hN;replace K1:=hn_ K1 hN;replace HB:Below w.heap.size w w1:=Below.on hN HB;clear hN k0 f0 l0 m0 k1 f1 l1 m1;obtain⟨k0,f0,l0,m0⟩:=rl_ K0;obtain⟨k1,f1,l1,m1⟩:=rl_ K1)
 go_wp2_with fail
 (refine(n2.out _ HB).mono ?_;rintro e w2 ⟨rfl,hN⟩;replace K0:=hn_ K0 hN;replace K1:=hn_ K1 hN;replace HB:Below w.heap.size w w2:=Below.on hN HB;clear hN k0 f0 l0 m0 k1 f1 l1 m1;obtain⟨k0,f0,l0,m0⟩:=rl_ K0;obtain⟨k1,f1,l1,m1⟩:=rl_ K1)
 go_wp2_with fail
 go_ret
 exact⟨rfl,HB⟩
def beginS(root:Bytes) (b:Bt):Sr:=if beginE root b=0 then beginP b else Sr.zero
theorem cmRoot_len(c:Cm):(cmRoot c).length≤1048576:=by
 unfold cmRoot
 split
 ·rw[sha_len];decide
 ·simp
theorem build_begin(l1 l2:Lt) (c:Cm) (w:World):(Instr.build 39 #[(0,ltV l1),(1,ltV l2),(2,cmV c)]).run Tryz.prog w=.ok (srV { Sr.zero with fin:=l1,new:=l2,now:=c }) w :=
 run_build w _ _ (srA { Sr.zero with fin:=l1,new:=l2,now:=c }) U
theorem wpList_build_run{P:Program}{ops:Array Oper}{rest:List Oper}{o:Oper}{a:Act}{w:World}{Q:Exit→Act→World→Prop}{t:TypeId}{parts:Array (Nat×Value)}{v:Value} (hr:(Instr.build t parts).run P w=.ok v w) (hgd:o.guard=none) (ps:Array (Nat×Operand)) (ho:o.op=.build t ps) (hx:(ps.map fun(q:Nat×Operand)=>(q.1,a.eval q.2))=parts) (h:wpList P ops Q rest (a.put o.dst v) w):wpList P ops Q (o :: rest) a w:=by
 refine wpList_plain hgd fun K hK=>?_
 unfold Oper.wp execOp
 subst hx
 simp only[ho,Sem.run_bind,hr,Result.andThen_ok,Sem.run_pure]
 exact hK _ _ h
theorem begin_calls(root:Bytes) (b:Bt) (w:World) (hk:HasK w) (hb:BtIn w b):Calls Tryz.prog 48 #[.string (bs root),btV b] w (Ret w (.tuple #[srV (beginS root b),.int .i64 (beginE root b)])):=by
 have n1:=fun W (hB:Below w.heap.size w W)=>croot_calls b.now W (hk.on hB) (hb.2.1.below hB)
 have n2:=fun W (hB:Below w.heap.size w W)=>hroot_calls b.lt.b W (hk.on hB) (hb.1.1.below hB)
 have n3:=fun W (hB:Below w.heap.size w W)=>lholds_calls b.lt W (hk.on hB) (hb.1.below hB)
 have n4:=fun W (hB:Below w.heap.size w W)=>under_calls (cmRoot b.now) b.br 4 b.lt.b.state W (hk.on hB) (cmRoot_len b.now) hb.1.1.2.2.2.1 (by decide) (hb.2.2.below hB)
 have hE:beginE root b=if cmOk b.now && holdsP b.lt then if hdRoot b.lt.b=root then if underP (cmRoot b.now) b.br.l 4 b.lt.b.state then 0 else 145 else 140 else 130:=rfl
 have hS:beginS root b=if beginE root b=0 then beginP b else Sr.zero:=rfl
 unfold cmE at n1
 unfold rwV at n4
 generalize beginE root b=E at *
 generalize beginS root b=S at *
 generalize cmRoot b.now=cr at *
 generalize cmOk b.now=r1 at *
 generalize hdRoot b.lt.b=hr at *
 generalize hdE b.lt.b=he at *
 generalize holdsP b.lt=r3 at *
 generalize underP cr b.br.l 4 b.lt.b.state=r4 at *
 replace hE:=Z hE
 replace hS:=Z hS
 replace n2:=Z n2
 replace n3:=Z n3
 replace n4:=Z n4
 clear hb hk
 have K0:=(Blk.new0 w 59 (btA b)).alloc (.cells (srA Sr.zero) 39)
 have K1:=Blk.new1 w (.cells (btA b) 59) 39 (srA Sr.zero)
 have HB:Below w.heap.size w ((w.alloc (.cells (btA b) 59)).alloc (.cells (srA Sr.zero) 39)):=bel
 cases r1 with
 | false =>
  rw[if_neg (by simp)]at n1
  replace n1:=Z n1
  have hE2:E=130:=by rw[hE.out];rfl
  have hS2:S=Sr.zero:=by rw[hS.out,hE2];rfl
  replace hE2:=Z hE2
  replace hS2:=Z hS2
  go_enter Tryz.func48, Tryz.ntmps48
  go_upto_region 1 with fail
  obtain⟨W,hW⟩:∃ W,((w.alloc (.cells (btA b) 59)).alloc (.cells (srA Sr.zero) 39))=W:=⟨_,rfl⟩
  rw[hW]at K0 K1 HB ⊢
  clear hW
  have hgl:w.heap.size≤w.heap.size:=Nat.le_refl _
  obtain⟨g,hg⟩:∃ g,w.heap.size=g:=⟨_,rfl⟩
  rw[hg]at K0 K1 ⊢
  replace hgl:w.heap.size≤g:=by omega
  clear hg
  replace K0:=Z K0
  replace K1:=Z K1
  (obtain⟨k0,f0,l0,m0⟩:=rl_ K0;obtain⟨k1,f1,l1,m1⟩:=rl_ K1)
  go_wp2_with fail
  (refine(n1.out _ HB).mono ?_;rintro e w1 ⟨rfl,hN⟩;replace K0:=hn_ K0 hN;replace K1:=hn_ K1 hN;replace HB:Below w.heap.size w w1:=Below.on hN HB;clear hN k0 f0 l0 m0 k1 f1 l1 m1;obtain⟨k0,f0,l0,m0⟩:=rl_ K0;obtain⟨k1,f1,l1,m1⟩:=rl_ K1)
  go_wp2_with fail
  (refine(n2.out _ HB).mono ?_;rintro e w2 ⟨rfl,hN⟩;replace K0:=hn_ K0 hN;replace K1:=hn_ K1 hN;replace HB:Below w.heap.size w w2:=Below.on hN HB;clear hN k0 f0 l0 m0 k1 f1 l1 m1;obtain⟨k0,f0,l0,m0⟩:=rl_ K0;obtain⟨k1,f1,l1,m1⟩:=rl_ K1)
  (go_wp2_with(first|(with_reducible refine wsh (stSr _ K1.out (Sr.zero)) rfl rfl ?_));generalize hWN:setRow _ _ _ _=WN;replace K1:=Z (show Blk WN _ _ _ by rw[←hWN];exact Blk.row K1.out.lt);replace K0:=Z (show Blk WN _ _ _ by rw[←hWN];exact Blk.rowOver (by omega) K0.out);replace HB:Below w.heap.size w WN:=(by rw[←hWN];exact Below.row HB (by omega) HB.size);clear hWN k1 f1 l1 m1 k0 f0 l0 m0;obtain⟨k1,f1,l1,m1⟩:=rl_ K1;obtain⟨k0,f0,l0,m0⟩:=rl_ K0;unfold Halted)
  go_wp2_with fail
  exact bodyPost_ret (results_cell2 rfl rfl (ldSr _ K1.out)) rfl ⟨by rw[hS2.out,hE2.out];rfl,HB⟩
 | true =>
  rw[if_pos rfl]at n1
  replace n1:=Z n1
  go_enter Tryz.func48, Tryz.ntmps48
  go_upto_region 1 with fail
  obtain⟨W,hW⟩:∃ W,((w.alloc (.cells (btA b) 59)).alloc (.cells (srA Sr.zero) 39))=W:=⟨_,rfl⟩
  rw[hW]at K0 K1 HB ⊢
  clear hW
  have hgl:w.heap.size≤w.heap.size:=Nat.le_refl _
  obtain⟨g,hg⟩:∃ g,w.heap.size=g:=⟨_,rfl⟩
  rw[hg]at K0 K1 ⊢
  replace hgl:w.heap.size≤g:=by omega
  clear hg
  replace K0:=Z K0
  replace K1:=Z K1
  (obtain⟨k0,f0,l0,m0⟩:=rl_ K0;obtain⟨k1,f1,l1,m1⟩:=rl_ K1)
  go_wp2_with fail
  (refine(n1.out _ HB).mono ?_;rintro e w1 ⟨rfl,hN⟩;replace K0:=hn_ K0 hN;replace K1:=hn_ K1 hN;replace HB:Below w.heap.size w w1:=Below.on hN HB;clear hN k0 f0 l0 m0 k1 f1 l1 m1;obtain⟨k0,f0,l0,m0⟩:=rl_ K0;obtain⟨k1,f1,l1,m1⟩:=rl_ K1)
  go_wp2_with fail
  (refine(n2.out _ HB).mono ?_;rintro e w2 ⟨rfl,hN⟩;replace K0:=hn_ K0 hN;replace K1:=hn_ K1 hN;replace HB:Below w.heap.size w w2:=Below.on hN HB;clear hN k0 f0 l0 m0 k1 f1 l1 m1;obtain⟨k0,f0,l0,m0⟩:=rl_ K0;obtain⟨k1,f1,l1,m1⟩:=rl_ K1)
  go_wp2_with fail
  (refine(n3.out _ HB).mono ?_;rintro e w3 ⟨rfl,hN⟩;replace K0:=hn_ K0 hN;replace K1:=hn_ K1 hN;replace HB:Below w.heap.size w w3:=Below.on hN HB;clear hN k0 f0 l0 m0 k1 f1 l1 m1;obtain⟨k0,f0,l0,m0⟩:=rl_ K0;obtain⟨k1,f1,l1,m1⟩:=rl_ K1)
  cases r3 with
  | false =>
   have hE2:E=130:=by rw[hE.out];rfl
   have hS2:S=Sr.zero:=by rw[hS.out,hE2];rfl
   replace hE2:=Z hE2
   replace hS2:=Z hS2
   (go_wp2_with(first|(with_reducible refine wsh (stSr _ K1.out (Sr.zero)) rfl rfl ?_));generalize hWN:setRow _ _ _ _=WN;replace K1:=Z (show Blk WN _ _ _ by rw[←hWN];exact Blk.row K1.out.lt);replace K0:=Z (show Blk WN _ _ _ by rw[←hWN];exact Blk.rowOver (by omega) K0.out);replace HB:Below w.heap.size w WN:=(by rw[←hWN];exact Below.row HB (by omega) HB.size);clear hWN k1 f1 l1 m1 k0 f0 l0 m0;obtain⟨k1,f1,l1,m1⟩:=rl_ K1;obtain⟨k0,f0,l0,m0⟩:=rl_ K0;unfold Halted)
   go_wp2_with fail
   exact bodyPost_ret (results_cell2 rfl rfl (ldSr _ K1.out)) rfl ⟨by rw[hS2.out,hE2.out];rfl,HB⟩
  | true =>
   by_cases hrr:hr=root
   ·subst hrr
    go_wp2_with fail
    (refine(n4.out _ HB).mono ?_;rintro e w4 ⟨rfl,hN⟩;replace K0:=hn_ K0 hN;replace K1:=hn_ K1 hN;replace HB:Below w.heap.size w w4:=Below.on hN HB;clear hN k0 f0 l0 m0 k1 f1 l1 m1;obtain⟨k0,f0,l0,m0⟩:=rl_ K0;obtain⟨k1,f1,l1,m1⟩:=rl_ K1)
    cases r4 with
    | false =>
     have hE2:E=145:=by rw[hE.out];simp
     have hS2:S=Sr.zero:=by rw[hS.out,hE2];rfl
     replace hE2:=Z hE2
     replace hS2:=Z hS2
     (go_wp2_with(first|(with_reducible refine wsh (stSr _ K1.out (Sr.zero)) rfl rfl ?_));generalize hWN:setRow _ _ _ _=WN;replace K1:=Z (show Blk WN _ _ _ by rw[←hWN];exact Blk.row K1.out.lt);replace K0:=Z (show Blk WN _ _ _ by rw[←hWN];exact Blk.rowOver (by omega) K0.out);replace HB:Below w.heap.size w WN:=(by rw[←hWN];exact Below.row HB (by omega) HB.size);clear hWN k1 f1 l1 m1 k0 f0 l0 m0;obtain⟨k1,f1,l1,m1⟩:=rl_ K1;obtain⟨k0,f0,l0,m0⟩:=rl_ K0;unfold Halted)
     go_wp2_with fail
     exact bodyPost_ret (results_cell2 rfl rfl (ldSr _ K1.out)) rfl ⟨by rw[hS2.out,hE2.out];rfl,HB⟩
    | true =>
     have hE2:E=0:=by rw[hE.out];simp
     have hS2:S=beginP b:=by rw[hS.out,hE2];rfl
     replace hE2:=Z hE2
     replace hS2:=Z hS2
     go_upto_region 9 with fail
     go_wp2_with(first|(with_reducible refine wpList_build_run (o:=⟨_,.build 39 _,_,_,_,none⟩) (build_begin b.lt b.lt b.now _) rfl _ rfl (by with_unfolding_all rfl) ?_)|(with_reducible refine wsh (stSr _ K1.out { Sr.zero with fin:=b.lt,new:=b.lt,now:=b.now }) rfl rfl ?_))
     generalize hWN:setRow _ _ _ _=WN
     have N1:=Z (show Blk WN (g+1) 39 (srA { Sr.zero with fin:=b.lt,new:=b.lt,now:=b.now }) by rw[←hWN];exact Blk.row K1.out.lt)
     have HBn:Below w.heap.size w WN:=by rw[←hWN];exact Below.row HB (by omega) HB.size
     clear hWN
     unfold Halted
     go_wp2_with fail
     exact bodyPost_ret (results_cell2 rfl rfl (ldSr _ N1.out)) rfl ⟨by rw[hS2.out,hE2.out];rfl,HBn⟩
   ·have e5:(hr == root)=false:=by simpa using hrr
    have e6:(hr != root)=true:=by simpa using hrr
    have hE2:E=140:=by rw[hE.out];simp[hrr]
    have hS2:S=Sr.zero:=by rw[hS.out,hE2];rfl
    replace hE2:=Z hE2
    replace hS2:=Z hS2
    clear hrr
    (go_wp2_with(first|(with_reducible refine wsh (stSr _ K1.out (Sr.zero)) rfl rfl ?_));generalize hWN:setRow _ _ _ _=WN;replace K1:=Z (show Blk WN _ _ _ by rw[←hWN];exact Blk.row K1.out.lt);replace K0:=Z (show Blk WN _ _ _ by rw[←hWN];exact Blk.rowOver (by omega) K0.out);replace HB:Below w.heap.size w WN:=(by rw[←hWN];exact Below.row HB (by omega) HB.size);clear hWN k1 f1 l1 m1 k0 f0 l0 m0;obtain⟨k1,f1,l1,m1⟩:=rl_ K1;obtain⟨k0,f0,l0,m0⟩:=rl_ K0;unfold Halted)
    go_wp2_with fail
    exact bodyPost_ret (results_cell2 rfl rfl (ldSr _ K1.out)) rfl ⟨by rw[hS2.out,hE2.out];rfl,HB⟩
end
end Go.Proofs.YtobgigcdpiikaaaGreatDoor
