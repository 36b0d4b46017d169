/- Plain laws and walks, each by its own conditions. -/
import Derived.Test.YtobgigcdpiikaaaGreatDoorUc23
set_option linter.unusedSimpArgs false
set_option linter.unusedVariables false
set_option maxRecDepth 100000
set_option maxHeartbeats 16000000
namespace Go.Proofs.YtobgigcdpiikaaaGreatDoor
section
open BigFrame Go.RowKit Go.Phx Go.Shelf
attribute [local go_sem] Oper.semAt_some
theorem lrowsame(A B:Option Addr) (c d:Nat) (L M:List Bytes) (hL:L.length≤1048576) (hM:M.length≤1048576) (w:World) (h1:Txts w A L) (h2:Txts w B M) :
  Calls Tryz.prog 82 #[.slice A L.length c,.slice B M.length d] w (Ret w (.bool (L == M))):=by
 rw[show(L == M)=decide (L=M) by rw[Bool.eq_iff_iff];simp]
 exact same_calls A B c d L M (by omega) (by omega) w h1 h2
theorem rsameLt_calls(a b:Lt) (w:World) (ha:LtIn w a) (hb:LtIn w b):Calls Tryz.prog 44 #[ltV a,ltV b] w (Ret w (.bool (sameLt a b))):=by
 have n1:=fun W (hB:Below w.heap.size w W)=>lrowsame a.br.addr b.br.addr a.br.cap b.br.cap a.br.l b.br.l ha.2.2.2.2.1 hb.2.2.2.2.1 W (Txts.below ha.2.2.1 hB) (Txts.below hb.2.2.1 hB)
 have e1:=eqHd_run a.b b.b
 have e2:=eqEx_run a.x b.x
 unfold sameLt
 generalize eqHd a.b b.b=r1 at *
 generalize eqEx a.x b.x=r2 at *
 generalize(a.br.l == b.br.l)=r3 at *
 replace n1:=Z n1
 clear ha hb
 cases r1
 ·go_enter Tryz.func44, Tryz.ntmps44
  go_wp2_with fail
  go_ret
  exact⟨rfl,bel⟩
 ·cases r2
  ·go_enter Tryz.func44, Tryz.ntmps44
   go_wp2_with fail
   go_ret
   exact⟨rfl,bel⟩
  ·go_enter Tryz.func44, Tryz.ntmps44
   go_wp2_with fail
   refine(n1.out _ bel).mono ?_
   rintro e w1 ⟨rfl,h1⟩
   go_wp2_with fail
   go_ret
   exact⟨rfl,Below.on h1 bel⟩
theorem rsameCm_calls(a b:Cm) (w:World) (ha:CmIn w a) (hb:CmIn w b):Calls Tryz.prog 45 #[cmV a,cmV b] w (Ret w (.bool (sameCm a b))):=by
 have n1:=fun W (hB:Below w.heap.size w W)=>lrowsame a.ks.addr b.ks.addr a.ks.cap b.ks.cap a.ks.l b.ks.l ha.1.2.2.1 hb.1.2.2.1 W (Txts.below ha.1.1 hB) (Txts.below hb.1.1 hB)
 unfold sameCm
 generalize(a.ks.l == b.ks.l)=r at *
 replace n1:=Z n1
 clear ha hb
 by_cases he:a.sum=b.sum
 ·have e1:(a.sum == b.sum)=true:=by simpa using he
  rw[e1]
  go_enter Tryz.func45, Tryz.ntmps45
  go_wp2_with fail
  refine(n1.out _ bel).mono ?_
  rintro e w1 ⟨rfl,h1⟩
  go_wp2_with fail
  go_ret
  exact⟨rfl,Below.on h1 bel⟩
 ·have e1:(a.sum == b.sum)=false:=by simpa using he
  rw[e1]
  go_enter Tryz.func45, Tryz.ntmps45
  go_wp2_with fail
  go_ret
  exact⟨rfl,bel⟩
theorem r3(n:Nat):IntKind.i64.wrap (3*((onesP n:Nat):Int))=3*((onesP n:Nat):Int):=mul3 n
theorem lgfinal_calls(u:Up) (w:World) (hk:HasK w) (hu:UpIn w u):Calls Tryz.prog 68 #[upV u] w (Ret w (.int .i64 (finalE u))):=by
 have n1:=fun W=>isFinal_calls u W
 have n2:=fun W (hB:Below w.heap.size w W)=>lholds_calls u.fin W (hk.on hB) (hu.2.2.2.1.below hB)
 have n3:=fun W (hB:Below w.heap.size w W)=>hroot_calls u.fin.b W (hk.on hB) (hu.2.2.2.1.1.below hB)
 have n4:=fun W (hB:Below w.heap.size w W)=>under_calls (hdRoot u.fin.b) u.fb 3 u.seen.b.state W (hk.on hB) (by have:=hdRoot_len u.fin.b;omega) hu.1.1.2.2.2.1 (by decide) (hu.2.2.2.2.1.below hB)
 have hE:finalE u=if isFinalP u then if holdsP u.fin then if underP (hdRoot u.fin.b) u.fb.l 3 u.seen.b.state then 0 else 145 else 130 else 0:=rfl
 unfold rwV at n4
 generalize finalE u=E at *
 generalize isFinalP u=r1 at *
 generalize holdsP u.fin=r2 at *
 generalize hdRoot u.fin.b=hr at *
 generalize hdE u.fin.b=he at *
 generalize underP hr u.fb.l 3 u.seen.b.state=r4 at *
 replace hE:=Z hE
 replace n1:=Z n1
 replace n2:=Z n2
 replace n3:=Z n3
 replace n4:=Z n4
 clear hu hk
 go_enter Tryz.func68, Tryz.ntmps68
 go_upto_region 1 with fail
 have HB:Below w.heap.size w (w.alloc (.cells (upA u) 37)):=bel
 have K0:=Blk.new0 w 37 (upA u)
 obtain⟨W,hW⟩:∃ W,w.alloc (.cells (upA u) 37)=W:=⟨_,rfl⟩
 rw[hW]at HB K0 ⊢
 clear hW
 have hgl:w.heap.size≤w.heap.size:=Nat.le_refl _
 obtain⟨g,hg⟩:∃ g,w.heap.size=g:=⟨_,rfl⟩
 rw[hg]at K0 ⊢
 replace hgl:w.heap.size≤g:=by omega
 replace K0:=Z K0
 clear hg
 (obtain⟨k0,f0,l0,m0⟩:=rl_ K0)
 go_wp2_with(first|(with_reducible refine wlr (ldUp _ K0.out) rfl ?_)|(with_reducible refine wlg (ldUp _ K0.out) (by with_unfolding_all rfl) rfl ?_))
 (refine(n1.out _).mono ?_;rintro e w1 ⟨rfl,hN⟩;replace K0:=hn_ K0 hN;replace HB:Below w.heap.size w w1:=Below.on hN HB;clear hN k0 f0 l0 m0;obtain⟨k0,f0,l0,m0⟩:=rl_ K0)
 cases r1 with
 | false =>
  go_wp2_with fail
  go_ret
  exact⟨by rw[hE.out];rfl,HB⟩
 | true =>
  go_wp2_with fail
  (refine(n2.out _ HB).mono ?_;rintro e w2 ⟨rfl,hN⟩;replace K0:=hn_ K0 hN;replace HB:Below w.heap.size w w2:=Below.on hN HB;clear hN k0 f0 l0 m0;obtain⟨k0,f0,l0,m0⟩:=rl_ K0)
  cases r2 with
  | false =>
   go_wp2_with fail
   go_ret
   exact⟨by rw[hE.out];rfl,HB⟩
  | true =>
   go_wp2_with fail
   (refine(n3.out _ HB).mono ?_;rintro e w3 ⟨rfl,hN⟩;replace K0:=hn_ K0 hN;replace HB:Below w.heap.size w w3:=Below.on hN HB;clear hN k0 f0 l0 m0;obtain⟨k0,f0,l0,m0⟩:=rl_ K0)
   go_wp2_with fail
   (refine(n4.out _ HB).mono ?_;rintro e w4 ⟨rfl,hN⟩;replace K0:=hn_ K0 hN;replace HB:Below w.heap.size w w4:=Below.on hN HB;clear hN k0 f0 l0 m0;obtain⟨k0,f0,l0,m0⟩:=rl_ K0)
   cases r4
   all_goals
    go_wp2_with fail
    go_ret
    exact⟨by rw[hE.out];rfl,HB⟩
theorem lgnext_calls(s:Sr) (u:Up) (w:World) (hk:HasK w) (hs:SrIn w s) (hu:UpIn w u):Calls Tryz.prog 69 #[srV s,upV u] w (Ret w (.int .i64 (nextE s u))):=by
 have n1:=fun W=>hasNext_calls u W
 have n2:=fun W=>period_q u.seen.b.slot hu.1.1.1 W
 have n3:=fun W=>period_q s.fin.b.slot hs.1.1.1 W
 have n4:=fun W=>known_calls s.next W
 have n5:=fun W (hB:Below w.heap.size w W)=>lsame_calls u.next s.next W (hu.2.1.below hB) (hs.2.2.2.1.below hB)
 have n6:=fun W (hB:Below w.heap.size w W)=>croot_calls u.next W (hk.on hB) (hu.2.1.below hB)
 have n7:=fun W (hB:Below w.heap.size w W)=>under_calls (cmRoot u.next) u.nb 5 u.seen.b.state W (hk.on hB) (cmRoot_len u.next) hu.1.1.2.2.2.1 (by decide) (hu.2.2.1.below hB)
 have hE:nextE s u=if hasNextP u then if knownP s.next && (decide (period u.seen.b.slot=period s.fin.b.slot) && !sameCm u.next s.next) then 146 else if cmOk u.next then if underP (cmRoot u.next) u.nb.l 5 u.seen.b.state then 0 else 145 else 130 else 0:=rfl
 unfold rwV at n7
 unfold cmE at n6
 generalize nextE s u=E at *
 generalize hasNextP u=r1 at *
 generalize knownP s.next=kn at *
 generalize period u.seen.b.slot=ps at *
 generalize period s.fin.b.slot=pf at *
 have e1:((ps:Int) == (pf:Int))=decide (ps=pf):=by rw[Bool.eq_iff_iff];simp;omega
 generalize decide (ps=pf)=b1 at *
 generalize sameCm u.next s.next=sm at *
 generalize cmRoot u.next=cr at *
 generalize cmOk u.next=ok at *
 generalize underP cr u.nb.l 5 u.seen.b.state=r7 at *
 replace hE:=Z hE
 replace n1:=Z n1
 replace n2:=Z n2
 replace n3:=Z n3
 replace n4:=Z n4
 replace n5:=Z n5
 replace n6:=Z n6
 replace n7:=Z n7
 clear hs hu hk
 go_enter Tryz.func69, Tryz.ntmps69
 go_upto_region 1 with fail
 have HB:Below w.heap.size w ((w.alloc (.cells (srA s) 39)).alloc (.cells (upA u) 37)):=bel
 have K0:=(Blk.new0 w 39 (srA s)).alloc (.cells (upA u) 37)
 have K1:=Blk.new1 w (.cells (srA s) 39) 37 (upA u)
 obtain⟨W,hW⟩:∃ W,((w.alloc (.cells (srA s) 39)).alloc (.cells (upA u) 37))=W:=⟨_,rfl⟩
 rw[hW]at HB K0 K1 ⊢
 clear hW
 have hgl:w.heap.size≤w.heap.size:=Nat.le_refl _
 obtain⟨g,hg⟩:∃ g,w.heap.size=g:=⟨_,rfl⟩
 rw[hg]at K0 K1 ⊢
 replace hgl:w.heap.size≤g:=by omega
 replace K0:=Z K0
 replace K1:=Z K1
 clear hg
 (obtain⟨k0,f0,l0,m0⟩:=rl_ K0;obtain⟨k1,f1,l1,m1⟩:=rl_ K1)
 go_wp2_with(first|(with_reducible refine wlr (ldUp _ K1.out) rfl ?_)|(with_reducible refine wlg (ldUp _ K1.out) (by with_unfolding_all rfl) rfl ?_))
 (refine(n1.out _).mono ?_;rintro e w1 ⟨rfl,hN⟩;replace K0:=hn_ K0 hN;replace K1:=hn_ K1 hN;replace HB:Below w.heap.size w w1:=Below.on hN HB;clear hN k0 f0 l0 m0 k1 f1 l1 m1;obtain⟨k0,f0,l0,m0⟩:=rl_ K0;obtain⟨k1,f1,l1,m1⟩:=rl_ K1)
 cases r1 with
 | false =>
  go_wp2_with fail
  go_ret
  exact⟨by rw[hE.out];rfl,HB⟩
 | true =>
  go_wp2_with fail
  go_quiet ((first|(go_at_call 36; exact qs (n2.out _))|(go_at_call 36; exact qs (n3.out _))))
  (generalize hWN:World.drewN w1 _=w2;replace K0:=Z (show Blk w2 _ _ _ by rw[←hWN];exact K0.out.drewN _);replace K1:=Z (show Blk w2 _ _ _ by rw[←hWN];exact K1.out.drewN _);replace HB:Below w.heap.size w w2:=(by rw[←hWN];exact below_drewN HB _);clear hWN k0 f0 l0 m0 k1 f1 l1 m1;obtain⟨k0,f0,l0,m0⟩:=rl_ K0;obtain⟨k1,f1,l1,m1⟩:=rl_ K1)
  go_upto_region 4 with fail
  go_cut [35] (fun s35 wx=>s35=.bool (kn && (b1 && !sm))∧SuW w g s u wx)
  case first =>
   go_wp2_with fail
   (refine(n4.out _).mono ?_;rintro e w3 ⟨rfl,hN⟩;replace K0:=hn_ K0 hN;replace K1:=hn_ K1 hN;replace HB:Below w.heap.size w w3:=Below.on hN HB;clear hN k0 f0 l0 m0 k1 f1 l1 m1;obtain⟨k0,f0,l0,m0⟩:=rl_ K0;obtain⟨k1,f1,l1,m1⟩:=rl_ K1)
   cases kn with
   | false =>
    go_wp2_with fail
    go_meet
    case rel=>exact⟨rfl,K0.out,K1.out,HB⟩
   | true =>
    cases b1 with
    | false =>
     go_wp2_with fail
     go_meet
     case rel=>exact⟨rfl,K0.out,K1.out,HB⟩
    | true =>
     go_wp2_with fail
     (refine(n5.out _ HB).mono ?_;rintro e w4 ⟨rfl,hN⟩;replace K0:=hn_ K0 hN;replace K1:=hn_ K1 hN;replace HB:Below w.heap.size w w4:=Below.on hN HB;clear hN k0 f0 l0 m0 k1 f1 l1 m1;obtain⟨k0,f0,l0,m0⟩:=rl_ K0;obtain⟨k1,f1,l1,m1⟩:=rl_ K1)
     go_wp2_with fail
     go_meet
     case rel=>exact⟨rfl,K0.out,K1.out,HB⟩
  case rest =>
   obtain⟨rfl,hW⟩:=hcut
   have j0:=Z hW.1
   have j1:=Z hW.2.1
   have HBn:=hW.2.2
   clear hW k0 f0 l0 m0 k1 f1 l1 m1 K0 K1 HB
   have K0:=j0;have K1:=j1;have HB:=HBn
   clear j0 j1 HBn
   (obtain⟨k0,f0,l0,m0⟩:=rl_ K0;obtain⟨k1,f1,l1,m1⟩:=rl_ K1)
   clear n1 n2 n3 n4 n5 e1
   have hE2:=hE.out
   generalize(kn && (b1 && !sm))=q at *
   replace hE:=Z hE2
   clear hE2
   cases q with
   | true =>
    go_wp2_with fail
    go_ret
    exact⟨by rw[hE.out];rfl,HB⟩
   | false =>
    cases ok with
    | false =>
     have n8:=n6.out
     rw[if_neg (by simp)]at n8
     replace n6:=Z n8
     clear n8
     go_wp2_with fail
     (refine(n6.out _ HB).mono ?_;rintro e w5 ⟨rfl,hN⟩;replace K0:=hn_ K0 hN;replace K1:=hn_ K1 hN;replace HB:Below w.heap.size w w5:=Below.on hN HB;clear hN k0 f0 l0 m0 k1 f1 l1 m1;obtain⟨k0,f0,l0,m0⟩:=rl_ K0;obtain⟨k1,f1,l1,m1⟩:=rl_ K1)
     go_wp2_with fail
     go_ret
     exact⟨by rw[hE.out];rfl,HB⟩
    | true =>
     have n8:=n6.out
     rw[if_pos rfl]at n8
     replace n6:=Z n8
     clear n8
     go_wp2_with fail
     (refine(n6.out _ HB).mono ?_;rintro e w5 ⟨rfl,hN⟩;replace K0:=hn_ K0 hN;replace K1:=hn_ K1 hN;replace HB:Below w.heap.size w w5:=Below.on hN HB;clear hN k0 f0 l0 m0 k1 f1 l1 m1;obtain⟨k0,f0,l0,m0⟩:=rl_ K0;obtain⟨k1,f1,l1,m1⟩:=rl_ K1)
     go_wp2_with fail
     (refine(n7.out _ HB).mono ?_;rintro e w6 ⟨rfl,hN⟩;replace K0:=hn_ K0 hN;replace K1:=hn_ K1 hN;replace HB:Below w.heap.size w w6:=Below.on hN HB;clear hN k0 f0 l0 m0 k1 f1 l1 m1;obtain⟨k0,f0,l0,m0⟩:=rl_ K0;obtain⟨k1,f1,l1,m1⟩:=rl_ K1)
     cases r7
     all_goals
      go_wp2_with fail
      go_ret
      exact⟨by rw[hE.out];rfl,HB⟩
theorem ifc9{c d:Prop} [Decidable c] [Decidable d] {α:Type}{x y:α} (h:c↔d):(if c then x else y)=if d then x else y:=by
 by_cases k:c
 ·rw[if_pos k,if_pos (h.1 k)]
 ·rw[if_neg k,if_neg fun m=>k (h.2 m)]
def keysK(l:List Bytes) (n k:Nat):List Bytes:=((l.take k).zipIdx.filter fun p=>n.testBit p.2).map (·.1)
theorem keysK_succ(l:List Bytes) (n k:Nat) (h:k<l.length):keysK l n (k+1)=keysK l n k ++ if n / 2 ^ k % 2=1 then [l.getD k []] else []:=by
 unfold keysK
 have e:l.take (k+1)=l.take k ++ [l.getD k []]:=by rw[List.take_add_one,List.getElem?_eq_getElem h,List.getD,List.getElem?_eq_getElem h];rfl
 have ek:(l.take k).length=k:=by rw[List.length_take];omega
 rw[e,List.zipIdx_append,List.filter_append,List.map_append,ek,Nat.zero_add]
 congr 1
 have hb:n.testBit k=decide (n / 2 ^ k % 2=1):=by rw[Nat.testBit_eq_decide_div_mod_eq]
 by_cases h1:n / 2 ^ k % 2=1
 ·rw[if_pos h1]
  simp[hb,h1]
 ·rw[if_neg h1]
  simp[hb,h1]
theorem keysK_len(l:List Bytes) (n k:Nat):(keysK l n k).length≤k:=by
 unfold keysK
 rw[List.length_map]
 refine Nat.le_trans (List.length_filter_le _ _) ?_
 rw[List.length_zipIdx,List.length_take]
 omega
theorem keysK_all(l:List Bytes) (n k:Nat) (hk:k≤16) (h:k=16∨k=l.length):keysK l n k=keysP l n:=by
 unfold keysK keysP
 rcases h with rfl|rfl
 ·rfl
 ·rw[List.take_of_length_le (Nat.le_refl _),List.take_of_length_le hk]
theorem keysP_len(l:List Bytes) (n:Nat):(keysP l n).length≤16:=by
 unfold keysP
 rw[List.length_map]
 refine Nat.le_trans (List.length_filter_le _ _) ?_
 simp
 omega
theorem textP_len(h:Hd) (n:Nat):(textP h n).length≤1048576:=by
 unfold textP
 rw[sha_len]
 decide
noncomputable def applyS (s:Sr) (u:Up) (now:Nat):Sr:=if checkE s u now=0 then applyP s u else s
theorem best_keeps(s:Sr) (u:Up):(bestP s u).fin=s.fin∧(bestP s u).new=s.new∧(bestP s u).next=s.next∧(bestP s u).last=s.last∧(bestP s u).this=s.this:=by
 unfold bestP
 split <;> exact⟨rfl,rfl,rfl,rfl,rfl⟩
theorem new_keeps(s:Sr) (u:Up):(newP s u).fin=s.fin∧(newP s u).next=s.next:=by
 unfold newP
 split <;> exact⟨rfl,rfl⟩
def KeepN(B:Nat) (W W':World):Prop:=W.heap.size≤W'.heap.size∧∀ b,b<B→W'.heap[b]?=W.heap[b]?
theorem KeepN.trans{B:Nat}{a b c:World} (h:KeepN B a b) (k:KeepN B b c):KeepN B a c:=⟨Nat.le_trans h.1 k.1,fun j hj=>(k.2 j hj).trans (h.2 j hj)⟩
theorem KeepN.put{B:Nat}{W:World}{l:Nat} (o:Obj) (hl:B≤l):KeepN B W (W.putObj l o):=⟨by simp,fun j hj=>World.putObj_heap_other (by omega)⟩
theorem KeepN.below{n B:Nat}{W W':World} (h:Below n W W') (hB:B≤n):KeepN B W W':=⟨h.size,fun j hj=>h.block j (by omega)⟩
theorem KeepN.blk{B b:Nat}{W W':World}{t:TypeId}{cs:Array Value} (h:KeepN B W W') (hb:b<B) (k:Blk W b t cs):Blk W' b t cs:=(h.2 b hb).trans k
theorem KeepN.txts{W W':World}{A:Option Addr}{L:List Bytes} (h:KeepN W.heap.size W W') (k:Txts W A L):Txts W' A L:=Strs.keep k h.1 fun b o hb=>World.cell?_of_block (w:=W) (h.2 b hb)
theorem lgkeys1_in(n:Nat) (hn:1≤n) (lp b:Nat) (c:Cm) (set:Nat) (hset:set<18446744073709551616) (w0:World) (hc:RwIn w0 c.ks) (K0:Blk w0 b 35 (cmA c)) (K1:Blk w0 (b+1) 22 #[.int .u64 set])
  (J Jx:List Bytes→Unit→World→Prop)
  (hY:∀ pre y x A,J pre x A→pre.length<16→YieldAt Fence.wide (n - 1) Tryz.prog lp #[.string (bs y)] A fun e B =>
   (e=.returned (.bool true)∧J (pre ++ [y]) x B∧KeepN w0.heap.size A B)∨(e=.returned (.bool false)∧Jx (pre ++ [y]) x B))
  (W:World) (hW:KeepN w0.heap.size w0 W) (h0:J [] () W) :
  CallsIn Fence.wide n Tryz.prog 152 #[.func (.yield lp) #[] #[],.pointer (some ⟨b,0,none⟩),.pointer (some ⟨b+1,0,none⟩)] W fun e B=>(∃ v,e=.returned v) ∧
   ((∃ xs x,xs=keysP c.ks.l set∧J xs x B)∨(∃ pre x,True∧Jx pre x B)):=by
 have hwf:∀ f,Fence.wide.fn f:=fun _=>trivial
 obtain⟨m,hm⟩:∃ m,min c.ks.l.length 16=m:=⟨_,rfl⟩
 have e3:min (c.ks.l.length:Int) 16=(m:Int):=by omega
 have hmc:m≤c.ks.cap:=by have:=hc.2.1;omega
 have hmi:(m:Int)≤(c.ks.cap:Int):=by omega
 have hm0:(0:Int)≤(m:Int):=by omega
 have hml:m≤c.ks.l.length:=by omega
 have hme:m=16∨m=c.ks.l.length:=by omega
 have hm16:m≤16:=by omega
 have hlb:b<w0.heap.size:=K0.lt
 have hlb1:b+1<w0.heap.size:=K1.lt
 have K2:=Z (hW.blk hlb K0)
 have hc1:=Z hc.1
 replace K0:=Z K0
 replace K1:=Z K1
 replace hY:=Z hY
 (obtain⟨k2,f2,l2,m2⟩:=rl_ K2)
 refine callsIn_of_wp Tryz.func152 rfl trivial ?_ rfl
 simp only[Tryz.ntmps152, List.size_toArray,List.length_cons,List.length_nil,Nat.reduceAdd,Nat.reduceSub,Array.replicate_succ,Array.replicate_zero,List.push_toArray,List.append_toArray,List.nil_append,List.cons_append]
 by_cases hz:c.ks.l.length=0
 ·obtain rfl:m=0:=by omega
  have hk0:keysP c.ks.l set=[]:=by rw[List.eq_nil_of_length_eq_zero hz];rfl
  rw[hk0]
  replace h0:=Z h0
  clear hc hm hz hk0 hW hme hml
  gi_wp2_with fail
  clear k2 f2 l2 m2 K2
  gi_loopw [4,5,14] (fun _ _ i wr=>i=.int .i64 0∧J [] () wr) (fun _ _ i _=>0)
  case atStart=>exact⟨rfl,h0.out⟩
  case round =>
   obtain⟨rfl,hj⟩:=hrel
   replace hj:=Z hj
   gi_wp2_with fail
   go_end0
   first|exact⟨⟨_,rfl⟩,.inl ⟨_,(),rfl,hj.out⟩⟩|exact⟨⟨_,rfl⟩,.inl ⟨(),hj.out⟩⟩|exact⟨⟨_,rfl⟩,.inl hj.out⟩
 obtain⟨b9,o9,hb9,_,_⟩:=hc.1.at 0 (by omega)
 clear hc hm hz
 gi_wp2_with fail
 clear k2 f2 l2 m2 K2
 gi_loopw [4,5,14] (fun _ _ i wr=>∃ k:Nat,k≤m∧i=.int .i64 k∧KeepN w0.heap.size w0 wr∧J (keysK c.ks.l set k) () wr) (fun _ _ i _=>(m - intOf i).toNat)
 case atStart=>exact⟨0,by omega,rfl,hW,h0⟩
 case round =>
  clear hW h0
  obtain⟨k,hk,rfl,hkp,hj⟩:=hrel
  by_cases hlt:k<m
  ·have hl1:(k:Int)<(m:Int):=by omega
   have hlm:k<m:=hlt
   obtain⟨b8,o8,hb8,hb2,hcell⟩:=(hkp.txts hc1.out).at k (by omega)
   rw[hb9]at hb8
   injection hb8 with hb8
   injection hb8 with h8 h8b
   subst h8 h8b
   have hst:=keysK_succ c.ks.l set k (by omega)
   have hsm:set / 2 ^ k<18446744073709551616:=Nat.lt_of_le_of_lt (Nat.div_le_self _ _) hset
   have hsh:(set:Int) / 2 ^ k=((set / 2 ^ k:Nat):Int):=by simp
   have hql:=keysK_len c.ks.l set k
   have K3:=Z (hkp.blk hlb1 K1.out)
   generalize set / 2 ^ k=s2 at *
   have hand:=and_one s2 hsm
   generalize c.ks.l.getD k []=y at *
   obtain⟨q,hq⟩:∃ q,keysK c.ks.l set k=q:=⟨_,rfl⟩
   rw[hq]at hj hst hql
   clear hq
   obtain⟨fn,tmps,assign,body,hy,hR⟩:=hY.out q y () wr hj (by omega)
   replace hkp:=Z hkp
   (obtain⟨k3,f3,l3,m3⟩:=rl_ K3)
   rcases Nat.mod_two_eq_zero_or_one s2 with hm2|hm2
   ·rw[hm2]at hand hst
    rw[if_neg (by omega),List.append_nil]at hst
    rw[←hst]at hj
    replace hj:=Z hj
    clear hm2 hst hR hy
    gi_wp2_with fail
    go_roundw
    case rel=>exact⟨k+1,by omega,by go_num,hkp.out,hj.out⟩
    case measure=>simp[intOf];omega
   ·rw[hm2]at hand hst
    rw[if_pos rfl]at hst
    replace hst:=Z hst
    clear hm2 hj
    gi_wp2_with fail
    refine hR.mono ?_
    rintro e W3 (⟨rfl,hJ3,hk3⟩|⟨rfl,hJx3⟩)
    ·rw[←hst.out]at hJ3
     replace hJ3:=Z hJ3
     have hk4:=Z (hkp.out.trans hk3)
     clear hk3 hkp hst k3 f3 l3 m3 K3 hb2 hcell hy hR
     gi_wp2_with fail
     go_roundw
     case rel=>exact⟨k+1,by omega,by go_num,hk4.out,hJ3.out⟩
     case measure=>simp[intOf];omega
    ·replace hJx3:=Z hJx3
     clear hkp hst k3 f3 l3 m3 K3 hb2 hcell hy hR
     gi_wp2_with fail
     refine bodyPost_ret (results_none rfl _ _ _) rfl ?_
     exact⟨⟨_,rfl⟩,.inr ⟨_,(),trivial,hJx3.out⟩⟩
  ·obtain rfl:k=m:=by omega
   have hl1:¬ (k:Int)<(k:Int):=by omega
   rw[keysK_all c.ks.l set k hm16 hme]at hj
   replace hj:=Z hj
   clear hkp
   gi_wp2_with fail
   go_end0
   first|exact⟨⟨_,rfl⟩,.inl ⟨_,(),rfl,hj.out⟩⟩|exact⟨⟨_,rfl⟩,.inl ⟨(),hj.out⟩⟩|exact⟨⟨_,rfl⟩,.inl hj.out⟩|exact⟨rfl,.inl hj.out⟩|(trace_state;fail)
theorem lgkeys_stops(n:Nat) (hn:1≤n) (b:Nat) (c:Cm) (set:Nat) (hset:set<18446744073709551616) (w0:World) (hc:RwIn w0 c.ks) (K0:Blk w0 b 35 (cmA c)) (K1:Blk w0 (b+1) 22 #[.int .u64 set]) (W0:World) (hB0:Below w0.heap.size w0 W0) :
  SeqSt Fence.wide n Tryz.prog 152 #[.pointer (some ⟨b,0,none⟩),.pointer (some ⟨b+1,0,none⟩)] (fun y:Bytes => #[.string (bs y)]) (fun pre _ _ _=>pre.length<16) (fun(_:Unit) A B=>KeepN w0.heap.size A B) (fun _ A _ B=>A=B) () (fun xs=>xs=keysP c.ks.l set) (fun _=>True) W0 :=
 fun lp J Jx W hW hJ hJx hY h0=>lgkeys1_in n hn lp b c set hset w0 hc K0 K1 J Jx hY W ((KeepN.below hB0 (Nat.le_refl _)).trans (KeepN.below hW hB0.size)) h0
def AqI(w:World) (pre:List Bytes) (W:World):Prop:=∃ v,Blk W w.heap.size 31 #[v]∧LRow (w.heap.size+1) W v pre∧Below w.heap.size w W∧w.heap.size+1≤W.heap.size
theorem AqI.own{w A B:World}{pre:List Bytes}{r:Option Nat}{N:Nat} (h:AqI w pre A) (hg:A.grownBy B r) (hr:∀ j,r=some j→N≤j∧∃ o:Obj,A.heap[j]?=some o∧o.isCells=false) (hN:w.heap.size+1≤N):AqI w pre B:=by
 obtain⟨v,h1,h2,h3,h4⟩:=h
 refine⟨v,h1.grown hg (fun e=>by have:=(hr _ e.symm).1;omega),h2.keep hg fun j hj e=>?_,h3.grown hg h3.size fun j e=>by have:=(hr j e).1;omega,Nat.le_trans h4 hg.size⟩
 obtain⟨_,o,ho,hc⟩:=hr j e
 obtain⟨_,cs,t,fz,hcs⟩:=LRow.cells h2 j hj
 rw[hcs]at ho
 injection ho with ho
 subst ho
 cases hc
theorem lgappend_calls(b:Nat) (c:Cm) (set:Nat) (hset:set<18446744073709551616) (w:World) (hc:RwIn w c.ks) (K0:Blk w b 35 (cmA c)) (K1:Blk w (b+1) 22 #[.int .u64 set]) :
  Calls Tryz.prog 151 #[.slice none 0 0,.func (.func 152) #[] #[.pointer (some ⟨b,0,none⟩),.pointer (some ⟨b+1,0,none⟩)]] w
   (fun e w'=>∃ v,e=.returned v∧LRow w.heap.size w' v (keysP c.ks.l set)∧Below w.heap.size w w'):=by
 refine(callsIn_wide (n:=9)).1 ?_
 have hwf:∀ f,Fence.wide.fn f:=fun _=>trivial
 refine callsIn_of_wp_marks Tryz.func151 rfl trivial ?_ rfl
 simp only[Tryz.ntmps151, List.size_toArray,List.length_cons,List.length_nil,Nat.reduceAdd,Nat.reduceSub,Array.replicate_succ,Array.replicate_zero,List.push_toArray,List.append_toArray,List.nil_append,List.cons_append]
 gi_wp2
 obtain⟨W0,hW0⟩:∃ W0,w.alloc (.cells #[.slice none 0 0] 31)=W0:=⟨_,rfl⟩
 have hs0:W0.heap.size=w.heap.size+1:=by rw[←hW0];simp
 have KR:Blk W0 w.heap.size 31 #[.slice none 0 0]:=by rw[←hW0];exact Blk.new0 _ _ _
 have hB0:Below w.heap.size w W0:=by rw[←hW0];exact bel
 rw[hW0]
 clear hW0
 have hf:=enters_of Tryz.func152 U rfl
 have hrow0:LRow (w.heap.size+1) W0 (.slice none 0 0) []:=World.ownsRow_nil _ _ _ _
 have hI0:AqI w [] W0:=⟨_,KR,hrow0,hB0,by omega⟩
 clear hrow0 KR
 refine wpIn_rangeFunc_st rfl (by decide) (gf := 152) (lb := #[.pointer (some ⟨b,0,none⟩),.pointer (some ⟨b+1,0,none⟩)]) rfl trivial hf
  (lgkeys_stops 8 (by decide) b c set hset w hc K0 K1 W0 hB0) (fun _=>rfl) (fun _ _ _ _ h k=>h.trans k) (fun x W l o o' hl h1 h2 h3=>KeepN.put o' (by omega))
  (fun x A y B k o hab hkk hA ho _=>by rw[←hab];exact hA)
  (fun pre y x W l o o' h _ h1 h2=>h)
  (fun pre x W=>AqI w pre W) (fun c _ x W=>False)
  (fun _ s A B row h hg hr=>AqI.own h hg hr (by omega)) (fun _ _ s A B row h hg hr=>h)
  (fun s x A y B h hab=>by rw[←hab];exact h) (fun _ s x A y B h hab=>h) hI0
  (fun y=>{ tmps := #[.slice none 0 0,.func (.func 152) #[] #[.pointer (some ⟨b,0,none⟩),.pointer (some ⟨b+1,0,none⟩)],.pointer (some ⟨w.heap.size,0,none⟩),undef,.slice none 0 0,.string (bs y),
   .func (.func 152) #[] #[.pointer (some ⟨b,0,none⟩),.pointer (some ⟨b+1,0,none⟩)],.string (bs y),undef,undef,undef,undef,undef],defers:=[] })
  ?assign ?body ?done ?stop
 case assign =>
  intro l y W K hK
  gi_wp2
  exact hK
 case stop =>
  rintro D c pre x W hD _ h hK
  exact h.elim
 case done =>
  rintro D xs x W hD rfl ⟨v,h1,h2,h3,h4⟩ hK
  have K2:=Z h1
  have hKD:=Z hK
  have H2:=Z h2
  have H3:=Z h3
  clear h1 h2 h3 hK
  (obtain⟨k2,f2,l2,m2⟩:=rl_ K2)
  gi_wp2
  refine⟨by simp,.inl ⟨_,_,rfl,run_takeDeferred hKD.out,?_⟩⟩
  refine⟨_,results_tmp rfl _ _ _,v,rfl,?_,below_shut H3.out (Nat.le_refl _) (by omega)⟩
  refine(H2.out.mono (by omega)).keep (grownBy_putObj' W D _) fun j hj e=>?_
  injection e with e
  subst e
  obtain⟨_,cs,t,fz,hcs⟩:=LRow.cells H2.out D hj
  rw[hKD.out]at hcs
  cases hcs
 case body =>
  rintro l pre y x W ⟨v,h1,h2,h3,h4⟩ hat
  have K2:=Z h1
  have H2:=Z h2
  have H3:=Z h3
  obtain⟨g,hg0⟩:∃ g,w.heap.size=g:=⟨_,rfl⟩
  rw[hg0]at K2 H2 h4 ⊢
  have hlr:∀ j,v.ownBlock=some j→g+1≤j∧j<W.heap.size:=fun j hj=>H2.out.lt j hj
  clear h1 h2 h3 hs0 hI0
  (obtain⟨k2,f2,l2,m2⟩:=rl_ K2)
  gi_wp2_with(gi_at_builtin;refine wpListIn_append_txt rfl _ _ rfl (g+1) v pre rfl (H2.out.on _) y ⟨W.heap.size,0,none⟩ rfl (new_cell _ _ _) (by omega) (by simp;omega) ?_)
  intro v4 w4 OWN4 hg4 hx4
  have hgW:W.grownBy w4 v.ownBlock:=⟨hg4.os,hg4.tape,hg4.output,Nat.le_trans (by simp) hg4.size,fun j hj hr=>(hg4.block j (by simp;omega) hr).trans (Below.heap_alloc _ _ j hj)⟩
  have P2:=Z (K2.out.grown hgW (fun e=>by have:=(hlr _ e.symm).1;omega))
  have hKO:KeepsOthers W w4:=KeepsOthers.of_grownBy hgW fun j o e ho=>by
   obtain⟨_,cs,t,fz,hcs⟩:=LRow.cells H2.out j e
   rw[hcs]at ho
   injection ho with ho
   subst ho
   rfl
  have hKp:KeepN g W w4:=⟨hgW.size,fun j hj=>hgW.block j (by omega) (fun e=>by have:=(hlr _ e.symm).1;omega)⟩
  have HB4:Below w.heap.size w w4:=H3.out.grown hgW H3.out.size fun j e=>by have:=(hlr j e).1;omega
  have hz4:g+1≤w4.heap.size:=Nat.le_trans h4 hgW.size
  have hlt4:∀ j,v4.ownBlock=some j→g+1≤j:=fun j hj=>(OWN4.lt j hj).1
  obtain⟨A4,c4,hv4,_⟩:=OWN4.txts
  have hv5:v4=.slice A4 (pre.length+1) c4:=by rw[hv4];simp
  clear hv4
  subst hv5
  replace OWN4:=Z OWN4
  replace hKO:=Z hKO
  replace hKp:=Z hKp
  replace HB4:=Z HB4
  clear hg4 hgW hx4 hlr k2 f2 l2 m2 K2 H2 H3
  have K2:=P2
  clear P2
  (obtain⟨k2,f2,l2,m2⟩:=rl_ K2)
  gi_wp2_with fail
  refine⟨hKO.out.trans (KeepsOthers.setCell _ _ _),hKp.out.trans ⟨by simp,fun j hj=>Below.heap_setCell _ _ _ j (by simp;omega)⟩,?_⟩
  refine⟨.slice A4 (pre.length+1) c4,?_,?_,HB4.out.setCell (by simp;omega) _,by simp;omega⟩
  ·rw[hg0];exact Blk.to (Blk.set_ K2.out 0 _) rfl
  ·rw[hg0];exact OWN4.out.keep (grown_set (World.grownBy.refl _ _)) (fun j hj e=>by have:=hlt4 j hj;injection e with e;omega)
theorem lgcollect_calls(b:Nat) (c:Cm) (set:Nat) (hset:set<18446744073709551616) (w:World) (hc:RwIn w c.ks) (K0:Blk w b 35 (cmA c)) (K1:Blk w (b+1) 22 #[.int .u64 set]) :
  Calls Tryz.prog 113 #[.func (.func 152) #[] #[.pointer (some ⟨b,0,none⟩),.pointer (some ⟨b+1,0,none⟩)]] w
   (fun e w'=>∃ A cp,e=.returned (.slice A (keysP c.ks.l set).length cp)∧Txts w' A (keysP c.ks.l set)∧Below w.heap.size w w'):=by
 have n1:=Z (lgappend_calls b c set hset w hc K0 K1)
 clear hc K0 K1
 go_enter Tryz.func113, Tryz.ntmps113
 go_wp2_with fail
 refine n1.out.mono ?_
 rintro e w2 ⟨v,rfl,hR,hB⟩
 obtain⟨A5,c5,rfl,T5⟩:=hR.txts
 clear hR
 go_wp2_with fail
 go_ret
 exact⟨_,_,rfl,T5,hB⟩
theorem lgkeys_calls(c:Cm) (set:Nat) (w:World) :
  Calls Tryz.prog 114 #[cmV c,.int .u64 set] w (fun e w'=>e=.returned (.func (.func 152) #[] #[.pointer (some ⟨w.heap.size,0,none⟩),.pointer (some ⟨w.heap.size+1,0,none⟩)]) ∧
   w'=(w.alloc (.cells (cmA c) 35)).alloc (.cells #[.int .u64 set] 22)):=by
 go_enter Tryz.func114, Tryz.ntmps114
 go_wp2
 go_ret
 exact⟨rfl,rfl⟩
end
end Go.Proofs.YtobgigcdpiikaaaGreatDoor
