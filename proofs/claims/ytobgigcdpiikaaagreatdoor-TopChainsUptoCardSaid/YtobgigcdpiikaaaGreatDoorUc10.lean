/- Plain laws and walks, each by its own conditions. -/
import Derived.Test.YtobgigcdpiikaaaGreatDoorUc6
import Derived.Test.YtobgigcdpiikaaaGreatDoorUc9
import Derived.Test.YtobgigcdpiikaaaGreatDoorUc13
import Derived.Test.YtobgigcdpiikaaaGreatDoorUc18
set_option linter.unusedSimpArgs false
set_option linter.unusedVariables false
set_option maxRecDepth 100000
set_option maxHeartbeats 16000000
namespace Go.Proofs.YtobgigcdpiikaaaGreatDoor
section
open BigFrame Go.RowKit Go.Phx Go.Shelf
attribute [local go_sem] Oper.semAt_some
theorem txts2(w:World) (a b:ByteArray):Strs (w.alloc (.cells #[.string a,.string b] 9)) (some ⟨w.heap.size,0,none⟩) [a,b] :=
 Strs.mk (by simp) fun i x hx=>by
  rw[(Blk.new0 w _ _).cell,Nat.zero_add]
  match i,hx with
  | 0,hx=>simp at hx;subst hx;rfl
  | 1,hx=>simp at hx;subst hx;rfl
def TryKp(b:Nat) (_:Unit) (A B:World):Prop:=A.heap.size≤B.heap.size∧(HasK A→HasK B)∧∀ cs t,Blk A b t cs→Blk B b t cs
def TryAb(_:Unit) (A:World) (_:Unit) (B:World):Prop:=Below A.heap.size A B
def TryAt(t:List UInt8) (pre:List (F×F)) (y:F×F) (_:Unit) (_:World):Prop:=∃ n,n<256∧pre=triesN t n∧tryQ t n=some y
theorem TryKp.trans{b:Nat}{u:Unit}{A B C:World} (h:TryKp b u A B) (k:TryKp b u B C):TryKp b u A C:=⟨Nat.le_trans h.1 k.1,fun x=>k.2.1 (h.2.1 x),fun cs t x=>k.2.2 cs t (h.2.2 cs t x)⟩
theorem idx_bs(s:List UInt8) (k:Nat) (hk:k<s.length) (w:World):(Instr.index 9 (.string (bs s)) (.int .i64 (k:Int))).run Tryz.prog w=.ok (.int .u8 ((s.getD k 0).toNat:Int)) w:=by
 rw[run_index_string (P:=Tryz.prog) (w:=w) 9 (bs s) .i64 k U]
 have h:((0:Int)≤(k:Int)∧(k:Int)<((bs s).size:Int)):=by rw[bs_size];omega
 have e:s.getD k 0=s[k]:=by rw[List.getD,List.getElem?_eq_getElem hk];rfl
 rw[dif_pos h,e]
 rfl
theorem tries1_in(n:Nat) (hn:1≤n) (lp b:Nat) (t:List UInt8) (ht:t.length≤1048576)
  (J Jx:List (F×F)→Unit→World→Prop)
  (hJ:∀ s x A y B,J s x A→TryAb x A y B→J s y B) (hJx:∀ s x A y B,Jx s x A→TryAb x A y B→Jx s y B)
  (hY:∀ pre y x A,J pre x A→TryAt t pre y x A→YieldAt Fence.wide (n - 1) Tryz.prog lp #[.agg #[.int .u64 (vz y.1),.int .u64 (vz y.2),.bool false]] A fun e B =>
   (e=.returned (.bool true)∧J (pre ++ [y]) x B∧TryKp b x A B)∨(e=.returned (.bool false)∧Jx (pre ++ [y]) x B))
  (w:World) (hk:HasK w) (hK0:Blk w b 9 #[.string (bs t)]) (h0:J [] () w) :
  CallsIn Fence.wide n Tryz.prog 167 #[.func (.yield lp) #[] #[],.pointer (some ⟨b,0,none⟩)] w fun e B=>(∃ v,e=.returned v) ∧
   ((∃ xs x,xs=triesN t 256∧J xs x B)∨(∃ pre x,True∧Jx pre x B)):=by
 have hwf:∀ f,Fence.wide.fn f:=fun _=>trivial
 refine callsIn_of_wp Tryz.func167 rfl trivial ?_ rfl
 simp only[Tryz.ntmps167, List.size_toArray,List.length_cons,List.length_nil,Nat.reduceAdd,Nat.reduceSub,Array.replicate_succ,Array.replicate_zero,List.push_toArray,List.append_toArray,List.nil_append,List.cons_append]
 replace hK0:=Z hK0
 gi_wp2_with fail
 gi_loopw [9] (fun i wr=>∃ k:Nat,k≤256∧i=.int .i64 k∧HasK wr∧Blk wr b 9 #[.string (bs t)]∧J (triesN t k) () wr) (fun i _=>(256 - intOf i).toNat)
 case atStart=>exact⟨0,by omega,rfl,hk,hK0.out,h0⟩
 case round =>
  clear hk hK0 h0
  obtain⟨k,hk,rfl,HK,KX,hj⟩:=hrel
  by_cases hlt:k<256
  ·have K0:=Z KX
   (obtain⟨k0,f0,l0,m0⟩:=rl_ K0)
   have hbyte:(k:Int) % 256=((UInt8.ofNat k).toNat:Int):=by simp
   have hSl:=sha_len (t ++ [UInt8.ofNat k])
   obtain⟨s,hs⟩:∃ s,sha (t ++ [UInt8.ofNat k])=s:=⟨_,rfl⟩
   have hcat:cat [bs t,bs [UInt8.ofNat k]]=t ++ [UInt8.ofNat k]:=by simp[cat,bs]
   have hdk:decide ((k:Int)<256)=true:=decide_eq_true (by omega)
   rw[hs]at hSl
   have a1:=fun w=>idx_bs s 0 (by omega) w
   have a2:=fun w=>idx_bs s 1 (by omega) w
   have a3:=fun w=>idx_bs s 2 (by omega) w
   have a4:=fun w=>idx_bs s 3 (by omega) w
   simp only[show((0:Nat):Int)=0 from rfl,show((1:Nat):Int)=1 from rfl,show((2:Nat):Int)=2 from rfl,show((3:Nat):Int)=3 from rfl]at a1 a2 a3 a4
   have hI:tryI t k=word4 (s.getD 0 0).toNat (s.getD 1 0).toNat (s.getD 2 0).toNat (s.getD 3 0).toNat % 2147482867:=by unfold tryI;rw[hs];rfl
   have b1:=(s.getD 0 0).toNat_lt
   have b2:=(s.getD 1 0).toNat_lt
   have b3:=(s.getD 2 0).toNat_lt
   have b4:=(s.getD 3 0).toNat_lt
   generalize s.getD 0 0=c1 at *
   generalize s.getD 1 0=c2 at *
   generalize s.getD 2 0=c3 at *
   generalize s.getD 3 0=c4 at *
   have hX:=word4_up c1.toNat c2.toNat c3.toNat c4.toNat (by omega) (by omega) (by omega) (by omega)
   have hXb:=word4_bd c1.toNat c2.toNat c3.toNat c4.toNat (by omega) (by omega) (by omega) (by omega)
   generalize hXw:word4 c1.toNat c2.toNat c3.toNat c4.toNat=X at *
   replace hXw:=Z hXw
   replace hs:=Z hs
   replace hcat:=Z hcat
   replace hI:=Z hI
   replace hX:=Z hX
   have hT2:Strs ((wr.alloc (.cells #[.int .u8 k] 5)).alloc (.cells #[.string (bs t),.string (bs [UInt8.ofNat k])] 9)) (some ⟨wr.heap.size+1,0,none⟩) [bs t,bs [UInt8.ofNat k]]:=by
    have h:=txts2 (wr.alloc (.cells #[.int .u8 k] 5)) (bs t) (bs [UInt8.ofNat k])
    rw[World.size_alloc]at h
    exact h
   have hHK:HasK ((wr.alloc (.cells #[.int .u8 k] 5)).alloc (.cells #[.string (bs t),.string (bs [UInt8.ofNat k])] 9)):=(HK.alloc _).alloc _
   have hSum:=sum_calls (some ⟨wr.heap.size+1,0,none⟩) 2 [bs t,bs [UInt8.ofNat k]] _ hHK hT2 (by simp) (by simp) (by rw[hcat.out];simp;omega)
   rw[hcat.out,hs.out]at hSum
   replace hSum:=Z hSum
   clear hT2 hHK
   gi_wp2_with fail
   refine(callsIn_wide.2 hSum.out).mono ?_
   rintro e w1 ⟨rfl,h1⟩
   have hB1:Below wr.heap.size wr w1:=Below.on h1 bel
   clear hSum h1
   gi_wp2_with fail
   refine wpIn_wide.2 ?_
   refine wp_loop_rounds 5 ?_
   iterate 5 (rw[rounds_succ];go_wp2_with fail)
   rw[hX.out]
   obtain⟨hz0,hz1⟩:=tryI_bd t k
   have hIm:=hI.out.symm
   have hS:zf (tryI t k)*(zf (tryI t k)*zf (tryI t k))+zf (tryI t k)=tryS t k:=rfl
   have hyes:=fun(q:F×F) (h:tryQ t k=some q)=>tryQ_some h
   have hno:=fun(h:tryQ t k=none)=>tryQ_none h
   have hsucc:=triesN_succ t k
   have hQ:∀ q,tryQ t k=some q→TryAt t (triesN t k) q () wr:=fun q h=>⟨k,hlt,rfl,h⟩
   generalize tryI t k=z at *
   obtain⟨hX0,hX1⟩:=hXb
   clear hI hX a1 a2 a3 a4 b1 b2 b3 b4 hXw
   replace hS:=Z hS
   replace hsucc:=Z hsucc
   gi_wp2_with fail
   refine(callsIn_wide.2 (mul_calls z z hz0 hz0 _)).mono ?_
   rintro e w' ⟨rfl,rfl⟩
   gi_wp2_with fail
   refine(callsIn_wide.2 (mul_calls z _ hz0 (vz_nonneg _) _)).mono ?_
   rintro e w' ⟨rfl,rfl⟩
   simp only[zf_vz]
   gi_wp2_with fail
   refine(callsIn_wide.2 (add_calls _ z (vz_nonneg _) hz0 _)).mono ?_
   rintro e w' ⟨rfl,rfl⟩
   simp only[zf_vz]
   gi_wp2_with fail
   refine(callsIn_wide.2 (root_calls _ (vz_nonneg _) _)).mono ?_
   rintro e w2 ⟨rfl,h2⟩
   simp only[zf_vz]
   rw[hS.out]
   have hB2:=Below.on h2 hB1
   have K2:=Z (K0.out.below hB2)
   have HK2:=HK.on hB2
   have hj2:=hJ _ _ _ () w2 hj hB2
   clear h2 hB1 K0 k0 f0 l0 m0
   cases hq:tryQ t k with
   | none =>
    have hr:=hno hq
    rw[hq]at hsucc
    generalize(rootS (tryS t k)).1=y at *
    rw[hr]
    replace hr:=Z hr
    clear hyes hno
    gi_wp2_with fail
    exact⟨⟨k+1,by omega,by go_num,HK2,K2.out,by rw[hsucc.out];simpa using hj2⟩,by simp[intOf];omega⟩
   | some q =>
    obtain⟨hr,hqe⟩:=hyes q hq
    rw[hq]at hsucc
    have hy:=hY (triesN t k) q () w2 hj2 ⟨k,hlt,rfl,hq⟩
    have q1:vz q.1=z:=by rw[hqe];exact(vz_zf z).trans (Int.emod_eq_of_lt hz0 hz1)
    have q2:q.2=(rootS (tryS t k)).1:=by rw[hqe]
    rw[←q2,hr]
    rw[q1]at hy
    replace hr:=Z hr
    replace hqe:=Z hqe
    replace q2:=Z q2
    obtain⟨fn,tmps,assign,body,hyy,hR⟩:=hy
    clear hyes hno
    gi_wp2_with fail
    refine hR.mono ?_
    rintro e W3 (⟨rfl,hJ3,hk3⟩|⟨rfl,hJx3⟩)
    ·gi_wp2_with fail
     go_roundw
     case rel=>exact⟨k+1,by omega,by go_num,hk3.2.1 HK2,hk3.2.2 _ _ K2.out,by rw[hsucc.out];exact hJ3⟩
     case measure=>simp[intOf];omega
    ·gi_wp2_with fail
     refine bodyPost_ret (results_none rfl _ _ _) rfl ?_
     exact⟨⟨_,rfl⟩,.inr ⟨_,(),trivial,hJx3⟩⟩
  ·obtain rfl:k=256:=by omega
   have hdk:decide ((256:Int)<256)=false:=rfl
   gi_wp2_with fail
   go_end0
   exact⟨⟨_,rfl⟩,.inl ⟨_,(),rfl,hj⟩⟩
theorem sgen_x(w:World):Calls Tryz.prog 125 #[] w (Ret w (.agg #[.int .u64 (px genE),.int .u64 (py genE),.bool (pf genE)])):=by
 rw[show px genE=1846166884 from by decide +kernel,show py genE=1411018613 from by decide +kernel,show pf genE=false from rfl]
 go_enter Tryz.func125, Tryz.ntmps125
 go_wp2_with fail
 exact bodyPost_ret (v:=.agg #[.int .u64 1846166884,.int .u64 1411018613,.bool false]) (by simp (maxDischargeDepth:=9) [results,Tryz.results125, go_sem,vp,v2, *]) rfl ⟨rfl,bel⟩
def pc(p:E):Array Value := #[.int .u64 (px p),.int .u64 (py p),.bool (pf p)]
theorem tries_in(n:Nat) (t:List UInt8) (w:World) :
  CallsIn Fence.wide n Tryz.prog 142 #[.string (bs t)] w fun e w'=>e=.returned (.func (.func 167) #[] #[.pointer (some ⟨w.heap.size,0,none⟩)])∧w'=w.alloc (.cells #[.string (bs t)] 9):=by
 refine callsIn_of_wp Tryz.func142 rfl trivial ?_ rfl
 simp only[Tryz.ntmps142, List.size_toArray,List.length_cons,List.length_nil,Nat.reduceAdd,Nat.reduceSub,Array.replicate_succ,Array.replicate_zero,List.push_toArray,List.append_toArray,List.nil_append,List.cons_append]
 gi_wp2
 go_ret
 exact⟨rfl,rfl⟩
theorem tries_stops(n:Nat) (hn:1≤n) (b:Nat) (t:List UInt8) (ht:t.length≤1048576) (w:World) (hk:HasK w) (hK0:Blk w b 9 #[.string (bs t)]) :
  SeqSt Fence.wide n Tryz.prog 167 #[.pointer (some ⟨b,0,none⟩)] (fun y:F×F => #[.agg #[.int .u64 (vz y.1),.int .u64 (vz y.2),.bool false]]) (TryAt t) (TryKp b) TryAb () (fun xs=>xs=triesN t 256) (fun _=>True) w :=
 fun lp J Jx W hW hJ hJx hY h0=>tries1_in n hn lp b t ht J Jx hJ hJx hY W (hk.on hW) (hK0.below hW) h0
def HsI(w:World) (ro:Nat) (p:E) (W:World):Prop:=Blk W ro 153 (pc p)∧Blk W w.heap.size 153 #[.int .u64 0,.int .u64 0,.bool false]∧Below w.heap.size w W
theorem HsI.grown{w W W':World}{ro B:Nat}{p:E}{r:Option Nat} (h:HsI w ro p W) (hg:W.grownBy W' r) (hr:∀ j,r=some j→B≤j) (h1:ro<B) (h2:w.heap.size<B):HsI w ro p W' :=
 ⟨h.1.grown hg (fun e=>by have:=hr _ e.symm;omega),h.2.1.grown hg (fun e=>by have:=hr _ e.symm;omega),h.2.2.grown hg h.2.2.size (fun k e=>by have:=hr k e;omega)⟩
theorem HsI.below{w W W':World}{ro:Nat}{p:E} (h:HsI w ro p W) (hB:Below W.heap.size W W'):HsI w ro p W' :=
 ⟨h.1.below hB,h.2.1.below hB,Below.on hB h.2.2⟩
theorem hash_calls(t:List UInt8) (ht:t.length≤1048576) (w:World) (hk:HasK w) :
  Calls Tryz.prog 104 #[.string (bs t)] w (Ret w (.agg #[.int .u64 (px (hashE t)),.int .u64 (py (hashE t)),.bool (pf (hashE t))])):=by
 refine(callsIn_wide (n:=9)).1 ?_
 have hwf:∀ f,Fence.wide.fn f:=fun _=>trivial
 refine callsIn_of_wp_marks Tryz.func104 rfl trivial ?_ rfl
 simp only[Tryz.ntmps104, List.size_toArray,List.length_cons,List.length_nil,Nat.reduceAdd,Nat.reduceSub,Array.replicate_succ,Array.replicate_zero,List.push_toArray,List.append_toArray,List.nil_append,List.cons_append]
 gi_wp2
 refine wpIn_scope ?_
 gi_wp2_with fail
 refine(callsIn_wide.2 (sgen_x _)).mono ?_
 rintro e w1 ⟨rfl,hB1⟩
 gi_wp2_with fail
 refine wpIn_label ?_
 gi_wp2_with(gi_at_call 142; refine(tries_in _ _ _).mono ?_;rintro e w' ⟨rfl,rfl⟩)
 have hB1':Below w.heap.size w w1:=Below.on hB1 ((Below.refl _ _).alloc (Nat.le_refl _) _)
 have KR1:Blk w1 w.heap.size 153 #[.int .u64 0,.int .u64 0,.bool false]:=(Blk.new0 w _ _).below hB1
 have hk1:=hk.on hB1'
 obtain⟨ro,hro⟩:∃ ro,w1.heap.size=ro:=⟨_,rfl⟩
 obtain⟨rb,hrb⟩:∃ rb,w.heap.size=rb:=⟨_,rfl⟩
 obtain⟨W0,hW0⟩:∃ W0,(w1.alloc (.cells #[.int .u64 (px genE),.int .u64 (py genE),.bool (pf genE)] 153)).alloc (.cells #[.string (bs t)] 9)=W0:=⟨_,rfl⟩
 have hwr:rb<ro:=by rw[←hro,←hrb];exact KR1.lt
 have hs0:W0.heap.size=ro+2:=by rw[←hW0];simp[hro]
 have KP:Blk W0 ro 153 (pc genE):=by rw[←hW0,←hro];exact(Blk.new0 _ _ _).alloc _
 have KT:Blk W0 (ro+1) 9 #[.string (bs t)]:=by rw[←hW0,←hro];exact Blk.new1 _ _ _ _
 have hB10:Below w1.heap.size w1 W0:=by rw[←hW0];exact bel
 have hI0:HsI w ro genE W0:=⟨KP,KR1.below hB10,Below.on hB10 hB1'⟩
 have hk0:=hk1.on hB10
 simp only[hro,hrb]
 rw[hW0]
 clear KP KR1 hB10 hB1 hB1' hk1 hW0 hro
 have hf:=enters_of Tryz.func167 U rfl
 have hrb':w.heap.size=rb:=hrb
 refine wpIn_rangeFunc_stb rfl (by decide) (gf := 167) (lb := #[.pointer (some ⟨ro+1,0,none⟩)]) rfl trivial hf
  (tries_stops 8 (by decide) (ro+1) t ht W0 hk0 KT) (fun _=>rfl) (fun _ _ _ _ h k=>h.trans k)
  (fun x W l o o' hl h1 h2 h3=>⟨by simp,fun h=>h.grown (grownBy_putObj' W l o') (by intro e;injection e with e;have:=hk0.2;omega),fun cs ty hb=>(World.putObj_heap_other (by omega)).trans hb⟩)
  (fun x A y B k o hab hkk hA ho _=>(hab.block k (Array.getElem?_eq_some_iff.1 hA).1).trans hA)
  (fun _ _ _ _ _ _ _ h _ _ _=>h)
  (fun pre _ W=>HsI w ro genE W∧∀ q∈pre,timesE 4 (some q)=none) (fun c _ _ W=>c=.exit 0∧HsI w ro (hashE t) W)
  (fun _ s A B row h hg hr=>⟨HsI.grown (B:=W0.heap.size) h.1 hg (fun j e=>(hr j e).1) (by omega) (by omega),h.2⟩) (fun _ _ s A B row h hg hr=>⟨h.1,HsI.grown (B:=W0.heap.size) h.2 hg (fun j e=>(hr j e).1) (by omega) (by omega)⟩)
  (fun s x A y B h hab=>⟨h.1.below hab,h.2⟩) (fun _ s x A y B h hab=>⟨h.1,h.2.below hab⟩) ⟨hI0,fun q hq=>by cases hq⟩
  (fun y c=>{ tmps := #[.string (bs t),undef,.pointer (some ⟨rb,0,none⟩),.pointer (some ⟨ro,0,none⟩),.pointer (some ⟨c,0,none⟩),undef,undef,.agg #[.int .u64 (px genE),.int .u64 (py genE),.bool (pf genE)],.string (bs t),
   .func (.func 167) #[] #[.pointer (some ⟨ro+1,0,none⟩)],.agg #[.int .u64 (vz y.1),.int .u64 (vz y.2),.bool false],undef,undef,undef,undef,undef,undef,undef,undef,undef,undef],defers:=[] })
  (fun y=>.cells #[.int .u64 (vz y.1),.int .u64 (vz y.2),.bool false] 153)
  (fun x W o=>⟨by simp,fun h=>h.alloc _,fun cs ty hb=>hb.alloc _⟩) (fun _ _ _ _ _ h=>h)
  ?assign ?body ?done ?stop
 case assign =>
  intro l y W K hK
  gi_wp2
  exact hK
 case done =>
  rintro D xs x W hD rfl ⟨⟨h1,h2,h3⟩,h4⟩ hK
  have hpe:=hash_none h4
  rw[hrb]at h2
  have hKD:=Z hK
  have H3:=Z h3
  have K1:Blk W ro 153 #[.int .u64 (px genE),.int .u64 (py genE),.bool (pf genE)]:=h1
  have K2:=Z h2
  clear h1 h2 h3 hK hI0 hk KT
  obtain⟨p,hp⟩:∃ p,genE=p:=⟨_,rfl⟩
  have hpe2:=Z (hpe.trans hp)
  rw[hp]at K1
  replace K1:=Z K1
  clear hpe
  replace hp:=Z hp
  (obtain⟨k1,f1,l1,m1⟩:=rl_ K1;obtain⟨k2,f2,l2,m2⟩:=rl_ K2)
  gi_wp2
  try rw[Exit.noGoto_ret]
  obtain⟨W3,hW3⟩:∃ W3,((W.setCell ⟨rb,0,none⟩ (.int .u64 (px p))).setCell ⟨rb,1,none⟩ (.int .u64 (py p))).setCell ⟨rb,2,none⟩ (.bool (pf p))=W3:=⟨_,rfl⟩
  have hKO:KeepsOthers W W3:=by rw[←hW3];exact((KeepsOthers.setCell _ _ _).trans (KeepsOthers.setCell _ _ _)).trans (KeepsOthers.setCell _ _ _)
  have KP:Blk W3 rb 153 #[.int .u64 (px p),.int .u64 (py p),.bool (pf p)]:=by rw[←hW3];exact(by apply Blk.to;(repeat(first|with_reducible exact K2.out|exact nwJ|with_reducible apply Blk.set_|with_reducible apply Blk.alloc|with_reducible apply Blk.drewN|with_reducible apply Blk.drew|(with_reducible apply Blk.over2;first|assumption|omega)));rfl)
  have HB3:Below w.heap.size w W3:=by rw[←hW3];exact((H3.out.setCell (by simp;omega) _).setCell (by simp;omega) _).setCell (by simp;omega) _
  have hKD3:=hKO.same D _ hKD.out rfl
  rw[hW3]
  clear k1 f1 l1 m1 k2 f2 l2 m2 K1 K2 hW3 hKO H3 hKD
  refine⟨by simp,.inl ⟨_,_,rfl,run_takeDeferred hKD3,?_⟩⟩
  have KQ:Blk (W3.putObj D (.deferred none)) rb 153 #[.int .u64 (px p),.int .u64 (py p),.bool (pf p)]:=(World.putObj_heap_other (by omega)).trans KP
  have k9:=KQ.cell
  refine⟨.agg #[.int .u64 (px p),.int .u64 (py p),.bool (pf p)],by simp[results,Tryz.results104, go_sem,k9],⟨by rw[hpe2.out],below_shut HB3 (Nat.le_refl _) (by omega)⟩⟩
 case stop =>
  rintro D c pre x W hD _ ⟨rfl,h1,h2,h3⟩ hK
  have hpe:hashE t=hashE t:=rfl
  rw[hrb]at h2
  have hKD:=Z hK
  have H3:=Z h3
  have K1:Blk W ro 153 #[.int .u64 (px (hashE t)),.int .u64 (py (hashE t)),.bool (pf (hashE t))]:=h1
  have K2:=Z h2
  clear h1 h2 h3 hK hI0 hk KT
  obtain⟨p,hp⟩:∃ p,(hashE t)=p:=⟨_,rfl⟩
  have hpe2:=Z (hpe.trans hp)
  rw[hp]at K1
  replace K1:=Z K1
  clear hpe
  replace hp:=Z hp
  (obtain⟨k1,f1,l1,m1⟩:=rl_ K1;obtain⟨k2,f2,l2,m2⟩:=rl_ K2)
  gi_wp2
  try rw[Exit.noGoto_ret]
  obtain⟨W3,hW3⟩:∃ W3,((W.setCell ⟨rb,0,none⟩ (.int .u64 (px p))).setCell ⟨rb,1,none⟩ (.int .u64 (py p))).setCell ⟨rb,2,none⟩ (.bool (pf p))=W3:=⟨_,rfl⟩
  have hKO:KeepsOthers W W3:=by rw[←hW3];exact((KeepsOthers.setCell _ _ _).trans (KeepsOthers.setCell _ _ _)).trans (KeepsOthers.setCell _ _ _)
  have KP:Blk W3 rb 153 #[.int .u64 (px p),.int .u64 (py p),.bool (pf p)]:=by rw[←hW3];exact(by apply Blk.to;(repeat(first|with_reducible exact K2.out|exact nwJ|with_reducible apply Blk.set_|with_reducible apply Blk.alloc|with_reducible apply Blk.drewN|with_reducible apply Blk.drew|(with_reducible apply Blk.over2;first|assumption|omega)));rfl)
  have HB3:Below w.heap.size w W3:=by rw[←hW3];exact((H3.out.setCell (by simp;omega) _).setCell (by simp;omega) _).setCell (by simp;omega) _
  have hKD3:=hKO.same D _ hKD.out rfl
  rw[hW3]
  clear k1 f1 l1 m1 k2 f2 l2 m2 K1 K2 hW3 hKO H3 hKD
  refine⟨by simp,.inl ⟨_,_,rfl,run_takeDeferred hKD3,?_⟩⟩
  have KQ:Blk (W3.putObj D (.deferred none)) rb 153 #[.int .u64 (px p),.int .u64 (py p),.bool (pf p)]:=(World.putObj_heap_other (by omega)).trans KP
  have k9:=KQ.cell
  refine⟨.agg #[.int .u64 (px p),.int .u64 (py p),.bool (pf p)],by simp[results,Tryz.results104, go_sem,k9],⟨by rw[hpe2.out],below_shut HB3 (Nat.le_refl _) (by omega)⟩⟩
 case body =>
  rintro l pre ⟨yx,yy⟩ x W c ⟨⟨h1,h2,h3⟩,h4⟩ ⟨n,hn,hpre,hq⟩ hc hbox
  have hon:=tryQ_on hq
  have h4q:(timesE 4 (some (yx,yy))=none)∨timesE 4 (some (yx,yy))≠none:=Classical.em _
  have K1:Blk W ro 153 #[.int .u64 (px genE),.int .u64 (py genE),.bool (pf genE)]:=h1
  have K3:Blk W c 153 #[.int .u64 (vz yx),.int .u64 (vz yy),.bool false]:=hbox
  have H1:=Z (show HsI w ro genE W from⟨h1,h2,h3⟩)
  have n1:∀ W,Calls Tryz.prog 141 #[.int .u64 4,.agg #[.int .u64 (vz yx),.int .u64 (vz yy),.bool false]] W (Ret W (.tuple #[.agg #[.int .u64 (px (timesE 4 (some (yx,yy)))),.int .u64 (py (timesE 4 (some (yx,yy)))),.bool (pf (timesE 4 (some (yx,yy))))],.int .i64 0])):=times_good 4 (some (yx,yy)) (by decide) (by decide) hon
  have hhit:=fun h=>hash_hit hn hq (hpre ▸ h4) h
  have hcr:ro<c:=by omega
  replace K1:=Z K1
  replace K3:=Z K3
  replace h4:=Z h4
  replace n1:=Z n1
  clear h1 h2 h3 hbox hI0 hk KT hon
  (obtain⟨k1,f1,l1,m1⟩:=rl_ K1;obtain⟨k3,f3,l3,m3⟩:=rl_ K3)
  obtain⟨T,hT⟩:∃ T,timesE 4 (some (yx,yy))=T:=⟨_,rfl⟩
  rw[hT]at n1 h4q hhit
  replace hT:=Z hT
  replace hhit:=Z hhit
  gi_wp2_with fail
  refine(CallsIn.inRound l (callsIn_wide.2 (n1.out _))).mono ?_
  rintro e w2 ⟨rfl,h2⟩
  have H2:=Z (H1.out.below h2)
  have K5:=Z (K1.out.below h2)
  have hKO:=KeepsOthers.below h2
  have hKp:TryKp (ro+1) x W w2:=⟨h2.size,fun h=>h.on h2,fun cs ty hb=>hb.below h2⟩
  replace hKO:=Z hKO
  replace hKp:=Z hKp
  clear k1 f1 l1 m1 k3 f3 l3 m3 K1 K3 h2 H1 n1
  (obtain⟨k5,f5,l5,m5⟩:=rl_ K5)
  rcases h4q with hn0|hs0
  ·have hpf:pf T=true:=by rw[hn0];rfl
   replace hn0:=Z hn0
   gi_wp2_with fail
   refine⟨hKO.out.trans (KeepsOthers.alloc _ _),hKp.out.trans ⟨by simp,fun h=>h.alloc _,fun cs ty hb=>hb.alloc _⟩,H2.out.below ((Below.refl _ _).alloc (Nat.le_refl _) _),fun q hq=>?_⟩
   rcases List.mem_append.1 hq with h|h
   ·exact h4.out q h
   ·rw[List.mem_singleton.1 h]
    exact hT.out.trans hn0.out
  ·have hpf:pf T=false:=by
    cases T with
    | none=>exact absurd rfl hs0
    | some _=>rfl
   replace hs0:=Z hs0
   gi_wp2_with fail
   have K6:=Z H2.out.2.1
   rw[hrb]at K6
   refine⟨(((hKO.out.trans (KeepsOthers.setCell _ _ _)).trans (KeepsOthers.setCell _ _ _)).trans (KeepsOthers.setCell _ _ _)).trans (KeepsOthers.alloc _ _),rfl,?_⟩
   rw[hhit.out hs0.out]
   refine⟨?_,?_,?_⟩
   ·show Blk _ ro 153 #[.int .u64 (px T),.int .u64 (py T),.bool (pf T)]
    rw[hpf]
    exact(by apply Blk.to;(repeat(first|with_reducible exact K5.out|exact nwJ|with_reducible apply Blk.set_|with_reducible apply Blk.alloc|with_reducible apply Blk.drewN|with_reducible apply Blk.drew|(with_reducible apply Blk.over2;first|assumption|omega)));rfl)
   ·rw[hrb]
    exact(by apply Blk.to;(repeat(first|with_reducible exact K6.out|exact nwJ|with_reducible apply Blk.set_|with_reducible apply Blk.alloc|with_reducible apply Blk.drewN|with_reducible apply Blk.drew|(with_reducible apply Blk.over2;first|assumption|omega)));rfl)
   ·exact(((H2.out.2.2.setCell (by simp;omega) _).setCell (by simp;omega) _).setCell (by simp;omega) _).alloc (by simp;omega) _
def IsSecret(n:Int):Prop:=n≠0∧n<536870717
instance instIsSecret (n:Int):Decidable (IsSecret n):=by unfold IsSecret;infer_instance
noncomputable def keyB (n:Int) (p:E):List UInt8:=if IsSecret n then bytesE (timesE n p) else []
def keyE(n:Int):Int:=if IsSecret n then 0 else 2
noncomputable def keyV (n:Int) (p:E):Value:=.tuple #[.string (bs (keyB n p)),.int .i64 (keyE n)]
theorem times_in{p:E} (hp:inG p=true) (n:Int) (h0:0≤n) (h1:n≤18446744073709551615):inG (timesE n p)=true:=by
 rw[timesE_smul (inG_on hp) n h0 h1]
 exact inG_smul hp _
theorem mult_no(n:Int) (h:¬ IsSecret n) (fv:Value) (p:E) (w:World):Calls Tryz.prog 102 #[.int .u64 n,fv] w (Ret w (keyV n p)):=by
 unfold keyV keyB keyE
 rw[if_neg h,if_neg h]
 by_cases hz:n=0
 ·have e1:(n == 0)=true:=by simpa using hz
  go_enter Tryz.func102, Tryz.ntmps102
  go_wp2_with fail
  go_ret2
  exact⟨rfl,Below.refl _ _⟩
 ·have e1:(n == 0)=false:=by simpa using hz
  have e2:decide (536870717≤n)=true:=decide_eq_true (by unfold IsSecret at h;omega)
  clear h hz
  go_enter Tryz.func102, Tryz.ntmps102
  go_wp2_with fail
  go_ret2
  exact⟨rfl,Below.refl _ _⟩
theorem mult_gen(n:Int) (h0:0≤n) (h1:n≤18446744073709551615) (w:World):Calls Tryz.prog 102 #[.int .u64 n,.func (.func 125) #[] #[]] w (Ret w (keyV n genE)):=by
 by_cases h:IsSecret n
 ·have e1:(n == 0)=false:=by have:=h.1;simpa using this
  have e2:decide (536870717≤n)=false:=decide_eq_false (by have:=h.2;omega)
  unfold keyV keyB keyE
  rw[if_pos h,if_pos h]
  have hp:=gen_in
  have hin:=times_in hp n h0 h1
  have n1:=sgen_x
  generalize genE=p at *
  clear h
  go_enter Tryz.func102, Tryz.ntmps102
  go_wp2_with fail
  refine(n1 _).mono ?_
  rintro e w1 ⟨rfl,hB1⟩
  go_wp2_with fail
  refine(times_good n p h0 h1 (inG_on hp) _).mono ?_
  rintro e w2 ⟨rfl,hB2⟩
  have h12:=Below.on hB2 hB1
  clear hB1 hB2
  go_wp2_with fail
  refine(bytes_good hin _).mono ?_
  rintro e w3 ⟨rfl,hB3⟩
  go_wp2_with fail
  go_ret2
  exact⟨rfl,Below.on hB3 (h12.alloc h12.size _)⟩
 ·exact mult_no n h _ _ w
theorem key_calls(n:Int) (h0:0≤n) (h1:n≤18446744073709551615) (w:World):Calls Tryz.prog 86 #[.int .u64 n] w (Ret w (keyV n genE)):=by
 go_enter Tryz.func86, Tryz.ntmps86
 go_wp2_with fail
 refine(mult_gen n h0 h1 _).mono ?_
 rintro e w1 ⟨rfl,hB1⟩
 unfold keyV
 go_wp2_with fail
 go_ret2
 exact⟨rfl,hB1⟩
theorem sign1_calls(t:List UInt8) (ht:t.length≤1048576) (b:Nat) (w:World) (hk:HasK w) (K0:Blk w b 9 #[.string (bs t)]) :
  Calls Tryz.prog 103 #[.pointer (some ⟨b,0,none⟩)] w (Ret w (.agg #[.int .u64 (px (hashE t)),.int .u64 (py (hashE t)),.bool (pf (hashE t))])):=by
 replace K0:=Z K0
 (obtain⟨k0,f0,l0,m0⟩:=rl_ K0)
 have n1:=fun W (hB:Below w.heap.size w W)=>hash_calls t ht W (hk.on hB)
 generalize hashE t=p at *
 go_enter Tryz.func103, Tryz.ntmps103
 go_wp2_with fail
 refine(n1 _ bel).mono ?_
 rintro e w1 ⟨rfl,hB1⟩
 have hB2:Below w.heap.size w w1:=Below.on hB1 bel
 have K1:=Z (Blk.below (Blk.new0 w 153 #[.int .u64 0,.int .u64 0,.bool false]) hB1)
 clear k0 f0 l0 m0 K0 hB1 n1 hk
 (obtain⟨k1,f1,l1,m1⟩:=rl_ K1)
 have HB:=hB2
 go_wp2_with fail
 exact bodyPost_ret (v:=.agg #[.int .u64 (px p),.int .u64 (py p),.bool (pf p)]) (by simp (maxDischargeDepth:=9) [results,Tryz.results103, go_sem,vp,v2, *]) rfl ⟨rfl,bel⟩
theorem mult_sign(n:Int) (h0:0≤n) (h1:n≤18446744073709551615) (t:List UInt8) (ht:t.length≤1048576) (b:Nat) (w:World) (hk:HasK w) (K0:Blk w b 9 #[.string (bs t)]) :
  Calls Tryz.prog 102 #[.int .u64 n,.func (.func 103) #[] #[.pointer (some ⟨b,0,none⟩)]] w (Ret w (keyV n (hashE t))):=by
 by_cases h:IsSecret n
 ·have e1:(n == 0)=false:=by have:=h.1;simpa using this
  have e2:decide (536870717≤n)=false:=decide_eq_false (by have:=h.2;omega)
  unfold keyV keyB keyE
  rw[if_pos h,if_pos h]
  have hp:=hash_in t
  have hin:=times_in hp n h0 h1
  have n1:=sign1_calls t ht b w hk K0
  generalize hashE t=p at *
  replace n1:=Z n1
  clear h hk K0
  go_enter Tryz.func102, Tryz.ntmps102
  go_wp2_with fail
  refine n1.out.mono ?_
  rintro e w1 ⟨rfl,hB1⟩
  go_wp2_with fail
  refine(times_good n p h0 h1 (inG_on hp) _).mono ?_
  rintro e w2 ⟨rfl,hB2⟩
  have h12:=Below.on hB2 hB1
  clear hB1 hB2
  go_wp2_with fail
  refine(bytes_good hin _).mono ?_
  rintro e w3 ⟨rfl,hB3⟩
  go_wp2_with fail
  go_ret2
  exact⟨rfl,Below.on hB3 (h12.alloc h12.size _)⟩
 ·exact mult_no n h _ _ w
theorem sign_calls(n:Int) (h0:0≤n) (h1:n≤18446744073709551615) (t:List UInt8) (ht:t.length≤1048576) (w:World) (hk:HasK w):Calls Tryz.prog 60 #[.int .u64 n,.string (bs t)] w (Ret w (keyV n (hashE t))):=by
 have n1:=mult_sign n h0 h1 t ht w.heap.size _ (hk.alloc (.cells #[.string (bs t)] 9)) (Blk.new0 w _ _)
 replace n1:=Z n1
 clear hk
 go_enter Tryz.func60, Tryz.ntmps60
 go_wp2_with fail
 refine n1.out.mono ?_
 rintro e w1 ⟨rfl,hB1⟩
 have hB2:Below w.heap.size w w1:=Below.on hB1 bel
 unfold keyV
 go_wp2_with fail
 go_ret2
 exact⟨rfl,hB2⟩
noncomputable def sumFrom (p:E):List (List UInt8)→Option E
 | []=>some p
 | x :: r=>match fromL x with
  | none=>none
  | some q=>sumFrom (addE p q) r
noncomputable def sumE (l:List (List UInt8)):Option E:=sumFrom none l
theorem sumFrom_in:∀ (l:List (List UInt8)) (p q:E),inG p=true→sumFrom p l=some q→inG q=true
 | [],p,q,hp,h=>by
  rw[sumFrom]at h
  injection h with h
  rw[←h]
  exact hp
 | x :: r,p,q,hp,h=>by
  rw[sumFrom]at h
  cases hx:fromL x with
  | none=>rw[hx]at h;cases h
  | some y =>
   rw[hx]at h
   exact sumFrom_in r _ q (inG_add hp (back_bytes hx).1) h
theorem sumE_in{l:List (List UInt8)}{q:E} (h:sumE l=some q):inG q=true:=sumFrom_in l none q inG_none h
def Lsts(w:World) (A:Option Addr) (L:List (List UInt8)):Prop:=Strs w A (L.map bs)
theorem Lsts.at{w:World}{A:Option Addr}{L:List (List UInt8)} (h:Lsts w A L) (i:Nat) (hi:i<L.length):∃ b o,A=some ⟨b,o,none⟩∧b<w.heap.size∧w.cell? ⟨b,o+i,none⟩=some (.string (bs (L.getD i []))):=by
 obtain⟨b,o,ha,hb,hc⟩:=h (by simp;omega)
 exact⟨b,o,ha,hb,hc i _ (by rw[List.getElem?_map,List.getElem?_eq_getElem hi,List.getD,List.getElem?_eq_getElem hi];rfl)⟩
theorem Lsts.below{w w':World}{A:Option Addr}{L:List (List UInt8)} (h:Lsts w A L) (hB:Below w.heap.size w w'):Lsts w' A L:=Strs.below h hB
theorem drop_at{α:Type} (l:List α) (d:α) (k:Nat) (h:k<l.length):l.drop k=l.getD k d :: l.drop (k+1):=by
 rw[List.drop_eq_getElem_cons h,List.getD,List.getElem?_eq_getElem h]
 rfl
theorem ssum_calls(A:Option Addr) (c:Nat) (L:List (List UInt8)) (hL:L.length≤1048576) (w:World) (hs:Lsts w A L) :
  Calls Tryz.prog 87 #[.slice A L.length c] w (Ret w (outV (sumE L))):=by
 go_enter Tryz.func87, Tryz.ntmps87
 go_wp2_with fail
 obtain⟨W0,hW0⟩:∃ W0,(w.alloc (.cells #[.int .u64 0,.int .u64 0,.bool false] 153)).alloc (.cells #[.int .u64 0,.int .u64 0,.bool true] 153)=W0:=⟨_,rfl⟩
 have KR:Blk W0 w.heap.size 153 #[.int .u64 0,.int .u64 0,.bool false]:=by rw[←hW0];exact(Blk.new0 _ _ _).alloc _
 have KO0:Blk W0 (w.heap.size+1) 153 (pc none):=by rw[←hW0];exact Blk.new1 _ _ _ _
 have hB0:Below w.heap.size w W0:=by rw[←hW0];exact bel
 have hsum0:sumE L=sumFrom none (L.drop 0):=by rw[List.drop_zero];rfl
 obtain⟨rb,hrb⟩:∃ rb,w.heap.size=rb:=⟨_,rfl⟩
 rw[hrb]at KR KO0
 have hz0:rb+2≤W0.heap.size:=KO0.lt
 replace KR:=Z KR
 replace KO0:=Z KO0
 replace hs:=Z hs
 replace hsum0:=Z hsum0
 rw[hW0]
 simp only[hrb]
 go_loopw [12] (fun n wr=>∃ (k:Nat) (p:E),k≤L.length∧n=.int .i64 k∧Blk wr (rb+1) 153 (pc p)∧Blk wr rb 153 #[.int .u64 0,.int .u64 0,.bool false]∧inG p=true∧sumE L=sumFrom p (L.drop k)∧Below w.heap.size w wr) (fun n _=>(L.length - intOf n).toNat)
 case atStart=>exact⟨0,none,by omega,rfl,KO0.out,KR.out,inG_none,hsum0.out,hB0⟩
 case round =>
  clear KO0 KR hsum0 hB0 hW0
  obtain⟨k,p,hk,rfl,KP,KR,hp,hsum,HB⟩:=hrel
  have hzr:=HB.size
  by_cases hlt:k<L.length
  ·obtain⟨b,o,rfl,hb,hc⟩:=(hs.out.below HB).at k hlt
   rw[drop_at L [] k hlt,sumFrom]at hsum
   generalize L.getD k []=x at *
   have n1:=from_of (bs x)
   rw[bs_list]at n1
   have K1:Blk wr (rb+1) 153 #[.int .u64 (px p),.int .u64 (py p),.bool (pf p)]:=KP
   replace K1:=Z K1
   have K2:=Z KR
   clear KP KR
   replace n1:=Z n1
   cases hx:fromL x with
   | none =>
    rw[hx]at hsum
    have hn:sumE L=none:=hsum
    have n2:=n1.out
    rw[hx,out_none]at n2
    replace n2:=Z n2
    replace hsum:=Z hsum
    replace hn:=Z hn
    replace hx:=Z hx
    go_wp2_with fail
    refine(n2.out _).mono ?_
    rintro e w2 ⟨rfl,h2⟩
    have HB2:=Below.on h2 HB
    have K3:=Z (K2.out.below h2)
    clear h2 K1 K2
    (obtain⟨k3,f3,l3,m3⟩:=rl_ K3)
    go_wp2_with fail
    rw[hn.out,out_none]
    exact bodyPost_ret (v:=.tuple #[.agg #[.int .u64 0,.int .u64 0,.bool false],.int .i64 100]) (by simp (maxDischargeDepth:=9) [results,Tryz.results87, go_sem,vp,v2, *]) rfl ⟨rfl,bel⟩
   | some q =>
    rw[hx]at hsum
    replace hsum:sumE L=sumFrom (addE p q) (L.drop (k+1)):=hsum
    have hq:=(back_bytes hx).1
    have n2:=n1.out
    have ho:outV (some q)=.tuple #[.agg #[.int .u64 (px q),.int .u64 (py q),.bool (pf q)],.int .i64 0]:=by rcases q with _|⟨a,b⟩ <;> rfl
    rw[hx,ho]at n2
    have n3:=add_good p q (inG_on hp) (inG_on hq)
    have hpq:=inG_add hp hq
    generalize addE p q=r at *
    replace n2:=Z n2
    replace n3:=Z n3
    replace hsum:=Z hsum
    replace hx:=Z hx
    replace ho:=Z ho
    replace hpq:=Z hpq
    clear hp hq
    go_wp2_with fail
    refine(n2.out _).mono ?_
    rintro e w2 ⟨rfl,h2⟩
    have HB2:=Below.on h2 HB
    have K3:=Z (K1.out.below h2)
    have K4:=Z (K2.out.below h2)
    clear h2 K1 K2
    (obtain⟨k3,f3,l3,m3⟩:=rl_ K3;obtain⟨k4,f4,l4,m4⟩:=rl_ K4)
    go_wp2_with fail
    refine(n3.out _).mono ?_
    rintro e w3 ⟨rfl,h3⟩
    have HB3:=Below.on h3 (HB2.alloc HB2.size _)
    have K5:=Z ((K3.out.alloc _).below h3)
    have K6:=Z ((K4.out.alloc _).below h3)
    have hz3:=HB3.size
    clear h3 K3 k3 f3 l3 m3 K4 k4 f4 l4 m4
    (obtain⟨k5,f5,l5,m5⟩:=rl_ K5;obtain⟨k6,f6,l6,m6⟩:=rl_ K6)
    go_wp2_with fail
    go_roundw
    case rel=>exact⟨k+1,r,by omega,by go_num,(by apply Blk.to;(repeat(first|with_reducible exact K5.out|exact nwJ|with_reducible apply Blk.set_|with_reducible apply Blk.alloc|with_reducible apply Blk.drewN|with_reducible apply Blk.drew|(with_reducible apply Blk.over2;first|assumption|omega)));rfl),(by apply Blk.to;(repeat(first|with_reducible exact K6.out|exact nwJ|with_reducible apply Blk.set_|with_reducible apply Blk.alloc|with_reducible apply Blk.drewN|with_reducible apply Blk.drew|(with_reducible apply Blk.over2;first|assumption|omega)));rfl),hpq.out,hsum.out,((HB3.setCell (by simp;omega) _).setCell (by simp;omega) _).setCell (by simp;omega) _⟩
    case measure=>simp[intOf];omega
  ·obtain rfl:k=L.length:=by omega
   rw[List.drop_length,sumFrom]at hsum
   have ho:outV (some p)=.tuple #[.agg #[.int .u64 (px p),.int .u64 (py p),.bool (pf p)],.int .i64 0]:=by rcases p with _|⟨a,b⟩ <;> rfl
   have K1:Blk wr (rb+1) 153 #[.int .u64 (px p),.int .u64 (py p),.bool (pf p)]:=KP
   replace K1:=Z K1
   have K2:=Z KR
   replace hsum:=Z hsum
   replace ho:=Z ho
   clear KP KR hp
   (obtain⟨k1,f1,l1,m1⟩:=rl_ K1;obtain⟨k2,f2,l2,m2⟩:=rl_ K2)
   go_wp2_with fail
   rw[hsum.out,ho.out]
   exact bodyPost_ret (v:=.tuple #[.agg #[.int .u64 (px p),.int .u64 (py p),.bool (pf p)],.int .i64 0]) (by simp (maxDischargeDepth:=9) [results,Tryz.results87, go_sem,vp,v2, *]) rfl ⟨rfl,bel⟩
theorem outV_some(p:E):outV (some p)=.tuple #[.agg #[.int .u64 (px p),.int .u64 (py p),.bool (pf p)],.int .i64 0]:=by rcases p with _|⟨a,b⟩ <;> rfl
theorem outV_none:outV none=.tuple #[.agg #[.int .u64 0,.int .u64 0,.bool false],.int .i64 100]:=rfl
noncomputable def sumV (r:Option E):Value:=match r with
 | none=>.tuple #[.string { data := #[] },.int .i64 100]
 | some p=>.tuple #[.string (bs (bytesE p)),.int .i64 0]
theorem sSum_calls(A:Option Addr) (c:Nat) (L:List (List UInt8)) (hL:L.length≤1048576) (w:World) (hs:Lsts w A L):Calls Tryz.prog 51 #[.slice A L.length c] w (Ret w (sumV (sumE L))):=by
 have n1:=ssum_calls A c L hL w hs
 have hin:=fun p (h:sumE L=some p)=>sumE_in h
 clear hs
 cases hr:sumE L with
 | none =>
  rw[hr,outV_none]at n1
  replace n1:=Z n1
  replace hr:=Z hr
  clear hin
  go_enter Tryz.func51, Tryz.ntmps51
  go_wp2_with fail
  refine n1.out.mono ?_
  rintro e w1 ⟨rfl,h1⟩
  go_wp2_with fail
  go_ret2
  exact⟨rfl,h1.alloc h1.size _⟩
 | some p =>
  rw[hr,outV_some]at n1
  have n2:=bytes_good (hin p hr)
  replace n1:=Z n1
  replace hr:=Z hr
  replace n2:=Z n2
  clear hin
  go_enter Tryz.func51, Tryz.ntmps51
  go_wp2_with fail
  refine n1.out.mono ?_
  rintro e w1 ⟨rfl,h1⟩
  go_wp2_with fail
  refine(n2.out _).mono ?_
  rintro e w2 ⟨rfl,h2⟩
  go_wp2_with fail
  go_ret2
  exact⟨rfl,Below.on h2 (h1.alloc h1.size _)⟩
theorem same_in(p q r s:E) (hp:inG p=true) (hq:inG q=true) (hr:inG r=true) (hs:inG s=true) (w:World) :
  Calls Tryz.prog 174 #[.agg #[.int .u64 (px p),.int .u64 (py p),.bool (pf p)],.agg #[.int .u64 (px q),.int .u64 (py q),.bool (pf q)],.agg #[.int .u64 (px r),.int .u64 (py r),.bool (pf r)],.agg #[.int .u64 (px s),.int .u64 (py s),.bool (pf s)]] w
   (Ret w (.tuple #[.bool (sameF (pairE p q) (pairE r s)),.int .i64 0])):=by
 have:=same_of (px p) (py p) (pf p) (px q) (py q) (pf q) (px r) (py r) (pf r) (px s) (py s) (pf s) (px_nonneg p) (py_nonneg p) (px_nonneg q) (py_nonneg q) (px_nonneg r) (py_nonneg r) (px_nonneg s) (py_nonneg s) w
 rw[pairR_in p q hp hq,pairR_in r s hr hs]at this
 exact this
noncomputable def holdsB (k:E) (t sg:List UInt8):Bool:=match fromL sg with
 | none=>false
 | some s=>if pf k then false else sameF (pairE s genE) (pairE (hashE t) k)
theorem holds_calls(k:E) (hkk:inG k=true) (t sg:List UInt8) (ht:t.length≤1048576) (w:World) (hk:HasK w) :
  Calls Tryz.prog 150 #[.agg #[.int .u64 (px k),.int .u64 (py k),.bool (pf k)],.string (bs t),.string (bs sg)] w (Ret w (.bool (holdsB k t sg))):=by
 have n1:=from_of (bs sg)
 rw[bs_list]at n1
 unfold holdsB
 cases hf:fromL sg with
 | none =>
  rw[hf,outV_none]at n1
  replace n1:=Z n1
  replace hf:=Z hf
  go_enter Tryz.func150, Tryz.ntmps150
  go_wp2_with fail
  refine(n1.out _).mono ?_
  rintro e w1 ⟨rfl,h1⟩
  have hB:Below w.heap.size w w1:=Below.on h1 bel
  go_wp2_with fail
  go_ret
  exact⟨rfl,hB.alloc hB.size _⟩
 | some s =>
  have hs:=(back_bytes hf).1
  rw[hf,outV_some]at n1
  replace n1:=Z n1
  replace hf:=Z hf
  cases hp:pf k with
  | true =>
   go_enter Tryz.func150, Tryz.ntmps150
   go_wp2_with fail
   refine(n1.out _).mono ?_
   rintro e w1 ⟨rfl,h1⟩
   have hB:Below w.heap.size w w1:=Below.on h1 bel
   have K0:=Z ((Blk.new0 w 153 #[.int .u64 (px k),.int .u64 (py k),.bool true]).below h1)
   (obtain⟨k0,f0,l0,m0⟩:=rl_ K0)
   go_wp2_with fail
   go_ret
   exact⟨rfl,hB.alloc hB.size _⟩
  | false =>
   have n4:=same_in s genE (hashE t) k hs gen_in (hash_in t) hkk
   rw[hp]at n4
   have n3:=fun W (hB:Below w.heap.size w W)=>hash_calls t ht W (hk.on hB)
   have n2:=sgen_x
   generalize genE=G at *
   generalize hashE t=H at *
   obtain⟨r,hr⟩:∃ r,sameF (pairE s G) (pairE H k)=r:=⟨_,rfl⟩
   rw[hr]at n4
   replace hr:=Z hr
   replace n2:=Z n2
   replace n3:=Z n3
   replace n4:=Z n4
   clear hkk hs hk
   go_enter Tryz.func150, Tryz.ntmps150
   go_wp2_with fail
   refine(n1.out _).mono ?_
   rintro e w1 ⟨rfl,h1⟩
   have hB:Below w.heap.size w w1:=Below.on h1 bel
   have K0:=Z ((Blk.new0 w 153 #[.int .u64 (px k),.int .u64 (py k),.bool false]).below h1)
   clear h1
   (obtain⟨k0,f0,l0,m0⟩:=rl_ K0)
   go_wp2_with fail
   have K1:=Z (Blk.new0 w1 153 #[.int .u64 (px s),.int .u64 (py s),.bool (pf s)])
   have K2:=Z (K0.out.alloc (.cells #[.int .u64 (px s),.int .u64 (py s),.bool (pf s)] 153))
   have hBz:=hB.alloc hB.size (.cells #[.int .u64 (px s),.int .u64 (py s),.bool (pf s)] 153)
   obtain⟨W1,hW1⟩:∃ W1,w1.alloc (.cells #[.int .u64 (px s),.int .u64 (py s),.bool (pf s)] 153)=W1:=⟨_,rfl⟩
   rw[hW1]at K1 K2 hBz ⊢
   obtain⟨g,hg⟩:∃ g,w1.heap.size=g:=⟨_,rfl⟩
   rw[hg]at K1
   simp only[hg]
   clear k0 f0 l0 m0 K0 hB hW1 hg
   (obtain⟨k1,f1,l1,m1⟩:=rl_ K1;obtain⟨k2,f2,l2,m2⟩:=rl_ K2)
   (refine wp_region_later U U ?_;(repeat(go_big_quiet_step ((first|(go_at_call 125; exact lq (n2.out _))|(go_at_call 104; exact lq (n3.out _ (Below.on (Later.below _) hBz)))|(go_at_call 174; exact lq (n4.out _))))));refine wpQuiet_nil ?_;intro w' hB)
   go_wp2_with fail
   go_ret
   exact⟨by rw[←hr.out];rfl,Below.on hB hBz⟩
theorem bs_inj'{a b:List UInt8} (h:bs a=bs b):a=b:=by
 have:=congrArg (fun x:ByteArray=>x.data.toList) h
 simpa[bs] using this
theorem contains_txts(L:List (List UInt8)) (x:List UInt8):Lib.containsS (L.map bs) (bs x)=decide (x∈L):=by
 rw[Bool.eq_iff_iff,Lib.containsS_iff,decide_eq_true_iff,List.mem_map]
 constructor
 ·rintro⟨y,hy,h⟩
  rwa [←bs_inj' h]
 ·exact fun h=>⟨x,h,rfl⟩
theorem contains_calls(A:Option Addr) (c:Nat) (L:List (List UInt8)) (hL:L.length≤1048576) (x:List UInt8) (w:World) (hs:Lsts w A L) :
  Calls Tryz.prog 149 #[.slice A L.length c,.string (bs x)] w fun e w'=>e=.returned (.bool (decide (x∈L)))∧w'=w:=by
 by_cases h0:L.length=0
 ·obtain rfl:=List.length_eq_zero_iff.1 h0
  have:=Tryz.slices_Contains_string_empty A c (bs x) w
  simpa using this
 ·obtain⟨b,o,rfl,hb,_⟩:=hs.at 0 (by omega)
  have:=Tryz.slices_Contains_string b o L.length c (L.map bs) (bs x) w (by simp) (by omega) (fun j hj=>by
   have hj2:j<L.length:=by simpa using hj
   obtain⟨b2,o2,he,_,hc⟩:=hs.at j hj2
   injection he with he
   injection he with he1 he2
   subst he1 he2
   rw[hc]
   congr 2
   rw[List.getD,List.getD,List.getElem?_map,List.getElem?_eq_getElem hj2]
   rfl)
  rw[List.take_of_length_le (by simp),contains_txts]at this
  exact this
noncomputable def allB (L:List (List UInt8)) (t sg:List UInt8):Bool:=match sumE L with
 | none=>false
 | some k=>if L.length=0 then false else if [0,0,0,0,0]∈L then false else holdsB k t sg
theorem all_calls(A:Option Addr) (c:Nat) (L:List (List UInt8)) (hL:L.length≤1048576) (t sg:List UInt8) (ht:t.length≤1048576) (w:World) (hk:HasK w) (hs:Lsts w A L) :
  Calls Tryz.prog 112 #[.slice A L.length c,.string (bs t),.string (bs sg)] w (Ret w (.bool (allB L t sg))):=by
 have n1:=ssum_calls A c L hL w hs
 have n2:=fun W (hB:Below w.heap.size w W)=>contains_calls A c L hL [0,0,0,0,0] W (hs.below hB)
 rw[show(bs [0,0,0,0,0])={ data := #[0,0,0,0,0] } from rfl]at n2
 obtain⟨z,hz⟩:∃ z,decide ([0,0,0,0,0]∈L)=z:=⟨_,rfl⟩
 rw[hz]at n2
 unfold allB
 cases hf:sumE L with
 | none =>
  rw[hf,outV_none]at n1
  by_cases h0:L.length=0
  ·obtain rfl:=List.length_eq_zero_iff.1 h0
   cases hf
  have g1:(0:Int)<(L.length:Int):=by omega
  have g2:0<L.length:=by omega
  replace n1:=Z n1
  replace n2:=Z n2
  replace hf:=Z hf
  replace hz:=Z hz
  clear hs hk h0
  go_enter Tryz.func112, Tryz.ntmps112
  go_wp2_with fail
  refine n1.out.mono ?_
  rintro e w1 ⟨rfl,h1⟩
  have hB:Below w.heap.size w w1:=Below.on h1 bel
  go_wp2_with fail
  refine(n2.out _ (hB.alloc hB.size _)).mono ?_
  rintro e w2 ⟨rfl,rfl⟩
  go_wp2_with fail
  go_ret
  exact⟨rfl,hB.alloc hB.size _⟩
 | some p =>
  have hp:=sumE_in hf
  rw[hf,outV_some]at n1
  have n3:=fun W (hB:Below w.heap.size w W)=>holds_calls p hp t sg ht W (hk.on hB)
  replace n1:=Z n1
  replace n2:=Z n2
  replace n3:=Z n3
  replace hf:=Z hf
  clear hp hk hs
  by_cases h0:L.length=0
  ·have g1:¬ (0:Int)<(L.length:Int):=by omega
   have g2:¬ 0<L.length:=by omega
   dsimp only
   rw[if_pos h0]
   replace hz:=Z hz
   replace h0:=Z h0
   go_enter Tryz.func112, Tryz.ntmps112
   go_wp2_with fail
   refine n1.out.mono ?_
   rintro e w1 ⟨rfl,h2⟩
   have hB:Below w.heap.size w w1:=Below.on h2 bel
   go_wp2_with fail
   refine(n2.out _ (hB.alloc hB.size _)).mono ?_
   rintro e w2 ⟨rfl,rfl⟩
   go_wp2_with fail
   go_ret
   exact⟨rfl,hB.alloc hB.size _⟩
  ·have g1:(0:Int)<(L.length:Int):=by omega
   have g2:0<L.length:=by omega
   dsimp only
   rw[if_neg h0]
   cases z with
   | true =>
    rw[if_pos (of_decide_eq_true hz)]
    replace hz:=Z hz
    replace h0:=Z h0
    go_enter Tryz.func112, Tryz.ntmps112
    go_wp2_with fail
    refine n1.out.mono ?_
    rintro e w1 ⟨rfl,h2⟩
    have hB:Below w.heap.size w w1:=Below.on h2 bel
    go_wp2_with fail
    refine(n2.out _ (hB.alloc hB.size _)).mono ?_
    rintro e w2 ⟨rfl,rfl⟩
    go_wp2_with fail
    go_ret
    exact⟨rfl,hB.alloc hB.size _⟩
   | false =>
    rw[if_neg (of_decide_eq_false hz)]
    replace hz:=Z hz
    replace h0:=Z h0
    go_enter Tryz.func112, Tryz.ntmps112
    go_wp2_with fail
    refine n1.out.mono ?_
    rintro e w1 ⟨rfl,h2⟩
    have hB:Below w.heap.size w w1:=Below.on h2 bel
    clear h2
    go_wp2_with fail
    have hB2:=hB.alloc hB.size (.cells #[.int .u64 (px p),.int .u64 (py p),.bool (pf p)] 153)
    refine(n2.out _ hB2).mono ?_
    rintro e w2 ⟨rfl,rfl⟩
    go_wp2_with fail
    refine(n3.out _ hB2).mono ?_
    rintro e w3 ⟨rfl,h3⟩
    go_wp2_with fail
    go_ret
    exact⟨rfl,Below.on h3 hB2⟩
end
end Go.Proofs.YtobgigcdpiikaaaGreatDoor
