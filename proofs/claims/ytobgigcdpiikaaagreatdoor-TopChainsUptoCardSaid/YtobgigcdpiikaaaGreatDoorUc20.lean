/- Plain laws and walks, each by its own conditions. -/
import Derived.Test.YtobgigcdpiikaaaGreatDoorUc22
import Derived.Test.YtobgigcdpiikaaaGreatDoorUc27
set_option linter.unusedSimpArgs false
set_option linter.unusedVariables false
set_option maxRecDepth 100000
set_option maxHeartbeats 16000000
namespace Go.Proofs.YtobgigcdpiikaaaGreatDoor
section
open BigFrame Go.RowKit Go.Phx Go.Shelf
def Nums(w:World) (A:Option Addr) (l:List Nat):Prop :=
 0<l.length→∃ b o,A=some ⟨b,o,none⟩∧b<w.heap.size∧∀ (i:Nat) (n:Nat),l[i]?=some n→w.cell? ⟨b,o+i,none⟩=some (.int .u64 (n:Int))
theorem Nums.below{w w':World}{A:Option Addr}{l:List Nat} (h:Nums w A l) (hB:Below w.heap.size w w'):Nums w' A l:=fun h0=>by
 obtain⟨b,o,ha,hb,hc⟩:=h h0
 exact⟨b,o,ha,Nat.lt_of_lt_of_le hb hB.size,fun i n hn=>(hB.cell (p:=⟨b,o+i,none⟩) hb).trans (hc i n hn)⟩
theorem Nums.at{w:World}{A:Option Addr}{l:List Nat} (h:Nums w A l) (i:Nat) (hi:i<l.length):∃ b o,A=some ⟨b,o,none⟩∧b<w.heap.size∧w.cell? ⟨b,o+i,none⟩=some (.int .u64 ((l.getD i 0:Nat):Int)):=by
 obtain⟨b,o,ha,hb,hc⟩:=h (by omega)
 refine⟨b,o,ha,hb,hc i _ ?_⟩
 rw[List.getD,List.getElem?_eq_getElem hi]
 rfl
def NumsIn(w:World) (A:Option Addr) (l:List Nat):Prop:=Nums w A l∧l.length≤20∧∀ n∈l,n<18446744073709551616
theorem NumsIn.below{w w':World}{A:Option Addr}{l:List Nat} (h:NumsIn w A l) (hB:Below w.heap.size w w'):NumsIn w' A l:=⟨h.1.below hB,h.2⟩
def secretsB(l:List Nat):Bool:=l.all fun n:Nat=>decide (IsSecret (n:Int))
def goodS(l:List Nat):Bool:=secretsB l && decide (l.length=16)
noncomputable def keysS (l:List Nat):List Bytes:=l.map fun n:Nat=>keyB (n:Int) genE
noncomputable def sumB (L:List Bytes):Bytes:=match sumE L with
 | none=>[]
 | some p=>bytesE p
noncomputable def sumN (L:List Bytes):Int:=match sumE L with
 | none=>100
 | some _=>0
theorem sumV_eq(L:List Bytes):sumV (sumE L)=.tuple #[.string (bs (sumB L)),.int .i64 (sumN L)]:=by
 unfold sumV sumB sumN
 cases sumE L <;> rfl
theorem keysS_len(l:List Nat):(keysS l).length=l.length:=by unfold keysS;rw[List.length_map]
theorem take_snoc{α:Type} (l:List α) (d:α) (k:Nat) (h:k<l.length):l.take (k+1)=l.take k ++ [l.getD k d]:=by
 rw[List.take_add_one,List.getElem?_eq_getElem h,List.getD,List.getElem?_eq_getElem h]
 rfl
def CmOf(w:World) (l:List Nat) (c:Cm):Prop:=CmIn w c∧(goodS l=true→c.ks.l=keysS l∧c.sum=sumB (keysS l))∧(goodS l=false→c=Cm.zero)
def commE(l:List Nat):Int:=if goodS l then 0 else 2
theorem bytesE_len5(p:E):(bytesE p).length≤1048576:=by
 first|(have:=bytesE_len p;omega)|(unfold bytesE;split <;> simp)
theorem keyB_len(n:Int):(keyB n genE).length≤1048576:=by
 unfold keyB
 split
 ·exact bytesE_len5 _
 ·simp
theorem sumB_len(L:List Bytes):(sumB L).length≤1048576:=by
 unfold sumB
 split
 ·simp
 ·exact bytesE_len5 _
end
section
open BigFrame Go.RowKit Go.Phx Go.Shelf
attribute [local go_sem] Oper.semAt_some
abbrev cmK(A:Option Addr) (cp:Nat) (L:List Bytes):Cm:=⟨⟨A,cp,L⟩,[]⟩
theorem grow_none{W W':World} (hB:Below W.heap.size W W'):W.grownBy W' none:=⟨hB.os,hB.tape,hB.output,hB.size,fun j hj _=>hB.block j hj⟩
theorem row_in{base:Nat}{wr:World}{A:Option Addr}{cp:Nat}{L:List Bytes} (h:LRow base wr (.slice A L.length cp) L) (hl:L.length≤1048576) (hx:∀ x∈L,x.length≤1048576):RwIn wr ⟨A,cp,L⟩:=by
 obtain⟨A5,c5,e5,T5⟩:=h.txts
 injection e5 with e1 e2 e3
 subst e1 e3
 refine⟨T5,?_,hl,hx⟩
 show L.length≤cp
 by_cases h0:L=[]
 ·rw[h0];simp
 ·obtain⟨g,cap,e,_,hc⟩:=h.form1 h0
  injection e with _ _ e3
  omega
def RwNew(base:Nat) (r:Rw):Prop:=∀ b o,r.addr=some ⟨b,o,none⟩→base≤b
theorem RwNew.zero(base:Nat):RwNew base Rw.zero:=fun _ _ e=>by cases e
theorem RwNew.mono{base base':Nat}{r:Rw} (h:RwNew base r) (hb:base'≤base):RwNew base' r:=fun b o e=>Nat.le_trans hb (h b o e)
theorem row_newer{base base':Nat}{wr:World}{A:Option Addr}{cp:Nat}{L:List Bytes} (h:LRow base wr (.slice A L.length cp) L) (hb:base'≤base):RwNew base' ⟨A,cp,L⟩:=fun b o e=>by
 obtain rfl:A=_:=e
 exact Nat.le_trans hb (h.lt b rfl).1
theorem RwIn.put{base g:Nat}{W:World}{r:Rw}{t:TypeId}{cs:Array Value} (h:RwIn W r) (hn:RwNew base r) (hg:g<base):RwIn (setRow W g t cs) r:=⟨fun h0=>by
 obtain⟨b,o,ha,hb,hc⟩:=h.1 h0
 have hbb:=hn b o ha
 exact⟨b,o,ha,by rw[size_row];exact hb,fun i x hx=>(World.cell?_of_block (World.putObj_heap_other (by show b≠g;omega))).trans (hc i x hx)⟩,h.2⟩
theorem CmIn.put{base g:Nat}{W:World}{c:Cm}{t:TypeId}{cs:Array Value} (h:CmIn W c) (hn:RwNew base c.ks) (hg:g<base):CmIn (setRow W g t cs) c:=⟨h.1.put hn hg,h.2⟩
theorem LtIn.put{base g:Nat}{W:World}{l:Lt}{t:TypeId}{cs:Array Value} (h:LtIn W l) (hn:RwNew base l.br) (hg:g<base):LtIn (setRow W g t cs) l:=⟨h.1,h.2.1,h.2.2.put hn hg⟩
theorem keysS_all(l:List Nat):∀ x∈keysS l,x.length≤1048576:=fun x hx=>by
 unfold keysS at hx
 obtain⟨n,_,rfl⟩:=List.mem_map.1 hx
 exact keyB_len _
theorem row_put9{base g:Nat}{W:World}{v:Value}{L:List Bytes}{t:TypeId}{cs:Array Value} (h:LRow base W v L) (hg:g<base):LRow base (setRow W g t cs) v L :=
 h.keep (grownBy_putObj' W g _) fun j hj e=>by have:=(h.lt j hj).1;injection e with e;omega
def KeepM(n b:Nat) (W W':World):Prop:=W.heap.size≤W'.heap.size∧(∀ j,j<n→W'.heap[j]?=W.heap[j]?)∧W'.heap[b]?=W.heap[b]?
theorem KeepM.refl(n b:Nat) (W:World):KeepM n b W W:=⟨Nat.le_refl _,fun _ _=>rfl,rfl⟩
theorem KeepM.trans{n b:Nat}{x y z:World} (h:KeepM n b x y) (k:KeepM n b y z):KeepM n b x z:=⟨Nat.le_trans h.1 k.1,fun j hj=>(k.2.1 j hj).trans (h.2.1 j hj),k.2.2.trans h.2.2⟩
theorem KeepM.put{n b:Nat}{W:World}{l:Nat} (o:Obj) (hl:n≤l) (hb:b≠l):KeepM n b W (W.putObj l o):=⟨by simp,fun j hj=>World.putObj_heap_other (by omega),World.putObj_heap_other hb⟩
theorem KeepM.below{m n b:Nat}{W W':World} (h:Below m W W') (hn:n≤m) (hb:b<m):KeepM n b W W':=⟨h.size,fun j hj=>h.block j (by omega),h.block b hb⟩
theorem KeepN.nums{w W:World}{A:Option Addr}{l:List Nat} (k:Nums w A l) (h1:KeepN w.heap.size w W):Nums W A l:=fun h0=>by
 obtain⟨q,o,ha,hb,hc⟩:=k h0
 exact⟨q,o,ha,Nat.lt_of_lt_of_le hb h1.1,fun i n hn2=>(World.cell?_of_block (w:=w) (h1.2 q hb)).trans (hc i n hn2)⟩
def KyAb(_:Unit) (A:World) (_:Unit) (B:World):Prop:=Below A.heap.size A B
noncomputable abbrev kyV (n:Nat):Array Value := #[.string (bs (keyB n genE)),.bool (decide (IsSecret (n:Int)))]
theorem mkeys1_in(n:Nat) (hn:1≤n) (lp b:Nat) (A:Option Addr) (c:Nat) (l:List Nat) (w:World) (hl:NumsIn w A l) (J Jx:List Nat→Unit→World→Prop)
  (hJ:∀ s x A y B,J s x A→KyAb x A y B→J s y B) (hJx:∀ s x A y B,Jx s x A→KyAb x A y B→Jx s y B)
  (hY:∀ pre y x A,J pre x A→(pre.length<20∧y∈l)→YieldAt Fence.wide (n - 1) Tryz.prog lp (kyV y) A fun e B =>
   (e=.returned (.bool true)∧J (pre ++ [y]) x B∧KeepM w.heap.size b A B)∨(e=.returned (.bool false)∧Jx (pre ++ [y]) x B))
  (W:World) (hW:KeepN w.heap.size w W) (K0:Blk W b 24 #[.slice A l.length c]) (h0:J [] () W) :
  CallsIn Fence.wide n Tryz.prog 85 #[.func (.yield lp) #[] #[],.pointer (some ⟨b,0,none⟩)] W fun e B=>(∃ v,e=.returned v) ∧
   ((∃ xs x,xs=l∧J xs x B)∨(∃ pre x,True∧Jx pre x B)):=by
 have hwf:∀ f,Fence.wide.fn f:=fun _=>trivial
 have hl20:=hl.2.1
 have hnn:=Z hl.2.2
 have T:=hl.1
 have Tn:=Z T
 have hlb:=K0.lt
 have hwW:=hW.1
 have n1:∀ (n:Nat),n<18446744073709551616→∀ W,Calls Tryz.prog 86 #[.int .u64 n] W (Ret W (.tuple #[.string (bs (keyB n genE)),.int .i64 (keyE n)])):=fun n h W=>key_calls n (by omega) (by omega) W
 replace n1:=Z n1
 replace hY:=Z hY
 replace hJ:=Z hJ
 clear hl
 refine callsIn_of_wp Tryz.func85 rfl trivial ?_ rfl
 simp only[Tryz.ntmps85, List.size_toArray,List.length_cons,List.length_nil,Nat.reduceAdd,Nat.reduceSub,Array.replicate_succ,Array.replicate_zero,List.push_toArray,List.append_toArray,List.nil_append,List.cons_append]
 rcases Nat.eq_zero_or_pos l.length with hz|hz
 ·have hle:l=[]:=List.eq_nil_of_length_eq_zero hz
  subst hle
  have K1:=Z K0
  replace h0:=Z h0
  clear T K0 hz
  (obtain⟨k1,f1,l1,m1⟩:=rl_ K1)
  gi_wp2_with fail
  clear k1 f1 l1 m1 K1
  gi_loopw [4,5,6,9] (fun _ _ _ i wr=>i=.int .i64 0∧J [] () wr) (fun _ _ _ i _=>0)
  case atStart=>exact⟨rfl,h0.out⟩
  case round =>
   obtain⟨rfl,hj⟩:=hrel
   replace hj:=Z hj
   gi_wp2_with fail
   go_end0
   first|exact⟨⟨_,rfl⟩,.inl ⟨_,(),rfl,hj.out⟩⟩|exact⟨⟨_,rfl⟩,.inl ⟨(),hj.out⟩⟩|exact⟨⟨_,rfl⟩,.inl hj.out⟩
 ·obtain⟨b9,o9,rfl,_,_⟩:=T.at 0 hz
  have K1:=Z K0
  clear T K0 hz
  (obtain⟨k1,f1,l1,m1⟩:=rl_ K1)
  gi_wp2_with fail
  clear k1 f1 l1 m1 K1
  gi_loopw [4,5,6,9] (fun _ _ _ i wr=>∃ k:Nat,k≤l.length∧i=.int .i64 k∧KeepM w.heap.size b W wr∧J (l.take k) () wr) (fun _ _ _ i _=>(l.length - intOf i).toNat)
  case atStart=>exact⟨0,by omega,rfl,KeepM.refl _ _ _,h0⟩
  case round =>
   clear h0
   obtain⟨k,hk,rfl,hkp,hj⟩:=hrel
   by_cases hlt:k<l.length
   ·have hlm:k<l.length:=hlt
    have hl1:(k:Int)<(l.length:Int):=by omega
    obtain⟨b8,o8,hb8,hb2,hcell⟩:=(KeepN.nums Tn.out (hW.trans ⟨hkp.1,hkp.2.1⟩)).at k hlt
    injection hb8 with hb8
    injection hb8 with h8 h8b
    subst h8 h8b
    have hmem:l.getD k 0∈l:=by rw[List.getD,List.getElem?_eq_getElem hlt];exact List.getElem_mem hlt
    have hnk:=hnn.out (l.getD k 0) hmem
    replace hmem:=Z hmem
    have hst:=take_snoc l 0 k hlt
    have hpl:(l.take k).length=k:=by rw[List.length_take];omega
    generalize l.getD k 0=m at *
    have n2:=Z (n1.out m hnk)
    have hke:(keyE (m:Int) == 0)=decide (IsSecret (m:Int)):=by unfold keyE;split <;> simp_all
    have hws:w.heap.size≤wr.heap.size:=Nat.le_trans hwW hkp.1
    have hlb2:b<wr.heap.size:=Nat.lt_of_lt_of_le hlb hkp.1
    replace hkp:=Z hkp
    replace hst:=Z hst
    gi_wp2_with fail
    refine(callsIn_wide.2 (n2.out _)).mono ?_
    rintro e w1 ⟨rfl,h1⟩
    have hj1:=hJ.out _ _ _ () w1 hj h1
    have hkp1:=Z (hkp.out.trans (KeepM.below h1 hws hlb2))
    obtain⟨fn,tmps,assign,body,hy,hR⟩:=hY.out _ m () w1 hj1 ⟨by rw[hpl];omega,hmem.out⟩
    clear hj hj1 h1 hkp hws hlb2 hb2 hcell
    gi_wp2_with fail
    refine hR.mono ?_
    rintro e W3 (⟨rfl,hJ3,hk3⟩|⟨rfl,hJx3⟩)
    ·rw[←hst.out]at hJ3
     replace hJ3:=Z hJ3
     have hk4:=Z (hkp1.out.trans hk3)
     clear hk3 hkp1 hst hy hR
     gi_wp2_with fail
     go_roundw
     case rel=>exact⟨k+1,by omega,by go_num,hk4.out,hJ3.out⟩
     case measure=>simp[intOf];omega
    ·replace hJx3:=Z hJx3
     clear hkp1 hst hy hR
     gi_wp2_with fail
     refine bodyPost_ret (results_none rfl _ _ _) rfl ?_
     exact⟨⟨_,rfl⟩,.inr ⟨_,(),trivial,hJx3.out⟩⟩
   ·obtain rfl:k=l.length:=by omega
    rw[List.take_length]at hj
    replace hj:=Z hj
    clear hkp
    gi_wp2_with fail
    go_end0
    first|exact⟨⟨_,rfl⟩,.inl ⟨_,(),rfl,hj.out⟩⟩|exact⟨⟨_,rfl⟩,.inl ⟨(),hj.out⟩⟩|exact⟨⟨_,rfl⟩,.inl hj.out⟩
theorem mkeys_stops(n:Nat) (hn:1≤n) (b:Nat) (A:Option Addr) (c:Nat) (l:List Nat) (w:World) (hl:NumsIn w A l) (W0:World) (hW:KeepN w.heap.size w W0) (K0:Blk W0 b 24 #[.slice A l.length c]) :
  SeqSt Fence.wide n Tryz.prog 85 #[.pointer (some ⟨b,0,none⟩)] (fun y:Nat=>kyV y) (fun pre y _ _=>pre.length<20∧y∈l) (fun(_:Unit) A B=>KeepM w.heap.size b A B) KyAb () (fun xs=>xs=l) (fun _=>True) W0 :=
 fun lp J Jx W hBW hJ hJx hY h0=>mkeys1_in n hn lp b A c l w hl J Jx hJ hJx hY W (hW.trans (KeepN.below hBW hW.1)) (K0.below hBW) h0
theorem mkeys_in(n:Nat) (A:Option Addr) (m c:Nat) (w:World) :
  CallsIn Fence.wide n Tryz.prog 50 #[.slice A m c] w fun e w'=>e=.returned (.func (.func 85) #[] #[.pointer (some ⟨w.heap.size,0,none⟩)])∧w'=w.alloc (.cells #[.slice A m c] 24):=by
 refine callsIn_of_wp Tryz.func50 rfl trivial ?_ rfl
 simp only[Tryz.ntmps50, List.size_toArray,List.length_cons,List.length_nil,Nat.reduceAdd,Nat.reduceSub,Array.replicate_succ,Array.replicate_zero,List.push_toArray,List.append_toArray,List.nil_append,List.cons_append]
 gi_wp2
 go_ret
 exact⟨rfl,rfl⟩
def McI(w:World) (g16:Bool) (pre:List Nat) (W:World):Prop :=
 ∃ A cp,Blk W (w.heap.size+1) 35 (cmA (cmK A cp (keysS pre)))∧LRow (w.heap.size+4) W (.slice A (keysS pre).length cp) (keysS pre)∧Blk W w.heap.size 35 (cmA Cm.zero)∧Blk W (w.heap.size+2) 4 #[.bool g16]∧secretsB pre=true∧Below w.heap.size w W∧w.heap.size+4≤W.heap.size
def McX(w:World) (l:List Nat) (W:World):Prop:=Blk W w.heap.size 35 (cmA Cm.zero)∧Blk W (w.heap.size+2) 4 #[.bool false]∧goodS l=false∧Below w.heap.size w W∧w.heap.size+4≤W.heap.size
theorem McI.own{w A B:World}{g16:Bool}{pre:List Nat}{r:Option Nat}{N:Nat} (h:McI w g16 pre A) (hg:A.grownBy B r) (hr:∀ j,r=some j→N≤j∧∃ o:Obj,A.heap[j]?=some o∧o.isCells=false) (hN:w.heap.size+4≤N):McI w g16 pre B:=by
 obtain⟨a,cp,h1,h2,h3,h4,h5,h6,h7⟩:=h
 have hn:∀ g,g<w.heap.size+4→some g≠r:=fun g hg e=>by have:=(hr _ e.symm).1;omega
 refine⟨a,cp,h1.grown hg (hn _ (by omega)),h2.keep hg fun j hj e=>?_,h3.grown hg (hn _ (by omega)),h4.grown hg (hn _ (by omega)),h5,h6.grown hg h6.size fun j e=>by have:=(hr j e).1;omega,Nat.le_trans h7 hg.size⟩
 obtain⟨_,o,ho,hc⟩:=hr j e
 obtain⟨_,cs,t,fz,hcs⟩:=LRow.cells h2 j hj
 rw[hcs]at ho
 injection ho with ho
 subst ho
 cases hc
theorem McX.own{w A B:World}{l:List Nat}{r:Option Nat}{N:Nat} (h:McX w l A) (hg:A.grownBy B r) (hr:∀ j,r=some j→N≤j∧∃ o:Obj,A.heap[j]?=some o∧o.isCells=false) (hN:w.heap.size+4≤N):McX w l B:=by
 obtain⟨h3,h4,h5,h6,h7⟩:=h
 have hn:∀ g,g<w.heap.size+4→some g≠r:=fun g hg e=>by have:=(hr _ e.symm).1;omega
 exact⟨h3.grown hg (hn _ (by omega)),h4.grown hg (hn _ (by omega)),h5,h6.grown hg h6.size fun j e=>by have:=(hr j e).1;omega,Nat.le_trans h7 hg.size⟩
theorem McI.step{w A B:World}{g16:Bool}{pre:List Nat} (h:McI w g16 pre A) (hB:Below A.heap.size A B):McI w g16 pre B:=by
 obtain⟨a,cp,h1,h2,h3,h4,h5,h6,h7⟩:=h
 exact⟨a,cp,h1.below hB,h2.keep (grow_none hB) (fun j hj e=>by cases e),h3.below hB,h4.below hB,h5,Below.on hB h6,Nat.le_trans h7 hB.size⟩
theorem McX.step{w A B:World}{l:List Nat} (h:McX w l A) (hB:Below A.heap.size A B):McX w l B:=by
 obtain⟨h3,h4,h5,h6,h7⟩:=h
 exact⟨h3.below hB,h4.below hB,h5,Below.on hB h6,Nat.le_trans h7 hB.size⟩
theorem not_good'{l:List Nat}{n:Nat} (h:n∈l) (hs:¬ IsSecret (n:Int)):goodS l=false:=by
 unfold goodS secretsB
 rw[Bool.and_eq_false_iff]
 refine .inl ?_
 rw[List.all_eq_false]
 exact⟨_,h,by simpa using hs⟩
theorem keysS_one(pre:List Nat) (y:Nat):keysS (pre ++ [y])=keysS pre ++ [keyB (y:Int) genE]:=by
 unfold keysS
 rw[List.map_append]
 rfl
theorem mcomm_calls(A:Option Addr) (c:Nat) (l:List Nat) (w:World) (hl:NumsIn w A l):Calls Tryz.prog 18 #[.slice A l.length c] w
  (fun e w'=>∃ cm,e=.returned (.tuple #[cmV cm,.int .i64 (commE l)])∧CmOf w' l cm∧RwNew w.heap.size cm.ks∧Below w.heap.size w w'):=by
 have hz:goodS l=false→commE l=2:=fun h=>by unfold commE;rw[h];rfl
 have hgd:goodS l=true→commE l=0:=fun h=>by unfold commE;rw[h];rfl
 have e16:((l.length:Int) == 16)=decide (l.length=16):=by rw[Bool.eq_iff_iff];simp;omega
 obtain⟨g16,hg16⟩:∃ b,decide (l.length=16)=b:=⟨_,rfl⟩
 rw[hg16]at e16
 replace hg16:=Z hg16
 refine(callsIn_wide (n:=9)).1 ?_
 have hwf:∀ f,Fence.wide.fn f:=fun _=>trivial
 refine callsIn_of_wp_marks Tryz.func18 rfl trivial ?_ rfl
 simp only[Tryz.ntmps18, List.size_toArray,List.length_cons,List.length_nil,Nat.reduceAdd,Nat.reduceSub,Array.replicate_succ,Array.replicate_zero,List.push_toArray,List.append_toArray,List.nil_append,List.cons_append]
 gi_wp2
 refine wpIn_scope ?_
 gi_wp2_with fail
 refine wpIn_label ?_
 gi_wp2_with(gi_at_call 50; refine(mkeys_in _ _ _ _ _).mono ?_;rintro e w' ⟨rfl,rfl⟩)
 obtain⟨W0,hW0⟩:∃ W0,(((w.alloc (.cells (cmA Cm.zero) 35)).alloc (.cells (cmA Cm.zero) 35)).alloc (.cells #[.bool g16] 4)).alloc (.cells #[.slice A l.length c] 24)=W0:=⟨_,rfl⟩
 have hs0:W0.heap.size=w.heap.size+4:=by rw[←hW0];simp
 have P0:Blk W0 w.heap.size 35 (cmA Cm.zero):=by rw[←hW0];exact((Blk.new0 _ _ _).alloc _).alloc _ |>.alloc _
 have P1:Blk W0 (w.heap.size+1) 35 (cmA Cm.zero):=by rw[←hW0];exact((Blk.new1 _ _ _ _).alloc _).alloc _
 have P2:Blk W0 (w.heap.size+2) 4 #[.bool g16]:=by rw[←hW0];exact(Blk.new2 _ _ _ _ _).alloc _
 have P3:Blk W0 (w.heap.size+3) 24 #[.slice A l.length c]:=by rw[←hW0];exact Blk.new3 _ _ _ _ _ _
 have hB0:Below w.heap.size w W0:=by rw[←hW0];exact bel
 rw[hW0]
 clear hW0
 have hf:=enters_of Tryz.func85 U rfl
 have hI0:McI w g16 [] W0:=⟨none,0,P1,World.ownsRow_nil _ _ _ _,P0,P2,rfl,hB0,by omega⟩
 replace hz:=Z hz
 replace hgd:=Z hgd
 clear P0 P1 P2 e16
 refine wpIn_rangeFunc_st rfl (by decide) (gf := 85) (lb := #[.pointer (some ⟨w.heap.size+3,0,none⟩)]) rfl trivial hf
  (mkeys_stops 8 (by decide) (w.heap.size+3) A c l w hl W0 (KeepN.below hB0 (Nat.le_refl _)) P3) (fun _=>rfl) (fun _ _ _ _ h k=>h.trans k) (fun x W l o o' hl h1 h2 h3=>KeepM.put o' (by omega) (by omega))
  (fun x A y B k o hab hkk hA ho _=>(hab.block k (Array.getElem?_eq_some_iff.1 hA).1).trans hA)
  (fun pre y x W l o o' h _ h1 h2=>h)
  (fun pre x W=>McI w g16 pre W) (fun c pre x W=>c=.exit 0∧McX w l W)
  (fun _ s A B row h hg hr=>McI.own h hg hr (by omega)) (fun _ _ s A B row h hg hr=>⟨h.1,McX.own h.2 hg hr (by omega)⟩)
  (fun s x A y B h hab=>h.step hab) (fun _ s x A y B h hab=>⟨h.1,h.2.step hab⟩) hI0
  (fun y=>{ tmps := #[.slice A l.length c,undef,.pointer (some ⟨w.heap.size,0,none⟩),.int .i64 0,.pointer (some ⟨w.heap.size+1,0,none⟩),.pointer (some ⟨w.heap.size+1+1,0,none⟩),.string (bs (keyB y genE)),.bool (decide (IsSecret (y:Int))),.slice A l.length c,
   .int .i64 l.length,.bool g16,.slice A l.length c,.func (.func 85) #[] #[.pointer (some ⟨w.heap.size+1+1+1,0,none⟩)],.string (bs (keyB y genE)),.bool (decide (IsSecret (y:Int))),
   undef,undef,undef,undef,undef,undef,undef,undef,undef,undef,undef,undef,undef,undef,undef,undef,undef,undef,undef],defers:=[] })
  ?assign ?body ?done ?stop
 case assign =>
  intro l y W K hK
  gi_wp2
  exact hK
 case stop =>
  rintro D c2 pre x W hD _ ⟨rfl,h3,h4,h5,h6,h7⟩ hK
  have hc2:=Z (hz.out h5)
  have hg0:=Z h5
  have hKD:=Z hK
  have HB:=h6
  obtain⟨g,hg⟩:∃ g,w.heap.size=g:=⟨_,rfl⟩
  have hgl:w.heap.size≤g:=by omega
  have hDg:g+4≤D:=by omega
  rw[hg]at h3 h4 ⊢
  have K0:=Z h3
  have K2:=Z h4
  clear h3 h4 h5 h6 hK hs0 hI0 P3 hg hD
  (obtain⟨k0,f0,l0,m0⟩:=rl_ K0;obtain⟨k2,f2,l2,m2⟩:=rl_ K2)
  refine wpIn_wide.2 ?_
  go_wp2_with fail
  refine wpIn_wide.2 ?_
  go_wp2_with(with_reducible refine wsh (stCm _ K0.out Cm.zero) rfl rfl ?_)
  generalize hWN:setRow _ _ _ _=WN
  have N0:Blk WN g 35 (cmA Cm.zero):=by rw[←hWN];exact Blk.row K0.out.lt
  have HBn:Below w.heap.size w WN:=by rw[←hWN];exact Below.row HB (by omega) HB.size
  have hKD3:WN.heap[D]?=some (.deferred (some [])):=by rw[←hWN];exact(World.putObj_heap_other (by omega)).trans hKD.out
  unfold Halted
  clear hWN K0 k0 f0 l0 m0 K2 k2 f2 l2 m2 HB
  go_wp2_with fail
  rw[Exit.noGoto_ret]
  have K9:Blk (WN.putObj D (.deferred none)) g 35 (cmA Cm.zero):=(World.putObj_heap_other (by omega)).trans N0
  refine⟨by simp,.inl ⟨_,_,rfl,run_takeDeferred hKD3,?_⟩⟩
  exact⟨_,results_cell2 rfl rfl (ldCm _ K9),Cm.zero,by rw[hc2.out];rfl,⟨CmIn.zero _,fun h=>(by rw[hg0.out]at h;cases h),fun _=>rfl⟩,RwNew.zero _,below_shut HBn (Nat.le_refl _) (by omega)⟩
 case done =>
  rintro D xs x W hD hxs ⟨A2,c2,h1,h2,h3,h4,h5,h6,h7⟩ hK
  rw[hxs]at h1 h2 h5
  have hKD:=Z hK
  have HB:=h6
  obtain⟨g,hg⟩:∃ g,w.heap.size=g:=⟨_,rfl⟩
  have hgl:w.heap.size≤g:=by omega
  have hDg:g+4≤D:=by omega
  rw[hg]at h1 h2 h3 h4 h7 ⊢
  have K0:=Z h3
  have K1:=Z h1
  have K2:=Z h4
  have R2:=Z h2
  cases g16 with
  | false =>
   have hg0:goodS l=false:=by unfold goodS;rw[hg16.out,Bool.and_false]
   have hc2:=Z (hz.out hg0)
   replace hg0:=Z hg0
   clear h1 h2 h3 h4 h5 h6 hK hs0 hI0 P3 hg hD hxs R2 hg16 K1
   (obtain⟨k0,f0,l0,m0⟩:=rl_ K0;obtain⟨k2,f2,l2,m2⟩:=rl_ K2)
   simp only[Exit.inBlock,Exit.then]
   refine ‹∀ (a:Act) (w:World),Code.wpIn _ _ _ _ _ a w→_› _ _ ?_
   refine wpIn_wide.2 ?_
   go_wp2_with(with_reducible refine wsh (stCm _ K0.out Cm.zero) rfl rfl ?_)
   generalize hWN:setRow _ _ _ _=WN
   have N0:Blk WN g 35 (cmA Cm.zero):=by rw[←hWN];exact Blk.row K0.out.lt
   have HBn:Below w.heap.size w WN:=by rw[←hWN];exact Below.row HB (by omega) HB.size
   have hKD3:WN.heap[D]?=some (.deferred (some [])):=by rw[←hWN];exact(World.putObj_heap_other (by omega)).trans hKD.out
   unfold Halted
   clear hWN K0 k0 f0 l0 m0 K2 k2 f2 l2 m2 HB
   go_wp2_with fail
   rw[Exit.noGoto_ret]
   have K9:Blk (WN.putObj D (.deferred none)) g 35 (cmA Cm.zero):=(World.putObj_heap_other (by omega)).trans N0
   refine⟨by simp,.inl ⟨_,_,rfl,run_takeDeferred hKD3,?_⟩⟩
   exact⟨_,results_cell2 rfl rfl (ldCm _ K9),Cm.zero,by rw[hc2.out];rfl,⟨CmIn.zero _,fun h=>(by rw[hg0.out]at h;cases h),fun _=>rfl⟩,RwNew.zero _,below_shut HBn (Nat.le_refl _) (by omega)⟩
  | true =>
   have hg1:goodS l=true:=by unfold goodS;rw[h5,hg16.out];rfl
   have hc0:=Z (hgd.out hg1)
   have hlen:=keysS_len l
   have hl20:=hl.2.1
   have hall:=Z (keysS_all l)
   obtain⟨L,hL⟩:∃ L,keysS l=L:=⟨_,rfl⟩
   rw[hL]at K1 R2 hlen hall
   have hLl:L.length≤1048576:=by omega
   obtain⟨A5,c5,e5,T5⟩:=R2.out.txts
   injection e5 with e5a e5b e5c
   subst e5a e5c
   have n2:∀ W9,Below W.heap.size W W9→Calls Tryz.prog 51 #[.slice A2 L.length c2] W9 (Ret W9 (.tuple #[.string (bs (sumB L)),.int .i64 (sumN L)])):=fun W9 hB=>by
    have:=sSum_calls A2 c2 L hLl W9 (Txts.below T5 hB)
    rw[sumV_eq]at this
    exact this
   replace n2:=Z n2
   replace hL:=Z hL
   replace hg1:=Z hg1
   clear T5 hlen h1 h2 h3 h4 h5 h6 hK hs0 hI0 P3 hg hD hxs hg16
   (obtain⟨k0,f0,l0,m0⟩:=rl_ K0;obtain⟨k1,f1,l1,m1⟩:=rl_ K1;obtain⟨k2,f2,l2,m2⟩:=rl_ K2)
   simp only[Exit.inBlock,Exit.then]
   refine ‹∀ (a:Act) (w:World),Code.wpIn _ _ _ _ _ a w→_› _ _ ?_
   refine wpIn_wide.2 ?_
   go_wp2_with fail
   refine(n2.out _ (Below.refl _ _)).mono ?_
   rintro e w3 ⟨rfl,hN9⟩
   have N0:=Z (K0.out.below hN9)
   have N1:=Z (K1.out.below hN9)
   have HBn:Below w.heap.size w w3:=Below.on hN9 HB
   have R3:=Z (R2.out.keep (grow_none hN9) (fun j hj e=>by cases e))
   have hKD2:=Z (show w3.heap[D]?=some (.deferred (some [])) from(hN9.block D (Array.getElem?_eq_some_iff.1 hKD.out).1).trans hKD.out)
   clear HB k0 f0 l0 m0 k1 f1 l1 m1 K0 K1 R2 hN9 K2 k2 f2 l2 m2 hKD
   have K0:=N0;have K1:=N1;have HB:=HBn
   clear N0 N1 HBn
   (obtain⟨k0,f0,l0,m0⟩:=rl_ K0;obtain⟨k1,f1,l1,m1⟩:=rl_ K1)
   go_wp2_with(first |  (with_reducible refine wsh (stcCm_sum _ K1.out (sumB L)) rfl rfl ?_))
   generalize hWN:setRow _ _ _ _=WN
   have N1:=Z (show Blk WN _ _ _ by rw[←hWN];exact Blk.row K1.out.lt)
   have N0:=Z (show Blk WN _ _ _ by rw[←hWN];exact Blk.rowOver (by omega) K0.out)
   have RN:=Z (show LRow (g+4) WN _ _ by rw[←hWN];exact row_put9 R3.out (by omega))
   have HBn:Below w.heap.size w WN:=(by rw[←hWN];exact Below.row HB (by omega) HB.size)
   have hKDn:=Z (show WN.heap[D]?=some (.deferred (some [])) by rw[←hWN];exact(World.putObj_heap_other (by omega)).trans hKD2.out)
   clear hWN HB R3 hKD2 K0 k0 f0 l0 m0 K1 k1 f1 l1 m1
   have K0:=N0;have K1:=N1;have HB:=HBn;have R3:=RN;have hKD2:=hKDn
   clear N0 N1 HBn RN hKDn
   (obtain⟨k0,f0,l0,m0⟩:=rl_ K0;obtain⟨k1,f1,l1,m1⟩:=rl_ K1)
   unfold Halted
   go_wp2_with(first|(with_reducible refine wpList_load_run (o:=⟨_,  .load 35 _,  _,  _,  _,  none⟩) (ldCm _ K1.out) rfl _ rfl rfl ?_)|(with_reducible refine wsh (stCm _ K0.out ⟨⟨A2,  c2,  L⟩,  sumB L⟩) rfl rfl ?_))
   generalize hWN:setRow _ _ _ _=WN
   have N0:=Z (show Blk WN _ _ _ by rw[←hWN];exact Blk.row K0.out.lt)
   have N1:=Z (show Blk WN _ _ _ by rw[←hWN];exact Blk.rowOver (by omega) K1.out)
   have RN:=Z (show LRow (g+4) WN _ _ by rw[←hWN];exact row_put9 R3.out (by omega))
   have HBn:Below w.heap.size w WN:=(by rw[←hWN];exact Below.row HB (by omega) HB.size)
   have hKDn:=Z (show WN.heap[D]?=some (.deferred (some [])) by rw[←hWN];exact(World.putObj_heap_other (by omega)).trans hKD2.out)
   clear hWN HB R3 hKD2 K0 k0 f0 l0 m0 K1 k1 f1 l1 m1
   have K0:=N0;have K1:=N1;have HB:=HBn;have R3:=RN;have hKD2:=hKDn
   clear N0 N1 HBn RN hKDn
   (obtain⟨k0,f0,l0,m0⟩:=rl_ K0;obtain⟨k1,f1,l1,m1⟩:=rl_ K1)
   unfold Halted
   go_wp2_with fail
   rw[Exit.noGoto_ret]
   have K9:=(World.putObj_heap_other (w:=WN) (o:=.deferred none) (show g≠D by omega)).trans K0.out
   have R9:=R3.out.keep (grownBy_putObj' WN D (.deferred none)) fun j hj e=>by
    injection e with e
    subst e
    obtain⟨_,cs,t,fz,hcs⟩:=LRow.cells R3.out D hj
    rw[hKD2.out]at hcs
    cases hcs
   refine⟨by simp,.inl ⟨_,_,rfl,run_takeDeferred hKD2.out,?_⟩⟩
   exact⟨_,results_cell2 rfl rfl (ldCm _ K9),⟨⟨A2,c2,L⟩,sumB L⟩,by rw[hc0.out];rfl,⟨⟨row_in R9 hLl hall.out,sumB_len L⟩,fun _=>⟨hL.out.symm,by rw[hL.out]⟩,fun h=>(by rw[hg1.out]at h;cases h)⟩,row_newer R9 (by omega),below_shut HB (Nat.le_refl _) (by omega)⟩
 case body =>
  rintro lx pre y x W ⟨A2,c2,h1,h2,h3,h4,h5,h6,h7⟩ ⟨hat,hmem⟩
  have HB:=h6
  obtain⟨g,hg⟩:∃ g,w.heap.size=g:=⟨_,rfl⟩
  have hgl:w.heap.size≤g:=by omega
  rw[hg]at h1 h2 h3 h4 h7 ⊢
  have K0:=Z h3
  have K1:=Z h1
  have K2:=Z h4
  have R2:=Z h2
  have hone:=Z (keysS_one pre y)
  by_cases hs:IsSecret (y:Int)
  ·have hd:decide (IsSecret (y:Int))=true:=decide_eq_true hs
   have hsec:=Z (show secretsB (pre ++ [y])=true by unfold secretsB at h5 ⊢;rw[List.all_append,h5];simpa using hs)
   have hll:=keysS_len pre
   obtain⟨q,hq⟩:∃ q,keysS pre=q:=⟨_,rfl⟩
   obtain⟨k,hk⟩:∃ k,pre.length=k:=⟨_,rfl⟩
   rw[hq]at K1 R2 hll hone
   rw[hk]at hll hat
   rw[hll]at R2
   replace hq:=Z hq
   replace hk:=Z hk
   clear h1 h2 h3 h4 h5 h6 hs0 hI0 P3 hs
   have hlr:∀ j,(Value.slice A2 k c2).ownBlock=some j→g+4≤j∧j<W.heap.size:=fun j hj=>R2.out.lt j hj
   (obtain⟨k0,f0,l0,m0⟩:=rl_ K0;obtain⟨k1,f1,l1,m1⟩:=rl_ K1;obtain⟨k2,f2,l2,m2⟩:=rl_ K2)
   gi_wp2_with(gi_at_builtin;refine wpListIn_append_txt rfl _ _ rfl (g+4) (.slice A2 k c2) q rfl (R2.out.on _) (keyB (y:Int) genE) ⟨W.heap.size,0,none⟩ rfl (new_cell _ _ _) (by omega) (by simp;omega) ?_)
   intro v4 w4 OWN4 hg4 hx4
   obtain⟨A4,c4,hv4,_⟩:=OWN4.txts
   have hv5:v4=.slice A4 (k+1) c4:=by rw[hv4];simp[hll]
   clear hv4
   subst hv5
   have hgW:W.grownBy w4 (Value.slice A2 k c2).ownBlock:=⟨hg4.os,hg4.tape,hg4.output,Nat.le_trans (by simp) hg4.size,fun j hj hr=>(hg4.block j (by simp;omega) hr).trans (Below.heap_alloc _ _ j hj)⟩
   have hno:∀ j,j<g+4→some j≠(Value.slice A2 k c2).ownBlock:=fun j hj e=>by have:=(hlr j e.symm).1;omega
   have N0:=Z (K0.out.grown hgW (hno _ (by omega)))
   have N1:=Z (K1.out.grown hgW (hno _ (by omega)))
   have N2:=Z (K2.out.grown hgW (hno _ (by omega)))
   have HBn:Below w.heap.size w w4:=HB.grown hgW HB.size fun j e=>by have:=(hlr j e).1;omega
   have hz4:g+4≤w4.heap.size:=Nat.le_trans h7 hgW.size
   have hlt4:∀ j,(Value.slice A4 (k+1) c4).ownBlock=some j→g+4≤j:=fun j hj=>(OWN4.lt j hj).1
   have hKO:KeepsOthers W w4:=KeepsOthers.of_grownBy hgW fun j o e ho=>by
    obtain⟨_,cs,t,fz,hcs⟩:=LRow.cells R2.out j e
    rw[hcs]at ho
    injection ho with ho
    subst ho
    rfl
   have hKp:KeepM g (g+3) W w4:=⟨hgW.size,fun j hj=>hgW.block j (by omega) (hno j (by omega)),hgW.block _ (by omega) (hno _ (by omega))⟩
   have hcs:(cmA (cmK A2 c2 q)).setIfInBounds 0 (.slice A4 (k+1) c4)=cmA (cmK A4 c4 (q ++ [keyB y genE])):=by
    rw[show k+1=(q ++ [keyB (y:Int) genE]).length by simp[hll]]
    rfl
   replace OWN4:=Z OWN4
   replace hcs:=Z hcs
   replace hKO:=Z hKO
   replace hKp:=Z hKp
   clear hg4 hgW hx4 hlr hno k0 f0 l0 m0 k1 f1 l1 m1 k2 f2 l2 m2 K0 K1 K2 HB R2
   have K0:=N0;have K1:=N1;have K2:=N2;have HB:=HBn
   clear N0 N1 N2 HBn
   (obtain⟨k0,f0,l0,m0⟩:=rl_ K0;obtain⟨k1,f1,l1,m1⟩:=rl_ K1;obtain⟨k2,f2,l2,m2⟩:=rl_ K2)
   gi_wp2_with fail
   refine⟨hKO.out.trans (KeepsOthers.setCell _ _ _),?_,A4,c4,?_,?_,?_,?_,hsec.out,HB.setCell (by simp;omega) _,?_⟩
   ·exact hKp.out.trans ⟨by simp,fun j hj=>Below.heap_setCell _ _ _ j (by simp;omega),Below.heap_setCell _ _ _ _ (by first|(simp;done)|(simp;omega))⟩
   ·rw[hg,hone.out];exact Blk.to (Blk.set_ K1.out 0 _) hcs.out
   ·rw[hg,hone.out,show(q ++ [keyB (y:Int) genE]).length=k+1 by simp[hll]]
    exact OWN4.out.keep (grown_set (World.grownBy.refl _ _)) (fun j hj e=>by have:=hlt4 j hj;injection e with e;omega)
   ·rw[hg];exact K0.out.far (by first|(simp;done)|(simp;omega)) _
   ·rw[hg];exact K2.out.far (by first|(simp;done)|(simp;omega)) _
   ·rw[hg];simp;omega
  ·have hd:decide (IsSecret (y:Int))=false:=decide_eq_false hs
   have hng:=Z (not_good' hmem hs)
   clear h1 h2 h3 h4 h5 h6 hs0 hI0 P3 R2 hs K1
   (obtain⟨k0,f0,l0,m0⟩:=rl_ K0;obtain⟨k2,f2,l2,m2⟩:=rl_ K2)
   gi_wp2_with fail
   refine⟨KeepsOthers.setCell _ _ _,rfl,?_⟩
   exact⟨by rw[hg];exact K0.out.far (by first|(simp;done)|(simp;omega)) _,by rw[hg];exact Blk.to (Blk.set_ K2.out 0 _) rfl,hng.out,HB.setCell (by simp;omega) _,by rw[hg];simp;omega⟩
theorem mnought_calls(w:World):Calls Tryz.prog 19 #[] w (Ret w (.string (bs zero32))):=by
 go_enter Tryz.func19, Tryz.ntmps19
 go_wp2_with fail
 refine(repeat0 32 (by omega) _).mono ?_
 rintro e w1 ⟨rfl,h1⟩
 go_wp2_with fail
 go_ret
 exact⟨rfl,h1⟩
theorem mtree_calls(A:Option Addr) (c:Nat) (L:List Bytes) (d i:Nat) (hR:RightP L d) (hi:i<2 ^ d) (w:World) (hk:HasK w) (hs:Txts w A L) :
  Calls Tryz.prog 23 #[.int .i64 d,.int .i64 i,.slice A L.length c] w (fun e w'=>∃ v,e=.returned (.tuple #[.string (bs (rootP L d)),v])∧LRow w.heap.size w' v (branchP L i d)∧Below w.heap.size w w'):=by
 have n1:=root_yes A c L d hR w hk hs
 have n2:=fun W (hB:Below w.heap.size w W)=>branch_yes A c L d i hR hi W (hk.on hB) (Txts.below hs hB)
 generalize rootP L d=r at *
 generalize branchP L i d=br at *
 replace n1:=Z n1
 replace n2:=Z n2
 clear hR hi hk hs
 go_enter Tryz.func23, Tryz.ntmps23
 go_wp2_with fail
 refine n1.out.mono ?_
 rintro e w1 ⟨rfl,h1⟩
 go_wp2_with fail
 refine(n2.out _ h1).mono ?_
 rintro e w2 ⟨v,rfl,hR,h2⟩
 obtain⟨A5,c5,rfl,_⟩:=hR.txts
 have hR2:=hR.mono h1.size
 replace hR2:=Z hR2
 clear hR
 go_wp2_with fail
 go_ret2
 exact⟨_,rfl,hR2.out,Below.on h2 h1⟩
def lightOk(a r st:Bytes):Bool:=decide (a.length=32) && (decide (r.length=32) && decide (st.length=32))
def lightE(a r st:Bytes):Int:=if lightOk a r st then 0 else 2
def exS(slot:Nat) (a r:Bytes):Ex:=⟨a,r,slot⟩
def leavesS(slot:Nat) (a r:Bytes):List Bytes:=[numP slot,zero32,exRoot (exS slot a r)]
def hdS(slot:Nat) (a r st:Bytes):Hd:=⟨slot,slot % 16,numP slot,st,rootP (leavesS slot a r) 2⟩
def LtOf(w:World) (slot:Nat) (a r st:Bytes) (lt:Lt):Prop :=
 LtIn w lt∧(lightOk a r st=true→lt.b=hdS slot a r st∧lt.x=exS slot a r∧lt.br.l=branchP (leavesS slot a r) 2 2)∧(lightOk a r st=false→lt=Lt.zero)
theorem build_ex(slot:Nat) (a r:Bytes) (w:World):(Instr.build 30 #[(0,.string (bs a)),(1,.string (bs r)),(2,.int .u64 slot)]).run Tryz.prog w=.ok (exV (exS slot a r)) w :=
 run_build w _ _ (exA (exS slot a r)) U
theorem build_lt(x:Ex) (w:World):(Instr.build 33 #[(1,exV x)]).run Tryz.prog w=.ok (ltV { Lt.zero with x:=x }) w :=
 run_build w _ _ (ltA { Lt.zero with x:=x }) U
theorem build_hd(slot p:Nat) (q st:Bytes) (w:World):(Instr.build 28 #[(0,.int .u64 slot),(1,.int .u64 p),(2,.string (bs q)),(3,.string (bs st))]).run Tryz.prog w=.ok (hdV ⟨slot,p,q,st,[]⟩) w :=
 run_build w _ _ (hdA ⟨slot,p,q,st,[]⟩) U
theorem node_len9(c:List Bytes) (hc:∀ x∈c,x.length=32) (k i:Nat):(nodeP c k i).length=32:=by
 unfold nodeP atP
 by_cases h:i<(levP c k).length
 ·rw[List.getD,List.getElem?_eq_getElem h]
  exact lev_all c hc k _ (List.getElem_mem h)
 ·rw[List.getD,List.getElem?_eq_none (by omega)]
  exact zeroH_len k
theorem branch_all9(c:List Bytes) (hc:∀ x∈c,x.length=32) (i d:Nat):∀ x∈branchP c i d,x.length=32:=by
 intro x hx
 unfold branchP at hx
 obtain⟨k,_,rfl⟩:=List.mem_map.1 hx
 exact node_len9 c hc k _
theorem leaves_right(slot:Nat) (a r:Bytes) (h1:a.length=32) (h2:r.length=32):RightP (leavesS slot a r) (2:Nat):=by
 have hex:(exRoot (exS slot a r)).length=32:=by
  have hok:RightP (exL (exS slot a r)) 2:=⟨by decide,by decide,by show 3≤256;decide,by show 3≤4;decide,fun x hx=>by
   simp only[exL,exS,List.mem_cons,List.not_mem_nil,or_false]at hx
   rcases hx with rfl|rfl|rfl
   ·exact h1
   ·exact h2
   ·exact numP_len _⟩
  unfold exRoot exOk
  rw[decide_eq_true hok,if_pos rfl]
  exact rootP_len hok.2.2.2.2
 refine⟨by decide,by decide,by show 3≤256;decide,by show 3≤4;decide,fun x hx=>?_⟩
 simp only[leavesS,List.mem_cons,List.not_mem_nil,or_false]at hx
 rcases hx with rfl|rfl|rfl
 ·exact numP_len _
 ·rfl
 ·exact hex
theorem mlight_calls(slot:Nat) (a r st:Bytes) (hn:slot<18446744073709551616) (w:World) (hk:HasK w):Calls Tryz.prog 21 #[.int .u64 slot,.string (bs a),.string (bs r),.string (bs st)] w
  (fun e w'=>∃ lt,e=.returned (.tuple #[ltV lt,.int .i64 (lightE a r st)])∧LtOf w' slot a r st lt∧RwNew w.heap.size lt.br∧Below w.heap.size w w'):=by
 have K0:=Z (Blk.new0 w 33 (ltA Lt.zero))
 have HB:Below w.heap.size w (w.alloc (.cells (ltA Lt.zero) 33)):=bel
 go_enter Tryz.func21, Tryz.ntmps21
 go_upto_region 1 with fail
 obtain⟨W,hW⟩:∃ W,w.alloc (.cells (ltA Lt.zero) 33)=W:=⟨_,rfl⟩
 have hsz:=Z (show W.heap.size=w.heap.size+1 by rw[←hW];simp)
 rw[hW]at K0 HB ⊢
 clear hW
 (obtain⟨k0,f0,l0,m0⟩:=rl_ K0)
 go_wp2_with fail
 have N0:=Z (K0.out.alloc (.cells #[.string (bs a),.string (bs r),.string (bs st)] 9))
 have N1:=Z (Blk.new0 W 9 #[.string (bs a),.string (bs r),.string (bs st)])
 have HBn:=HB.alloc HB.size (.cells #[.string (bs a),.string (bs r),.string (bs st)] 9)
 have hsz2:=hsz.out
 obtain⟨W2,hW2⟩:∃ W2,W.alloc (.cells #[.string (bs a),.string (bs r),.string (bs st)] 9)=W2:=⟨_,rfl⟩
 have hs3:W2.heap.size=w.heap.size+2:=by rw[←hW2];simp[hsz2]
 rw[hW2]at N0 N1 HBn ⊢
 rw[hsz2]at N1 ⊢
 obtain⟨g,hg⟩:∃ g,w.heap.size=g:=⟨_,rfl⟩
 have hgl:w.heap.size≤g:=by omega
 rw[hg]at N0 N1 hs3 ⊢
 clear hW2 hsz hsz2 k0 f0 l0 m0 K0 HB
 have K0:=N0;have K1:=N1;have HB:=HBn
 clear N0 N1 HBn
 (obtain⟨k0,f0,l0,m0⟩:=rl_ K0;obtain⟨k1,f1,l1,m1⟩:=rl_ K1)
 by_cases h1:a.length=32
 rotate_left
 ·have e1:((a.length:Int) != 32)=true:=by simp;omega
  have e2:((a.length:Int) == 32)=false:=by simp;omega
  have hk0:=Z (show lightOk a r st=false by unfold lightOk;simp[h1])
  have hE:=Z (show lightE a r st=2 by unfold lightE;rw[hk0.out];rfl)
  clear h1 hk hn hs3
  refine wp_loop_rounds 1 ?_
  rw[rounds_succ]
  (go_wp2_with(first|(with_reducible refine wsh (stLt _ K0.out (Lt.zero)) rfl rfl ?_));generalize hWN:setRow _ _ _ _=WN;replace K0:=Z (show Blk WN _ _ _ by rw[←hWN];exact Blk.row K0.out.lt);replace K1:=Z (show Blk WN _ _ _ by rw[←hWN];exact Blk.rowOver (by omega) K1.out);replace HB:Below w.heap.size w WN:=(by rw[←hWN];exact Below.row HB (by omega) HB.size);clear hWN k0 f0 l0 m0 k1 f1 l1 m1;obtain⟨k0,f0,l0,m0⟩:=rl_ K0;obtain⟨k1,f1,l1,m1⟩:=rl_ K1;unfold Halted)
  go_wp2_with fail
  exact bodyPost_ret (results_cell2 rfl rfl (ldLt _ K0.out)) rfl ⟨Lt.zero,by rw[hE.out];rfl,⟨LtIn.zero _,fun h=>(by rw[hk0.out]at h;cases h),fun _=>rfl⟩,RwNew.zero _,HB⟩
 have e1:((a.length:Int) != 32)=false:=by simp;omega
 have e2:((a.length:Int) == 32)=true:=by simp;omega
 by_cases h2:r.length=32
 rotate_left
 ·have e3:((r.length:Int) != 32)=true:=by simp;omega
  have e4:((r.length:Int) == 32)=false:=by simp;omega
  have hk0:=Z (show lightOk a r st=false by unfold lightOk;simp[h2])
  have hE:=Z (show lightE a r st=2 by unfold lightE;rw[hk0.out];rfl)
  clear h1 h2 hk hn hs3
  refine wp_loop_rounds 2 ?_
  rw[rounds_succ]
  go_wp2_with fail
  rw[rounds_succ]
  (go_wp2_with(first|(with_reducible refine wsh (stLt _ K0.out (Lt.zero)) rfl rfl ?_));generalize hWN:setRow _ _ _ _=WN;replace K0:=Z (show Blk WN _ _ _ by rw[←hWN];exact Blk.row K0.out.lt);replace K1:=Z (show Blk WN _ _ _ by rw[←hWN];exact Blk.rowOver (by omega) K1.out);replace HB:Below w.heap.size w WN:=(by rw[←hWN];exact Below.row HB (by omega) HB.size);clear hWN k0 f0 l0 m0 k1 f1 l1 m1;obtain⟨k0,f0,l0,m0⟩:=rl_ K0;obtain⟨k1,f1,l1,m1⟩:=rl_ K1;unfold Halted)
  go_wp2_with fail
  exact bodyPost_ret (results_cell2 rfl rfl (ldLt _ K0.out)) rfl ⟨Lt.zero,by rw[hE.out];rfl,⟨LtIn.zero _,fun h=>(by rw[hk0.out]at h;cases h),fun _=>rfl⟩,RwNew.zero _,HB⟩
 have e3:((r.length:Int) != 32)=false:=by simp;omega
 have e4:((r.length:Int) == 32)=true:=by simp;omega
 by_cases h3:st.length=32
 rotate_left
 ·have e5:((st.length:Int) != 32)=true:=by simp;omega
  have e6:((st.length:Int) == 32)=false:=by simp;omega
  have hk0:=Z (show lightOk a r st=false by unfold lightOk;simp[h3])
  have hE:=Z (show lightE a r st=2 by unfold lightE;rw[hk0.out];rfl)
  clear h1 h2 h3 hk hn hs3
  refine wp_loop_rounds 3 ?_
  rw[rounds_succ]
  go_wp2_with fail
  rw[rounds_succ]
  go_wp2_with fail
  rw[rounds_succ]
  (go_wp2_with(first|(with_reducible refine wsh (stLt _ K0.out (Lt.zero)) rfl rfl ?_));generalize hWN:setRow _ _ _ _=WN;replace K0:=Z (show Blk WN _ _ _ by rw[←hWN];exact Blk.row K0.out.lt);replace K1:=Z (show Blk WN _ _ _ by rw[←hWN];exact Blk.rowOver (by omega) K1.out);replace HB:Below w.heap.size w WN:=(by rw[←hWN];exact Below.row HB (by omega) HB.size);clear hWN k0 f0 l0 m0 k1 f1 l1 m1;obtain⟨k0,f0,l0,m0⟩:=rl_ K0;obtain⟨k1,f1,l1,m1⟩:=rl_ K1;unfold Halted)
  go_wp2_with fail
  exact bodyPost_ret (results_cell2 rfl rfl (ldLt _ K0.out)) rfl ⟨Lt.zero,by rw[hE.out];rfl,⟨LtIn.zero _,fun h=>(by rw[hk0.out]at h;cases h),fun _=>rfl⟩,RwNew.zero _,HB⟩
 have e5:((st.length:Int) != 32)=false:=by simp;omega
 have e6:((st.length:Int) == 32)=true:=by simp;omega
 have hk1:=Z (show lightOk a r st=true by unfold lightOk;simp[h1,h2,h3])
 have hE:=Z (show lightE a r st=0 by unfold lightE;rw[hk1.out];rfl)
 refine wp_loop_rounds 4 ?_
 rw[rounds_succ]
 go_wp2_with fail
 rw[rounds_succ]
 go_wp2_with fail
 rw[rounds_succ]
 go_wp2_with fail
 rw[rounds_succ]
 go_upto_region 7 with fail
 have hx:ExIn w (exS slot a r):=⟨by show a.length≤_;omega,by show r.length≤_;omega,hn⟩
 have n1:=fun W (hB:Below w.heap.size w W)=>eroot_calls (exS slot a r) W (hk.on hB) (hx.below hB)
 have n2:=fun W=>number_calls slot hn W
 have hR:=leaves_right slot a r (by omega) (by omega)
 have n3:=fun W (hB:Below w.heap.size w (W.alloc (.cells #[.string (bs (numP slot)),.string (bs zero32),.string (bs (exRoot (exS slot a r)))] 9)))=>mtree_calls (some ⟨W.heap.size,0,none⟩) 3 (leavesS slot a r) 2 2 hR (by decide) (W.alloc (.cells #[.string (bs (numP slot)),.string (bs zero32),.string (bs (exRoot (exS slot a r)))] 9)) (hk.on hB) (txts_new W (leavesS slot a r))
 have hst:st.length≤1048576:=by omega
 have hrl:(rootP (leavesS slot a r) 2).length≤1048576:=by rw[rootP_len hR.2.2.2.2];decide
 have hbrl:(branchP (leavesS slot a r) 2 2).length=2:=branchP_len _ _ _
 have hbra:∀ x∈branchP (leavesS slot a r) 2 2,x.length≤1048576:=fun x hx=>by rw[branch_all9 _ hR.2.2.2.2 _ _ x hx];decide
 have hnpl:(numP slot).length≤1048576:=by rw[numP_len];decide
 have hp:slot % 16<18446744073709551616:=by omega
 have hr1:((slot:Int) % 16)=((slot % 16:Nat):Int):=by omega
 have hr2:IntKind.u64.wrap ((slot % 16:Nat):Int)=((slot % 16:Nat):Int):=IntWalk.u64_in _ (by omega)
 have hr3:Int.tmod (slot:Int) 16=((slot % 16:Nat):Int):=by rw[Int.tmod_eq_emod_of_nonneg (by omega)];exact hr1
 have hbl:rootP (leavesS slot a r) 2=rootP (leavesS slot a r) 2:=rfl
 obtain⟨ro,hro⟩:∃ ro,rootP (leavesS slot a r) 2=ro:=⟨_,rfl⟩
 obtain⟨br,hbr⟩:∃ br,branchP (leavesS slot a r) 2 2=br:=⟨_,rfl⟩
 rw[hro,hbr]at n3
 rw[hro]at hrl
 rw[hbr]at hbrl hbra
 replace hbra:=Z hbra
 replace hbrl:=Z hbrl
 obtain⟨er,her⟩:∃ er,exRoot (exS slot a r)=er:=⟨_,rfl⟩
 obtain⟨ee,hee⟩:∃ ee,exE (exS slot a r)=ee:=⟨_,rfl⟩
 rw[her,hee]at n1
 rw[her]at n3
 obtain⟨np,hnp⟩:∃ np,numP slot=np:=⟨_,rfl⟩
 rw[hnp]at n2 n3 hnpl
 obtain⟨p,hpe⟩:∃ p,slot % 16=p:=⟨_,rfl⟩
 rw[hpe]at hr1 hr2 hr3 hp
 replace n1:=Z n1
 replace n2:=Z n2
 replace n3:=Z n3
 replace hx:=Z hx
 replace hro:=Z hro
 replace hbr:=Z hbr
 replace her:=Z her
 replace hnp:=Z hnp
 replace hpe:=Z hpe
 clear hbl hee hR h1 h2 h3 hk e1 e2 e3 e4 e5 e6
 have hs4:=Z hs3
 clear hs3
 go_wp2_with(first|(with_reducible refine wpList_build_run (o:=⟨_,.build 30 _,_,_,_,none⟩) (build_ex slot a r _) rfl _ rfl (by with_unfolding_all rfl) ?_)|(with_reducible refine wpList_build_run (o:=⟨_,.build 33 _,_,_,_,none⟩) (build_lt (exS slot a r) _) rfl _ rfl (by with_unfolding_all rfl) ?_)|(with_reducible refine wsh (stLt Lt.zero (Blk.new0 W2 33 (ltA Lt.zero)) { Lt.zero with x:=exS slot a r }) rfl rfl ?_))
 have hs3:=hs4.out
 clear hs4
 generalize hWN:setRow _ _ _ _=WM
 have N0:=Z (show Blk WM g 33 (ltA Lt.zero) by rw[←hWN];exact Blk.rowOver (by omega) (K0.out.alloc _))
 have N2:=Z (show Blk WM W2.heap.size 33 (ltA { Lt.zero with x:=exS slot a r }) by rw[←hWN];exact Blk.row (by simp))
 have HBn:Below w.heap.size w WM:=by rw[←hWN];exact Below.row (HB.alloc HB.size _) HB.size (by have:=HB.size;simp;omega)
 obtain⟨g2,hg2⟩:∃ g2,W2.heap.size=g2:=⟨_,rfl⟩
 have hgg:g<g2:=by omega
 have hgl2:w.heap.size≤g2:=by omega
 rw[hg2]at N2 ⊢
 clear hWN hg2 hs3 k0 f0 l0 m0 k1 f1 l1 m1 K0 K1 HB
 have K0:=N0;have K2:=N2;have HB:=HBn
 clear N0 N2 HBn
 (obtain⟨k0,f0,l0,m0⟩:=rl_ K0;obtain⟨k2,f2,l2,m2⟩:=rl_ K2)
 unfold Halted
 go_wp2_with fail
 (refine(n1.out _ HB).mono ?_;rintro e w3 ⟨rfl,hN⟩;replace K0:=hn_ K0 hN;replace K2:=hn_ K2 hN;replace HB:Below w.heap.size w w3:=Below.on hN HB;clear hN k0 f0 l0 m0 k2 f2 l2 m2;obtain⟨k0,f0,l0,m0⟩:=rl_ K0;obtain⟨k2,f2,l2,m2⟩:=rl_ K2)
 go_wp2_with fail
 (refine(n2.out _).mono ?_;rintro e w4 ⟨rfl,hN⟩;replace K0:=hn_ K0 hN;replace K2:=hn_ K2 hN;replace HB:Below w.heap.size w w4:=Below.on hN HB;clear hN k0 f0 l0 m0 k2 f2 l2 m2;obtain⟨k0,f0,l0,m0⟩:=rl_ K0;obtain⟨k2,f2,l2,m2⟩:=rl_ K2)
 go_wp2_with(first|(with_reducible refine wpList_build_run (o:=⟨_,.build 28 _,_,_,_,none⟩) (build_hd slot p np st _) rfl _ rfl (by with_unfolding_all rfl) ?_)|(with_reducible refine wsh (stLt_b _ K2.out ⟨slot,p,np,st,[]⟩) rfl rfl ?_))
 generalize hWN:setRow _ _ _ _=WN
 have N2:=Z (show Blk WN g2 33 (ltA { Lt.zero with b:=⟨slot,p,np,st,[]⟩,x:=exS slot a r }) by rw[←hWN];exact Blk.row K2.out.lt)
 have N0:=Z (show Blk WN g 33 (ltA Lt.zero) by rw[←hWN];exact Blk.rowOver (by omega) K0.out)
 have HBn:Below w.heap.size w WN:=(by rw[←hWN];exact Below.row HB (by omega) HB.size)
 clear hWN HB K0 k0 f0 l0 m0 K2 k2 f2 l2 m2
 have K0:=N0;have K2:=N2;have HB:=HBn
 clear N0 N2 HBn
 (obtain⟨k0,f0,l0,m0⟩:=rl_ K0;obtain⟨k2,f2,l2,m2⟩:=rl_ K2)
 unfold Halted
 go_wp2_with fail
 (refine(n2.out _).mono ?_;rintro e w5 ⟨rfl,hN⟩;replace K0:=hn_ K0 hN;replace K2:=hn_ K2 hN;replace HB:Below w.heap.size w w5:=Below.on hN HB;clear hN k0 f0 l0 m0 k2 f2 l2 m2;obtain⟨k0,f0,l0,m0⟩:=rl_ K0;obtain⟨k2,f2,l2,m2⟩:=rl_ K2)
 go_wp2_with fail
 (refine(mnought_calls _).mono ?_;rintro e w6 ⟨rfl,hN⟩;replace K0:=hn_ K0 hN;replace K2:=hn_ K2 hN;replace HB:Below w.heap.size w w6:=Below.on hN HB;clear hN k0 f0 l0 m0 k2 f2 l2 m2;obtain⟨k0,f0,l0,m0⟩:=rl_ K0;obtain⟨k2,f2,l2,m2⟩:=rl_ K2)
 go_wp2_with fail
 refine(n3.out w6 (HB.alloc HB.size _)).mono ?_
 rintro e w7 ⟨v,rfl,hRv,hN9⟩
 obtain⟨A5,c5,rfl,_⟩:=hRv.txts
 have N0:=Z ((K0.out.alloc (.cells #[.string (bs np),.string (bs zero32),.string (bs er)] 9)).below hN9)
 have N2:=Z ((K2.out.alloc (.cells #[.string (bs np),.string (bs zero32),.string (bs er)] 9)).below hN9)
 have HBn:Below w.heap.size w w7:=Below.on hN9 (HB.alloc HB.size _)
 have R7:=Z (hRv.mono (show g2+1≤_ by simp;omega))
 clear hN9 hRv HB K0 k0 f0 l0 m0 K2 k2 f2 l2 m2 n1 n2 n3
 have K0:=N0;have K2:=N2;have HB:=HBn
 clear N0 N2 HBn
 (obtain⟨k0,f0,l0,m0⟩:=rl_ K0;obtain⟨k2,f2,l2,m2⟩:=rl_ K2)
 go_upto_region 11 with fail
 obtain⟨W8,hW8⟩:∃ W8,(w7.setCell ⟨g2,4,none⟩ (.string (bs ro))).setCell ⟨g2,8,none⟩ (.slice A5 br.length c5)=W8:=⟨_,rfl⟩
 have N2:=Z (show Blk W8 g2 33 (ltA ⟨⟨slot,p,np,st,ro⟩,exS slot a r,⟨A5,c5,br⟩⟩) by rw[←hW8];exact Blk.to (Blk.set_ (Blk.set_ K2.out 4 _) 8 _) rfl)
 have N0:=Z (show Blk W8 g 33 (ltA Lt.zero) by rw[←hW8];exact(K0.out.far (by simp;omega) _).far (by simp;omega) _)
 have hlt7:∀ j,(Value.slice A5 br.length c5).ownBlock=some j→g2+1≤j:=fun j hj=>(R7.out.lt j hj).1
 have R8:=Z (show LRow (g2+1) W8 (.slice A5 br.length c5) br by rw[←hW8];exact(R7.out.keep (grown_set (World.grownBy.refl _ _)) (fun j hj e=>by have:=hlt7 j hj;injection e with e;omega)).keep (grown_set (World.grownBy.refl _ _)) (fun j hj e=>by have:=hlt7 j hj;injection e with e;omega))
 have HBn:Below w.heap.size w W8:=by rw[←hW8];exact(HB.setCell (by simp;omega) _).setCell (by simp;omega) _
 rw[hW8]
 clear hW8 HB K0 k0 f0 l0 m0 K2 k2 f2 l2 m2 R7 hlt7
 have K0:=N0;have K2:=N2;have HB:=HBn
 clear N0 N2 HBn
 (obtain⟨k0,f0,l0,m0⟩:=rl_ K0;obtain⟨k2,f2,l2,m2⟩:=rl_ K2)
 go_wp2_with(first|(with_reducible refine wlr (ldLt _ K2.out) rfl ?_)|(with_reducible refine wsh (stLt _ K0.out ⟨⟨slot,p,np,st,ro⟩,exS slot a r,⟨A5,c5,br⟩⟩) rfl rfl ?_))
 generalize hWN:setRow _ _ _ _=WN
 have N0:=Z (show Blk WN g 33 (ltA ⟨⟨slot,p,np,st,ro⟩,exS slot a r,⟨A5,c5,br⟩⟩) by rw[←hWN];exact Blk.row K0.out.lt)
 have R9:=Z (show LRow (g2+1) WN (.slice A5 br.length c5) br by rw[←hWN];exact row_put9 R8.out (by omega))
 have HBn:Below w.heap.size w WN:=(by rw[←hWN];exact Below.row HB (by omega) HB.size)
 clear hWN HB K0 k0 f0 l0 m0 K2 k2 f2 l2 m2 R8
 have K0:=N0;have HB:=HBn
 clear N0 HBn
 (obtain⟨k0,f0,l0,m0⟩:=rl_ K0)
 unfold Halted
 go_wp2_with fail
 have hin:LtIn WN ⟨⟨slot,p,np,st,ro⟩,exS slot a r,⟨A5,c5,br⟩⟩:=⟨⟨hn,hp,hnpl,hst,hrl⟩,hx.out,row_in R9.out (by rw[hbrl.out];decide) hbra.out⟩
 exact bodyPost_ret (results_cell2 rfl rfl (ldLt _ K0.out)) rfl ⟨⟨⟨slot,p,np,st,ro⟩,exS slot a r,⟨A5,c5,br⟩⟩,by rw[hE.out];rfl,⟨hin,fun _=>⟨by unfold hdS;rw[hpe.out,hnp.out,hro.out],rfl,hbr.out.symm⟩,fun h=>(by rw[hk1.out]at h;cases h)⟩,row_newer R9.out (by omega),HB⟩
end
section
open BigFrame Go.RowKit Go.Phx Go.Shelf
noncomputable def cmS (l:List Nat):Cm:=⟨⟨none,0,keysS l⟩,sumB (keysS l)⟩
theorem cmRoot_same{c d:Cm} (h1:c.ks.l=d.ks.l) (h2:c.sum=d.sum):cmRoot c=cmRoot d:=by
 unfold cmRoot cmOk
 rw[h1,h2]
theorem cmOk_same{c d:Cm} (h1:c.ks.l=d.ks.l) (h2:c.sum=d.sum):cmOk c=cmOk d:=by
 unfold cmOk
 rw[h1,h2]
theorem secret_key{n:Nat} (h:IsSecret (n:Int)):fromL (keyB (n:Int) genE)=some (timesE (n:Int) genE)∧inG (timesE (n:Int) genE)=true∧(keyB (n:Int) genE).length=5:=by
 have hi:inG (timesE (n:Int) genE)=true:=times_in gen_in _ (by omega) (by have:=h.2;omega)
 have hk:keyB (n:Int) genE=bytesE (timesE (n:Int) genE):=by unfold keyB;rw[if_pos h]
 rw[hk]
 exact⟨back_point hi,hi,bytesE_len _⟩
theorem secrets_all{l:List Nat} (h:secretsB l=true):∀ n∈l,IsSecret (n:Int):=fun n hn=>by
 unfold secretsB at h
 exact of_decide_eq_true (List.all_eq_true.1 h n hn)
theorem sumF_keys:∀ (l:List Nat) (p:E),inG p=true→(∀ n∈l,IsSecret (n:Int))→∃ q,sumFrom p (keysS l)=some q
 | [],p,_,_=>⟨p,rfl⟩
 | n :: l,p,hp,h=>by
  obtain⟨h1,h2,_⟩:=secret_key (h n List.mem_cons_self)
  obtain⟨q,hq⟩:=sumF_keys l (addE p (timesE (n:Int) genE)) (inG_add hp h2) fun m hm=>h m (List.mem_cons_of_mem _ hm)
  refine⟨q,?_⟩
  show sumFrom p (keyB (n:Int) genE :: keysS l)=some q
  rw[sumFrom,h1]
  exact hq
theorem sumB_keys{l:List Nat} (h:secretsB l=true):(sumB (keysS l)).length=5∧sumN (keysS l)=0:=by
 obtain⟨q,hq⟩:=sumF_keys l none inG_none (secrets_all h)
 unfold sumB sumN
 rw[show sumE (keysS l)=some q from hq]
 exact⟨bytesE_len q,rfl⟩
theorem cmOk_cmS{l:List Nat} (h:goodS l=true):cmOk (cmS l)=true:=by
 unfold goodS at h
 simp only[Bool.and_eq_true,decide_eq_true_eq]at h
 unfold cmOk cmS
 simp only[Bool.and_eq_true,decide_eq_true_eq]
 refine⟨by rw[keysS_len];exact h.2,(sumB_keys h.1).1,?_⟩
 rw[List.all_eq_true]
 intro k hk
 unfold keysS at hk
 obtain⟨n,hn,rfl⟩:=List.mem_map.1 hk
 have:=(secret_key (secrets_all h.1 n hn)).2.2
 simpa using this
theorem cmRoot_cmS{l:List Nat} (h:goodS l=true):(cmRoot (cmS l)).length=32:=by
 unfold cmRoot
 rw[if_pos (cmOk_cmS h)]
 exact sha_len _
noncomputable def leavesB (l:List Nat):List Bytes:=[zero32,zero32,zero32,zero32,cmRoot (cmS l)]
theorem leavesB_right{l:List Nat} (h:goodS l=true):RightP (leavesB l) 3:=⟨by decide,by decide,by show 5≤256;decide,by show 5≤8;decide,fun x hx=>by
 simp only[leavesB,List.mem_cons,List.not_mem_nil,or_false]at hx
 rcases hx with rfl|rfl|rfl|rfl|rfl
 ·rfl
 ·rfl
 ·rfl
 ·rfl
 ·exact cmRoot_cmS h⟩
noncomputable def bootSt (l:List Nat):Bytes:=rootP (leavesB l) 3
theorem bootSt_len{l:List Nat} (h:goodS l=true):(bootSt l).length=32:=rootP_len (leavesB_right h).2.2.2.2
def goodB(l:List Nat) (a r:Bytes):Bool:=goodS l && (decide (a.length=32) && decide (r.length=32))
def bootE(l:List Nat) (a r:Bytes):Int:=if goodB l a r then 0 else 2
noncomputable def bootR (slot:Nat) (l:List Nat) (a r:Bytes):Bytes:=if goodB l a r then hdRoot (hdS slot a r (bootSt l)) else []
def BtOf(w:World) (slot:Nat) (l:List Nat) (a r:Bytes) (b:Bt):Prop :=
 BtIn w b∧(goodB l a r=true→b.now.ks.l=keysS l∧b.now.sum=sumB (keysS l)∧b.lt.b=hdS slot a r (bootSt l)∧b.lt.x=exS slot a r∧b.lt.br.l=branchP (leavesS slot a r) 2 2∧b.br.l=branchP (leavesB l) 4 3)∧(goodB l a r=false→b=Bt.zero)
theorem lightOk_st{a r st:Bytes} (h:st.length=32):lightOk a r st=(decide (a.length=32) && decide (r.length=32)):=by
 unfold lightOk
 rw[decide_eq_true h,Bool.and_true]
theorem goodB_eq{l:List Nat}{a r:Bytes} (h:goodS l=true):goodB l a r=lightOk a r (bootSt l):=by
 rw[lightOk_st (bootSt_len h)]
 unfold goodB
 rw[h,Bool.true_and]
end
section
open BigFrame Go.RowKit Go.Phx Go.Shelf
attribute [local go_sem] Oper.semAt_some
section
variable {P:Program}{o:Oper}{a:Act}{w w':World}{ty:TypeId}{v:Value}
theorem exec_build{parts:Array (Nat×Value)} (ps:Array (Nat×Operand)) (ho:o.op=.build ty ps) (hx:(ps.map fun(q:Nat×Operand)=>(q.1,a.eval q.2))=parts) (hr:(Instr.build ty parts).run P w=.ok v w):(execOp a.eval o).run P w=.ok (.value v) w:=by
 unfold execOp
 subst hx
 simp only[ho,Sem.run_bind,hr,Result.andThen_ok,Sem.run_pure]
theorem results_cell3{fn:Func}{p q u:Tmp} (h:fn.results = #[.tmp p,.cell q ty,.tmp u]) {tmps:Array Value}{ad:Addr} (hp:tmps.getD q undef=.pointer (some ad)) (hr:(Instr.loadAt ty (.pointer (some ad))).run P w=.ok v w):(results fn tmps).run P w=.ok (.tuple #[tmps.getD p undef,v,tmps.getD u undef]) w:=by
 have h2:(loadVar ty ad).run P w=.ok v w:=by simpa[Instr.loadAt,Instr.sureAddr] using hr
 have hp2:tmps[q]?.getD undef=.pointer (some ad):=by simpa using hp
 simp only[results,h]
 simp[Sem.run_bind,Result.andThen,hp2,asAddr,h2]
end
theorem build_bt(l:Lt) (c:Cm) (b:Rw) (w:World):(Instr.build 59 #[(0,ltV l),(1,cmV c),(2,.slice b.addr b.l.length b.cap)]).run Tryz.prog w=.ok (btV ⟨l,c,b⟩) w :=
 run_build w _ _ (btA ⟨l,c,b⟩) U
theorem mboot_calls(slot:Nat) (A:Option Addr) (c:Nat) (l:List Nat) (a r:Bytes) (hn:slot<18446744073709551616) (w:World) (hk:HasK w) (hl:NumsIn w A l) :
  Calls Tryz.prog 13 #[.int .u64 slot,.slice A l.length c,.string (bs a),.string (bs r)] w
  (fun e w'=>∃ bt,e=.returned (.tuple #[.string (bs (bootR slot l a r)),btV bt,.int .i64 (bootE l a r)])∧BtOf w' slot l a r bt∧Below w.heap.size w w'):=by
 have n1:=Z (fun W (hB:Below w.heap.size w W)=>mcomm_calls A c l W (hl.below hB))
 have hE0:∀ b,goodB l a r=b→bootE l a r=if b then 0 else 2:=fun b h=>by unfold bootE;rw[h]
 have hR:∀ b,goodB l a r=b→bootR slot l a r=if b then hdRoot (hdS slot a r (bootSt l)) else []:=fun b h=>by unfold bootR;rw[h]
 have hcE:commE l=if goodS l then 0 else 2:=rfl
 have K0:=Z (Blk.new0 w 59 (btA Bt.zero))
 have HB:Below w.heap.size w (w.alloc (.cells (btA Bt.zero) 59)):=bel
 obtain⟨ce,hce⟩:∃ ce,commE l=ce:=⟨_,rfl⟩
 rw[hce]at n1 hcE
 go_enter Tryz.func13, Tryz.ntmps13
 go_upto_region 1 with fail
 obtain⟨W,hW⟩:∃ W,w.alloc (.cells (btA Bt.zero) 59)=W:=⟨_,rfl⟩
 have hsz:=Z (show W.heap.size=w.heap.size+1 by rw[←hW];simp)
 rw[hW]at K0 HB ⊢
 clear hW
 obtain⟨g,hg⟩:∃ g,w.heap.size=g:=⟨_,rfl⟩
 have hgl:w.heap.size≤g:=by omega
 replace hsz:=Z (show W.heap.size=g+1 by rw[hsz.out,hg])
 rw[hg]at K0 ⊢
 clear hg
 replace hE0:=Z hE0
 replace hR:=Z hR
 replace hcE:=Z hcE
 replace hce:=Z hce
 replace hl:=Z hl
 replace hk:=Z hk
 (obtain⟨k0,f0,l0,m0⟩:=rl_ K0)
 go_wp2_with fail
 (refine(n1.out W HB).mono ?_;rintro e w1 ⟨cm,rfl,hcm,hcn,hN⟩;replace K0:=hn_ K0 hN;replace HB:Below w.heap.size w w1:=Below.on hN HB;clear hN k0 f0 l0 m0;obtain⟨k0,f0,l0,m0⟩:=rl_ K0)
 rw[hsz.out]at hcn
 have C1:=Z hcm.1
 have hc2:=Z hcm.2
 replace hcn:=Z hcn
 clear hcm hsz n1
 (go_wp2_with(first|(with_reducible refine wsh (stCm (Cm.zero) (Blk.new0 w1 35 (cmA (Cm.zero))) (cm)) rfl rfl ?_));generalize hWN:setRow _ _ _ _=WN;replace K0:=Z (show Blk WN _ _ _ by rw[←hWN];exact Blk.rowOver (Nat.ne_of_lt K0.out.lt) (K0.out.alloc _));replace K1:=(show Blk WN (World.heap w1).size 35 (cmA (cm)) by rw[←hWN];exact Blk.row (by simp));have HBn:Below w.heap.size w WN:=(by rw[←hWN];exact Below.row (HB.alloc HB.size _) HB.size (by have:=HB.size;simp;omega));have HBx:Below (World.heap w1).size w1 WN:=(by rw[←hWN];exact Below.row ((Below.refl _ _).alloc (Nat.le_refl _) _) (Nat.le_refl _) (by simp));have NC1:=Z (C1.out.below HBx);obtain⟨g1,hgj⟩:∃ g,(World.heap w1).size=g:=⟨_,rfl⟩;have hg0_1:_<g1:=(by rw[←hgj];exact l0);have hgl1:w.heap.size≤g1:=(by rw[←hgj];exact HB.size);rw[hgj]at K1 ⊢;replace K1:=Z K1;clear hWN hgj HB HBx k0 f0 l0 m0 C1;have C1:=NC1;clear NC1;have HB:=HBn;clear HBn;obtain⟨k0,f0,l0,m0⟩:=rl_ K0;obtain⟨k1,f1,l1,m1⟩:=rl_ K1;unfold Halted)
 cases hgs:goodS l with
 | false =>
  have hce0:ce=2:=by rw[hcE.out,hgs];rfl
  subst hce0
  have hgb:=Z (show goodB l a r=false by unfold goodB;rw[hgs];rfl)
  have hE:=Z (hE0.out _ hgb.out)
  have hR0:=Z (hR.out _ hgb.out)
  clear hE0 hR hcE hce hc2 hgs C1
  (go_wp2_with(first|(with_reducible refine wsh (stBt _ K0.out (Bt.zero)) rfl rfl ?_));generalize hWN:setRow _ _ _ _=WN;replace K0:=Z (show Blk WN _ _ _ by rw[←hWN];exact Blk.row K0.out.lt);replace K1:=Z (show Blk WN _ _ _ by rw[←hWN];exact Blk.rowOver (by omega) K1.out);replace HB:Below w.heap.size w WN:=(by rw[←hWN];exact Below.row HB (by omega) HB.size);clear hWN k0 f0 l0 m0 k1 f1 l1 m1;obtain⟨k0,f0,l0,m0⟩:=rl_ K0;obtain⟨k1,f1,l1,m1⟩:=rl_ K1;unfold Halted)
  go_wp2_with fail
  exact bodyPost_ret (results_cell3 rfl rfl (ldBt _ K0.out)) rfl ⟨Bt.zero,by rw[hE.out,hR0.out];rfl,⟨BtIn.zero _,fun h=>(by rw[hgb.out]at h;cases h),fun _=>rfl⟩,HB⟩
 | true =>
  have hce0:ce=0:=by rw[hcE.out,hgs];rfl
  subst hce0
  have hcr:cmRoot cm=cmRoot (cmS l):=cmRoot_same (hc2.out.1 hgs).1 (hc2.out.1 hgs).2
  have hRr:=leavesB_right hgs
  have hgb0:=goodB_eq (a:=a) (r:=r) hgs
  have hc3:=Z (hc2.out.1 hgs)
  have hst:=bootSt_len hgs
  have n2:=Z (fun W (hB:Below w.heap.size w W) (h:CmIn W cm)=>croot_calls cm W (hk.out.on hB) h)
  have n3:=fun W (hB:Below w.heap.size w (W.alloc (.cells #[.string (bs zero32),.string (bs zero32),.string (bs zero32),.string (bs zero32),.string (bs (cmRoot (cmS l)))] 9)))=>mtree_calls (some ⟨W.heap.size,0,none⟩) 5 (leavesB l) 3 4 hRr (by decide) (W.alloc (.cells #[.string (bs zero32),.string (bs zero32),.string (bs zero32),.string (bs zero32),.string (bs (cmRoot (cmS l)))] 9)) (hk.out.on hB) (txts_new W (leavesB l))
  rw[←hcr]at n3
  have hbrl:(branchP (leavesB l) 4 3).length=3:=branchP_len _ _ _
  have hbra:∀ x∈branchP (leavesB l) 4 3,x.length≤1048576:=fun x hx=>by rw[branchP_all _ hRr.2.2.2.2 _ _ x hx];decide
  have n4:=Z (fun W (hB:Below w.heap.size w W)=>mlight_calls slot a r (bootSt l) hn W (hk.out.on hB))
  have hlE:lightE a r (bootSt l)=if lightOk a r (bootSt l) then 0 else 2:=rfl
  obtain⟨br,hbr⟩:∃ br,branchP (leavesB l) 4 3=br:=⟨_,rfl⟩
  obtain⟨st,hst2⟩:∃ st,bootSt l=st:=⟨_,rfl⟩
  rw[show rootP (leavesB l) 3=bootSt l from rfl,hst2,hbr]at n3
  rw[hst2]at n4 hlE hgb0 hst
  rw[hbr]at hbrl hbra
  obtain⟨rt,hrt⟩:∃ rt,cmRoot cm=rt:=⟨_,rfl⟩
  obtain⟨re,hre⟩:∃ re,cmE cm=re:=⟨_,rfl⟩
  rw[hrt,hre]at n2
  rw[hrt]at n3
  obtain⟨le,hle⟩:∃ le,lightE a r st=le:=⟨_,rfl⟩
  rw[hle]at n4 hlE
  replace n3:=Z n3
  replace hbrl:=Z hbrl
  replace hbra:=Z hbra
  replace hbr:=Z hbr
  replace hst2:=Z hst2
  replace hgb0:=Z hgb0
  replace hlE:=Z hlE
  clear hRr hcr hst hrt hre hle hc2 hce hcE hgs hn
  go_wp2_with fail
  (refine(mnought_calls _).mono ?_;rintro e w2 ⟨rfl,hN⟩;replace K0:=hn_ K0 hN;replace K1:=hn_ K1 hN;have NC1:=Z (C1.out.below hN);replace HB:Below w.heap.size w w2:=Below.on hN HB;clear hN k0 f0 l0 m0 k1 f1 l1 m1 C1;have C1:=NC1;clear NC1;obtain⟨k0,f0,l0,m0⟩:=rl_ K0;obtain⟨k1,f1,l1,m1⟩:=rl_ K1)
  go_wp2_with(first|(with_reducible refine wlr (ldCm _ K1.out) rfl ?_)|(with_reducible refine wlg (ldCm _ K1.out) (by with_unfolding_all rfl) rfl ?_))
  (refine(n2.out _ HB C1.out).mono ?_;rintro e w3 ⟨rfl,hN⟩;replace K0:=hn_ K0 hN;replace K1:=hn_ K1 hN;have NC1:=Z (C1.out.below hN);replace HB:Below w.heap.size w w3:=Below.on hN HB;clear hN k0 f0 l0 m0 k1 f1 l1 m1 C1;have C1:=NC1;clear NC1;obtain⟨k0,f0,l0,m0⟩:=rl_ K0;obtain⟨k1,f1,l1,m1⟩:=rl_ K1)
  go_wp2_with fail
  refine(n3.out w3 (HB.alloc HB.size _)).mono ?_
  rintro e w4 ⟨v,rfl,hRv,hN9⟩
  obtain⟨A5,c5,rfl,_⟩:=hRv.txts
  have hBx:Below w3.heap.size w3 w4:=Below.on hN9 ((Below.refl _ _).alloc (Nat.le_refl _) _)
  have N0:=Z (K0.out.below hBx)
  have N1:=Z (K1.out.below hBx)
  have NC1:=Z (C1.out.below hBx)
  have HBn:Below w.heap.size w w4:=Below.on hBx HB
  have B1:=Z (row_in hRv (by rw[hbrl.out];decide) hbra.out)
  have hbn:=Z (row_newer (base':=g+1) hRv (by simp;omega))
  clear hN9 hRv HB K0 k0 f0 l0 m0 K1 k1 f1 l1 m1 C1 hBx n2 n3
  have K0:=N0;have K1:=N1;have HB:=HBn;have C1:=NC1
  clear N0 N1 HBn NC1
  (obtain⟨k0,f0,l0,m0⟩:=rl_ K0;obtain⟨k1,f1,l1,m1⟩:=rl_ K1)
  go_wp2_with fail
  have hgw:g+1≤w4.heap.size:=by omega
  (refine(n4.out _ HB).mono ?_;rintro e w5 ⟨lt,rfl,hlt,hln,hN⟩;replace K0:=hn_ K0 hN;replace K1:=hn_ K1 hN;have NC1:=Z (C1.out.below hN);have NB1:=Z (B1.out.below hN);replace HB:Below w.heap.size w w5:=Below.on hN HB;clear hN k0 f0 l0 m0 k1 f1 l1 m1 C1 B1;have C1:=NC1;clear NC1;have B1:=NB1;clear NB1;obtain⟨k0,f0,l0,m0⟩:=rl_ K0;obtain⟨k1,f1,l1,m1⟩:=rl_ K1)
  replace hln:=Z (RwNew.mono hln hgw)
  have L1:=Z hlt.1
  have hl2:=Z hlt.2
  clear hlt hgw n4
  (go_wp2_with(first|(with_reducible refine wsh (stLt (Lt.zero) (Blk.new0 w5 33 (ltA (Lt.zero))) (lt)) rfl rfl ?_));generalize hWN:setRow _ _ _ _=WN;replace K0:=Z (show Blk WN _ _ _ by rw[←hWN];exact Blk.rowOver (Nat.ne_of_lt K0.out.lt) (K0.out.alloc _));replace K1:=Z (show Blk WN _ _ _ by rw[←hWN];exact Blk.rowOver (Nat.ne_of_lt K1.out.lt) (K1.out.alloc _));replace K2:=(show Blk WN (World.heap w5).size 33 (ltA (lt)) by rw[←hWN];exact Blk.row (by simp));have HBn:Below w.heap.size w WN:=(by rw[←hWN];exact Below.row (HB.alloc HB.size _) HB.size (by have:=HB.size;simp;omega));have HBx:Below (World.heap w5).size w5 WN:=(by rw[←hWN];exact Below.row ((Below.refl _ _).alloc (Nat.le_refl _) _) (Nat.le_refl _) (by simp));have NC1:=Z (C1.out.below HBx);have NB1:=Z (B1.out.below HBx);have NL1:=Z (L1.out.below HBx);obtain⟨g2,hgj⟩:∃ g,(World.heap w5).size=g:=⟨_,rfl⟩;have hg0_2:_<g2:=(by rw[←hgj];exact l0);have hg1_2:_<g2:=(by rw[←hgj];exact l1);have hgl2:w.heap.size≤g2:=(by rw[←hgj];exact HB.size);rw[hgj]at K2 ⊢;replace K2:=Z K2;clear hWN hgj HB HBx k0 f0 l0 m0 k1 f1 l1 m1 C1 B1 L1;have C1:=NC1;clear NC1;have B1:=NB1;clear NB1;have L1:=NL1;clear NL1;have HB:=HBn;clear HBn;obtain⟨k0,f0,l0,m0⟩:=rl_ K0;obtain⟨k1,f1,l1,m1⟩:=rl_ K1;obtain⟨k2,f2,l2,m2⟩:=rl_ K2;unfold Halted)
  cases hok:lightOk a r st with
  | false =>
   have hle0:le=2:=by rw[hlE.out,hok];rfl
   subst hle0
   have hgb:=Z (show goodB l a r=false by rw[hgb0.out,hok])
   have hE:=Z (hE0.out _ hgb.out)
   have hR0:=Z (hR.out _ hgb.out)
   clear hE0 hR hlE hl2 hok C1 B1 L1 hgb0
   (go_wp2_with(first|(with_reducible refine wsh (stBt _ K0.out (Bt.zero)) rfl rfl ?_));generalize hWN:setRow _ _ _ _=WN;replace K0:=Z (show Blk WN _ _ _ by rw[←hWN];exact Blk.row K0.out.lt);replace K1:=Z (show Blk WN _ _ _ by rw[←hWN];exact Blk.rowOver (by omega) K1.out);replace K2:=Z (show Blk WN _ _ _ by rw[←hWN];exact Blk.rowOver (by omega) K2.out);replace HB:Below w.heap.size w WN:=(by rw[←hWN];exact Below.row HB (by omega) HB.size);clear hWN k0 f0 l0 m0 k1 f1 l1 m1 k2 f2 l2 m2;obtain⟨k0,f0,l0,m0⟩:=rl_ K0;obtain⟨k1,f1,l1,m1⟩:=rl_ K1;obtain⟨k2,f2,l2,m2⟩:=rl_ K2;unfold Halted)
   go_wp2_with fail
   exact bodyPost_ret (results_cell3 rfl rfl (ldBt _ K0.out)) rfl ⟨Bt.zero,by rw[hE.out,hR0.out];rfl,⟨BtIn.zero _,fun h=>(by rw[hgb.out]at h;cases h),fun _=>rfl⟩,HB⟩
  | true =>
   have hle0:le=0:=by rw[hlE.out,hok];rfl
   subst hle0
   have hgb:=Z (show goodB l a r=true by rw[hgb0.out,hok])
   have hE:=Z (show bootE l a r=0 from hE0.out _ hgb.out)
   have hR0:=Z (show bootR slot l a r=hdRoot (hdS slot a r (bootSt l)) from hR.out _ hgb.out)
   have hl3:=Z (hl2.out.1 hok)
   have n5:=Z (fun W (hB:Below w.heap.size w W) (h:LtIn W lt)=>hroot_calls lt.b W (hk.out.on hB) h.1)
   obtain⟨hr,hhr⟩:∃ hr,hdRoot lt.b=hr:=⟨_,rfl⟩
   obtain⟨he,hhe⟩:∃ he,hdE lt.b=he:=⟨_,rfl⟩
   rw[hhr,hhe]at n5
   replace hhr:=Z hhr
   clear hE0 hR hlE hl2 hok hgb0 hhe
   go_wp2_with(with_reducible refine wlr (ldLt_b _ K2.out) rfl ?_)
   (refine(n5.out _ HB L1.out).mono ?_;rintro e w6 ⟨rfl,hN⟩;replace K0:=hn_ K0 hN;replace K1:=hn_ K1 hN;replace K2:=hn_ K2 hN;have NC1:=Z (C1.out.below hN);have NB1:=Z (B1.out.below hN);have NL1:=Z (L1.out.below hN);replace HB:Below w.heap.size w w6:=Below.on hN HB;clear hN k0 f0 l0 m0 k1 f1 l1 m1 k2 f2 l2 m2 C1 B1 L1;have C1:=NC1;clear NC1;have B1:=NB1;clear NB1;have L1:=NL1;clear NL1;obtain⟨k0,f0,l0,m0⟩:=rl_ K0;obtain⟨k1,f1,l1,m1⟩:=rl_ K1;obtain⟨k2,f2,l2,m2⟩:=rl_ K2)
   clear n5
   go_upto_region 11 with fail
   have hwf:∀ f,Fence.wide.fn f:=fun _=>trivial
   refine(wpIn_wide (n:=9)).1 ?_
   refine wpIn_round_held (fun w'=>Below w6.heap.size w6 w') (fun j => !decide (j∈[6,7])) U ?_
   have hS0:(fun w'=>Below w6.heap.size w6 w') w6.drew:=(Below.refl _ _).drew
   have KA100:=Z (K0.out.drew)
   have KA101:=Z (K1.out.drew)
   have KA102:=Z (K2.out.drew)
   have HBt:=HB.drew
   refine S_tg 0 (.string (bs hr)) rfl hS0 ?_
   refine S_tk 1 (ltV (lt)) rfl hS0 (fun w' hw=>exec_load rfl U (ldLt (lt) (K2.out.below hw))) ?_
   refine S_tk 2 (cmV (cm)) rfl hS0 (fun w' hw=>exec_load rfl U (ldCm (cm) (K1.out.below hw))) ?_
   simp only[Act.put,jA,jE,jF,jB,jC,jD]
   refine S_tg 3 (.slice A5 br.length c5) rfl hS0 ?_
   refine S_tk 4 (btV ⟨lt,cm,⟨A5,c5,br⟩⟩) rfl hS0 (fun w' hw=>by exact exec_build _ rfl (by with_unfolding_all rfl) (build_bt lt cm ⟨A5,c5,br⟩ _)) ?_
   refine S_tg 5 (.string (bs hr)) rfl hS0 ?_
   simp only[Act.put,jA,jE,jF,jB,jC,jD]
   refine S_store 6 (fun _=>trivial) U U rfl U (setRow w6.drew (g) 59 (btA ⟨lt,cm,⟨A5,c5,br⟩⟩)) (exec_store _ _ rfl U U (stBt _ KA100.out ⟨lt,cm,⟨A5,c5,br⟩⟩)) (fun h=>absurd h (by decide)) ?_
   replace KA101:=Z (Blk.rowOver (g':=g) (t' := 59) (cs':=btA ⟨lt,cm,⟨A5,c5,br⟩⟩) (by first|assumption|omega) KA101.out)
   replace KA102:=Z (Blk.rowOver (g':=g) (t' := 59) (cs':=btA ⟨lt,cm,⟨A5,c5,br⟩⟩) (by first|assumption|omega) KA102.out)
   replace KA100:=Z (Blk.row (t := 59) (cs:=btA ⟨lt,cm,⟨A5,c5,br⟩⟩) KA100.out.lt)
   replace HBt:=Below.row HBt (g:=g) (t := 59) (cs:=btA ⟨lt,cm,⟨A5,c5,br⟩⟩) (by omega) HBt.size
   refine S_go 7 (fun _=>trivial) U U rfl U (.int .i64 0) (setRow w6.drew (g) 59 (btA ⟨lt,cm,⟨A5,c5,br⟩⟩)) (by first|(go_simp;done)|(go_simp;rfl)) (fun h=>absurd h (by decide)) ?_
   refine⟨by kernel_rfl,rfl,?_⟩
   have BI:=(show BtIn ((setRow w6.drew (g) 59 (btA ⟨lt,cm,⟨A5,c5,br⟩⟩))) ⟨lt,cm,⟨A5,c5,br⟩⟩ from⟨LtIn.put (W:=w6.drew) (base:=g+1) L1.out hln.out (by omega),CmIn.put (W:=w6.drew) (base:=g+1) C1.out hcn.out (by omega),RwIn.put (W:=w6.drew) (base:=g+1) B1.out hbn.out (by omega)⟩)
   obtain⟨WN,hWN⟩:∃ WN,(setRow w6.drew (g) 59 (btA ⟨lt,cm,⟨A5,c5,br⟩⟩))=WN:=⟨_,rfl⟩
   rw[hWN]at KA100 KA101 KA102 HBt BI ⊢
   replace BI:=Z BI
   clear hWN hwf hS0 HB
   have HB:=HBt
   clear HBt
   clear K0 k0 f0 l0 m0
   clear K1 k1 f1 l1 m1
   clear K2 k2 f2 l2 m2
   have K0:=KA100
   clear KA100
   have K1:=KA101
   clear KA101
   have K2:=KA102
   clear KA102
   (obtain⟨k0,f0,l0,m0⟩:=rl_ K0;obtain⟨k1,f1,l1,m1⟩:=rl_ K1;obtain⟨k2,f2,l2,m2⟩:=rl_ K2)
   simp only[Act.put,jA,jE,jF,jB,jC,jD]
   go_wp2_with fail
   exact bodyPost_ret (results_cell3 rfl rfl (ldBt _ K0.out)) rfl ⟨⟨lt,cm,⟨A5,c5,br⟩⟩,by rw[hE.out,hR0.out,hst2.out,←hl3.out.1,hhr.out];rfl,⟨BI.out,fun _=>⟨hc3.out.1,hc3.out.2,by rw[hst2.out];exact hl3.out.1,hl3.out.2.1,hl3.out.2.2,hbr.out.symm⟩,fun h=>(by rw[hgb.out]at h;cases h)⟩,HB⟩
end
section
open BigFrame Go.RowKit Go.Phx Go.Shelf
attribute [local go_sem] Oper.semAt_some
structure Pl where
 seen:Nat
 slot:Nat
 fin:Nat
 nowA:Option Addr
 nowC:Nat
 now:List Nat
 nextA:Option Addr
 nextC:Nat
 next:List Nat
 bits:Nat
 acc:Bytes
 rcp:Bytes
def plC(p:Pl):List Value:=[.int .u64 (p.seen:Int)] ++ ([.int .u64 (p.slot:Int)] ++ ([.int .u64 (p.fin:Int)] ++ ([.slice p.nowA p.now.length p.nowC] ++ ([.slice p.nextA p.next.length p.nextC] ++ ([.int .u64 (p.bits:Int)] ++ ([.string (bs p.acc)] ++ [.string (bs p.rcp)]))))))
def plA(p:Pl):Array Value:=(plC p).toArray
abbrev plV(p:Pl):Value:=.agg (plA p)
@[go_sem] theorem plA_size (p:Pl):(plA p).size=8:=rfl
@[go_sem] theorem plA_0 (p:Pl):(plA p)[0]?=some (.int .u64 (p.seen:Int)):=rfl
@[go_sem] theorem plA_1 (p:Pl):(plA p)[1]?=some (.int .u64 (p.slot:Int)):=rfl
@[go_sem] theorem plA_2 (p:Pl):(plA p)[2]?=some (.int .u64 (p.fin:Int)):=rfl
@[go_sem] theorem plA_3 (p:Pl):(plA p)[3]?=some (.slice p.nowA p.now.length p.nowC):=rfl
@[go_sem] theorem plA_4 (p:Pl):(plA p)[4]?=some (.slice p.nextA p.next.length p.nextC):=rfl
@[go_sem] theorem plA_5 (p:Pl):(plA p)[5]?=some (.int .u64 (p.bits:Int)):=rfl
@[go_sem] theorem plA_6 (p:Pl):(plA p)[6]?=some (.string (bs p.acc)):=rfl
@[go_sem] theorem plA_7 (p:Pl):(plA p)[7]?=some (.string (bs p.rcp)):=rfl
def PlIn(w:World) (p:Pl):Prop:=p.seen<18446744073709551616∧p.slot<18446744073709551616∧p.fin<18446744073709551616∧NumsIn w p.nowA p.now∧NumsIn w p.nextA p.next∧p.bits<18446744073709551616∧p.acc.length≤1048576∧p.rcp.length≤1048576
theorem PlIn.below{w w':World}{p:Pl} (h:PlIn w p) (hB:Below w.heap.size w w'):PlIn w' p:=⟨h.1,h.2.1,h.2.2.1,h.2.2.2.1.below hB,h.2.2.2.2.1.below hB,h.2.2.2.2.2⟩
theorem sizePl:(Tryz.prog.info? 43).map (·.size)=some 8:=by kernel_rfl
theorem ldPl{W:World}{b:Nat} (r:Pl) (h:Blk W b 43 (plA r)):(Instr.loadAt 43 (.pointer (some ⟨b,0,none⟩))).run Tryz.prog W=.ok (plV r) W :=
 run_load_part h [] (plC r) [] (by simp[plA]) rfl Tryz.underlying43 rfl sizePl
noncomputable def sigsK (l:List Nat) (bits:Nat) (t:Bytes) (k:Nat):List Bytes:=((l.take k).zipIdx.filter fun p=>bits.testBit p.2).map fun p=>keyB (p.1:Int) (hashE t)
noncomputable def sigsP (l:List Nat) (bits:Nat) (t:Bytes):List Bytes:=sigsK l bits t 16
noncomputable def sigP (p:Pl) (h:Hd):Bytes:=sumB (sigsP p.now p.bits (textP h p.slot))
theorem sigsK_succ(l:List Nat) (n:Nat) (t:Bytes) (k:Nat) (h:k<l.length):sigsK l n t (k+1)=sigsK l n t k ++ if n / 2 ^ k % 2=1 then [keyB ((l.getD k 0:Nat):Int) (hashE t)] else []:=by
 unfold sigsK
 have e:l.take (k+1)=l.take k ++ [l.getD k 0]:=take_snoc l 0 k h
 have ek:(l.take k).length=k:=by rw[List.length_take];omega
 rw[e,List.zipIdx_append,List.filter_append,List.map_append,ek,Nat.zero_add]
 congr 1
 have hb:n.testBit k=decide (n / 2 ^ k % 2=1):=by rw[Nat.testBit_eq_decide_div_mod_eq]
 by_cases h1:n / 2 ^ k % 2=1
 ·rw[if_pos h1]
  simp[hb,h1]
 ·rw[if_neg h1]
  simp[hb,h1]
theorem sigsK_len(l:List Nat) (n:Nat) (t:Bytes) (k:Nat):(sigsK l n t k).length≤k:=by
 unfold sigsK
 rw[List.length_map]
 refine Nat.le_trans (List.length_filter_le _ _) ?_
 rw[List.length_zipIdx,List.length_take]
 omega
theorem sigP_len(p:Pl) (h:Hd):(sigP p h).length≤1048576:=sumB_len _
theorem msig_calls(p:Pl) (h:Hd) (w:World) (hk:HasK w) (hp:PlIn w p) (hh:HdIn w h) (h16:p.now.length=16):Calls Tryz.prog 24 #[plV p,hdV h] w (Ret w (.string (bs (sigP p h)))):=by
 have n1:=fun W (hB:Below w.heap.size w W)=>hroot_calls h W (hk.on hB) (hh.below hB)
 have hs:p.slot<18446744073709551616:=hp.2.1
 have hbits:=hp.2.2.2.2.2.1
 obtain⟨m,hm⟩:∃ m,max p.slot 1=m:=⟨_,rfl⟩
 have e1:max (p.slot:Int) 1=(m:Int):=by omega
 have hm1:1≤m:=by omega
 have hm2:m<18446744073709551616:=by omega
 obtain⟨q,hq⟩:∃ q,(m - 1) / 128=q:=⟨_,rfl⟩
 have e2:((m:Int) - 1) / 128=(q:Int):=by omega
 have hq2:q<18446744073709551616:=by omega
 obtain⟨f,hf⟩:∃ f,min 2 q=f:=⟨_,rfl⟩
 have e3:min 2 (q:Int)=(f:Int):=by omega
 have hf2:f≤2:=by omega
 have ht:textP h p.slot=sha (hdRoot h ++ numP (7+f)):=by
  unfold textP forkP
  rw[hm,hq,hf]
 have n2:∀ W,Calls Tryz.prog 57 #[.int .u64 (7+(f:Int))] W (Ret W (.string (bs (numP (7+f))))):=fun W=>by
  have:=number_calls (7+f) (by omega) W
  simpa using this
 have hl1:=hdRoot_len h
 have hl2:=numP_len (7+f)
 have n3:=fun W (hB:Below w.heap.size w W)=>sum2_calls (hdRoot h) (numP (7+f)) (by omega) (by omega) W.heap.size (W.alloc (.cells #[.string (bs (hdRoot h)),.string (bs (numP (7+f)))] 9)) (hk.on (hB.alloc hB.size _)) (strs2 W _ _)
 rw[←ht]at n3
 have htl:=textP_len h p.slot
 have hsig:sigP p h=sumB (sigsK p.now p.bits (textP h p.slot) 16):=rfl
 have n4:=fun n hn W (hB:Below w.heap.size w W)=>sign_calls (n:Nat) (Int.natCast_nonneg n) hn (textP h p.slot) htl W (hk.on hB)
 obtain⟨T,hl20,hnn⟩:=hp.2.2.2.1
 generalize textP h p.slot=t at *
 generalize hdRoot h=r at *
 generalize hdE h=z at *
 generalize numP (7+f)=y at *
 generalize sigP p h=res at *
 obtain⟨b9,o9,hA9,_,_⟩:=T.at 0 (by omega)
 have K0:=Z ((Blk.new0 w 43 (plA p)).alloc (.cells (hdA h) 28))
 have K1:=Z (Blk.new1 w (.cells (plA p) 43) 28 (hdA h))
 have HB:Below w.heap.size w ((w.alloc (.cells (plA p) 43)).alloc (.cells (hdA h) 28)):=bel
 replace n1:=Z n1
 replace n2:=Z n2
 replace n3:=Z n3
 replace n4:=Z n4
 replace T:=Z T
 replace hnn:=Z hnn
 replace hsig:=Z hsig
 replace h16:=Z h16
 replace hA9:=Z hA9
 replace hp:=Z hp
 clear ht hm hq hf hk hh hl1 hl2 htl hl20
 go_enter Tryz.func24, Tryz.ntmps24
 go_upto_region 1 with fail
 obtain⟨W,hW⟩:∃ W,((w.alloc (.cells (plA p) 43)).alloc (.cells (hdA h) 28))=W:=⟨_,rfl⟩
 rw[hW]at K0 K1 HB ⊢
 clear hW
 obtain⟨g,hg⟩:∃ g,w.heap.size=g:=⟨_,rfl⟩
 have hgl:w.heap.size≤g:=by omega
 rw[hg]at K0 K1 ⊢
 clear hg
 (obtain⟨k0,f0,l0,m0⟩:=rl_ K0;obtain⟨k1,f1,l1,m1⟩:=rl_ K1)
 go_wp2_with(with_reducible refine wlr (ldHd _ K1.out) rfl ?_)
 clear K1 k1 f1 l1 m1
 refine(n1.out _ HB).mono ?_
 rintro e w1 ⟨rfl,hN9⟩
 have N0:=Z (K0.out.below hN9)
 have HBn:Below w.heap.size w w1:=Below.on hN9 HB
 clear hN9 HB K0 k0 f0 l0 m0
 have K0:=N0;have HB:=HBn
 clear N0 HBn
 (obtain⟨k0,f0,l0,m0⟩:=rl_ K0)
 go_wp2_with fail
 refine(n2.out _).mono ?_
 rintro e w2 ⟨rfl,hN9⟩
 have N0:=Z (K0.out.below hN9)
 have HBn:Below w.heap.size w w2:=Below.on hN9 HB
 clear hN9 HB K0 k0 f0 l0 m0
 have K0:=N0;have HB:=HBn
 clear N0 HBn
 (obtain⟨k0,f0,l0,m0⟩:=rl_ K0)
 go_wp2_with fail
 refine(n3.out _ HB).mono ?_
 rintro e w3 ⟨rfl,hN9⟩
 replace hN9:=Below.on hN9 ((Below.refl w2.heap.size w2).alloc (Nat.le_refl _) _)
 have N0:=Z (K0.out.below hN9)
 have HBn:Below w.heap.size w w3:=Below.on hN9 HB
 clear hN9 HB K0 k0 f0 l0 m0
 have K0:=N0;have HB:=HBn
 clear N0 HBn
 (obtain⟨k0,f0,l0,m0⟩:=rl_ K0)
 clear n1 n2 n3 e1 e2 e3 hm1 hm2 hq2 hf2
 go_upto_region 5 with fail
 have hA10:=hA9.out
 go_wp2_with fail
 go_loopw [9,36] (fun u i wr=>∃ (v:Value) (k:Nat),v=u∧k≤16∧i=.int .i64 k∧LRow (g+1) wr v (sigsK p.now p.bits t k)∧Blk wr g 43 (plA p)∧Below w.heap.size w wr∧g+1≤wr.heap.size) (fun _ i _=>(16 - intOf i).toNat)
 case atStart=>exact⟨_,0,rfl,by omega,rfl,World.ownsRow_nil _ _ _ _,K0.out,HB,by omega⟩
 case round =>
  obtain⟨v,k,rfl,hk6,rfl,OWN,hK0,HBr,hzr⟩:=hrel
  clear K0 k0 f0 l0 m0 HB
  have K0:=Z hK0
  have HB:=HBr
  clear hK0 HBr
  have hqk:=sigsK_len p.now p.bits t k
  by_cases hlt:k<16
  ·have hkl:k<p.now.length:=by rw[h16.out];exact hlt
   obtain⟨b8,o8,hb8,hb2,hcell⟩:=(T.out.below HB).at k hkl
   rw[hA9.out]at hb8
   injection hb8 with hb8
   injection hb8 with h8 h8b
   subst h8 h8b
   have hst:=sigsK_succ p.now p.bits t k hkl
   have hmm:p.bits / 2 ^ k<18446744073709551616:=Nat.lt_of_le_of_lt (Nat.div_le_self _ _) hbits
   have hsh:(p.bits:Int) / 2 ^ k=((p.bits / 2 ^ k:Nat):Int):=by simp
   have hand:=and_one _ hmm
   have hnk:=hnn.out (p.now.getD k 0) (by rw[List.getD,List.getElem?_eq_getElem hkl];exact List.getElem_mem hkl)
   have n5:=Z (n4.out (p.now.getD k 0) (by omega) wr HB)
   generalize p.now.getD k 0=y9 at *
   generalize p.bits / 2 ^ k=m9 at *
   obtain⟨q9,hq9⟩:∃ q,sigsK p.now p.bits t k=q:=⟨_,rfl⟩
   rw[hq9]at OWN hst hqk
   replace hq9:=Z hq9
   replace OWN:=Z OWN
   have hlt9:(k:Int)<(p.now.length:Int):=by omega
   unfold keyV at n5
   (obtain⟨k0,f0,l0,m0⟩:=rl_ K0)
   rcases Nat.mod_two_eq_zero_or_one m9 with hm9|hm9
   ·rw[hm9]at hand hst
    rw[if_neg (by omega),List.append_nil]at hst
    replace hst:=Z hst
    clear hm9
    go_wp2_with fail
    go_roundw
    case rel=>exact⟨_,k+1,rfl,by omega,by go_num,by rw[hst.out];exact OWN.out,K0.out,HB,hzr⟩
    case measure=>simp[intOf];omega
   ·rw[hm9]at hand hst
    rw[if_pos rfl]at hst
    replace hst:=Z hst
    clear hm9
    go_wp2_with fail
    refine n5.out.mono ?_
    rintro e w4 ⟨rfl,hN9⟩
    have R3:=Z (OWN.out.keep (grow_none hN9) (fun j hj e=>by cases e))
    have hz4:g+1≤w4.heap.size:=Nat.le_trans hzr hN9.size
    clear OWN hzr n5
    have N0:=Z (K0.out.below hN9)
    have HBn:Below w.heap.size w w4:=Below.on hN9 HB
    clear hN9 HB K0 k0 f0 l0 m0
    have K0:=N0;have HB:=HBn
    clear N0 HBn
    (obtain⟨k0,f0,l0,m0⟩:=rl_ K0)
    go_wp2_with(at_builtin;refine wpList_append_txt rfl _ _ rfl (g+1) v q9 rfl (R3.out.on _) (keyB (y9:Int) (hashE t)) ⟨w4.heap.size,0,none⟩ rfl (new_cell _ _ _) (by omega) (by simp;omega) ?_)
    intro v4 w5 OWN4 hg4 hx4
    have hlr:∀ j,v.ownBlock=some j→g+1≤j∧j<w4.heap.size:=fun j hj=>R3.out.lt j hj
    have hgW:w4.grownBy w5 v.ownBlock:=⟨hg4.os,hg4.tape,hg4.output,Nat.le_trans (by simp) hg4.size,fun j hj hr=>(hg4.block j (by simp;omega) hr).trans (Below.heap_alloc _ _ j hj)⟩
    have N0:=K0.out.grown hgW (fun e=>by have:=(hlr _ e.symm).1;omega)
    have HBn:Below w.heap.size w w5:=HB.grown hgW HB.size fun j e=>by have:=(hlr j e).1;omega
    have hz5:g+1≤w5.heap.size:=Nat.le_trans hz4 hgW.size
    replace OWN4:=Z OWN4
    clear hg4 hx4 K0 k0 f0 l0 m0 HB hgW hlr
    go_wp2_with fail
    go_roundw
    case rel=>exact⟨_,k+1,rfl,by omega,by go_num,by rw[hst.out];exact OWN4.out,N0,HBn,hz5⟩
    case measure=>simp[intOf];omega
  ·obtain rfl:k=16:=by omega
   have hle:¬ ((16:Nat):Int)<(p.now.length:Int):=by rw[h16.out];omega
   have h16i:(p.now.length:Int)=16:=by rw[h16.out];rfl
   obtain⟨A5,c5,rfl,T5⟩:=OWN.txts
   have n6:=sSum_calls A5 c5 (sigsK p.now p.bits t 16) (by omega)
   rw[sumV_eq,←hsig.out]at n6
   have n7:=Z (n6 wr T5)
   clear n6
   (obtain⟨k0,f0,l0,m0⟩:=rl_ K0)
   go_wp2_with fail
   refine n7.out.mono ?_
   rintro e w4 ⟨rfl,hN9⟩
   go_wp2_with fail
   go_ret
   exact⟨rfl,Below.on hN9 HB⟩
end
section
open BigFrame Go.RowKit Go.Phx Go.Shelf
def Rw.bare(r:Rw):Rw:=⟨none,0,r.l⟩
def Lt.bare(l:Lt):Lt:=⟨l.b,l.x,l.br.bare⟩
def Cm.bare(c:Cm):Cm:=⟨c.ks.bare,c.sum⟩
def Up.bare(u:Up):Up:=⟨u.seen.bare,u.next.bare,u.nb.bare,u.fin.bare,u.fb.bare,u.bits,u.sig,u.slot⟩
def ltS(slot:Nat) (a r st:Bytes):Lt:=⟨hdS slot a r st,exS slot a r,⟨none,0,branchP (leavesS slot a r) 2 2⟩⟩
theorem LtOf.bare{w:World}{slot:Nat}{a r st:Bytes}{lt:Lt} (h:LtOf w slot a r st lt) (ho:lightOk a r st=true):lt.bare=ltS slot a r st:=by
 obtain⟨h1,h2,h3⟩:=h.2.1 ho
 unfold Lt.bare Rw.bare ltS
 rw[h1,h2,h3]
theorem CmOf.bare{w:World}{l:List Nat}{c:Cm} (h:CmOf w l c) (hg:goodS l=true):c.bare=cmS l:=by
 obtain⟨h1,h2⟩:=h.2.1 hg
 unfold Cm.bare Rw.bare cmS
 rw[h1,h2]
theorem cmRoot_bare{c d:Cm} (h:c.bare=d.bare):cmRoot c=cmRoot d:=by
 have h1:c.bare.ks.l=d.bare.ks.l:=by rw[h]
 have h2:c.bare.sum=d.bare.sum:=by rw[h]
 exact cmRoot_same h1 h2
def accOk(p:Pl):Bool:=decide (p.acc.length=32) && decide (p.rcp.length=32)
def okC(p:Pl):Bool:=decide (p.fin=0) || accOk p
def okN(p:Pl):Bool:=decide (p.next.length=0) || goodS p.next
def goodU(p:Pl):Bool:=goodS p.now && (okN p && accOk p)
def updE(p:Pl):Int:=if goodU p then 0 else 2
def finS(p:Pl):Lt:=if p.fin=0 then Lt.zero else ltS p.fin p.acc p.rcp zero32
def l3S(p:Pl):Bytes:=if p.fin=0 then zero32 else hdRoot (hdS p.fin p.acc p.rcp zero32)
noncomputable def nxS (p:Pl):Cm:=if p.next.length=0 then Cm.zero else cmS p.next
noncomputable def l5S (p:Pl):Bytes:=if p.next.length=0 then zero32 else cmRoot (cmS p.next)
noncomputable def leavesU (p:Pl):List Bytes:=[zero32,zero32,zero32,l3S p,cmRoot (cmS p.now),l5S p]
noncomputable def stateU (p:Pl):Bytes:=rootP (leavesU p) 3
noncomputable def fbS (p:Pl):List Bytes:=if p.fin=0 then [] else branchP (leavesU p) 3 3
noncomputable def nbS (p:Pl):List Bytes:=if p.next.length=0 then [] else branchP (leavesU p) 5 3
noncomputable def upS (p:Pl):Up:=⟨ltS p.seen p.acc p.rcp (stateU p),nxS p,⟨none,0,nbS p⟩,finS p,⟨none,0,fbS p⟩,p.bits,sigP p (hdS p.seen p.acc p.rcp (stateU p)),p.slot⟩
def UpOf(w:World) (p:Pl) (u:Up):Prop:=UpIn w u∧(goodU p=true→u.bare=upS p)∧(goodU p=false→u=Up.zero)
theorem z32_len:zero32.length=32:=rfl
theorem hdS_ok{slot:Nat}{a r st:Bytes} (h:lightOk a r st=true):hdOk (hdS slot a r st)=true:=by
 unfold lightOk at h
 simp only[Bool.and_eq_true,decide_eq_true_eq]at h
 refine decide_eq_true ⟨by decide,by decide,by show 5≤256;decide,by show 5≤8;decide,fun x hx=>?_⟩
 simp only[hdL,hdS,List.mem_cons,List.not_mem_nil,or_false]at hx
 rcases hx with rfl|rfl|rfl|rfl|rfl
 ·exact numP_len _
 ·exact numP_len _
 ·exact numP_len _
 ·exact h.2.2
 ·exact rootP_len (leaves_right slot a r h.1 h.2.1).2.2.2.2
theorem hdS_root{slot:Nat}{a r st:Bytes} (h:lightOk a r st=true):(hdRoot (hdS slot a r st)).length=32:=by
 have hk:=hdS_ok (slot:=slot) h
 unfold hdRoot
 rw[if_pos hk]
 exact rootP_len (of_decide_eq_true hk).2.2.2.2
theorem leavesU_right{p:Pl} (hn:goodS p.now=true) (hc:okC p=true) (hx:okN p=true):RightP (leavesU p) 3:=⟨by decide,by decide,by show 6≤256;decide,by show 6≤8;decide,fun x hm=>by
 simp only[leavesU,List.mem_cons,List.not_mem_nil,or_false]at hm
 rcases hm with rfl|rfl|rfl|rfl|rfl|rfl
 ·rfl
 ·rfl
 ·rfl
 ·unfold l3S
  by_cases h0:p.fin=0
  ·rw[if_pos h0];rfl
  ·rw[if_neg h0]
   refine hdS_root ?_
   rw[lightOk_st z32_len]
   unfold okC at hc
   rw[decide_eq_false h0,Bool.false_or]at hc
   exact hc
 ·exact cmRoot_cmS hn
 ·unfold l5S
  by_cases h0:p.next.length=0
  ·rw[if_pos h0];rfl
  ·rw[if_neg h0]
   refine cmRoot_cmS ?_
   unfold okN at hx
   rw[decide_eq_false h0,Bool.false_or]at hx
   exact hx⟩
theorem stateU_len{p:Pl} (hn:goodS p.now=true) (hc:okC p=true) (hx:okN p=true):(stateU p).length=32:=rootP_len (leavesU_right hn hc hx).2.2.2.2
def Kp(base:Nat) (W W':World):Prop:=W.heap.size≤W'.heap.size∧∀ j,base≤j→j<W.heap.size→W'.heap[j]?=W.heap[j]?
theorem Kp.row{base g:Nat}{W:World}{t:TypeId}{cs:Array Value} (h:g<base):Kp base W (setRow W g t cs):=⟨by rw[size_row];exact Nat.le_refl _,fun j hj _=>World.putObj_heap_other (by omega)⟩
theorem Kp.cell{base g i:Nat}{W:World}{v:Value} (h:g<base):Kp base W (W.setCell ⟨g,i,none⟩ v):=⟨by simp,fun j hj _=>Below.heap_setCell _ _ _ j (by simp;omega)⟩
theorem RwIn.kp{base:Nat}{W W':World}{r:Rw} (h:RwIn W r) (hn:RwNew base r) (hk:Kp base W W'):RwIn W' r:=⟨fun h0=>by
 obtain⟨b,o,ha,hb,hc⟩:=h.1 h0
 have hbb:=hn b o ha
 exact⟨b,o,ha,Nat.lt_of_lt_of_le hb hk.1,fun i x hx=>(World.cell?_of_block (hk.2 b hbb hb)).trans (hc i x hx)⟩,h.2⟩
theorem CmIn.kp{base:Nat}{W W':World}{c:Cm} (h:CmIn W c) (hn:RwNew base c.ks) (hk:Kp base W W'):CmIn W' c:=⟨h.1.kp hn hk,h.2⟩
theorem LtIn.kp{base:Nat}{W W':World}{l:Lt} (h:LtIn W l) (hn:RwNew base l.br) (hk:Kp base W W'):LtIn W' l:=⟨h.1,h.2.1,h.2.2.kp hn hk⟩
def UpNew(base:Nat) (u:Up):Prop:=RwNew base u.seen.br∧RwNew base u.next.ks∧RwNew base u.nb∧RwNew base u.fin.br∧RwNew base u.fb
theorem UpIn.kp{base:Nat}{W W':World}{u:Up} (h:UpIn W u) (hn:UpNew base u) (hk:Kp base W W'):UpIn W' u :=
 ⟨h.1.kp hn.1 hk,h.2.1.kp hn.2.1 hk,h.2.2.1.kp hn.2.2.1 hk,h.2.2.2.1.kp hn.2.2.2.1 hk,h.2.2.2.2.1.kp hn.2.2.2.2 hk,h.2.2.2.2.2⟩
theorem txts_blk{W:World}{g:Nat}{L:List Bytes} (h:Blk W g 9 (L.map tv).toArray):Txts W (some ⟨g,0,none⟩) L :=
 Strs.mk h.lt fun i x hx=>by
  rw[Nat.zero_add,h.cell]
  rw[List.getElem?_map]at hx
  cases e:L[i]? with
  | none=>rw[e]at hx;cases hx
  | some y =>
   rw[e]at hx
   injection hx with hx
   subst hx
   simp[e,tv]
theorem build_up(bits slot:Nat) (w:World):(Instr.build 37 #[(5,.int .u64 bits),(7,.int .u64 slot)]).run Tryz.prog w=.ok (upV ⟨Lt.zero,Cm.zero,Rw.zero,Lt.zero,Rw.zero,bits,[],slot⟩) w :=
 run_build w _ _ (upA ⟨Lt.zero,Cm.zero,Rw.zero,Lt.zero,Rw.zero,bits,[],slot⟩) U
abbrev lvA(x y z:Bytes):Array Value := #[.string (bs zero32),.string (bs zero32),.string (bs zero32),.string (bs x),.string (bs y),.string (bs z)]
def MuW(w:World) (g g3 g4:Nat) (p:Pl) (u:Up) (x y z:Bytes) (wx:World):Prop :=
 Blk wx g 43 (plA p)∧Blk wx (g+1) 37 (upA Up.zero)∧Blk wx g3 37 (upA u)∧Blk wx g4 9 (lvA x y z)∧UpIn wx u∧UpNew (g4+1) u∧Below w.heap.size w wx
def l16:List Nat:=[1,2,3,4,5,6,7,8,9,10,11,12,13,14,15,16]
theorem good16:goodS l16=true:=by decide +kernel
theorem exS_ok{slot:Nat}{a r:Bytes} (h1:a.length=32) (h2:r.length=32):exOk (exS slot a r)=true :=
 decide_eq_true ⟨by decide,by decide,by show 3≤256;decide,by show 3≤4;decide,fun x hx=>by
  simp only[exL,exS,List.mem_cons,List.not_mem_nil,or_false]at hx
  rcases hx with rfl|rfl|rfl
  ·exact h1
  ·exact h2
  ·exact numP_len _⟩
theorem check_branch{L:List Bytes}{i d:Nat} (hL:∀ x∈L,x.length=32) (hd:d≤64) (hi:i<2 ^ d):CheckP (nodeP L 0 i) (branchP L i d) i (rootP L d):=by
 have hb:=branchP_len L i d
 refine⟨by rw[hb];exact hd,node_len L hL 0 i,rootP_len hL,by rw[hb];exact hi,branchP_all L hL i d,?_⟩
 rw[way_back,rootP_node,Nat.div_eq_of_lt hi]
theorem under_branch{L:List Bytes}{i:Nat} (hL:∀ x∈L,x.length=32) (hi:i<8):underP (nodeP L 0 i) (branchP L i 3) i (rootP L 3)=true:=by
 unfold underP
 rw[decide_eq_true (branchP_len L i 3),decide_eq_true (check_branch hL (by decide) hi)]
 rfl
theorem holds_made{l:Lt}{slot:Nat}{a r st:Bytes} (ho:lightOk a r st=true) (h1:l.b=hdS slot a r st) (h2:l.x=exS slot a r) (h3:l.br.l=branchP (leavesS slot a r) 2 2):holdsP l=true:=by
 have ho2:=ho
 unfold lightOk at ho2
 simp only[Bool.and_eq_true,decide_eq_true_eq]at ho2
 have hR:=(leaves_right slot a r ho2.1 ho2.2.1).2.2.2.2
 have hC:=check_branch (i:=2) (d:=2) hR (by decide) (by decide)
 unfold holdsP
 rw[h1,h2,h3,hdS_ok ho,exS_ok ho2.1 ho2.2.1,decide_eq_true (branchP_len _ _ _)]
 rw[show(hdS slot a r st).body=rootP (leavesS slot a r) 2 from rfl]
 rw[show nodeP (leavesS slot a r) 0 2=exRoot (exS slot a r) from rfl]at hC
 rw[decide_eq_true hC]
 rfl
theorem begin_made{b:Bt}{slot:Nat}{l:List Nat}{a r:Bytes} (hg:goodB l a r=true) (h1:b.now.ks.l=keysS l) (h2:b.now.sum=sumB (keysS l)) (h3:b.lt.b=hdS slot a r (bootSt l)) (h4:b.lt.x=exS slot a r)
  (h5:b.lt.br.l=branchP (leavesS slot a r) 2 2) (h6:b.br.l=branchP (leavesB l) 4 3):beginE (bootR slot l a r) b=0:=by
 have hs:goodS l=true:=by
  unfold goodB at hg
  rw[Bool.and_eq_true]at hg
  exact hg.1
 have ho:lightOk a r (bootSt l)=true:=by rw[←goodB_eq hs];exact hg
 have hc:cmOk b.now=true:=by rw[cmOk_same (d:=cmS l) h1 h2];exact cmOk_cmS hs
 have hr:cmRoot b.now=cmRoot (cmS l):=cmRoot_same h1 h2
 have hu:=under_branch (i:=4) (leavesB_right hs).2.2.2.2 (by decide)
 unfold beginE bootR
 rw[hc,holds_made ho h3 h4 h5,show(true && true)=true from rfl,if_pos rfl,if_pos hg,h3,if_pos rfl,hr,h6]
 rw[show(hdS slot a r (bootSt l)).state=rootP (leavesB l) 3 from rfl,show cmRoot (cmS l)=nodeP (leavesB l) 0 4 from rfl,hu,if_pos rfl]
theorem good_parts{p:Pl} (h:goodU p=true):goodS p.now=true∧okN p=true∧accOk p=true∧okC p=true:=by
 unfold goodU at h
 simp only[Bool.and_eq_true]at h
 refine⟨h.1,h.2.1,h.2.2,?_⟩
 unfold okC
 rw[h.2.2,Bool.or_true]
theorem up_lightOk{p:Pl} (h:goodU p=true):lightOk p.acc p.rcp (stateU p)=true:=by
 obtain⟨h1,h2,h3,h4⟩:=good_parts h
 rw[lightOk_st (stateU_len h1 h4 h2)]
 exact h3
end
end Go.Proofs.YtobgigcdpiikaaaGreatDoor
