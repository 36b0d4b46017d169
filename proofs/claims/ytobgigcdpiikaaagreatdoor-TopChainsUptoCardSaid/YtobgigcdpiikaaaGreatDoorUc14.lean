/- Plain laws and walks, each by its own conditions. -/
import Derived.Test.YtobgigcdpiikaaaGreatDoorUc9
import Derived.RegionTactic
import Derived.ChangeAlike
import Derived.Deep.AppendLies
import Derived.Maps.OwnIn
import Derived.Deep.RegionHeld3
set_option linter.unusedSimpArgs false
set_option linter.unusedVariables false
set_option maxRecDepth 100000
set_option maxHeartbeats 16000000
namespace Go.Proofs.YtobgigcdpiikaaaGreatDoor
section
open BigFrame Go.RowKit Go.Phx Go.Shelf
attribute [local go_sem] Oper.semAt_some
theorem nought_calls(w:World):Calls Tryz.prog 95 #[] w (Ret w (.string (bs zero32))):=by
 go_enter Tryz.func95, Tryz.ntmps95
 go_wp2_with fail
 refine(repeat0 32 (by omega) _).mono ?_
 rintro e w1 ⟨rfl,h1⟩
 go_wp2_with fail
 go_ret
 exact⟨rfl,h1⟩
theorem isChunk_calls(l:List UInt8) (hl:l.length≤9223372036854775807) (w:World):Calls Tryz.prog 136 #[.string (bs l)] w (Ret w (.bool (decide (l.length=32)))):=by
 by_cases h:l.length=32
 ·have e:((l.length:Int)=32):=by omega
  go_enter Tryz.func136, Tryz.ntmps136
  go_wp2_with fail
  go_ret
  exact⟨by simp[h],Below.refl _ _⟩
 ·have e:¬ ((l.length:Int)=32):=by omega
  go_enter Tryz.func136, Tryz.ntmps136
  go_wp2_with fail
  go_ret
  exact⟨by simp[h,e],Below.refl _ _⟩
theorem at_calls(A:Option Addr) (c:Nat) (L:List Bytes) (z:Bytes) (i:Nat) (hi:i≤9223372036854775807) (hL:L.length≤9223372036854775807) (w:World) (hs:Txts w A L) :
  Calls Tryz.prog 98 #[.slice A L.length c,.string (bs z),.int .i64 i] w (Ret w (.string (bs (atP L z i)))):=by
 go_enter Tryz.func98, Tryz.ntmps98
 by_cases h:i<L.length
 ·have e:atP L z i=L.getD i []:=by
   unfold atP
   rw[List.getD,List.getD,List.getElem?_eq_getElem h]
   rfl
  rw[e]
  clear e
  obtain⟨b,o,rfl,hb,hc⟩:=hs.at i h
  generalize L.getD i []=x at *
  clear hs
  go_wp2_with fail
  go_ret
  exact⟨rfl,Below.refl _ _⟩
 ·have e:atP L z i=z:=by
   unfold atP
   rw[List.getD,List.getElem?_eq_none (by omega)]
   rfl
  rw[e]
  clear e
  go_wp2_with fail
  go_ret
  exact⟨rfl,Below.refl _ _⟩
theorem same_calls(A B:Option Addr) (c d:Nat) (L M:List Bytes) (hL:L.length≤9223372036854775807) (hM:M.length≤9223372036854775807) (w:World) (h1:Txts w A L) (h2:Txts w B M) :
  Calls Tryz.prog 82 #[.slice A L.length c,.slice B M.length d] w (Ret w (.bool (decide (L=M)))):=by
 by_cases hlen:L.length=M.length
 ·have e1:(L.length:Int)=M.length:=by omega
  go_enter Tryz.func82, Tryz.ntmps82
  go_wp2_with fail
  go_loopw [5] (fun i wr=>Below w.heap.size w wr∧∃ k:Nat,k≤L.length∧i=.int .i64 k∧L.take k=M.take k) (fun i _=>(L.length - intOf i).toNat)
  case atStart=>exact⟨Below.refl _ _,0,by omega,rfl,rfl⟩
  case round =>
   obtain⟨HB,k,hk,rfl,heq⟩:=hrel
   replace h1:Txts wr A L:=Strs.below h1 HB
   replace h2:Txts wr B M:=Strs.below h2 HB
   by_cases hlt:k<L.length
   ·obtain⟨b1,o1,rfl,hb1,hc1⟩:=h1.at k hlt
    obtain⟨b2,o2,rfl,hb2,hc2⟩:=h2.at k (by omega)
    have hst:L.getD k []=M.getD k []→L.take (k+1)=M.take (k+1):=fun h=>by
     rw[List.take_add_one (l:=L),List.take_add_one (l:=M),heq,List.getElem?_eq_getElem hlt,List.getElem?_eq_getElem (show k<M.length by omega)]
     rw[List.getD,List.getD,List.getElem?_eq_getElem hlt,List.getElem?_eq_getElem (show k<M.length by omega)]at h
     have h':L[k]=M[k]:=by simpa using h
     rw[h']
    have hno:L.getD k []≠M.getD k []→L≠M:=fun h e=>h (by rw[e])
    generalize L.getD k []=x at *
    generalize M.getD k []=y at *
    clear h1 h2 heq
    by_cases hxy:x=y
    ·subst hxy
     have HS:=Z (hst rfl)
     clear hst hno
     go_wp2_with fail
     go_region
     go_wp2_with fail
     go_roundw
     case rel=>exact⟨HB.drew,k+1,by omega,by go_num,HS.out⟩
     case measure=>simp[intOf];omega
    ·have HN:=Z (hno hxy)
     have hne:(x == y)=false:=by simpa using hxy
     clear hst hno
     go_wp2_with fail
     go_region
     go_wp2_with fail
     go_ret
     exact⟨by simp[HN.out],HB.drew⟩
   ·obtain rfl:k=L.length:=by omega
    rw[List.take_of_length_le (Nat.le_refl _),List.take_of_length_le (by omega)]at heq
    subst heq
    go_wp2_with fail
    go_ret
    exact⟨by simp,HB⟩
 ·have e1:¬ (L.length:Int)=M.length:=by omega
  have hne:L≠M:=fun h=>hlen (by rw[h])
  go_enter Tryz.func82, Tryz.ntmps82
  go_wp2_with fail
  go_ret
  exact⟨by simp[hne],Below.refl _ _⟩
def halfI(E:List Bytes) (i:Nat):List Bytes:=(pairUp E).take i ++ E.drop i
theorem halfI_len(E:List Bytes) (i:Nat) (h:i≤E.length / 2):(halfI E i).length=E.length:=by
 unfold halfI
 rw[List.length_append,List.length_take,pairUp_len,List.length_drop]
 omega
theorem halfI_at(E:List Bytes) (i j:Nat) (h:i≤j) (hi:i≤E.length / 2):(halfI E i).getD j []=E.getD j []:=by
 unfold halfI
 rw[List.getD,List.getElem?_append_right (by rw[List.length_take,pairUp_len];omega),List.length_take,pairUp_len,List.getElem?_drop,Nat.min_eq_left hi,show i+(j - i)=j by omega]
 rfl
theorem halfI_set(E:List Bytes) (i:Nat) (h:i<E.length / 2):(halfI E i).set i (sha (E.getD (2*i) [] ++ E.getD (2*i+1) []))=halfI E (i+1):=by
 rw[←pairUp_at E i (by omega)]
 unfold halfI
 have hp:=pairUp_len E
 rw[List.set_append_right _ _ (by rw[List.length_take];omega),List.length_take,Nat.min_eq_left (by omega),Nat.sub_self,List.take_add_one,List.getElem?_eq_getElem (by omega),List.getD,List.getElem?_eq_getElem (by omega),List.append_assoc]
 rw[show E.drop i=E[i]'(by omega) :: E.drop (i+1) from List.drop_eq_getElem_cons (by omega)]
 simp only[jD,Option.toList_some,List.cons_append,List.nil_append,Option.getD_some]
theorem halfI_end(E:List Bytes):(halfI E (E.length / 2)).take (E.length / 2)=pairUp E:=by
 unfold halfI
 have hp:=pairUp_len E
 rw[List.take_append_of_le_length (by rw[List.length_take];omega),List.take_of_length_le (by rw[List.length_take];omega),List.take_of_length_le (by omega)]
theorem LRow.cut{base:Nat}{w:World}{g cap:Nat}{L:List Bytes} (h:LRow base w (.slice (some ⟨g,0,none⟩) L.length cap) L) (m:Nat) (hm:m≤L.length):LRow base w (.slice (some ⟨g,0,none⟩) m cap) (L.take m):=by
 have hml:(L.take m).length=m:=by rw[List.length_take];omega
 unfold LRow at h ⊢
 rw[hml]
 rcases h.2 with ⟨h',_⟩|⟨g',cap',cur,h',hb,hg,hnc,hcm,hcs,htake⟩
 ·simp at h'
 ·simp only[Value.slice.injEq,Option.some.injEq,Addr.mk.injEq,and_true,true_and]at h'
  obtain⟨rfl,rfl⟩:=h'
  refine⟨by rw[List.length_map,hml,Nat.mul_one],.inr ⟨g,cap,cur,rfl,hb,hg,by omega,hcm,hcs,?_⟩⟩
  rw[Nat.mul_one]at htake ⊢
  rw[List.map_take,←htake,List.take_take,Nat.min_eq_left hm]
def LevAb(base:Nat) (v:Value) (A:World) (v':Value) (B:World):Prop :=
 A.grownBy B v.ownBlock∧(v'.ownBlock=v.ownBlock∨∀ j,v'.ownBlock=some j→A.heap.size≤j)∧∀ j,v.ownBlock=some j→base≤j∧∃ cs t fz,A.heap[j]?=some (.cells cs t fz)
def LevKp(b:Nat) (v:Value) (A B:World):Prop :=
 A.heap.size≤B.heap.size∧(HasK A→HasK B)∧∀ j,j=b∨j=b+1∨v.ownBlock=some j→∀ cs t fz,A.heap[j]?=some (.cells cs t fz)→B.heap[j]?=some (.cells cs t fz)
def LevAt(base:Nat) (c:List Bytes) (d:Nat) (pre:List (Value×Bytes)) (y:Value×Bytes) (v:Value) (W:World):Prop :=
 y.1=v∧y.2=zeroH pre.length∧pre.length≤d∧LRow base W v (levP c pre.length)
theorem LevKp.trans{b:Nat}{v:Value}{A B C:World} (h:LevKp b v A B) (k:LevKp b v B C):LevKp b v A C :=
 ⟨Nat.le_trans h.1 k.1,fun x=>k.2.1 (h.2.1 x),fun j hj cs t fz hx=>k.2.2 j hj cs t fz (h.2.2 j hj cs t fz hx)⟩
theorem LevAb.refl{base:Nat}{v:Value}{A:World} (h:∀ j,v.ownBlock=some j→base≤j∧∃ cs t fz,A.heap[j]?=some (.cells cs t fz)):LevAb base v A v A :=
 ⟨⟨rfl,rfl,rfl,Nat.le_refl _,fun _ _ _=>rfl⟩,.inl rfl,h⟩
theorem LevAb.trans{base:Nat}{v v' v'':Value}{A B C:World} (h:LevAb base v A v' B) (k:LevAb base v' B v'' C):LevAb base v A v'' C:=by
 refine⟨⟨k.1.os.trans h.1.os,k.1.tape.trans h.1.tape,k.1.output.trans h.1.output,Nat.le_trans h.1.size k.1.size,fun j hj hr=>(k.1.block j (Nat.lt_of_lt_of_le hj h.1.size) (fun e=>?_)).trans (h.1.block j hj hr)⟩,?_,h.2.2⟩
 ·rcases h.2.1 with e1|e1
  ·exact hr (e.trans e1)
  ·have:=e1 j e.symm
   omega
 ·rcases k.2.1 with e2|e2
  ·rcases h.2.1 with e1|e1
   ·exact .inl (e2.trans e1)
   ·exact .inr fun j hj=>e1 j (e2 ▸ hj)
  ·exact .inr fun j hj=>by have:=e2 j hj;have:=h.1.size;omega
theorem LevAb.below{base:Nat}{v v':Value}{A B C:World} (h:LevAb base v A v' B) (hB:Below B.heap.size B C):LevAb base v A v' C:=by
 refine⟨⟨hB.os.trans h.1.os,hB.tape.trans h.1.tape,hB.output.trans h.1.output,Nat.le_trans h.1.size hB.size,fun j hj hr=>(hB.block j (Nat.lt_of_lt_of_le hj h.1.size)).trans (h.1.block j hj hr)⟩,h.2.1,h.2.2⟩
theorem LRow.below{base:Nat}{w w':World}{v:Value}{L:List Bytes} (h:LRow base w v L) (hB:Below w.heap.size w w'):LRow base w' v L :=
 h.kept ⟨hB.os,hB.tape,hB.output,hB.size,fun j hj _=>hB.block j hj⟩ (row:=none) (by cases v.ownBlock with|none=>exact .inl rfl|some g=>exact .inr (by simp))
theorem index_txt(g n cap:Nat) (i:Int) (j:Nat) (h:i=(j:Int)) (hj:j<n) (W:World):(Instr.indexAt 31 (.slice (some ⟨g,0,none⟩) n cap) (.int .i64 i)).run Tryz.prog W=.ok (.pointer (some ⟨g,j,none⟩)) W:=by
 subst h
 have hu:Tryz.prog.underlying 31 = some (.slice (Tryz.prog.elem 31)):=by kernel_rfl
 rw[run_indexAt_slice W _ _ _ _ _ _ hu]
 have he:Tryz.prog.elem 31 = 9 := by kernel_rfl
 obtain⟨i0,hi,hz0,hz1,hz2⟩:=info_parts (show(Tryz.prog.info? 9).map (fun i=>(i.zero,i.size,i.bytes))=some (some (.string ByteArray.empty),1,16) by kernel_rfl)
 rw[if_pos ⟨by omega,by omega⟩,he]
 simp[sizeOf,typeInfo,hi,hz1,Result.andThen,Sem.run_pure]
 rw[Addr.add_mid,Nat.zero_add]
theorem pair_all:∀ (l:List Bytes) (x:Bytes),x∈Phx.pairUp l→x.length=32
 | [],x,h=>by simp[Phx.pairUp]at h
 | [_],x,h=>by simp[Phx.pairUp]at h
 | a :: b :: r,x,h=>by
  simp only[Phx.pairUp,List.mem_cons]at h
  rcases h with rfl|h
  ·exact sha_len _
  ·exact pair_all r x h
theorem lev_all(c:List Bytes) (hc:∀ x∈c,x.length=32):∀ k,∀ x∈levP c k,x.length=32
 | 0=>hc
 | k+1=>pair_all _
theorem getD_le(L:List Bytes) (h:∀ x∈L,x.length=32) (i:Nat):(L.getD i []).length≤32:=by
 rw[List.getD]
 cases hi:L[i]? with
 | none=>simp
 | some x=>rw[Option.getD_some,h x (List.mem_of_getElem? hi)];exact Nat.le_refl _
theorem clone_calls(A:Option Addr) (cc:Nat) (L:List Bytes) (hL:L.length≤1000000) (w:World) (hs:Txts w A L) :
  Calls Tryz.prog 138 #[.slice A L.length cc] w (fun e w'=>∃ v,e=.returned v∧LRow w.heap.size w' v L∧Below w.heap.size w w'):=by
 cases A with
 | none =>
  have h0:L=[]:=by
   cases L with
   | nil=>rfl
   | cons x r=>obtain⟨b,o,h,_⟩:=hs.at 0 (by simp);cases h
  subst h0
  refine(Tryz.slices_Clone_string_nil 0 cc w).mono ?_
  rintro e w' ⟨rfl,rfl⟩
  exact⟨_,rfl,World.ownsRow_nil _ _ _ _,Below.refl _ _⟩
 | some a =>
  by_cases h0:L=[]
  ·subst h0
   refine(Tryz.slices_Clone_string_zero a cc w).mono ?_
   rintro e w' ⟨v,rfl,h1,_,h2⟩
   exact⟨_,rfl,h1,h2⟩
  ·have hlp:0<L.length:=by cases L with|nil=>exact absurd rfl h0|cons=>simp
   obtain⟨b,o,ha,hb,hc⟩:=hs (by simpa using hlp)
   injection ha with ha
   subst ha
   refine(Tryz.slices_Clone_string b o L.length cc (L.map bs) w (by simp) (by omega) fun j hj=>hc j _ ?_).mono ?_
   ·rw[List.getD,List.getElem?_eq_getElem hj];rfl
   ·rintro e w' ⟨v,rfl,h1,_,h2⟩
    rw[List.take_of_length_le (by simp),List.map_map]at h1
    exact⟨_,rfl,h1,h2⟩
theorem LRow.form1{base:Nat}{w:World}{v:Value}{L:List Bytes} (h:LRow base w v L) (hn:L≠[]):∃ g cap,v=.slice (some ⟨g,0,none⟩) L.length cap∧base≤g∧L.length≤cap:=by
 rcases h.2 with ⟨rfl,h0⟩|⟨g,cap,cur,rfl,hb,_,hc,_⟩
 ·exact absurd (List.eq_nil_of_length_eq_zero h0) hn
 ·exact⟨g,cap,rfl,hb,hc⟩
theorem LRow.kp{b base:Nat}{A B:World}{v:Value}{L:List Bytes} (h:LRow base A v L) (hk:LevKp b v A B):LRow base B v L:=by
 refine⟨h.1,?_⟩
 rcases h.2 with h0|⟨g,cap,cur,rfl,hb,hg,r⟩
 ·exact .inl h0
 ·exact .inr ⟨g,cap,cur,rfl,hb,hk.2.2 g (.inr (.inr rfl)) _ _ _ hg,r⟩
theorem evenUp_all(z:Bytes) (L:List Bytes) (hz:z.length=32) (h:∀ x∈L,x.length=32):∀ x∈evenUp z L,x.length=32:=by
 unfold evenUp
 split
 ·intro x hx
  rcases List.mem_append.1 hx with hx|hx
  ·exact h x hx
  ·rw[List.mem_singleton.1 hx];exact hz
 ·exact h
theorem sum2_calls(x y:Bytes) (hx:x.length≤1000) (hy:y.length≤1000) (g:Nat) (W:World) (hk:HasK W) (hs:Strs W (some ⟨g,0,none⟩) [bs x,bs y]) :
  Calls Tryz.prog 55 #[.slice (some ⟨g,0,none⟩) 2 2] W (Ret W (.string (bs (sha (x ++ y))))):=by
 have e:cat [bs x,bs y]=x ++ y:=by simp[cat,bs]
 have:=sum_calls (some ⟨g,0,none⟩) 2 [bs x,bs y] W hk hs (by simp) (by simp) (by rw[e,List.length_append];omega)
 rw[e]at this
 exact this
theorem lev_store{base g cap n:Nat}{L:List Bytes}{v0:Value}{W w w5:World} (h:LRow base w (.slice (some ⟨g,0,none⟩) n cap) L) (hn:L.length=n) (hA:LevAb base v0 W (.slice (some ⟨g,0,none⟩) n cap) w) (hk:HasK w) (hkb : 0 < base)
  (hB:Below w.heap.size w w5) (j:Nat) (s:Bytes) :
  LRow base (w5.setCell ⟨g,j,none⟩ (.string (bs s))) (.slice (some ⟨g,0,none⟩) n cap) (L.set j s)∧HasK (w5.setCell ⟨g,j,none⟩ (.string (bs s)))∧LevAb base v0 W (.slice (some ⟨g,0,none⟩) n cap) (w5.setCell ⟨g,j,none⟩ (.string (bs s))):=by
 subst hn
 have h5:=h.below hB
 have hb:=(LRow.cells h5 g rfl).1
 obtain⟨r1,r2⟩:=World.ownsRow.stored h5 j (tv s)
 refine⟨?_,(hk.on hB).grown r2 (by intro e;injection e with e;omega),(hA.below hB).trans ⟨r2,.inl rfl,LRow.cells h5⟩⟩
 unfold LRow
 rw[List.length_set,List.map_set]
 exact r1
theorem lev_cut{base g cap n m:Nat}{L:List Bytes}{v0:Value}{W w w5:World} (h:LRow base w (.slice (some ⟨g,0,none⟩) n cap) L) (hn:L.length=n) (hm:m≤n) (hA:LevAb base v0 W (.slice (some ⟨g,0,none⟩) n cap) w) (hB:Below w.heap.size w w5) :
  LRow base w5 (.slice (some ⟨g,0,none⟩) m cap) (L.take m)∧LevAb base v0 W (.slice (some ⟨g,0,none⟩) m cap) w5:=by
 subst hn
 exact⟨LRow.cut (h.below hB) m hm,(hA.below hB).1,(hA.below hB).2.1,(hA.below hB).2.2⟩
theorem levels1_in(n:Nat) (hn:1≤n) (lp b base:Nat) (A0:Option Addr) (c0:Nat) (c:List Bytes) (d:Nat) (hcl:c.length≤1024) (hall:∀ x∈c,x.length=32) (hd:d≤10)
  (J Jx:List (Value×Bytes)→Value→World→Prop)
  (hJ:∀ s x A y B,J s x A→LevAb base x A y B→J s y B) (hJx:∀ s x A y B,Jx s x A→LevAb base x A y B→Jx s y B)
  (hY:∀ pre y x A,J pre x A→LevAt base c d pre y x A→YieldAt Fence.wide (n - 1) Tryz.prog lp #[y.1,.string (bs y.2)] A fun e B =>
   (e=.returned (.bool true)∧J (pre ++ [y]) x B∧LevKp b x A B)∨(e=.returned (.bool false)∧Jx (pre ++ [y]) x B))
  (w:World) (hkb : 0 < base) (hbase:base≤w.heap.size) (hk:HasK w) (hcs:Txts w A0 c) (hK0:Blk w b 31 #[.slice A0 c.length c0]) (hK1:Blk w (b+1) 3 #[.int .i64 d]) (h0:J [] (.slice none 0 0) w) :
  CallsIn Fence.wide n Tryz.prog 137 #[.func (.yield lp) #[] #[],.pointer (some ⟨b,0,none⟩),.pointer (some ⟨b+1,0,none⟩)] w fun e B=>(∃ v,e=.returned v) ∧
   ((∃ xs x,xs.length=d+1∧J xs x B)∨(∃ pre x,True∧Jx pre x B)):=by
 have hwf:∀ f,Fence.wide.fn f:=fun _=>trivial
 refine callsIn_of_wp Tryz.func137 rfl trivial ?_ rfl
 simp only[Tryz.ntmps137, List.size_toArray,List.length_cons,List.length_nil,Nat.reduceAdd,Nat.reduceSub,Array.replicate_succ,Array.replicate_zero,List.push_toArray,List.append_toArray,List.nil_append,List.cons_append]
 have K0:=Z hK0
 have K1:=Z hK1
 clear hK0 hK1
 (obtain⟨k0,f0,l0,m0⟩:=rl_ K0;obtain⟨k1,f1,l1,m1⟩:=rl_ K1)
 gi_wp2_with fail
 refine(callsIn_wide.2 (clone_calls A0 c0 c (by omega) w hcs)).mono ?_
 rintro e w1 ⟨v,rfl,R1,hB1⟩
 gi_wp2_with fail
 refine(callsIn_wide.2 (nought_calls _)).mono ?_
 rintro e w2 ⟨rfl,hB2⟩
 have R2:=LRow.mono (R1.below hB2) hbase
 have hB:=hB1.trans (hB2.mono hB1.size)
 have K2:=Z (K0.out.below hB)
 have K3:=Z (K1.out.below hB)
 clear k0 f0 l0 m0 k1 f1 l1 m1 K0 K1
 (obtain⟨k2,f2,l2,m2⟩:=rl_ K2;obtain⟨k3,f3,l3,m3⟩:=rl_ K3)
 have HK2:=hk.on hB
 have hj0:=hJ _ _ _ v w2 h0 ⟨⟨hB.os,hB.tape,hB.output,hB.size,fun j hj _=>hB.block j hj⟩,.inr fun j hj=>(R1.lt j hj).1,fun j hj=>by cases hj⟩
 gi_wp2_with fail
 clear k2 f2 l2 m2 k3 f3 l3 m3 K2 K3 hk hcs R1 hB1 hB2 hB h0
 gi_loopw [4,5,11] (fun l z i wr=>∃ (k:Nat) (pre:List (Value×Bytes)),k≤d∧i=.int .i64 k∧z=.string (bs (zeroH k))∧pre.length=k∧LRow base wr l (levP c k)∧HasK wr∧J pre l wr) (fun _ _ i _=>(d - intOf i).toNat)
 case atStart=>exact⟨0,[],by omega,rfl,rfl,rfl,R2,HK2,hj0⟩
 case round =>
  clear R2 HK2 hj0
  obtain⟨k,pre,hk,rfl,rfl,hpre,R,HK,hj⟩:=hrel
  obtain⟨A,cap,rfl,hT⟩:=R.txts
  obtain⟨fn,tmps,assign,body,hy,hR⟩:=hY pre (_,zeroH k) _ wr hj ⟨rfl,by rw[hpre],by omega,by rw[hpre];exact R⟩
  have hle:=levP_le c k
  have hal:=lev_all c hall k
  have hzl:=zeroH_len k
  by_cases hlt:k<d
  ·gi_wp2_with fail
   refine hR.mono ?_
   rintro e W3 (⟨rfl,hJ3,hk3⟩|⟨rfl,hJx3⟩)
   ·have R3:=R.kp hk3
    have HK3:=hk3.2.1 HK
    clear R HK hk3 hj hy hR hT hY
    have hE:=Z (show levP c (k+1)=Phx.pairUp (evenUp (zeroH k) (levP c k)) from rfl)
    have hZ:=Z (show zeroH (k+1)=sha (zeroH k ++ zeroH k) from rfl)
    generalize levP c k=L at *
    generalize zeroH k=z at *
    have hEl:=Z (evenUp_len z L)
    have hEa:=evenUp_all z L hzl hal
    obtain⟨E,hEE⟩:∃ E,evenUp z L=E:=⟨_,rfl⟩
    rw[hEE]at hE hEl hEa
    have HEE:=Z hEE
    clear hEE hal
    obtain⟨pre2,hpre2⟩:∃ p,pre ++ [(Value.slice A L.length cap,z)]=p:=⟨_,rfl⟩
    have hpl:pre2.length=k+1:=by rw[←hpre2];simp[hpre]
    rw[hpre2]at hJ3
    clear hpre2 hpre
    by_cases hodd:L.length % 2=1
    ·have ho:((L.length:Int) % 2)=1:=by omega
     obtain⟨g,cap1,hv,hgb,hgc⟩:=R3.form1 (by intro h;rw[h]at hodd;simp at hodd)
     simp only[Value.slice.injEq,true_and]at hv
     obtain⟨rfl,rfl⟩:=hv
     have hEx:=Z (show E=L ++ [z] by rw[←HEE.out];unfold evenUp;rw[if_pos hodd])
     obtain⟨i0,hi,hz0,hz1,hz2⟩:=info_parts infoStr
     gi_wp2_with(gi_at_builtin;go_loud (refine wpListIn_append_own_at _ rfl _ _ 31 rfl base 9 i0 (.string ByteArray.empty) 1 16 Tryz.underlying31 hi hz0 hz1 hz2 rfl (by decide) _ _ _ rfl (World.ownsRow.alloc R3 _) ⟨W3.heap.size,0,none⟩ 1 1 [.string (bs z)] rfl rfl (news1 _ _ _) (by simp[Value.oneCell']) (by unfold maxLen;omega) (by omega) (by simp;have:=R3.lt g rfl;omega) ?_))
     intro v4 W4 hown hgrow _ hat
     have R4:LRow base W4 v4 E:=by
      rw[hEx.out]
      unfold LRow
      rw[List.length_append,List.map_append]
      exact hown
     have AB:LevAb base (.slice (some ⟨g,0,none⟩) L.length cap) W3 v4 W4 :=
      ⟨⟨hgrow.os,hgrow.tape,hgrow.output,Nat.le_trans (by simp) hgrow.size,fun j hj hr=>(hgrow.block j (by simp;omega) hr).trans (Below.heap_alloc _ _ j hj)⟩,hat.imp id fun h j hj=>by rw[h]at hj;injection hj with hj;have:=size_alloc W3 (.cells #[.string (bs z)] 9);omega,LRow.cells R3⟩
     have HK4:HasK W4:=(HK3.alloc _).grown hgrow (by intro e;simp[Value.ownBlock]at e;omega)
     clear hown hgrow hat R3 hEx HEE hodd ho hz0 hz1 hz2 hi hgb hgc
     obtain⟨A4,cap4,rfl,hT4⟩:=R4.txts
     clear hT4
     have hJ4:∀ v' W',LevAb base (.slice A4 E.length cap4) W4 v' W'→J pre2 v' W':=fun v' W' h=>hJ pre2 _ W3 v' W' hJ3 (AB.trans h)
     clear hJ3 AB
     obtain⟨m,hm⟩:∃ m,E.length=2*m:=⟨_,hEl.out⟩
     obtain⟨n2,hn2⟩:∃ n2,E.length=n2:=⟨_,rfl⟩
     have hm2:m≤1024:=by have:=hEl.out;omega
     have hnm:n2=2*m:=by omega
     have hq:(n2:Int) / 2=(m:Int):=by omega
     have hq3:((n2:Int) % 2 == 1)=false:=by
      have h0:(n2:Int) % 2=0:=by omega
      rw[h0]
      rfl
     have hq4:¬ ((n2:Int) % 2=1):=by omega
     have hq2:IntKind.i64.wrap (m:Int)=(m:Int):=IntWalk.i64_in _ (by omega)
     rw[hn2]at R4 hJ4 ⊢
     replace hnm:=Z hnm
     replace hn2:=Z hn2
     clear hEl hm
     gi_wp2_with fail
     have AB0:=LevAb.refl (LRow.cells R4)
     have hh0:halfI E 0=E:=by unfold halfI;simp
     gi_loopw [29] (fun i wr=>∃ j:Nat,j≤m∧i=.int .i64 j∧LRow base wr (.slice A4 n2 cap4) (halfI E j)∧HasK wr∧LevAb base (.slice A4 n2 cap4) W4 (.slice A4 n2 cap4) wr) (fun i _=>(m - intOf i).toNat)
     case atStart=>exact⟨0,by omega,rfl,by rw[hh0];exact R4,HK4,AB0⟩
     case round =>
      clear R4 HK4 AB0 hh0
      obtain⟨j,hj,rfl,R5,HK5,AB5⟩:=hrel
      have hnm':=hnm.out
      have hn':=hn2.out
      by_cases hjm:j<m
      ·have hhl:(halfI E j).length=n2:=by rw[halfI_len E j (by omega),hn']
       obtain⟨g5,cap5,hv5,hgb5,hgc5⟩:=R5.form1 (by intro h;rw[h]at hhl;simp at hhl;omega)
       simp only[Value.slice.injEq]at hv5
       obtain⟨rfl,hnh,rfl⟩:=hv5
       clear hnh
       have c1:=R5.at (2*j) (by omega)
       have c2:=R5.at (2*j+1) (by omega)
       rw[halfI_at E j _ (by omega) (by omega)]at c1 c2
       have hs:=Z (halfI_set E j (by omega))
       have hx:=getD_le E hEa (2*j)
       have hy:=getD_le E hEa (2*j+1)
       have hlt5:=R5.lt g5 rfl
       have c3:=R5.at j (by omega)
       generalize(halfI E j).getD j []=x3 at c3
       have hfr:=World.ownsRow.frozenAt (hhl ▸ R5) j
       generalize E.getD (2*j) []=x at *
       generalize E.getD (2*j+1) []=y at *
       have hgw:g5<wr.heap.size:=hlt5.2
       replace R5:=Z R5
       replace AB5:=Z AB5
       replace HK5:=Z HK5
       replace hE:=Z hE
       replace hZ:=Z hZ
       replace hJ4:=Z hJ4
       have HHL:=Z hhl
       have hgb6:=hlt5.1
       obtain⟨a,ha⟩:∃ a,2*j=a:=⟨_,rfl⟩
       rw[ha]at c1 c2
       have p1:IntKind.i64.wrap (2*(j:Int))=(a:Int):=by rw[IntWalk.i64_in _ (by omega)];omega
       have p2:IntKind.i64.wrap ((a:Int)+1)=(a:Int)+1:=IntWalk.i64_in _ (by omega)
       have p3:(0:Int)≤(a:Int):=by omega
       have p12:IntKind.i64.wrap (a:Int)=(a:Int):=IntWalk.i64_in _ (by omega)
       have p13:¬ (a:Int)<0:=by omega
       have p14:(a:Int)<(n2:Int):=by omega
       have p15:a+1<n2:=by omega
       have p4:a<n2:=by omega
       have p5:(0:Int)≤(a:Int)+1:=by omega
       have p6:(a:Int)+1<(n2:Int):=by omega
       have p8:j<n2:=by omega
       have p9:2*(j:Int)=(a:Int):=by omega
       have p10:((a:Int)+1).toNat=a+1:=by omega
       have hi1:=fun W=>index_txt g5 n2 cap4 (a:Int) a rfl p4 W
       have hi2:=fun W=>index_txt g5 n2 cap4 ((a:Int)+1) (a+1) (by omega) p15 W
       have hi3:=fun W=>index_txt g5 n2 cap4 (j:Int) j rfl p8 W
       replace ha:=Z ha
       clear hhl hlt5 hgb5 hgc5 hEa hzl hle hall hJ hJx hnm' hn'
       gi_wp2_with fail
       refine wpIn_wide.2 ?_
       go_region_with (go_at_call 55; refine(sum2_calls x y (by omega) (by omega) _ _ (by exact HK5.out.on bel) (by exact strs2 wr _ _)).mono ?_;rintro e w5 ⟨rfl,h5⟩;have B5:Below wr.heap.size wr w5:=Below.on h5 bel;have q5:=fun i=>B5.cell (p:=⟨g5,i,none⟩) hgw;have f5:=fun i=>B5.frozen (p:=⟨g5,i,none⟩) hgw)
       all_goals
        obtain⟨r1,r2,r3⟩:=lev_store R5.out HHL.out AB5.out HK5.out hkb B5 j (sha (x ++ y))
        rw[hs.out]at r1
        clear q5 f5 c1 c2 c3 hfr hi1 hi2 hi3 p1 p2 p3 p4 p5 p6 p8 p9 p10 p12 p13 p14 p15
        replace r1:=Z r1
        replace r3:=Z r3
        gi_wp2_with fail
        go_roundw
        case rel=>exact⟨j+1,by omega,by go_num,r1.out,r2,r3.out⟩
        case measure=>simp[intOf];omega
      ·obtain rfl:j=m:=by omega
       have hhl:(halfI E j).length=n2:=by rw[halfI_len E j (by omega),hn']
       have hend:=halfI_end E
       rw[hn',show n2 / 2=j by omega]at hend
       rcases R5.2 with ⟨hv5,_⟩|⟨g5,cap5,cur,hv5,hgb5,_,hgc5,_⟩
       ·simp only[Value.slice.injEq]at hv5
        obtain⟨rfl,hz0,rfl⟩:=hv5
        have hj0:j=0:=by omega
        subst hj0
        subst hz0
        have hend:Phx.pairUp E=[]:=by rw[←hend];rfl
        have hL1:levP c (k+1)=[]:=by rw[hE.out,hend]
        replace hL1:=Z hL1
        replace AB5:=Z AB5
        replace HK5:=Z HK5
        replace hJ4:=Z hJ4
        clear R5 hhl hend hEa hle hall hJ hJx hnm' hn' hn2 hnm hE
        gi_wp2_with fail
        refine wpIn_wide.2 ?_
        go_region_with (go_at_call 55; refine(sum2_calls z z (by omega) (by omega) _ _ (by exact HK5.out.on bel) (by exact strs2 wr _ _)).mono ?_;rintro e w5 ⟨rfl,h5⟩;have B5:Below wr.heap.size wr w5:=Below.on h5 bel)
        all_goals
         have r1:LRow base w5 (.slice none 0 0) (levP c (k+1)):=by rw[hL1.out];exact World.ownsRow_nil _ _ _ _
         have r2:=HK5.out.on B5
         have r3:=hJ4.out _ _ (AB5.out.below B5)
         gi_wp2_with fail
         go_roundw
         case rel=>exact⟨k+1,pre2,by omega,by go_num,by rw[hZ.out],hpl,r1,r2,r3⟩
         case measure=>simp[intOf];omega
       ·simp only[Value.slice.injEq]at hv5
        obtain⟨rfl,hnh,rfl⟩:=hv5
        clear hnh
        have p1:(0:Int)≤(j:Int):=by omega
        have p2:(j:Int)≤(n2:Int):=by omega
        have p3:j≤n2:=by omega
        have p4:(j:Int)≤(cap4:Int):=by omega
        have p5:j≤cap4:=by omega
        replace R5:=Z R5
        replace AB5:=Z AB5
        replace HK5:=Z HK5
        replace hJ4:=Z hJ4
        have HHL:=Z hhl
        replace hend:=Z hend
        clear hhl hgc5 hgb5 hEa hle hall hJ hJx hnm' hn'
        gi_wp2_with fail
        refine wpIn_wide.2 ?_
        go_region_with (go_at_call 55; refine(sum2_calls z z (by omega) (by omega) _ _ (by exact HK5.out.on bel) (by exact strs2 wr _ _)).mono ?_;rintro e w5 ⟨rfl,h5⟩;have B5:Below wr.heap.size wr w5:=Below.on h5 bel)
        all_goals
         obtain⟨r1,r3⟩:=lev_cut R5.out HHL.out p3 AB5.out B5
         rw[hend.out,←hE.out]at r1
         have r2:=HK5.out.on B5
         replace r3:=hJ4.out _ _ r3
         replace r1:=Z r1
         gi_wp2_with fail
         go_roundw
         case rel=>exact⟨k+1,pre2,by omega,by go_num,by rw[hZ.out],hpl,r1.out,r2,r3⟩
         case measure=>simp[intOf];omega
    ·have ho:¬ ((L.length:Int) % 2)=1:=by omega
     have hEx:E=L:=by rw[←HEE.out];unfold evenUp;rw[if_neg hodd]
     subst hEx
     have R4:=R3
     have HK4:=HK3
     have hJ4:∀ v' W',LevAb base (.slice A E.length cap) W3 v' W'→J pre2 v' W':=fun v' W' h=>hJ pre2 _ W3 v' W' hJ3 h
     clear hJ3 R3 HK3 HEE hodd ho
     obtain⟨m,hm⟩:∃ m,E.length=2*m:=⟨_,hEl.out⟩
     obtain⟨n2,hn2⟩:∃ n2,E.length=n2:=⟨_,rfl⟩
     have hm2:m≤1024:=by have:=hEl.out;omega
     have hnm:n2=2*m:=by omega
     have hq:(n2:Int) / 2=(m:Int):=by omega
     have hq3:((n2:Int) % 2 == 1)=false:=by
      have h0:(n2:Int) % 2=0:=by omega
      rw[h0]
      rfl
     have hq4:¬ ((n2:Int) % 2=1):=by omega
     have hq2:IntKind.i64.wrap (m:Int)=(m:Int):=IntWalk.i64_in _ (by omega)
     rw[hn2]at R4 hJ4 ⊢
     replace hnm:=Z hnm
     replace hn2:=Z hn2
     clear hEl hm
     gi_wp2_with fail
     have AB0:=LevAb.refl (LRow.cells R4)
     have hh0:halfI E 0=E:=by unfold halfI;simp
     gi_loopw [29] (fun i wr=>∃ j:Nat,j≤m∧i=.int .i64 j∧LRow base wr (.slice A n2 cap) (halfI E j)∧HasK wr∧LevAb base (.slice A n2 cap) W3 (.slice A n2 cap) wr) (fun i _=>(m - intOf i).toNat)
     case atStart=>exact⟨0,by omega,rfl,by rw[hh0];exact R4,HK4,AB0⟩
     case round =>
      clear R4 HK4 AB0 hh0
      obtain⟨j,hj,rfl,R5,HK5,AB5⟩:=hrel
      have hnm':=hnm.out
      have hn':=hn2.out
      by_cases hjm:j<m
      ·have hhl:(halfI E j).length=n2:=by rw[halfI_len E j (by omega),hn']
       obtain⟨g5,cap5,hv5,hgb5,hgc5⟩:=R5.form1 (by intro h;rw[h]at hhl;simp at hhl;omega)
       simp only[Value.slice.injEq]at hv5
       obtain⟨rfl,hnh,rfl⟩:=hv5
       clear hnh
       have c1:=R5.at (2*j) (by omega)
       have c2:=R5.at (2*j+1) (by omega)
       rw[halfI_at E j _ (by omega) (by omega)]at c1 c2
       have hs:=Z (halfI_set E j (by omega))
       have hx:=getD_le E hEa (2*j)
       have hy:=getD_le E hEa (2*j+1)
       have hlt5:=R5.lt g5 rfl
       have c3:=R5.at j (by omega)
       generalize(halfI E j).getD j []=x3 at c3
       have hfr:=World.ownsRow.frozenAt (hhl ▸ R5) j
       generalize E.getD (2*j) []=x at *
       generalize E.getD (2*j+1) []=y at *
       have hgw:g5<wr.heap.size:=hlt5.2
       replace R5:=Z R5
       replace AB5:=Z AB5
       replace HK5:=Z HK5
       replace hE:=Z hE
       replace hZ:=Z hZ
       replace hJ4:=Z hJ4
       have HHL:=Z hhl
       have hgb6:=hlt5.1
       obtain⟨a,ha⟩:∃ a,2*j=a:=⟨_,rfl⟩
       rw[ha]at c1 c2
       have p1:IntKind.i64.wrap (2*(j:Int))=(a:Int):=by rw[IntWalk.i64_in _ (by omega)];omega
       have p2:IntKind.i64.wrap ((a:Int)+1)=(a:Int)+1:=IntWalk.i64_in _ (by omega)
       have p3:(0:Int)≤(a:Int):=by omega
       have p12:IntKind.i64.wrap (a:Int)=(a:Int):=IntWalk.i64_in _ (by omega)
       have p13:¬ (a:Int)<0:=by omega
       have p14:(a:Int)<(n2:Int):=by omega
       have p15:a+1<n2:=by omega
       have p4:a<n2:=by omega
       have p5:(0:Int)≤(a:Int)+1:=by omega
       have p6:(a:Int)+1<(n2:Int):=by omega
       have p8:j<n2:=by omega
       have p9:2*(j:Int)=(a:Int):=by omega
       have p10:((a:Int)+1).toNat=a+1:=by omega
       have hi1:=fun W=>index_txt g5 n2 cap (a:Int) a rfl p4 W
       have hi2:=fun W=>index_txt g5 n2 cap ((a:Int)+1) (a+1) (by omega) p15 W
       have hi3:=fun W=>index_txt g5 n2 cap (j:Int) j rfl p8 W
       replace ha:=Z ha
       clear hhl hlt5 hgb5 hgc5 hEa hzl hle hall hJ hJx hnm' hn'
       gi_wp2_with fail
       refine wpIn_wide.2 ?_
       go_region_with (go_at_call 55; refine(sum2_calls x y (by omega) (by omega) _ _ (by exact HK5.out.on bel) (by exact strs2 wr _ _)).mono ?_;rintro e w5 ⟨rfl,h5⟩;have B5:Below wr.heap.size wr w5:=Below.on h5 bel;have q5:=fun i=>B5.cell (p:=⟨g5,i,none⟩) hgw;have f5:=fun i=>B5.frozen (p:=⟨g5,i,none⟩) hgw)
       all_goals
        obtain⟨r1,r2,r3⟩:=lev_store R5.out HHL.out AB5.out HK5.out hkb B5 j (sha (x ++ y))
        rw[hs.out]at r1
        clear q5 f5 c1 c2 c3 hfr hi1 hi2 hi3 p1 p2 p3 p4 p5 p6 p8 p9 p10 p12 p13 p14 p15
        replace r1:=Z r1
        replace r3:=Z r3
        gi_wp2_with fail
        go_roundw
        case rel=>exact⟨j+1,by omega,by go_num,r1.out,r2,r3.out⟩
        case measure=>simp[intOf];omega
      ·obtain rfl:j=m:=by omega
       have hhl:(halfI E j).length=n2:=by rw[halfI_len E j (by omega),hn']
       have hend:=halfI_end E
       rw[hn',show n2 / 2=j by omega]at hend
       rcases R5.2 with ⟨hv5,_⟩|⟨g5,cap5,cur,hv5,hgb5,_,hgc5,_⟩
       ·simp only[Value.slice.injEq]at hv5
        obtain⟨rfl,hz0,rfl⟩:=hv5
        have hj0:j=0:=by omega
        subst hj0
        subst hz0
        have hend:Phx.pairUp E=[]:=by rw[←hend];rfl
        have hL1:levP c (k+1)=[]:=by rw[hE.out,hend]
        replace hL1:=Z hL1
        replace AB5:=Z AB5
        replace HK5:=Z HK5
        replace hJ4:=Z hJ4
        clear R5 hhl hend hEa hle hall hJ hJx hnm' hn' hn2 hnm hE
        gi_wp2_with fail
        refine wpIn_wide.2 ?_
        go_region_with (go_at_call 55; refine(sum2_calls z z (by omega) (by omega) _ _ (by exact HK5.out.on bel) (by exact strs2 wr _ _)).mono ?_;rintro e w5 ⟨rfl,h5⟩;have B5:Below wr.heap.size wr w5:=Below.on h5 bel)
        all_goals
         have r1:LRow base w5 (.slice none 0 0) (levP c (k+1)):=by rw[hL1.out];exact World.ownsRow_nil _ _ _ _
         have r2:=HK5.out.on B5
         have r3:=hJ4.out _ _ (AB5.out.below B5)
         gi_wp2_with fail
         go_roundw
         case rel=>exact⟨k+1,pre2,by omega,by go_num,by rw[hZ.out],hpl,r1,r2,r3⟩
         case measure=>simp[intOf];omega
       ·simp only[Value.slice.injEq]at hv5
        obtain⟨rfl,hnh,rfl⟩:=hv5
        clear hnh
        have p1:(0:Int)≤(j:Int):=by omega
        have p2:(j:Int)≤(n2:Int):=by omega
        have p3:j≤n2:=by omega
        have p4:(j:Int)≤(cap:Int):=by omega
        have p5:j≤cap:=by omega
        replace R5:=Z R5
        replace AB5:=Z AB5
        replace HK5:=Z HK5
        replace hJ4:=Z hJ4
        have HHL:=Z hhl
        replace hend:=Z hend
        clear hhl hgc5 hgb5 hEa hle hall hJ hJx hnm' hn'
        gi_wp2_with fail
        refine wpIn_wide.2 ?_
        go_region_with (go_at_call 55; refine(sum2_calls z z (by omega) (by omega) _ _ (by exact HK5.out.on bel) (by exact strs2 wr _ _)).mono ?_;rintro e w5 ⟨rfl,h5⟩;have B5:Below wr.heap.size wr w5:=Below.on h5 bel)
        all_goals
         obtain⟨r1,r3⟩:=lev_cut R5.out HHL.out p3 AB5.out B5
         rw[hend.out,←hE.out]at r1
         have r2:=HK5.out.on B5
         replace r3:=hJ4.out _ _ r3
         replace r1:=Z r1
         gi_wp2_with fail
         go_roundw
         case rel=>exact⟨k+1,pre2,by omega,by go_num,by rw[hZ.out],hpl,r1.out,r2,r3⟩
         case measure=>simp[intOf];omega
   ·gi_wp2
    refine bodyPost_ret (results_none rfl _ _ _) rfl ?_
    exact⟨⟨_,rfl⟩,.inr ⟨_,_,trivial,hJx3⟩⟩
  ·obtain rfl:k=d:=by omega
   gi_wp2_with fail
   refine hR.mono ?_
   rintro e W3 (⟨rfl,hJ3,hk3⟩|⟨rfl,hJx3⟩)
   ·gi_wp2
    go_end0
    exact⟨⟨_,rfl⟩,.inl ⟨_,_,by simp[hpre],hJ3⟩⟩
   ·gi_wp2
    go_end0
    exact⟨⟨_,rfl⟩,.inr ⟨_,_,trivial,hJx3⟩⟩
theorem levels_stops(n:Nat) (hn:1≤n) (b:Nat) (A0:Option Addr) (c0:Nat) (c:List Bytes) (d:Nat) (hcl:c.length≤1024) (hall:∀ x∈c,x.length=32) (hd:d≤10) (w:World) (hk:HasK w)
  (hcs:Txts w A0 c) (hK0:Blk w b 31 #[.slice A0 c.length c0]) (hK1:Blk w (b+1) 3 #[.int .i64 d]) :
  SeqSt Fence.wide n Tryz.prog 137 #[.pointer (some ⟨b,0,none⟩),.pointer (some ⟨b+1,0,none⟩)] (fun y:Value×Bytes => #[y.1,.string (bs y.2)]) (LevAt w.heap.size c d) (LevKp b) (LevAb w.heap.size) (.slice none 0 0) (fun xs=>xs.length=d+1) (fun _=>True) w :=
 fun lp J Jx W hW hJ hJx hY h0=>levels1_in n hn lp b w.heap.size A0 c0 c d hcl hall hd J Jx hJ hJx hY W hk.2 hW.size (hk.on hW) (Strs.below hcs hW) (hK0.below hW) (hK1.below hW) h0
theorem levels_in(n:Nat) (A:Option Addr) (m c0:Nat) (d:Int) (w:World) :
  CallsIn Fence.wide n Tryz.prog 97 #[.slice A m c0,.int .i64 d] w fun e w'=>e=.returned (.func (.func 137) #[] #[.pointer (some ⟨w.heap.size,0,none⟩),.pointer (some ⟨w.heap.size+1,0,none⟩)]) ∧
   w'=(w.alloc (.cells #[.slice A m c0] 31)).alloc (.cells #[.int .i64 d] 3):=by
 refine callsIn_of_wp Tryz.func97 rfl trivial ?_ rfl
 simp only[Tryz.ntmps97, List.size_toArray,List.length_cons,List.length_nil,Nat.reduceAdd,Nat.reduceSub,Array.replicate_succ,Array.replicate_zero,List.push_toArray,List.append_toArray,List.nil_append,List.cons_append]
 gi_wp2
 go_ret
 exact⟨rfl,rfl⟩
theorem levKp_put(w:World) (b:Nat) (hk : 0 < w.heap.size) (x:Value) (W:World) (l:Nat) (o o':Obj) (hl:w.heap.size≤l) (h1:W.heap[l]?=some o) (h2:o.isCells=false):LevKp b x W (W.putObj l o'):=by
 refine⟨by simp,fun h=>HasK.grown h (grownBy_putObj' W l o') (by intro e;injection e with e;omega),fun j hj cs t fz hx=>?_⟩
 have hne:j≠l:=by
  intro e
  subst e
  rw[h1]at hx
  injection hx with hx
  subst hx
  cases h2
 exact(World.putObj_heap_other hne).trans hx
theorem levAb_keeps(base:Nat) (x:Value) (A:World) (y:Value) (B:World) (k:Nat) (o:Obj) (h:LevAb base x A y B) (hA:A.heap[k]?=some o) (ho:o.isCells=false):B.heap[k]?=some o:=by
 refine(h.1.block k (Array.getElem?_eq_some_iff.1 hA).1 (fun e=>?_)).trans hA
 obtain⟨_,cs,t,fz,hx⟩:=h.2.2 k e.symm
 rw[hA]at hx
 injection hx with hx
 subst hx
 cases ho
theorem levAt_put(base:Nat) (c:List Bytes) (d:Nat) (pre:List (Value×Bytes)) (y:Value×Bytes) (x:Value) (W:World) (l:Nat) (o o':Obj) (h:LevAt base c d pre y x W) (h1:W.heap[l]?=some o) (h2:o.isCells=false):LevAt base c d pre y x (W.putObj l o'):=by
 obtain⟨a1,a2,a3,a4⟩:=h
 refine⟨a1,a2,a3,a4.1,?_⟩
 rcases a4.2 with h0|⟨g,cap,cur,e,hb,hg,r⟩
 ·exact .inl h0
 ·refine .inr ⟨g,cap,cur,e,hb,(World.putObj_heap_other (fun e=>?_)).trans hg,r⟩
  subst e
  rw[h1]at hg
  injection hg with hg
  subst hg
  cases h2
theorem right1_calls(l:List UInt8) (hl:l.length≤9223372036854775807) (w:World):Calls Tryz.prog 135 #[.string (bs l)] w (Ret w (.bool (!decide (l.length=32)))):=by
 go_enter Tryz.func135, Tryz.ntmps135
 go_wp2_with fail
 refine(isChunk_calls l hl _).mono ?_
 rintro e w1 ⟨rfl,h1⟩
 go_wp2_with fail
 go_ret
 exact⟨rfl,h1⟩
theorem indexFunc_calls(A:Option Addr) (c:Nat) (L:List Bytes) (hL:L.length≤9223372036854775807) (hx:∀ x∈L,x.length≤9223372036854775807) (w:World) (hs:Txts w A L) :
  Calls Tryz.prog 165 #[.slice A L.length c,.func (.func 135) #[] #[]] w (fun e w'=>(∃ i:Int,e=.returned (.int .i64 i)∧(0≤i↔∃ x∈L,x.length≠32))∧Below w.heap.size w w'):=by
 go_enter Tryz.func165, Tryz.ntmps165
 go_wp2_with fail
 go_loopw [8] (fun i wr=>∃ k:Nat,k≤L.length∧i=.int .i64 k∧(∀ x∈L.take k,x.length=32)∧Below w.heap.size w wr) (fun i _=>(L.length - intOf i).toNat)
 case atStart=>exact⟨0,by omega,rfl,by simp,Below.refl _ _⟩
 case round =>
  obtain⟨k,hk,rfl,hall,HB⟩:=hrel
  by_cases hlt:k<L.length
  ·obtain⟨b,o,rfl,hb,hc⟩:=Txts.at (Strs.below hs HB:Txts wr A L) k hlt
   have hxk:=hx _ (List.getElem_mem hlt)
   have e1:L.getD k []=L[k]:=by rw[List.getD,List.getElem?_eq_getElem hlt];rfl
   have hm:=List.getElem_mem hlt
   have ht:L.take (k+1)=L.take k ++ [L[k]]:=by rw[List.take_add_one,List.getElem?_eq_getElem hlt];rfl
   rw[e1]at hc
   generalize L[k]=x at *
   have HT:=Z ht
   have HA:=Z hall
   clear ht hall e1 hx hs
   go_wp2_with fail
   refine(right1_calls x hxk _).mono ?_
   rintro e w1 ⟨rfl,h1⟩
   have HB1:=HB.trans (h1.mono HB.size)
   by_cases h32:x.length=32
   ·go_wp2_with fail
    go_roundw
    case rel=>exact⟨k+1,by omega,by go_num,by rw[HT.out];intro y hy;rcases List.mem_append.1 hy with hy|hy;exact HA.out y hy;rw[List.mem_singleton.1 hy];exact h32,HB1⟩
    case measure=>simp[intOf];omega
   ·go_wp2_with fail
    go_ret
    exact⟨⟨_,rfl,fun _=>⟨x,hm,h32⟩,fun _=>by omega⟩,HB1⟩
  ·obtain rfl:k=L.length:=by omega
   rw[List.take_of_length_le (Nat.le_refl _)]at hall
   have HA:=Z hall
   clear hall hx hs
   go_wp2_with fail
   go_ret
   exact⟨⟨_,rfl,fun h=>by omega,fun⟨x,h1,h2⟩=>absurd (HA.out x h1) h2⟩,HB⟩
theorem containsFunc_calls(A:Option Addr) (c:Nat) (L:List Bytes) (hL:L.length≤9223372036854775807) (hx:∀ x∈L,x.length≤9223372036854775807) (w:World) (hs:Txts w A L) :
  Calls Tryz.prog 134 #[.slice A L.length c,.func (.func 135) #[] #[]] w (fun e w'=>(∃ r:Bool,e=.returned (.bool r)∧(r=true↔∃ x∈L,x.length≠32))∧Below w.heap.size w w'):=by
 go_enter Tryz.func134, Tryz.ntmps134
 go_wp2_with fail
 refine(indexFunc_calls A c L hL hx _ hs).mono ?_
 rintro e w1 ⟨⟨i,rfl,hi⟩,h1⟩
 go_wp2_with fail
 go_ret
 exact⟨⟨_,rfl,by simp⟩,h1⟩
def RightP(L:List Bytes) (d:Int):Prop:=0≤d∧d≤10∧L.length≤256∧L.length≤2 ^ d.toNat∧∀ x∈L,x.length=32
theorem right_at0(A:Option Addr) (c:Nat) (L:List Bytes) (hL:L.length≤9223372036854775807) (hx:∀ x∈L,x.length≤9223372036854775807) (w:World) (hs:Txts w A L) :
  Calls Tryz.prog 96 #[.slice A L.length c,.int .i64 0] w (fun e w'=>(∃ r:Bool,e=.returned (.bool r)∧(r=true↔RightP L 0))∧Below w.heap.size w w'):=by
 by_cases hl:L.length≤1
 ·have hl':(L.length:Int)≤1:=by omega
  have hR:=Z (show RightP L 0↔∀ x∈L,x.length=32 from⟨fun h=>h.2.2.2.2,fun h=>⟨by omega,by omega,by omega,by show L.length≤1;omega,h⟩⟩)
  go_enter Tryz.func96, Tryz.ntmps96
  go_wp2_with fail
  refine(containsFunc_calls A c L hL hx _ hs).mono ?_
  rintro e w1 ⟨⟨r,rfl,hr⟩,h1⟩
  replace hr:=Z hr
  go_wp2_with fail
  go_ret
  refine⟨⟨_,rfl,?_⟩,h1⟩
  rw[hR.out,Bool.not_eq_true',←Bool.not_eq_true,hr.out]
  constructor
  ·intro h x hx1
   exact Classical.byContradiction fun hn=>h ⟨x,hx1,hn⟩
  ·rintro h ⟨x,hx1,hn⟩
   exact hn (h x hx1)
 ·have hl':¬ (L.length:Int)≤1:=by omega
  have hR:=Z (show ¬ RightP L 0 from fun h=>by have h1:=h.2.2.1;have h2:L.length≤1:=h.2.2.2.1;omega)
  go_enter Tryz.func96, Tryz.ntmps96
  go_wp2_with fail
  go_ret
  first|exact⟨.inl ⟨rfl,hR.out⟩,Below.refl _ _⟩|exact⟨⟨false,rfl,by simp[hR.out]⟩,Below.refl _ _⟩
theorem right_at1(A:Option Addr) (c:Nat) (L:List Bytes) (hL:L.length≤9223372036854775807) (hx:∀ x∈L,x.length≤9223372036854775807) (w:World) (hs:Txts w A L) :
  Calls Tryz.prog 96 #[.slice A L.length c,.int .i64 1] w (fun e w'=>(∃ r:Bool,e=.returned (.bool r)∧(r=true↔RightP L 1))∧Below w.heap.size w w'):=by
 by_cases hl:L.length≤2
 ·have hl':(L.length:Int)≤2:=by omega
  have hR:=Z (show RightP L 1↔∀ x∈L,x.length=32 from⟨fun h=>h.2.2.2.2,fun h=>⟨by omega,by omega,by omega,by show L.length≤2;omega,h⟩⟩)
  go_enter Tryz.func96, Tryz.ntmps96
  go_wp2_with fail
  refine(containsFunc_calls A c L hL hx _ hs).mono ?_
  rintro e w1 ⟨⟨r,rfl,hr⟩,h1⟩
  replace hr:=Z hr
  go_wp2_with fail
  go_ret
  refine⟨⟨_,rfl,?_⟩,h1⟩
  rw[hR.out,Bool.not_eq_true',←Bool.not_eq_true,hr.out]
  constructor
  ·intro h x hx1
   exact Classical.byContradiction fun hn=>h ⟨x,hx1,hn⟩
  ·rintro h ⟨x,hx1,hn⟩
   exact hn (h x hx1)
 ·have hl':¬ (L.length:Int)≤2:=by omega
  have hR:=Z (show ¬ RightP L 1 from fun h=>by have h1:=h.2.2.1;have h2:L.length≤2:=h.2.2.2.1;omega)
  go_enter Tryz.func96, Tryz.ntmps96
  go_wp2_with fail
  go_ret
  first|exact⟨.inl ⟨rfl,hR.out⟩,Below.refl _ _⟩|exact⟨⟨false,rfl,by simp[hR.out]⟩,Below.refl _ _⟩
theorem right_at2(A:Option Addr) (c:Nat) (L:List Bytes) (hL:L.length≤9223372036854775807) (hx:∀ x∈L,x.length≤9223372036854775807) (w:World) (hs:Txts w A L) :
  Calls Tryz.prog 96 #[.slice A L.length c,.int .i64 2] w (fun e w'=>(∃ r:Bool,e=.returned (.bool r)∧(r=true↔RightP L 2))∧Below w.heap.size w w'):=by
 by_cases hl:L.length≤4
 ·have hl':(L.length:Int)≤4:=by omega
  have hR:=Z (show RightP L 2↔∀ x∈L,x.length=32 from⟨fun h=>h.2.2.2.2,fun h=>⟨by omega,by omega,by omega,by show L.length≤4;omega,h⟩⟩)
  go_enter Tryz.func96, Tryz.ntmps96
  go_wp2_with fail
  refine(containsFunc_calls A c L hL hx _ hs).mono ?_
  rintro e w1 ⟨⟨r,rfl,hr⟩,h1⟩
  replace hr:=Z hr
  go_wp2_with fail
  go_ret
  refine⟨⟨_,rfl,?_⟩,h1⟩
  rw[hR.out,Bool.not_eq_true',←Bool.not_eq_true,hr.out]
  constructor
  ·intro h x hx1
   exact Classical.byContradiction fun hn=>h ⟨x,hx1,hn⟩
  ·rintro h ⟨x,hx1,hn⟩
   exact hn (h x hx1)
 ·have hl':¬ (L.length:Int)≤4:=by omega
  have hR:=Z (show ¬ RightP L 2 from fun h=>by have h1:=h.2.2.1;have h2:L.length≤4:=h.2.2.2.1;omega)
  go_enter Tryz.func96, Tryz.ntmps96
  go_wp2_with fail
  go_ret
  first|exact⟨.inl ⟨rfl,hR.out⟩,Below.refl _ _⟩|exact⟨⟨false,rfl,by simp[hR.out]⟩,Below.refl _ _⟩
theorem right_at3(A:Option Addr) (c:Nat) (L:List Bytes) (hL:L.length≤9223372036854775807) (hx:∀ x∈L,x.length≤9223372036854775807) (w:World) (hs:Txts w A L) :
  Calls Tryz.prog 96 #[.slice A L.length c,.int .i64 3] w (fun e w'=>(∃ r:Bool,e=.returned (.bool r)∧(r=true↔RightP L 3))∧Below w.heap.size w w'):=by
 by_cases hl:L.length≤8
 ·have hl':(L.length:Int)≤8:=by omega
  have hR:=Z (show RightP L 3↔∀ x∈L,x.length=32 from⟨fun h=>h.2.2.2.2,fun h=>⟨by omega,by omega,by omega,by show L.length≤8;omega,h⟩⟩)
  go_enter Tryz.func96, Tryz.ntmps96
  go_wp2_with fail
  refine(containsFunc_calls A c L hL hx _ hs).mono ?_
  rintro e w1 ⟨⟨r,rfl,hr⟩,h1⟩
  replace hr:=Z hr
  go_wp2_with fail
  go_ret
  refine⟨⟨_,rfl,?_⟩,h1⟩
  rw[hR.out,Bool.not_eq_true',←Bool.not_eq_true,hr.out]
  constructor
  ·intro h x hx1
   exact Classical.byContradiction fun hn=>h ⟨x,hx1,hn⟩
  ·rintro h ⟨x,hx1,hn⟩
   exact hn (h x hx1)
 ·have hl':¬ (L.length:Int)≤8:=by omega
  have hR:=Z (show ¬ RightP L 3 from fun h=>by have h1:=h.2.2.1;have h2:L.length≤8:=h.2.2.2.1;omega)
  go_enter Tryz.func96, Tryz.ntmps96
  go_wp2_with fail
  go_ret
  first|exact⟨.inl ⟨rfl,hR.out⟩,Below.refl _ _⟩|exact⟨⟨false,rfl,by simp[hR.out]⟩,Below.refl _ _⟩
theorem right_at4(A:Option Addr) (c:Nat) (L:List Bytes) (hL:L.length≤9223372036854775807) (hx:∀ x∈L,x.length≤9223372036854775807) (w:World) (hs:Txts w A L) :
  Calls Tryz.prog 96 #[.slice A L.length c,.int .i64 4] w (fun e w'=>(∃ r:Bool,e=.returned (.bool r)∧(r=true↔RightP L 4))∧Below w.heap.size w w'):=by
 by_cases hl:L.length≤16
 ·have hl':(L.length:Int)≤16:=by omega
  have hR:=Z (show RightP L 4↔∀ x∈L,x.length=32 from⟨fun h=>h.2.2.2.2,fun h=>⟨by omega,by omega,by omega,by show L.length≤16;omega,h⟩⟩)
  go_enter Tryz.func96, Tryz.ntmps96
  go_wp2_with fail
  refine(containsFunc_calls A c L hL hx _ hs).mono ?_
  rintro e w1 ⟨⟨r,rfl,hr⟩,h1⟩
  replace hr:=Z hr
  go_wp2_with fail
  go_ret
  refine⟨⟨_,rfl,?_⟩,h1⟩
  rw[hR.out,Bool.not_eq_true',←Bool.not_eq_true,hr.out]
  constructor
  ·intro h x hx1
   exact Classical.byContradiction fun hn=>h ⟨x,hx1,hn⟩
  ·rintro h ⟨x,hx1,hn⟩
   exact hn (h x hx1)
 ·have hl':¬ (L.length:Int)≤16:=by omega
  have hR:=Z (show ¬ RightP L 4 from fun h=>by have h1:=h.2.2.1;have h2:L.length≤16:=h.2.2.2.1;omega)
  go_enter Tryz.func96, Tryz.ntmps96
  go_wp2_with fail
  go_ret
  first|exact⟨.inl ⟨rfl,hR.out⟩,Below.refl _ _⟩|exact⟨⟨false,rfl,by simp[hR.out]⟩,Below.refl _ _⟩
theorem right_at5(A:Option Addr) (c:Nat) (L:List Bytes) (hL:L.length≤9223372036854775807) (hx:∀ x∈L,x.length≤9223372036854775807) (w:World) (hs:Txts w A L) :
  Calls Tryz.prog 96 #[.slice A L.length c,.int .i64 5] w (fun e w'=>(∃ r:Bool,e=.returned (.bool r)∧(r=true↔RightP L 5))∧Below w.heap.size w w'):=by
 by_cases hl:L.length≤32
 ·have hl':(L.length:Int)≤32:=by omega
  have hR:=Z (show RightP L 5↔∀ x∈L,x.length=32 from⟨fun h=>h.2.2.2.2,fun h=>⟨by omega,by omega,by omega,by show L.length≤32;omega,h⟩⟩)
  go_enter Tryz.func96, Tryz.ntmps96
  go_wp2_with fail
  refine(containsFunc_calls A c L hL hx _ hs).mono ?_
  rintro e w1 ⟨⟨r,rfl,hr⟩,h1⟩
  replace hr:=Z hr
  go_wp2_with fail
  go_ret
  refine⟨⟨_,rfl,?_⟩,h1⟩
  rw[hR.out,Bool.not_eq_true',←Bool.not_eq_true,hr.out]
  constructor
  ·intro h x hx1
   exact Classical.byContradiction fun hn=>h ⟨x,hx1,hn⟩
  ·rintro h ⟨x,hx1,hn⟩
   exact hn (h x hx1)
 ·have hl':¬ (L.length:Int)≤32:=by omega
  have hR:=Z (show ¬ RightP L 5 from fun h=>by have h1:=h.2.2.1;have h2:L.length≤32:=h.2.2.2.1;omega)
  go_enter Tryz.func96, Tryz.ntmps96
  go_wp2_with fail
  go_ret
  first|exact⟨.inl ⟨rfl,hR.out⟩,Below.refl _ _⟩|exact⟨⟨false,rfl,by simp[hR.out]⟩,Below.refl _ _⟩
theorem right_at6(A:Option Addr) (c:Nat) (L:List Bytes) (hL:L.length≤9223372036854775807) (hx:∀ x∈L,x.length≤9223372036854775807) (w:World) (hs:Txts w A L) :
  Calls Tryz.prog 96 #[.slice A L.length c,.int .i64 6] w (fun e w'=>(∃ r:Bool,e=.returned (.bool r)∧(r=true↔RightP L 6))∧Below w.heap.size w w'):=by
 by_cases hl:L.length≤64
 ·have hl':(L.length:Int)≤64:=by omega
  have hR:=Z (show RightP L 6↔∀ x∈L,x.length=32 from⟨fun h=>h.2.2.2.2,fun h=>⟨by omega,by omega,by omega,by show L.length≤64;omega,h⟩⟩)
  go_enter Tryz.func96, Tryz.ntmps96
  go_wp2_with fail
  refine(containsFunc_calls A c L hL hx _ hs).mono ?_
  rintro e w1 ⟨⟨r,rfl,hr⟩,h1⟩
  replace hr:=Z hr
  go_wp2_with fail
  go_ret
  refine⟨⟨_,rfl,?_⟩,h1⟩
  rw[hR.out,Bool.not_eq_true',←Bool.not_eq_true,hr.out]
  constructor
  ·intro h x hx1
   exact Classical.byContradiction fun hn=>h ⟨x,hx1,hn⟩
  ·rintro h ⟨x,hx1,hn⟩
   exact hn (h x hx1)
 ·have hl':¬ (L.length:Int)≤64:=by omega
  have hR:=Z (show ¬ RightP L 6 from fun h=>by have h1:=h.2.2.1;have h2:L.length≤64:=h.2.2.2.1;omega)
  go_enter Tryz.func96, Tryz.ntmps96
  go_wp2_with fail
  go_ret
  first|exact⟨.inl ⟨rfl,hR.out⟩,Below.refl _ _⟩|exact⟨⟨false,rfl,by simp[hR.out]⟩,Below.refl _ _⟩
theorem right_at7(A:Option Addr) (c:Nat) (L:List Bytes) (hL:L.length≤9223372036854775807) (hx:∀ x∈L,x.length≤9223372036854775807) (w:World) (hs:Txts w A L) :
  Calls Tryz.prog 96 #[.slice A L.length c,.int .i64 7] w (fun e w'=>(∃ r:Bool,e=.returned (.bool r)∧(r=true↔RightP L 7))∧Below w.heap.size w w'):=by
 by_cases hl:L.length≤128
 ·have hl':(L.length:Int)≤128:=by omega
  have hR:=Z (show RightP L 7↔∀ x∈L,x.length=32 from⟨fun h=>h.2.2.2.2,fun h=>⟨by omega,by omega,by omega,by show L.length≤128;omega,h⟩⟩)
  go_enter Tryz.func96, Tryz.ntmps96
  go_wp2_with fail
  refine(containsFunc_calls A c L hL hx _ hs).mono ?_
  rintro e w1 ⟨⟨r,rfl,hr⟩,h1⟩
  replace hr:=Z hr
  go_wp2_with fail
  go_ret
  refine⟨⟨_,rfl,?_⟩,h1⟩
  rw[hR.out,Bool.not_eq_true',←Bool.not_eq_true,hr.out]
  constructor
  ·intro h x hx1
   exact Classical.byContradiction fun hn=>h ⟨x,hx1,hn⟩
  ·rintro h ⟨x,hx1,hn⟩
   exact hn (h x hx1)
 ·have hl':¬ (L.length:Int)≤128:=by omega
  have hR:=Z (show ¬ RightP L 7 from fun h=>by have h1:=h.2.2.1;have h2:L.length≤128:=h.2.2.2.1;omega)
  go_enter Tryz.func96, Tryz.ntmps96
  go_wp2_with fail
  go_ret
  first|exact⟨.inl ⟨rfl,hR.out⟩,Below.refl _ _⟩|exact⟨⟨false,rfl,by simp[hR.out]⟩,Below.refl _ _⟩
theorem right_at8(A:Option Addr) (c:Nat) (L:List Bytes) (hL:L.length≤9223372036854775807) (hx:∀ x∈L,x.length≤9223372036854775807) (w:World) (hs:Txts w A L) :
  Calls Tryz.prog 96 #[.slice A L.length c,.int .i64 8] w (fun e w'=>(∃ r:Bool,e=.returned (.bool r)∧(r=true↔RightP L 8))∧Below w.heap.size w w'):=by
 by_cases hl:L.length≤256
 ·have hl':(L.length:Int)≤256:=by omega
  have hR:=Z (show RightP L 8↔∀ x∈L,x.length=32 from⟨fun h=>h.2.2.2.2,fun h=>⟨by omega,by omega,by omega,by show L.length≤256;omega,h⟩⟩)
  go_enter Tryz.func96, Tryz.ntmps96
  go_wp2_with fail
  refine(containsFunc_calls A c L hL hx _ hs).mono ?_
  rintro e w1 ⟨⟨r,rfl,hr⟩,h1⟩
  replace hr:=Z hr
  go_wp2_with fail
  go_ret
  refine⟨⟨_,rfl,?_⟩,h1⟩
  rw[hR.out,Bool.not_eq_true',←Bool.not_eq_true,hr.out]
  constructor
  ·intro h x hx1
   exact Classical.byContradiction fun hn=>h ⟨x,hx1,hn⟩
  ·rintro h ⟨x,hx1,hn⟩
   exact hn (h x hx1)
 ·have hl':¬ (L.length:Int)≤256:=by omega
  have hR:=Z (show ¬ RightP L 8 from fun h=>by have h1:=h.2.2.1;have h2:L.length≤256:=h.2.2.2.1;omega)
  go_enter Tryz.func96, Tryz.ntmps96
  go_wp2_with fail
  go_ret
  first|exact⟨.inl ⟨rfl,hR.out⟩,Below.refl _ _⟩|exact⟨⟨false,rfl,by simp[hR.out]⟩,Below.refl _ _⟩
theorem right_at9(A:Option Addr) (c:Nat) (L:List Bytes) (hL:L.length≤9223372036854775807) (hx:∀ x∈L,x.length≤9223372036854775807) (w:World) (hs:Txts w A L) :
  Calls Tryz.prog 96 #[.slice A L.length c,.int .i64 9] w (fun e w'=>(∃ r:Bool,e=.returned (.bool r)∧(r=true↔RightP L 9))∧Below w.heap.size w w'):=by
 by_cases hl:L.length≤256
 ·have hl':(L.length:Int)≤256:=by omega
  have hR:=Z (show RightP L 9↔∀ x∈L,x.length=32 from⟨fun h=>h.2.2.2.2,fun h=>⟨by omega,by omega,by omega,by show L.length≤512;omega,h⟩⟩)
  go_enter Tryz.func96, Tryz.ntmps96
  go_wp2_with fail
  refine(containsFunc_calls A c L hL hx _ hs).mono ?_
  rintro e w1 ⟨⟨r,rfl,hr⟩,h1⟩
  replace hr:=Z hr
  go_wp2_with fail
  go_ret
  refine⟨⟨_,rfl,?_⟩,h1⟩
  rw[hR.out,Bool.not_eq_true',←Bool.not_eq_true,hr.out]
  constructor
  ·intro h x hx1
   exact Classical.byContradiction fun hn=>h ⟨x,hx1,hn⟩
  ·rintro h ⟨x,hx1,hn⟩
   exact hn (h x hx1)
 ·have hl':¬ (L.length:Int)≤256:=by omega
  have hR:=Z (show ¬ RightP L 9 from fun h=>by have h1:=h.2.2.1;have h2:L.length≤512:=h.2.2.2.1;omega)
  go_enter Tryz.func96, Tryz.ntmps96
  go_wp2_with fail
  go_ret
  first|exact⟨.inl ⟨rfl,hR.out⟩,Below.refl _ _⟩|exact⟨⟨false,rfl,by simp[hR.out]⟩,Below.refl _ _⟩
theorem right_at10(A:Option Addr) (c:Nat) (L:List Bytes) (hL:L.length≤9223372036854775807) (hx:∀ x∈L,x.length≤9223372036854775807) (w:World) (hs:Txts w A L) :
  Calls Tryz.prog 96 #[.slice A L.length c,.int .i64 10] w (fun e w'=>(∃ r:Bool,e=.returned (.bool r)∧(r=true↔RightP L 10))∧Below w.heap.size w w'):=by
 by_cases hl:L.length≤256
 ·have hl':(L.length:Int)≤256:=by omega
  have hR:=Z (show RightP L 10↔∀ x∈L,x.length=32 from⟨fun h=>h.2.2.2.2,fun h=>⟨by omega,by omega,by omega,by show L.length≤1024;omega,h⟩⟩)
  go_enter Tryz.func96, Tryz.ntmps96
  go_wp2_with fail
  refine(containsFunc_calls A c L hL hx _ hs).mono ?_
  rintro e w1 ⟨⟨r,rfl,hr⟩,h1⟩
  replace hr:=Z hr
  go_wp2_with fail
  go_ret
  refine⟨⟨_,rfl,?_⟩,h1⟩
  rw[hR.out,Bool.not_eq_true',←Bool.not_eq_true,hr.out]
  constructor
  ·intro h x hx1
   exact Classical.byContradiction fun hn=>h ⟨x,hx1,hn⟩
  ·rintro h ⟨x,hx1,hn⟩
   exact hn (h x hx1)
 ·have hl':¬ (L.length:Int)≤256:=by omega
  have hR:=Z (show ¬ RightP L 10 from fun h=>by have h1:=h.2.2.1;have h2:L.length≤1024:=h.2.2.2.1;omega)
  go_enter Tryz.func96, Tryz.ntmps96
  go_wp2_with fail
  go_ret
  first|exact⟨.inl ⟨rfl,hR.out⟩,Below.refl _ _⟩|exact⟨⟨false,rfl,by simp[hR.out]⟩,Below.refl _ _⟩
theorem right_calls(A:Option Addr) (c:Nat) (L:List Bytes) (d:Int) (hL:L.length≤9223372036854775807) (hx:∀ x∈L,x.length≤9223372036854775807) (w:World) (hs:Txts w A L) :
  Calls Tryz.prog 96 #[.slice A L.length c,.int .i64 d] w (fun e w'=>(∃ r:Bool,e=.returned (.bool r)∧(r=true↔RightP L d))∧Below w.heap.size w w'):=by
 by_cases h0:0≤d
 ·by_cases h10:d≤10
  ·have hd:d=0∨d=1∨d=2∨d=3∨d=4∨d=5∨d=6∨d=7∨d=8∨d=9∨d=10:=by omega
   rcases hd with rfl|rfl|rfl|rfl|rfl|rfl|rfl|rfl|rfl|rfl|rfl
   ·exact right_at0 A c L hL hx w hs
   ·exact right_at1 A c L hL hx w hs
   ·exact right_at2 A c L hL hx w hs
   ·exact right_at3 A c L hL hx w hs
   ·exact right_at4 A c L hL hx w hs
   ·exact right_at5 A c L hL hx w hs
   ·exact right_at6 A c L hL hx w hs
   ·exact right_at7 A c L hL hx w hs
   ·exact right_at8 A c L hL hx w hs
   ·exact right_at9 A c L hL hx w hs
   ·exact right_at10 A c L hL hx w hs
  ·have hR:=Z (show ¬ RightP L d from fun h=>h10 h.2.1)
   go_enter Tryz.func96, Tryz.ntmps96
   go_wp2_with fail
   go_ret
   first|exact⟨.inl ⟨rfl,hR.out⟩,Below.refl _ _⟩|exact⟨⟨false,rfl,by simp[hR.out]⟩,Below.refl _ _⟩
 ·have hR:=Z (show ¬ RightP L d from fun h=>h0 h.1)
  go_enter Tryz.func96, Tryz.ntmps96
  go_wp2_with fail
  go_ret
  first|exact⟨.inl ⟨rfl,hR.out⟩,Below.refl _ _⟩|exact⟨⟨false,rfl,by simp[hR.out]⟩,Below.refl _ _⟩
end
end Go.Proofs.YtobgigcdpiikaaaGreatDoor
namespace Go.Phx
section
def nodeP(c:List Bytes) (k i:Nat):Bytes:=atP (levP c k) (zeroH k) i
theorem rootP_node(c:List Bytes) (d:Nat):rootP c d=nodeP c d 0:=rfl
theorem evenUp_at(z:Bytes) (l:List Bytes) (m:Nat) (h:m<(evenUp z l).length):(evenUp z l).getD m []=atP l z m:=by
 unfold atP
 have h2:=evenUp_len z l
 unfold evenUp at h h2 ⊢
 split at h
 ·rename_i ho
  rw[if_pos ho]at h2 ⊢
  by_cases hm:m<l.length
  ·rw[List.getD,List.getD,List.getElem?_append_left hm,List.getElem?_eq_getElem hm]
   rfl
  ·rw[List.length_append,List.length_singleton]at h
   obtain rfl:m=l.length:=by omega
   rw[List.getD,List.getD,List.getElem?_append_right (Nat.le_refl _),Nat.sub_self,List.getElem?_eq_none (Nat.le_refl _)]
   rfl
 ·rename_i ho
  rw[if_neg ho]
  rw[List.getD,List.getD,List.getElem?_eq_getElem h]
  rfl
theorem node_succ(c:List Bytes) (k j:Nat):nodeP c (k+1) j=sha (nodeP c k (2*j) ++ nodeP c k (2*j+1)):=by
 unfold nodeP
 have hl:=levP_len_succ c k
 have he:=evenUp_len (zeroH k) (levP c k)
 by_cases h:j<((levP c k).length+1) / 2
 ·rw[←evenUp_at _ _ _ (show 2*j<(evenUp (zeroH k) (levP c k)).length by omega),←evenUp_at _ _ _ (show 2*j+1<(evenUp (zeroH k) (levP c k)).length by omega),←pairUp_at _ _ (by omega)]
  unfold atP
  rw[levP]at hl ⊢
  rw[List.getD,List.getD,List.getElem?_eq_getElem (by omega)]
  rfl
 ·unfold atP
  rw[List.getD,List.getD,List.getD,List.getElem?_eq_none (by omega),List.getElem?_eq_none (by omega),List.getElem?_eq_none (by omega)]
  rfl
theorem node_len(c:List Bytes) (hc:∀ x∈c,x.length=32):∀ k i,(nodeP c k i).length=32
 | 0,i=>by
  unfold nodeP atP levP
  by_cases h:i<c.length
  ·rw[List.getD,List.getElem?_eq_getElem h]
   exact hc _ (List.getElem_mem h)
  ·rw[List.getD,List.getElem?_eq_none (by omega)]
   rfl
 | k+1,i=>by rw[node_succ];exact sha_len _
theorem xor_one(m:Nat):(m % 2=1→m ^^^ 1=2*(m / 2))∧(m % 2=0→m ^^^ 1=2*(m / 2)+1):=by
 have h1:(m ^^^ 1) / 2=m / 2:=by rw[Nat.xor_div_two];simp
 have h2:(m ^^^ 1) % 2=1↔¬ m % 2=1:=by rw[Nat.xor_mod_two_eq_one];simp
 omega
theorem wayP_snoc':∀ (r:List Bytes) (x s:Bytes) (i:Nat),wayP x (r ++ [s]) i=if i / 2 ^ r.length % 2=1 then sha (s ++ wayP x r i) else sha (wayP x r i ++ s)
 | [],x,s,i=>by simp[wayP]
 | t :: r,x,s,i=>by
  simp only[List.cons_append,wayP]
  rw[wayP_snoc' r _ s (i / 2),List.length_cons,Nat.pow_succ,Nat.div_div_eq_div_mul,Nat.mul_comm 2]
theorem branchP_len(c:List Bytes) (i d:Nat):(branchP c i d).length=d:=by simp[branchP]
theorem branchP_succ(c:List Bytes) (i d:Nat):branchP c i (d+1)=branchP c i d ++ [nodeP c d ((i / 2 ^ d) ^^^ 1)]:=by
 unfold branchP
 rw[List.range_succ,List.map_append]
 rfl
theorem branchP_all(c:List Bytes) (hc:∀ x∈c,x.length=32) (i d:Nat):∀ x∈branchP c i d,x.length=32:=by
 intro x hx
 unfold branchP at hx
 obtain⟨k,_,rfl⟩:=List.mem_map.1 hx
 exact node_len c hc k _
theorem way_back(c:List Bytes) (i:Nat):∀ d,wayP (nodeP c 0 i) (branchP c i d) i=nodeP c d (i / 2 ^ d)
 | 0=>by simp[branchP,wayP]
 | d+1=>by
  rw[branchP_succ,wayP_snoc',branchP_len,way_back c i d,node_succ,Nat.pow_succ,←Nat.div_div_eq_div_mul]
  generalize i / 2 ^ d=m
  obtain⟨h1,h2⟩:=xor_one m
  by_cases h:m % 2=1
  ·rw[if_pos h,h1 h,show 2*(m / 2)+1=m by omega]
  ·rw[if_neg h,h2 (by omega),show 2*(m / 2)=m by omega]
def CheckP(x:Bytes) (r:List Bytes) (i:Nat) (root:Bytes):Prop:=r.length≤64∧x.length=32∧root.length=32∧i<2 ^ r.length∧(∀ s∈r,s.length=32)∧wayP x r i=root
instance instCheckP (x:Bytes) (r:List Bytes) (i:Nat) (root:Bytes):Decidable (CheckP x r i root):=by unfold CheckP;infer_instance
def chunkP(s:Bytes) (i:Nat):Bytes:=(s.drop (32*i)).take 32 ++ List.replicate (32 - ((s.drop (32*i)).take 32).length) 0
def packN(s:Bytes) (n:Nat):List Bytes:=(List.range n).map (chunkP s)
def packP(s:Bytes):List Bytes:=packN s ((s.length+31) / 32)
theorem packN_succ(s:Bytes) (n:Nat):packN s (n+1)=packN s n ++ [chunkP s n]:=by simp[packN,List.range_succ]
theorem packN_len(s:Bytes) (n:Nat):(packN s n).length=n:=by simp[packN]
end
end Go.Phx
