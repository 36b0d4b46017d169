/- Plain laws and walks, each by its own conditions. -/
import Derived.Test.YtobgigcdpiikaaaGreatDoorUc15
import Derived.Test.YtobgigcdpiikaaaGreatDoorUc18
import Derived.Maps.OwnIn
import Derived.Lib.AppendStr
set_option linter.unusedSimpArgs false
set_option linter.unusedVariables false
set_option maxRecDepth 100000
set_option maxHeartbeats 16000000
namespace Go.Proofs.YtobgigcdpiikaaaGreatDoor
section
open BigFrame Go.RowKit Go.Phx Go.Shelf
attribute [local go_sem] Oper.semAt_some
instance instRightP (L:List Bytes) (d:Int):Decidable (RightP L d):=by unfold RightP;infer_instance
def rootV(L:List Bytes) (d:Int):Value:=if RightP L d then .tuple #[.string (bs (rootP L d.toNat)),.int .i64 0] else .tuple #[.string { data := #[] },.int .i64 80]
def rootI(c:List Bytes):Nat→Bytes
 | 0=>[]
 | k+1=>nodeP c k 0
theorem levKp_grown{b:Nat}{x:Value}{W W':World}{r:Option Nat} (hg:W.grownBy W' r) (h0:r≠some b) (h1:r≠some (b+1)) (h2:∀ j,r=some j→x.ownBlock≠some j) (h3:r≠some 0):LevKp b x W W':=by
 refine⟨hg.size,fun h=>h.grown hg (fun e=>h3 e.symm),fun j hj cs t fz hx=>(hg.block j (Array.getElem?_eq_some_iff.1 hx).1 fun e=>?_).trans hx⟩
 rcases hj with rfl|rfl|hj
 ·exact h0 e.symm
 ·exact h1 e.symm
 ·exact h2 j e.symm hj
theorem levKp_below{b:Nat}{x:Value}{W W':World} (hB:Below W.heap.size W W'):LevKp b x W W' :=
 levKp_grown (r:=none) ⟨hB.os,hB.tape,hB.output,hB.size,fun j hj _=>hB.block j hj⟩ (by simp) (by simp) (by simp) (by simp)
theorem levAt_own{base:Nat}{c:List Bytes}{d:Nat}{pre:List (Value×Bytes)}{y:Value×Bytes}{x:Value}{W:World} (h:LevAt base c d pre y x W):∀ j,x.ownBlock=some j→base≤j∧j<W.heap.size:=fun j hj=>h.2.2.2.lt j hj
theorem root_yes(A:Option Addr) (c:Nat) (L:List Bytes) (d:Nat) (hR:RightP L d) (w:World) (hk:HasK w) (hs:Txts w A L) :
  Calls Tryz.prog 54 #[.slice A L.length c,.int .i64 d] w (Ret w (.tuple #[.string (bs (rootP L d)),.int .i64 0])):=by
 have hL:L.length≤256:=hR.2.2.1
 have hd:d≤10:=by have:=hR.2.1;omega
 have hall:=hR.2.2.2.2
 have hx:∀ x∈L,x.length≤9223372036854775807:=fun x h=>by have:=hall x h;omega
 refine(callsIn_wide (n:=9)).1 ?_
 have hwf:∀ f,Fence.wide.fn f:=fun _=>trivial
 replace hR:=Z hR
 refine callsIn_of_wp_marks Tryz.func54 rfl trivial ?_ rfl
 simp only[Tryz.ntmps54, List.size_toArray,List.length_cons,List.length_nil,Nat.reduceAdd,Nat.reduceSub,Array.replicate_succ,Array.replicate_zero,List.push_toArray,List.append_toArray,List.nil_append,List.cons_append]
 gi_wp2_with fail
 refine(callsIn_wide.2 (right_calls A c L d (by omega) hx _ hs)).mono ?_
 rintro e w1 ⟨⟨r,rfl,hr⟩,hB1⟩
 obtain rfl:r=true:=hr.2 hR.out
 have hs1:=Txts.below hs hB1
 have hk1:=hk.on hB1
 clear hr hs hk hx
 gi_wp2_with(gi_at_call 97; refine(levels_in _ _ _ _ _ _).mono ?_;rintro e w' ⟨rfl,rfl⟩)
 obtain⟨ro,hro⟩:∃ ro,w1.heap.size=ro:=⟨_,rfl⟩
 obtain⟨W0,hW0⟩:∃ W0,((w1.alloc (.cells #[.string { data := #[] }] 9)).alloc (.cells #[.slice A L.length c] 31)).alloc (.cells #[.int .i64 d] 3)=W0:=⟨_,rfl⟩
 have hwr:w.heap.size≤ro:=by rw[←hro];exact hB1.size
 have hs0:W0.heap.size=ro+3:=by rw[←hW0];simp[hro]
 have KR:Blk W0 ro 9 #[.string (bs [])]:=by rw[←hW0,←hro];exact((Blk.new0 _ _ _).alloc _).alloc _
 have KA:Blk W0 (ro+1) 31 #[.slice A L.length c]:=by rw[←hW0,←hro];exact(Blk.new1 _ _ _ _).alloc _
 have KC:Blk W0 (ro+2) 3 #[.int .i64 d]:=by rw[←hW0,←hro];exact Blk.new2 _ _ _ _ _
 have hB10:Below w1.heap.size w1 W0:=by rw[←hW0];exact bel
 have hB0:Below w.heap.size w W0:=Below.on hB10 hB1
 have hs2:=Txts.below hs1 hB10
 have hk2:=hk1.on hB10
 have hkr : 0 < ro:=by rw[←hro];exact hk1.2
 simp only[hro,World.size_alloc]
 rw[hW0]
 clear hW0 hB10 hs1 hk1 hB1 hro
 have hf:=enters_of Tryz.func137 U rfl
 refine wpIn_rangeFunc_st rfl (by decide) (gf := 137) (lb := #[.pointer (some ⟨ro+1,0,none⟩),.pointer (some ⟨ro+2,0,none⟩)]) rfl trivial hf
  (levels_stops 8 (by decide) (ro+1) A c L d (by omega) hall hd W0 hk2 hs2 KA KC) (fun _=>rfl) (fun _ _ _ _ h k=>h.trans k) (fun x W l o o' hl h1 h2 h3=>levKp_put W0 (ro+1) (by omega) x W l o o' hl h1 h2)
  (fun x A y B k o hab hkk hA ho _=>levAb_keeps _ x A y B k o hab hA ho)
  (fun pre y x W l o o' h _ h1 h2=>levAt_put _ _ _ pre y x W l o o' h h1 h2)
  (fun pre _ W=>Blk W ro 9 #[.string (bs (rootI L pre.length))]∧Below w.heap.size w W) (fun _ _ _ _=>False)
  (fun _ s A B row h hg hr=>?own) (fun _ _ _ _ _ _ h _ _=>h)
  (fun s x A y B h hab=>?step) (fun _ _ _ _ _ _ h _=>h) ⟨KR,hB0⟩
  (fun y=>{ tmps := #[.slice A L.length c,.int .i64 d,undef,undef,.string { data := #[] },.int .i64 0,.pointer (some ⟨ro,0,none⟩),y.1,.string (bs y.2),.slice A L.length c,.int .i64 d,.bool true,.bool false,.slice A L.length c,.int .i64 d,
   .func (.func 137) #[] #[.pointer (some ⟨ro+1,0,none⟩),.pointer (some ⟨ro+2,0,none⟩)],y.1,.string (bs y.2),undef,undef,undef,undef],defers:=[] })
  ?assign ?body ?done ?stop
 case own =>
  obtain⟨h1,h3⟩:=h
  have hne:∀ r,row=some r→W0.heap.size≤r:=fun r e=>(hr r e).1
  exact⟨h1.grown hg (fun e=>by have:=hne _ e.symm;omega),h3.grown hg h3.size (fun k e=>by have:=hne k e;omega)⟩
 case step =>
  obtain⟨h1,h3⟩:=h
  have hne:∀ r,x.ownBlock=some r→W0.heap.size≤r:=fun r e=>(hab.2.2 r e).1
  exact⟨h1.grown hab.1 (fun e=>by have:=hne _ e.symm;omega),h3.grown hab.1 h3.size (fun k e=>by have:=hne k e;omega)⟩
 case assign =>
  intro l y W K hK
  gi_wp2
  exact hK
 case body =>
  rintro l pre y x W ⟨h1,h3⟩ hat
  have hown:=levAt_own hat
  obtain⟨e1,e2,e3,R⟩:=hat
  obtain⟨A2,c2,hx,T⟩:=R.txts
  have hle:=levP_le L pre.length
  have hn:atP (levP L pre.length) (zeroH pre.length) 0=rootI L (pre.length+1):=rfl
  rw[e1,e2,hx]
  clear R e1 e2
  have K1:=Z h1
  have H3:=Z h3
  have HN:=Z hn
  clear h1 h3 hn
  generalize levP L pre.length=Lv at *
  generalize zeroH pre.length=z at *
  gi_wp2_with fail
  refine(CallsIn.inRound l (callsIn_wide.2 (by simpa using at_calls A2 c2 Lv z 0 (by omega) (by omega) W T))).mono ?_
  rintro e w2 ⟨rfl,hB2⟩
  rw[HN.out]
  have K2:=Z (K1.out.below hB2)
  (obtain⟨k2,f2,l2,m2⟩:=rl_ K2)
  have g2:Below W.heap.size W (w2.setCell ⟨ro,0,none⟩ (.string (bs (rootI L (pre.length+1)))))→True:=fun _=>trivial
  gi_wp2
  have hrW:ro<W.heap.size:=K1.out.lt
  refine⟨(KeepsOthers.below hB2).trans (KeepsOthers.setCell _ _ _),(levKp_below hB2).trans (levKp_grown (grown_set (World.grownBy.refl _ _)) (by first|(simp;done)|(simp;omega)) (by first|(simp;done)|(simp;omega)) (fun j hj e=>?_) (by first|(simp;done)|(simp;omega))),?_,?_⟩
  ·cases hj
   have:=(hown ro (by rw[hx];exact e)).1
   omega
  ·have:=K2.out.set_ 0 (.string (bs (rootI L (pre.length+1))))
   simpa using this
  ·exact(H3.out.trans (hB2.mono H3.out.size)).setCell (by simp;omega) _
 case done =>
  rintro D xs x W hD hxs ⟨h1,h3⟩ hK
  rw[hxs]at h1
  have K1:=Z h1
  have hKD:=Z hK
  have H3:=Z h3
  clear h1 h3 hK
  (obtain⟨k1,f1,l1,m1⟩:=rl_ K1)
  gi_wp2
  refine⟨by simp,.inl ⟨_,_,rfl,run_takeDeferred hKD.out,?_⟩⟩
  exact⟨.tuple #[.string (bs (rootP L d)),.int .i64 0],by simp[results,Tryz.results54, go_sem];rfl,rfl,below_shut H3.out (Nat.le_refl _) (by omega)⟩
 case stop =>
  rintro D c pre x W _ _ h _
  exact h.elim
theorem zroot_no(A:Option Addr) (c:Nat) (L:List Bytes) (d:Int) (hR:¬ RightP L d) (hL:L.length≤9223372036854775807) (hx:∀ x∈L,x.length≤9223372036854775807) (w:World) (hs:Txts w A L) :
  Calls Tryz.prog 54 #[.slice A L.length c,.int .i64 d] w (Ret w (.tuple #[.string { data := #[] },.int .i64 80])):=by
 replace hR:=Z hR
 go_enter Tryz.func54, Tryz.ntmps54
 go_wp2_with fail
 refine(right_calls A c L d hL hx _ hs).mono ?_
 rintro e w1 ⟨⟨r,rfl,hr⟩,hB1⟩
 obtain rfl:r=false:=by
  cases r
  ·rfl
  ·exact absurd (hr.1 rfl) hR.out
 clear hr hx
 go_wp2_with fail
 go_ret2
 exact⟨rfl,hB1⟩
theorem zroot_calls(A:Option Addr) (c:Nat) (L:List Bytes) (d:Int) (hL:L.length≤9223372036854775807) (hx:∀ x∈L,x.length≤9223372036854775807) (w:World) (hk:HasK w) (hs:Txts w A L) :
  Calls Tryz.prog 54 #[.slice A L.length c,.int .i64 d] w (Ret w (rootV L d)):=by
 by_cases hR:RightP L d
 ·have e:((d.toNat:Nat):Int)=d:=Int.toNat_of_nonneg hR.1
  have:=root_yes A c L d.toNat (by rw[e];exact hR) w hk hs
  rw[e]at this
  unfold rootV
  rw[if_pos hR]
  exact this
 ·unfold rootV
  rw[if_neg hR]
  exact zroot_no A c L d hR hL hx w hs
def numP(n:Nat):Bytes:=(List.range 8).map (fun i=>UInt8.ofNat (n / 2 ^ (8*i))) ++ List.replicate 24 0
theorem numP_len(n:Nat):(numP n).length=32:=by simp[numP]
theorem numP_at(n k:Nat) (hk:k<8):(n:Int) / 2 ^ (8*k) % 256=(((numP n).getD k 0).toNat:Int):=by
 have e:(numP n).getD k 0=UInt8.ofNat (n / 2 ^ (8*k)):=by
  unfold numP
  rw[List.getD,List.getElem?_append_left (by simp;omega),List.getElem?_map,List.getElem?_range hk]
  rfl
 have e2:(n:Int) / 2 ^ (8*k)=((n / 2 ^ (8*k):Nat):Int):=by simp
 rw[e,e2]
 simp
theorem num_cells(n:Nat):bcells 32 (numP n) 8=bcells 32 (numP n) 32:=by
 unfold bcells numP
 simp[List.take_append]
 rw[List.take_of_length_le (by simp)]
theorem number_calls(n:Nat) (hn:n<18446744073709551616) (w:World):Calls Tryz.prog 57 #[.int .u64 n] w (Ret w (.string (bs (numP n)))):=by
 go_enter Tryz.func57, Tryz.ntmps57
 go_wp2_with fail
 have K0:=Z (Blk.new0 w 183 (bcells 32 (numP n) 0))
 have hB0:Below w.heap.size w (w.alloc (.cells (bcells 32 (numP n) 0) 183)):=(Below.refl _ _).alloc (Nat.le_refl _) _
 go_loopw [5] (fun i wr=>∃ k:Nat,k≤8∧i=.int .i64 k∧Blk wr w.heap.size 183 (bcells 32 (numP n) k)∧Below w.heap.size w wr) (fun i _=>(8 - intOf i).toNat)
 case atStart=>exact⟨0,by omega,rfl,K0.out,hB0⟩
 case round =>
  clear K0 hB0
  obtain⟨k,hk,rfl,K0,hB⟩:=hrel
  by_cases hlt:k<8
  ·have hx:=numP_at n k hlt
   have hset:=bcells_set 32 (numP n) k (by omega) (numP_len n) _ hx
   have HS:=Z hset
   clear hset hx
   replace K0:=Z K0
   (obtain⟨k0,f0,l0,m0⟩:=rl_ K0)
   have gk:=bcells_at 32 (numP n) k (by omega) (numP_len n)
   go_wp2_with fail
   exact⟨⟨k+1,by omega,by go_num,by rw[←HS.out];exact K0.out.set_ _ _,hB.setCell (by simp) _⟩,by simp[intOf];omega⟩
  ·obtain rfl:k=8:=by omega
   rw[num_cells,bcells_all 32 (numP n) (numP_len n)]at K0
   have hcv:=fun c=>conv_row wr w.heap.size _ (numP n) 32 c K0 (numP_len n)
   replace K0:=Z K0
   simp only[show((8:Nat):Int)=8 from rfl]
   go_wp2_with fail
   go_ret
   exact⟨rfl,hB⟩
theorem right_ret(A:Option Addr) (c:Nat) (L:List Bytes) (d:Int) (hL:L.length≤9223372036854775807) (hx:∀ x∈L,x.length≤9223372036854775807) (r:Bool) (hr:decide (RightP L d)=r) (w:World) (hs:Txts w A L) :
  Calls Tryz.prog 96 #[.slice A L.length c,.int .i64 d] w (Ret w (.bool r)) :=
 (right_calls A c L d hL hx w hs).mono fun e w' ⟨⟨r',he,h'⟩,hB⟩=>⟨by
  rw[he,←hr]
  congr 2
  rw[Bool.eq_iff_iff,h',decide_eq_true_iff],hB⟩
theorem at_same(A:Option Addr) (c:Nat) (L:List Bytes) (z:Bytes) (i:Nat) (hi:i≤9223372036854775807) (hL:L.length≤9223372036854775807) (w:World) (hs:Txts w A L) :
  Calls Tryz.prog 98 #[.slice A L.length c,.string (bs z),.int .i64 i] w (fun e w'=>e=.returned (.string (bs (atP L z i)))∧w=w'):=by
 go_enter Tryz.func98, Tryz.ntmps98
 by_cases h:i<L.length
 ·have e:atP L z i=L.getD i []:=by
   unfold atP
   rw[List.getD,List.getD,List.getElem?_eq_getElem h]
   rfl
  rw[e]
  clear e
  obtain⟨b,o,rfl,hb,hc⟩:=hs.at i h
  generalize L.getD i []=x at *
  clear hs
  go_wp2_with fail
  go_ret
  exact⟨rfl,rfl⟩
 ·have e:atP L z i=z:=by
   unfold atP
   rw[List.getD,List.getElem?_eq_none (by omega)]
   rfl
  rw[e]
  clear e
  go_wp2_with fail
  go_ret
  exact⟨rfl,rfl⟩
theorem xor_int(m:Nat) (h:m<4611686018427387904):bits .xor .i64 (m:Int) 1=((m ^^^ 1:Nat):Int):=by
 have e:(BitVec.ofInt 64 (m:Int) ^^^ BitVec.ofInt 64 1).toNat=m ^^^ 1:=by
  rw[BitVec.toNat_xor]
  congr 1
  simp
  omega
 have h2:m ^^^ 1≤m+1:=by
  obtain⟨h1,h2⟩:=xor_one m
  rcases Nat.mod_two_eq_zero_or_one m with h|h
  ·rw[h2 h];omega
  ·rw[h1 h];omega
 show IntKind.i64.wrap ((BitVec.ofInt 64 (m:Int) ^^^ BitVec.ofInt 64 1).toNat:Int)=_
 rw[e]
 exact IntWalk.i64_in _ (by omega)
theorem div_step(i k:Nat):i / 2 ^ k / 2=i / 2 ^ (k+1):=by rw[Nat.div_div_eq_div_mul,Nat.pow_succ]
def BrI(L:List Bytes) (d i ro b:Nat) (w:World) (k:Nat) (x:Value) (W:World):Prop :=
 ∃ v,Blk W ro 31 #[v]∧LRow (ro+3) W v (branchP L i k)∧(∀ j,v.ownBlock=some j→x.ownBlock≠some j)∧Blk W b 3 #[.int .i64 d]∧Blk W (b+1) 3 #[.int .i64 ((i / 2 ^ k:Nat):Int)]∧k≤d∧Below w.heap.size w W∧ro+3≤W.heap.size
theorem BrI.grown{L:List Bytes}{d i ro b:Nat}{w:World}{k:Nat}{x y:Value}{W W':World}{r:Option Nat} (h:BrI L d i ro b w k x W) (hg:W.grownBy W' r) (hr:∀ j,r=some j→w.heap.size≤j∧j≠ro∧j≠b∧j≠b+1)
  (hv:∀ (v:Value) (L':List Bytes),LRow (ro+3) W v L'→(∀ j,v.ownBlock=some j→x.ownBlock≠some j)→∀ j,v.ownBlock=some j→r≠some j∧y.ownBlock≠some j):BrI L d i ro b w k y W':=by
 obtain⟨v,h1,h2,h3,h4,h5,h6,h7,h8⟩:=h
 have hn:∀ g,(g=ro∨g=b∨g=b+1)→some g≠r:=fun g hg e=>by
  obtain⟨_,a1,a2,a3⟩:=hr g e.symm
  rcases hg with h|h|h
  ·exact a1 h
  ·exact a2 h
  ·exact a3 h
 exact⟨v,h1.grown hg (hn _ (.inl rfl)),h2.keep hg fun j hj=>(hv v _ h2 h3 j hj).1,fun j hj=>(hv v _ h2 h3 j hj).2,h4.grown hg (hn _ (.inr (.inl rfl))),h5.grown hg (hn _ (.inr (.inr rfl))),h6,h7.grown hg h7.size fun j e=>(hr j e).1,Nat.le_trans h8 hg.size⟩
theorem BrI.own{L:List Bytes}{d i ro b:Nat}{w W0:World}{k:Nat}{x:Value}{A B:World}{r:Option Nat} (h:BrI L d i ro b w k x A) (hg:A.grownBy B r) (hr:∀ j,r=some j→W0.heap.size≤j∧∃ o:Obj,A.heap[j]?=some o∧o.isCells=false) (h0:w.heap.size≤W0.heap.size) (h1:ro<W0.heap.size) (h2:b+1<W0.heap.size):BrI L d i ro b w k x B:=by
 refine h.grown hg (fun j hj=>by have:=(hr j hj).1;omega) fun v L' hL hx j hj=>⟨fun e=>?_,hx j hj⟩
 obtain⟨_,o,ho,hc⟩:=hr j e
 obtain⟨_,cs,t,fz,hcs⟩:=LRow.cells hL j hj
 rw[hcs]at ho
 injection ho with ho
 subst ho
 cases hc
theorem BrI.step{L:List Bytes}{d i ro b:Nat}{w W0:World}{k:Nat}{x y:Value}{A B:World} (h:BrI L d i ro b w k x A) (hab:LevAb W0.heap.size x A y B) (h0:w.heap.size≤W0.heap.size) (h1:ro<W0.heap.size) (h2:b+1<W0.heap.size):BrI L d i ro b w k y B:=by
 refine h.grown hab.1 (fun j hj=>by have:=(hab.2.2 j hj).1;omega) fun v L' hL hx j hj=>⟨fun e=>hx j hj e,fun e=>?_⟩
 rcases hab.2.1 with e1|e1
 ·rw[e1]at e;exact hx j hj e
 ·have:=e1 j e
  have:=(hL.lt j hj).2
  omega
theorem branch_yes(A:Option Addr) (c:Nat) (L:List Bytes) (d i:Nat) (hR:RightP L d) (hi:i<2 ^ d) (w:World) (hk:HasK w) (hs:Txts w A L) :
  Calls Tryz.prog 59 #[.slice A L.length c,.int .i64 d,.int .i64 i] w (fun e w'=>∃ v,e=.returned (.tuple #[v,.int .i64 0])∧LRow w.heap.size w' v (branchP L i d)∧Below w.heap.size w w'):=by
 have hL:L.length≤256:=hR.2.2.1
 have hd:d≤10:=by have:=hR.2.1;omega
 have hall:=hR.2.2.2.2
 have hx:∀ x∈L,x.length≤9223372036854775807:=fun x h=>by have:=hall x h;omega
 have hp10:2 ^ d≤1024:=Nat.le_trans (Nat.pow_le_pow_right (by omega) hd) (by decide)
 refine(callsIn_wide (n:=9)).1 ?_
 have hwf:∀ f,Fence.wide.fn f:=fun _=>trivial
 replace hR:=Z hR
 refine callsIn_of_wp_marks Tryz.func59 rfl trivial ?_ rfl
 simp only[Tryz.ntmps59, List.size_toArray,List.length_cons,List.length_nil,Nat.reduceAdd,Nat.reduceSub,Array.replicate_succ,Array.replicate_zero,List.push_toArray,List.append_toArray,List.nil_append,List.cons_append]
 gi_wp2
 refine wpIn_scope ?_
 gi_wp2_with fail
 have hB1:Below w.heap.size w ((w.alloc (.cells #[.int .i64 d] 3)).alloc (.cells #[.int .i64 i] 3)):=bel
 have K0:=(Blk.new0 w 3 #[.int .i64 d]).alloc (.cells #[.int .i64 i] 3)
 have K1:=Blk.new1 w (.cells #[.int .i64 d] 3) 3 #[.int .i64 i]
 obtain⟨W1,hW1⟩:∃ W1,(w.alloc (.cells #[.int .i64 d] 3)).alloc (.cells #[.int .i64 i] 3)=W1:=⟨_,rfl⟩
 rw[hW1]at hB1 K0 K1 ⊢
 have hs1:=Txts.below hs hB1
 have hk1:=hk.on hB1
 clear hs hk hW1
 replace K0:=Z K0
 replace K1:=Z K1
 replace hs1:=Z hs1
 (obtain⟨k0,f0,l0,m0⟩:=rl_ K0;obtain⟨k1,f1,l1,m1⟩:=rl_ K1)
 have hi0:decide ((i:Int)<0)=false:=by simp
 have hw2:wrap64 ((2:Int) ^ d)=((2 ^ d:Nat):Int):=by
  have:((2:Int) ^ d)=((2 ^ d:Nat):Int):=by simp
  rw[this]
  generalize 2 ^ d=N at *
  exact IntWalk.wrap64_in (N:Int) (by omega)
 have hi1:decide (2 ^ d≤i)=false:=by simp only[decide_eq_false_iff_not];omega
 have hi2:i<1024:=by omega
 obtain⟨N,hN⟩:∃ N,2 ^ d=N:=⟨_,rfl⟩
 rw[hN]at hw2 hi1
 replace hN:=Z hN
 clear hi hp10
 refine wpIn_wide.2 ?_
 (refine wp_region_later U U ?_;(repeat(go_big_quiet_step ((go_at_call 96; exact lq (right_ret A c L d (by omega) hx true (by simpa using hR.out) _ (Txts.below hs1.out (Later.below _)))))));refine wpQuiet_nil ?_;intro w' hB)
 have K2:=Z (K0.out.below hB)
 have K3:=Z (K1.out.below hB)
 have hk2:=hk1.on hB
 have hs2:=Z (Txts.below hs1.out hB)
 have hB2:=Below.on hB hB1
 clear k0 f0 l0 m0 k1 f1 l1 m1 K0 K1 hs1 hk1 hB hB1
 (obtain⟨k2,f2,l2,m2⟩:=rl_ K2;obtain⟨k3,f3,l3,m3⟩:=rl_ K3)
 gi_wp2_with fail
 refine wpIn_label ?_
 gi_wp2_with(gi_at_call 97; refine(levels_in _ _ _ _ _ _).mono ?_;rintro e w' ⟨rfl,rfl⟩)
 obtain⟨ro,hro⟩:∃ ro,w'.heap.size=ro:=⟨_,rfl⟩
 obtain⟨b,hb⟩:∃ b,w.heap.size=b:=⟨_,rfl⟩
 obtain⟨W0,hW0⟩:∃ W0,((w'.alloc (.cells #[.slice none 0 0] 31)).alloc (.cells #[.slice A L.length c] 31)).alloc (.cells #[.int .i64 d] 3)=W0:=⟨_,rfl⟩
 have hwr:b+1<ro:=by rw[←hro,←hb];exact l3
 have hs0:W0.heap.size=ro+3:=by rw[←hW0];simp[hro]
 have KR:Blk W0 ro 31 #[.slice none 0 0]:=by rw[←hW0,←hro];exact((Blk.new0 _ _ _).alloc _).alloc _
 have KA:Blk W0 (ro+1) 31 #[.slice A L.length c]:=by rw[←hW0,←hro];exact(Blk.new1 _ _ _ _).alloc _
 have KC:Blk W0 (ro+2) 3 #[.int .i64 d]:=by rw[←hW0,←hro];exact Blk.new2 _ _ _ _ _
 have hB10:Below w'.heap.size w' W0:=by rw[←hW0];exact bel
 have hB0:Below w.heap.size w W0:=Below.on hB10 hB2
 have hs3:=Txts.below hs2.out hB10
 have hk3:=hk2.on hB10
 have KD:Blk W0 b 3 #[.int .i64 d]:=by rw[←hb];exact K2.out.below hB10
 have KI:Blk W0 (b+1) 3 #[.int .i64 i]:=by rw[←hb];exact K3.out.below hB10
 have hkr : 0 < ro:=by rw[←hro];exact hk2.2
 simp only[hro,hb,World.size_alloc]
 rw[hW0]
 clear k2 f2 l2 m2 k3 f3 l3 m3 K2 K3 hk2 hs2 hB2 hW0 hB10 hro
 have hbw:w.heap.size=b:=hb
 have hf:=enters_of Tryz.func137 U rfl
 have hnn:∀ j,(Value.slice none 0 0).ownBlock=some j→(Value.slice none 0 0).ownBlock≠some j:=fun j hj=>by cases hj
 have hi00:Blk W0 (b+1) 3 #[.int .i64 ((i / 2 ^ 0:Nat):Int)]:=by rw[Nat.pow_zero,Nat.div_one];exact KI
 have hrow0:LRow (ro+3) W0 (.slice none 0 0) (branchP L i 0):=World.ownsRow_nil _ _ _ _
 have hI0:BrI L d i ro b w 0 (.slice none 0 0) W0:=⟨_,KR,hrow0,hnn,KD,hi00,Nat.zero_le _,hB0,by omega⟩
 clear hnn hi00 hrow0
 refine wpIn_rangeFunc_st rfl (by decide) (gf := 137) (lb := #[.pointer (some ⟨ro+1,0,none⟩),.pointer (some ⟨ro+2,0,none⟩)]) rfl trivial hf
  (levels_stops 8 (by decide) (ro+1) A c L d (by omega) hall hd W0 hk3 hs3 KA KC) (fun _=>rfl) (fun _ _ _ _ h k=>h.trans k) (fun x W l o o' hl h1 h2 h3=>levKp_put W0 (ro+1) (by omega) x W l o o' hl h1 h2)
  (fun x A y B k o hab hkk hA ho _=>levAb_keeps _ x A y B k o hab hA ho)
  (fun pre y x W l o o' h _ h1 h2=>levAt_put _ _ _ pre y x W l o o' h h1 h2)
  (fun pre x W=>BrI L d i ro b w pre.length x W) (fun c _ x W=>c=.exit 0∧BrI L d i ro b w d x W)
  (fun _ s A B row h hg hr=>BrI.own h hg hr (by omega) (by omega) (by omega)) (fun _ _ s A B row h hg hr=>⟨h.1,BrI.own h.2 hg hr (by omega) (by omega) (by omega)⟩)
  (fun s x A y B h hab=>BrI.step h hab (by omega) (by omega) (by omega)) (fun _ s x A y B h hab=>⟨h.1,BrI.step h.2 hab (by omega) (by omega) (by omega)⟩) hI0
  (fun y=>{ tmps := #[.slice A L.length c,.int .i64 d,.int .i64 i,undef,.pointer (some ⟨b,0,none⟩),.pointer (some ⟨b+1,0,none⟩),.slice none 0 0,.int .i64 0,.pointer (some ⟨ro,0,none⟩),y.1,.string (bs y.2),
   .slice A L.length c,.int .i64 d,.bool true,.bool false,.bool false,.int .i64 i,.bool false,.bool false,.bool false,.int .i64 i,.int .i64 d,.int .i64 N,.bool false,.bool false,.slice A L.length c,.int .i64 d,
   .func (.func 137) #[] #[.pointer (some ⟨ro+1,0,none⟩),.pointer (some ⟨ro+2,0,none⟩)],y.1,.string (bs y.2),undef,undef,undef,undef,undef,undef,undef,undef,undef,undef,undef,undef,undef,undef,undef],defers:=[] })
  ?assign ?body ?done ?stop
 case assign =>
  intro l y W K hK
  gi_wp2
  exact hK
 case done =>
  rintro D xs x W hD hxs ⟨v,h1,h2,h3,h4,h5,h6,h7,h8⟩ hK
  omega
 case stop =>
  rintro D c pre x W hD _ ⟨rfl,v,h1,h2,h3,h4,h5,h6,h7⟩ hK
  have K1:=Z h1
  have hKD:=Z hK
  have H7:=Z h7.1
  have H2:=Z h2
  clear h1 h7 h2 h4 h5 hK
  (obtain⟨k1,f1,l1,m1⟩:=rl_ K1)
  gi_wp2
  rw[Exit.noGoto_ret]
  refine⟨by simp,.inl ⟨_,_,rfl,run_takeDeferred hKD.out,?_⟩⟩
  refine⟨.tuple #[v,.int .i64 0],by simp[results,Tryz.results59, go_sem],v,rfl,?_,below_shut H7.out (Nat.le_refl _) (by omega)⟩
  refine(H2.out.mono (by omega)).keep (grownBy_putObj' W D _) fun j hj e=>?_
  injection e with e
  subst e
  obtain⟨_,cs,t,fz,hcs⟩:=LRow.cells H2.out D hj
  rw[hKD.out]at hcs
  cases hcs
 case body =>
  rintro l pre y x W ⟨v,h1,h2,h3,h4,h5,h6,h7,h8⟩ hat
  have hown:=levAt_own hat
  obtain⟨e1,e2,e3,R⟩:=hat
  obtain⟨A2,c2,hx2,T⟩:=R.txts
  have hle:=levP_le L pre.length
  obtain⟨A3,c3,hv3,T3⟩:=h2.txts
  rw[branchP_len]at hv3
  have hbs:=Z (branchP_succ L i pre.length)
  have hpl:(pre ++ [y]).length=pre.length+1:=by simp
  rw[e1.trans hx2,e2]
  clear e1 e2
  generalize pre.length=k at *
  by_cases hkd:k=d
  ·subst hkd
   have K1:=Z h1
   have K4:=Z h4
   have H:=Z (show BrI L k i ro b w k x W from⟨v,h1,h2,h3,h4,h5,h6,h7,h8⟩)
   subst hv3
   clear h1 h2 h3 h4 h5 h6 h7 R T T3 hown hbs hpl
   (obtain⟨k1,f1,l1,m1⟩:=rl_ K1;obtain⟨k4,f4,l4,m4⟩:=rl_ K4)
   gi_wp2_with fail
   exact⟨KeepsOthers.refl _,rfl,H.out⟩
  ·have hkd2:((k:Int) == (d:Int))=false:=by simp;omega
   have hkd3:¬ (k:Int)=(d:Int):=by omega
   have K1:=Z h1
   have K4:=Z h4
   have K5:=Z h5
   have H2:=Z h2
   have H3:=Z h3
   have H7:=Z h7
   have HT:=Z T
   subst hv3
   clear h1 h2 h3 h4 h5 h6 h7 R T T3
   (obtain⟨k1,f1,l1,m1⟩:=rl_ K1;obtain⟨k4,f4,l4,m4⟩:=rl_ K4;obtain⟨k5,f5,l5,m5⟩:=rl_ K5)
   gi_wp2_with fail
   have hm:i / 2 ^ k<1024:=Nat.lt_of_le_of_lt (Nat.div_le_self _ _) hi2
   have hstep:=Z (div_step i k)
   generalize i / 2 ^ k=m at *
   have hxor:=xor_int m (by omega)
   have hx1:m ^^^ 1≤1025:=by rcases Nat.mod_two_eq_zero_or_one m with h|h <;> first|(rw[(xor_one m).1 h];omega)|(rw[(xor_one m).2 h];omega)
   have hnode:=Z (show nodeP L k (m ^^^ 1)=atP (levP L k) (zeroH k) (m ^^^ 1) from rfl)
   generalize m ^^^ 1=m2 at *
   generalize levP L k=Lv at *
   generalize zeroH k=z at *
   obtain⟨u,hu⟩:∃ u,atP Lv z m2=u:=⟨_,rfl⟩
   rw[hu]at hnode
   have H2k:W.ownsRow (ro+3) 9 1 (.slice A3 k c3) k ((branchP L i k).map tv):=by
    have:=H2.out
    unfold LRow at this
    rw[branchP_len]at this
    exact this
   replace H2k:=Z H2k
   refine wpIn_round_held (fun w'=>w'.cell? ⟨ro,0,none⟩=some (.slice A3 k c3)∧w'.cell? ⟨b+1,0,none⟩=some (.int .i64 m)) (fun j=>decide (j<8)) U ?_
   have hS0:W.drew.cell? ⟨ro,0,none⟩=some (.slice A3 k c3)∧W.drew.cell? ⟨b+1,0,none⟩=some (.int .i64 m):=⟨k1 0,k5 0⟩
   refine S_take (fun _=>trivial) 0 (.slice A3 k c3) U rfl U U U U (onlyN_panic _ _) hS0 (by rfl) (fun w' h=>by obtain⟨h1,h2⟩:=h;go_simp) ?_
   refine S_take (fun _=>trivial) 1 (.slice A2 Lv.length c2) U rfl U U U U (onlyN_panic _ _) hS0 (by rfl) (fun w' h=>by go_simp) ?_
   refine S_take (fun _=>trivial) 2 (.string (bs z)) U rfl U U U U (onlyN_panic _ _) hS0 (by rfl) (fun w' h=>by go_simp) ?_
   refine S_take (fun _=>trivial) 3 (.int .i64 m) U rfl U U U U (onlyN_panic _ _) hS0 (by rfl) (fun w' h=>by obtain⟨h1,h2⟩:=h;go_simp) ?_
   refine S_take (fun _=>trivial) 4 (.int .i64 m2) U rfl U U U U (onlyN_panic _ _) hS0 (by rfl) (fun w' h=>by go_simp) ?_
   refine S_one 5 U rfl (fun K hK=>?_)
   go_simp
   gi_wp2_with(gi_at_call 98; refine(CallsIn.inRound l (callsIn_wide.2 (at_same A2 c2 Lv z m2 (by omega) (by omega) _ (Txts.below HT.out bel)))).mono ?_;rintro e w2 ⟨rfl,rfl⟩;rw[hu])
   refine⟨fun _=>hS0,?_⟩
   refine S_one 6 U rfl (fun K hK=>?_)
   go_simp
   refine hK _ _ ⟨fun _=>⟨?_,?_⟩,?_⟩
   ·go_simp
   ·go_simp
   clear hK K
   refine S_oneL 7 U rfl ?_
   obtain⟨i0,hi,hz0,hz1,hz2⟩:=info_parts infoStr
   refine wpListIn_append_own_at _ rfl _ _ 31 rfl (ro+3) 9 i0 (.string ByteArray.empty) 1 16 Tryz.underlying31 hi hz0 hz1 hz2 rfl (by decide) (.slice A3 k c3) k ((branchP L i k).map tv) (by rfl) (World.ownsRow.drew (World.ownsRow.alloc H2k.out _)) ⟨W.heap.size,0,none⟩ 1 1 [.string (bs u)] rfl rfl (news1 _ _ _) (by simp[Value.oneCell']) (by unfold maxLen;omega) (by omega) (by simp;omega) ?_
   intro v' W' hown' hgrow _ hat
   have hlt2:∀ j,(Value.slice A3 k c3).ownBlock=some j→ro+3≤j∧j<W.heap.size:=fun j hj=>H2.out.lt j hj
   have hg:W.grownBy W' (Value.slice A3 k c3).ownBlock:=⟨hgrow.os,hgrow.tape,hgrow.output,Nat.le_trans (by simp) hgrow.size,fun j hj hr=>(hgrow.block j (by simp;omega) hr).trans (Below.heap_alloc _ _ j hj)⟩
   have hno:∀ j,j<ro+3→some j≠(Value.slice A3 k c3).ownBlock:=fun j hj e=>by have:=(hlt2 j e.symm).1;omega
   have P1:=Z (K1.out.grown hg (hno _ (by omega)))
   have P4:=Z (K4.out.grown hg (hno _ (by omega)))
   have P5:=Z (K5.out.grown hg (hno _ (by omega)))
   have HR':LRow (ro+3) W' v' (branchP L i (k+1)):=by
    rw[hbs.out,hnode.out]
    unfold LRow
    rw[List.length_append,List.map_append,branchP_len]
    exact hown'
   obtain⟨A4,c4,hv4,_⟩:=HR'.txts
   rw[branchP_len]at hv4
   subst hv4
   have hx':∀ j,(Value.slice A4 (k+1) c4).ownBlock=some j→x.ownBlock≠some j:=fun j hj e=>by
    rcases hat with h|h
    ·exact H3.out j (h.symm.trans hj) e
    ·rw[h]at hj
     injection hj with hj
     have:=(hown j e).2
     have:=size_alloc W (.cells #[.string (bs u)] 9)
     simp at hj
     omega
   have hKO:KeepsOthers W W':=KeepsOthers.of_grownBy hg fun j o e ho=>by
    obtain⟨_,cs,t,fz,hcs⟩:=LRow.cells H2.out j e
    rw[hcs]at ho
    injection ho with ho
    subst ho
    rfl
   have hKp:LevKp (ro+1) x W W':=levKp_grown hg (fun e=>hno _ (by omega) e.symm) (fun e=>hno _ (by omega) e.symm) (fun j e=>H3.out j e) (fun e=>hno _ (by omega) e.symm)
   have HB':Below w.heap.size w W':=H7.out.grown hg H7.out.size fun j e=>by have:=(hlt2 j e).1;omega
   have hz':ro+3≤W'.heap.size:=Nat.le_trans h8 hg.size
   replace HR':=Z HR'
   replace hx':=Z hx'
   replace hKO:=Z hKO
   replace hKp:=Z hKp
   replace HB':=Z HB'
   clear hgrow hg hown' hat hi hz0 hz1 hz2 hlt2 hno k1 f1 l1 m1 k4 f4 l4 m4 k5 f5 l5 m5 K1 K4 K5 H2 H3 H7 HT hS0 H2k hbs hnode
   have k1:=Blk.cell P1.out
   have f1:=Blk.free P1.out
   have l1:=Blk.lt P1.out
   have k5:=Blk.cell P5.out
   have f5:=Blk.free P5.out
   have l5:=Blk.lt P5.out
   refine⟨fun _=>⟨k1 0,k5 0⟩,?_⟩
   refine S_end 8 (ls:=[_]) rfl (fun j hj=>by simp;omega) U ?_
   gi_wp2_with fail
   refine⟨rfl,?_⟩
   gi_wp2_with fail
   have K1:=P1
   have K4:=P4
   have K5:=P5
   have hlt3:∀ j,(Value.slice A4 (k+1) c4).ownBlock=some j→ro+3≤j:=fun j hj=>(HR'.out.lt j hj).1
   have hxo:∀ j,x.ownBlock=some j→ro+3≤j:=fun j hj=>by have:=(hown j hj).1;omega
   refine⟨(hKO.out.trans (KeepsOthers.setCell _ _ _)).trans (KeepsOthers.setCell _ _ _),(hKp.out.trans (levKp_grown (grown_set (World.grownBy.refl _ _)) (by first|(simp;done)|(simp;omega)) (by first|(simp;done)|(simp;omega)) (fun j hj e=>by have:=hxo j e;injection hj with hj;omega) (by first|(simp;done)|(simp;omega)))).trans (levKp_grown (grown_set (World.grownBy.refl _ _)) (by first|(simp;done)|(simp;omega)) (by first|(simp;done)|(simp;omega)) (fun j hj e=>by have:=hxo j e;injection hj with hj;omega) (by first|(simp;done)|(simp;omega))),?_⟩
   show BrI L d i ro b w (pre ++ [y]).length x _
   rw[hpl]
   refine⟨.slice A4 (k+1) c4,(by apply Blk.to;(repeat(first|with_reducible exact K1.out|exact nwJ|with_reducible apply Blk.set_|with_reducible apply Blk.alloc|with_reducible apply Blk.drewN|with_reducible apply Blk.drew|(with_reducible apply Blk.over2;first|assumption|omega)));rfl),?_,hx'.out,(by apply Blk.to;(repeat(first|with_reducible exact K4.out|exact nwJ|with_reducible apply Blk.set_|with_reducible apply Blk.alloc|with_reducible apply Blk.drewN|with_reducible apply Blk.drew|(with_reducible apply Blk.over2;first|assumption|omega)));rfl),?_,by omega,(HB'.out.setCell (by simp;omega) _).setCell (by simp;omega) _,by simp;omega⟩
   ·exact(HR'.out.keep (grown_set (World.grownBy.refl _ _)) (fun j hj e=>by have:=hlt3 j hj;injection e with e;omega)).keep (grown_set (World.grownBy.refl _ _)) (fun j hj e=>by have:=hlt3 j hj;injection e with e;omega)
   ·have e5:((i / 2 ^ (k+1):Nat):Int)=(m:Int) / 2:=by rw[←hstep.out];omega
    rw[e5]
    exact(by apply Blk.to;(repeat(first|with_reducible exact K5.out|exact nwJ|with_reducible apply Blk.set_|with_reducible apply Blk.alloc|with_reducible apply Blk.drewN|with_reducible apply Blk.drew|(with_reducible apply Blk.over2;first|assumption|omega)));rfl)
def BranchOk(L:List Bytes) (d i:Int):Prop:=RightP L d∧0≤i∧i<((2 ^ d.toNat:Nat):Int)
instance instBranchOk (L:List Bytes) (d i:Int):Decidable (BranchOk L d i):=by unfold BranchOk;infer_instance
end
end Go.Proofs.YtobgigcdpiikaaaGreatDoor
namespace Go.Phx
section
theorem take_step{α:Type} (l:List α) (d:α) (m:Nat) (h:m<l.length):l.take (m+1)=l.take m ++ [l.getD m d]:=by
 rw[List.take_add_one,List.getElem?_eq_getElem h,List.getD,List.getElem?_eq_getElem h]
 rfl
def stepT(s x:Bytes) (i k:Nat):Bytes:=if i / 2 ^ k % 2=1 then s ++ x else x ++ s
theorem wayP_step(r:List Bytes) (x:Bytes) (i k:Nat) (h:k<r.length):wayP x (r.take (k+1)) i=sha (stepT (r.getD k []) (wayP x (r.take k) i) i k):=by
 rw[take_step r [] k h,wayP_snoc',List.length_take,Nat.min_eq_left (by omega)]
 unfold stepT
 split <;> rfl
theorem wayP_32:∀ (r:List Bytes) (x:Bytes) (i:Nat),x.length=32→(wayP x r i).length=32
 | [],x,i,h=>h
 | s :: r,x,i,h=>by
  unfold wayP
  exact wayP_32 r _ _ (by split <;> exact sha_len _)
theorem getD_mem{l:List Bytes}{k:Nat} (h:k<l.length):l.getD k []∈l:=by
 rw[List.getD,List.getElem?_eq_getElem h]
 exact List.getElem_mem h
theorem chunk_prog(s:Bytes) (k n:Nat) (hn:n=min 32 (s.length - 32*k)):(s.drop (32*k)).take n ++ zero32.drop n=chunkP s k:=by
 unfold chunkP zero32
 have e:(s.drop (32*k)).take n=(s.drop (32*k)).take 32:=by
  rw[hn,←List.length_drop,Nat.min_def]
  split
  ·rfl
  ·rw[List.take_of_length_le (Nat.le_refl _),List.take_of_length_le (by omega)]
 rw[e,List.drop_replicate,List.length_take,List.length_drop,←hn]
theorem pack_end(s:Bytes) (k:Nat) (h1:k≤(s.length+31) / 32) (h2:s.length≤32*k):packN s k=packP s:=by
 unfold packP
 rw[show(s.length+31) / 32=k by omega]
end
end Go.Phx
namespace Go.Proofs.YtobgigcdpiikaaaGreatDoor
section
open BigFrame Go.RowKit Go.Phx Go.Shelf
attribute [local go_sem] Oper.semAt_some
theorem pack_append(w:World) (g o n:Nat) (p z:Bytes) (hp:p.length=n) (hn:n≤32) (hz:z.length=32 - n) (hc:∀ j,j<n→w.cell? ⟨g,o+j,none⟩=some (bv (p.getD j 0))) :
  ∃ v' w',(Builtin.append_ #[55, 9] 55 #[.slice (some ⟨g,o,none⟩) n n,.string (bs z)]).run Tryz.prog w=.ok v' w'∧Below w.heap.size w w' ∧
   ∀ W,Below w'.heap.size w' W→(convert 55 9 v').run Tryz.prog W=.ok (.string (bs (p ++ z))) W:=by
 have hu8:Tryz.prog.underlying 55 = some (.slice 5):=by kernel_rfl
 have hst:Tryz.prog.underlying 9 = some .string:=by kernel_rfl
 have he8:Tryz.prog.underlying 5 = some (.int .u8):=by kernel_rfl
 obtain⟨i0,hi,hz0,hz1,hz2⟩:=info_parts infoU8
 by_cases h:n=32
 ·obtain rfl:z=[]:=List.eq_nil_of_length_eq_zero (by omega)
  subst h
  refine⟨.slice (some ⟨g,o,none⟩) 32 32,w,?_,Below.refl _ _,fun W hW=>?_⟩
  ·have h0:(bs []).size=0:=rfl
   have hf:=Lib.run_firstCells_string (P:=Tryz.prog) w 1 (bs [])
   rw[h0]at hf
   have hsc:Lib.strCells (bs [])=[]:=rfl
   rw[hsc]at hf
   simp[Builtin.append_,run_underlying hu8,run_underlying hst,sizeOf,typeInfo,hi,hz1,Builtin.lenOf,h0,hf,storeCells]
  ·have:=run_convert_bytes_arg (P:=Tryz.prog) W _ _ hu8 he8 g o 32 32 (p.map fun c:UInt8=>(c.toNat:Int)) (by simpa using hp) (fun j hj=>by
    have hlt:g<w.heap.size:=World.block_lt_of_cell? _ _ (hc 0 (by omega))
    rw[hW.cell (p:=⟨g,o+j,none⟩) hlt,hc j hj]
    unfold bv
    simp[List.getD,List.getElem?_eq_getElem (show j<p.length by omega)]) _ hst
   rw[this,strOfNums_map,List.append_nil]
 ·have hsz:(bs z).size=32 - n:=by rw[bs_size,hz]
  have hcap:n<n+(bs z).size:=by omega
  have hr:=Lib.run_append_grow_string (P:=Tryz.prog) w 55 9 55 5 i0 (.int .u8 0) hu8 hst hi hz0 ⟨g,o,none⟩ n n (p.map bv) (by rw[List.length_map,hp,hz1,Nat.mul_one]) (fun j v hv=>by
   have hj:j<n:=by have:=(List.getElem?_eq_some_iff.1 hv).1;simpa[hp] using this
   rw[Addr.add_mid,hc j hj]
   rw[List.getElem?_map,List.getElem?_eq_getElem (by omega)]at hv
   simp only[Option.map_some,Option.some.injEq]at hv
   rw[←hv,List.getD,List.getElem?_eq_getElem (by omega)]
   rfl) (bs z) hcap (by omega) (growslice_fits (by omega) (by rw[hz2];omega))
  have e32:n+(bs z).size=32:=by omega
  rw[e32]at hr
  have hge:=grownCap_ge w 32 n 5
  refine⟨_,_,hr,((Below.refl _ _).drew).alloc (Nat.le_refl _) _,fun W hW=>?_⟩
  refine conv_cells W w.heap.size (p ++ z) 32 _ (by rw[List.length_append];omega) fun j u hu=>?_
  have hj:j<32:=by have:=(List.getElem?_eq_some_iff.1 hu).1;simp at this;omega
  rw[hW.cell (p:=⟨w.heap.size,j,none⟩) (by simp)]
  rw[cell_of_row _ w.heap.size j _ 5 (0,0) (heap_alloc_new w.drew _)]
  have e:(p.map bv).toArray ++ (Lib.strCells (bs z)).toArray=((p ++ z).map bv).toArray:=by
   rw[List.map_append]
   simp[Lib.strCells,bs_list]
   exact fun _ _=>rfl
  rw[e,Array.getElem?_append_left (by simp;omega)]
  simpa using hu
theorem pack_calls(s:Bytes) (hs:s.length≤100000) (w:World):Calls Tryz.prog 53 #[.string (bs s)] w (fun e w'=>∃ v,e=.returned v∧LRow w.heap.size w' v (packP s)∧Below w.heap.size w w'):=by
 have TX:=Z (txt_own w s w.heap.size (Nat.le_refl _) (by omega))
 have TB:=txt_below w (bs s)
 have TS:=txt_size w (bs s)
 obtain⟨W1,hW1⟩:∃ W1,txtCells w (bs s)=W1:=⟨_,rfl⟩
 obtain⟨cp,hcp⟩:∃ cp,grownCap w s.length 0 5 = cp:=⟨_,rfl⟩
 have hcl:s.length≤cp:=by rw[←hcp];exact grownCap_ge w _ 0 _
 rw[hcp]at TX
 rw[hW1]at TX TB TS
 obtain⟨g,hg⟩:∃ g,w.heap.size=g:=⟨_,rfl⟩
 have hcell:∀ j,j<s.length→W1.cell? ⟨g,j,none⟩=some (bv (s.getD j 0)):=fun j hj=>by
  obtain⟨g',c',hv,_,_,_,_,h⟩:=TX.out.form
  simp only[Value.slice.injEq,Option.some.injEq,Addr.mk.injEq,true_and,and_true]at hv
  rw[←hg,hv.1]
  exact h j _ (by rw[List.getElem?_map,List.getElem?_eq_getElem hj,List.getD,List.getElem?_eq_getElem hj];rfl)
 replace hcell:=Z hcell
 have hg1:g<W1.heap.size:=by rw[TS,hg];omega
 have TB1:=TB
 rw[hg]at TS
 clear TX
 go_enter Tryz.func53, Tryz.ntmps53
 go_wp2_with fail
 replace hcp:=Z hcp
 replace hg:=Z hg
 replace hW1:=Z hW1
 replace TS:=Z TS
 go_loopw [3,4] (fun v b wr=>∃ (u:Value) (k o c:Nat),u=v∧k≤(s.length+31) / 32∧b=.slice (some ⟨g,o,none⟩) (s.length - 32*k) c∧(32*k<s.length→o=32*k)∧s.length - 32*k≤c∧LRow W1.heap.size wr u (packN s k)∧Below W1.heap.size W1 wr) (fun _ b _=>match b with | .slice _ n _=>n|_=>0)
 case atStart=>exact⟨_,0,0,cp,rfl,by omega,rfl,fun _=>rfl,by omega,World.ownsRow_nil _ _ _ _,Below.refl _ _⟩
 case round =>
  obtain⟨v,k,o,c,rfl,hk,rfl,ho,hc,OWN,HB⟩:=hrel
  have hmeas:∀ j,s.length - 32*(k+1)<s.length - 32*k∨s.length≤32*k:=fun _=>by omega
  by_cases hlt:32*k<s.length
  ·obtain rfl:=ho hlt
   obtain⟨a,ha⟩:∃ a,32*k=a:=⟨_,rfl⟩
   rw[ha]at hlt hc ⊢
   obtain⟨r,hr⟩:∃ r,s.length - a=r:=⟨_,rfl⟩
   rw[hr]at hc ⊢
   obtain⟨n,hn⟩:∃ n,min 32 r=n:=⟨_,rfl⟩
   have hr0:0<r:=by omega
   have hmin:min (32:Int) (r:Int)=(n:Int):=by omega
   have hn0:0<n:=by omega
   have hnr:n≤r:=by omega
   have hn32:n≤32:=by omega
   have hchunk:=Z (chunk_prog s k n (by rw[ha,hr];exact hn.symm))
   have hnext:=Z (packN_succ s k)
   have hpl:((s.drop a).take n).length=n:=by rw[List.length_take,List.length_drop];omega
   have hat:∀ j,j<n→((s.drop a).take n).getD j 0=s.getD (a+j) 0:=fun j hj=>by
    rw[List.getD,List.getD,List.getElem?_take_of_lt hj,List.getElem?_drop]
   rw[ha]at hchunk
   have hzl:(zero32.drop n).length=32 - n:=by rw[List.length_drop];rfl
   have hpc:∀ j,j<n→wr.cell? ⟨g,a+j,none⟩=some (bv (((s.drop a).take n).getD j 0)):=fun j hj=>by
    rw[HB.cell (p:=⟨g,a+j,none⟩) hg1,hcell.out _ (by omega),hat j hj]
   have hdz:(bs zero32).extract n 32=bs (zero32.drop n):=bs_drop zero32 n
   have hql:=packN_len s k
   generalize(s.drop a).take n=p at *
   generalize packN s k=q at *
   have hq1:q.length≤100000:=by omega
   replace hpc:=Z hpc
   replace hpl:=Z hpl
   replace hn:=Z hn
   replace ha:=Z ha
   replace hr:=Z hr
   replace hql:=Z hql
   replace OWN:=Z OWN
   replace hdz:=Z hdz
   replace hzl:=Z hzl
   clear hat hmeas
   have hr1:r≤100000:=by have:=hr.out;omega
   go_wp2_with fail
   refine(nought_calls _).mono ?_
   rintro e w1 ⟨rfl,h1⟩
   have hgr:g<wr.heap.size:=Nat.lt_of_lt_of_le hg1 HB.size
   have OWN1:=Z (LRow.below OWN.out h1)
   have HB1:=HB.trans (h1.mono HB.size)
   obtain⟨v1,w2,hr1,h2,hcv1⟩:=pack_append w1 g a n p (zero32.drop n) hpl.out hn32 hzl.out (fun j hj=>by rw[h1.cell (p:=⟨g,a+j,none⟩) hgr];exact hpc.out j hj)
   have OWN2:=Z (LRow.below OWN1.out h2)
   have HB2:=HB1.trans (h2.mono HB1.size)
   have hcv2:=hcv1 w2 (Below.refl _ _)
   rw[hchunk.out]at hcv2
   clear hcv1 OWN OWN1 HB1 hpc hcell h1 h2
   have hb2:=HB2.size
   have hq2:q.length≤1000000000:=by omega
   go_wp2_with(first|(at_builtin;refine wpList_append_run rfl _ _ _ _ rfl _ _ v1 rfl rfl hr1 ?_)|(at_builtin;refine wpList_append_txt rfl _ _ rfl W1.heap.size v q rfl (OWN2.out.on _) (chunkP s k) ⟨w2.heap.size,0,none⟩ rfl (new_cell _ _ _) hq2 (Nat.le_trans hb2 (by simp)) ?_))
   intro v' w' hown hgrow _
   have hown3:=Z (show LRow W1.heap.size w' v' (packN s (k+1)) from by
    rw[hnext.out]
    exact hown)
   have HB3:=below_app (HB2.alloc HB2.size _) (OWN2.out.on _) hgrow
   clear hown hgrow OWN2 hcv2 hr1
   have e1:s.length - 32*(k+1)=r - n:=by have:=ha.out;have:=hr.out;have:=hn.out;omega
   have e2:k+1≤(s.length+31) / 32:=by have:=ha.out;omega
   have e3:32*(k+1)<s.length→a+n=32*(k+1):=fun _=>by have:=ha.out;have:=hr.out;have:=hn.out;omega
   have e4:¬ 32*(k+1)<s.length∨n<c:=by have:=ha.out;have:=hr.out;have:=hn.out;omega
   replace e1:=Z e1
   replace e3:=Z e3
   by_cases hnc:n=c
   ·have hcc:c - n=0:=by omega
    subst hnc
    go_wp2_with fail
    exact⟨⟨_,k+1,a,0,rfl,e2,by rw[e1.out];congr 1;omega,fun h=>by omega,by have:=e1.out;omega,hown3.out,HB3⟩,hr0⟩
   ·have hnc2:n<c:=by omega
    go_wp2_with fail
    exact⟨⟨_,k+1,a+n,c - n,rfl,e2,by rw[e1.out],e3.out,by have:=e1.out;omega,hown3.out,HB3⟩,by show r - n<r;omega⟩
  ·have hend:=pack_end s k hk (by omega)
   have hz:s.length - 32*k=0:=by omega
   rw[hend]at OWN
   rw[hz]
   have hbw:=Below.on HB TB1
   have hb1:w.heap.size≤W1.heap.size:=TB1.size
   replace hend:=Z hend
   replace OWN:=Z (LRow.mono OWN hb1)
   clear hmeas ho hz
   go_wp2_with fail
   go_ret
   exact⟨_,rfl,OWN.out,hbw⟩
theorem isChunk_yes(l:List UInt8) (hl:l.length=32) (w:World):Calls Tryz.prog 136 #[.string (bs l)] w (fun e w'=>e=.returned (.bool true)∧w=w'):=by
 have e:((l.length:Int)=32):=by omega
 go_enter Tryz.func136, Tryz.ntmps136
 go_wp2_with fail
 go_ret
 exact⟨by simp[hl],rfl⟩
theorem isChunk_no(l:List UInt8) (hl:l.length≠32) (hb:l.length≤9223372036854775807) (w:World):Calls Tryz.prog 136 #[.string (bs l)] w (fun e w'=>e=.returned (.bool false)∧w=w'):=by
 have e:¬ ((l.length:Int)=32):=by omega
 go_enter Tryz.func136, Tryz.ntmps136
 go_wp2_with fail
 go_ret
 exact⟨by simp[e],rfl⟩
theorem check_loop(x:Bytes) (A:Option Addr) (c:Nat) (L:List Bytes) (i:Nat) (root:Bytes) (hx:x.length=32) (hr:root.length=32) (hL:L.length≤64) (hi:i<18446744073709551616) (hi2:i / 2 ^ L.length=0)
  (hall:∀ y∈L,y.length≤1000000000) (w:World) (hk:HasK w) (hs:Txts w A L) :
  Calls Tryz.prog 109 #[.string (bs x),.slice A L.length c,.int .u64 i,.string (bs root)] w (Ret w (.bool (decide (CheckP x L i root)))):=by
 have hL1:¬ (64<L.length):=by omega
 have hL2:decide ((64:Int)<(L.length:Int))=false:=decide_eq_false (by omega)
 have hi3:(i:Int) / 2 ^ L.length=0:=by
  have:((i / 2 ^ L.length:Nat):Int)=0:=by rw[hi2];rfl
  simpa using this
 go_enter Tryz.func109, Tryz.ntmps109
 go_wp2_with(first|(go_at_call 136; (with_reducible refine(isChunk_yes x hx _).mono ?_);rintro e w' ⟨rfl,rfl⟩)|(go_at_call 136; (with_reducible refine(isChunk_yes root hr _).mono ?_);rintro e w' ⟨rfl,rfl⟩))
 clear hL1 hL2 hi3
 go_loopw [0,2,33] (fun q j n wr=>∃ k:Nat,k≤L.length∧n=.int .i64 k∧q=.string (bs (wayP x (L.take k) i))∧j=.int .u64 ((i / 2 ^ k:Nat):Int)∧(∀ y∈L.take k,y.length=32)∧Below w.heap.size w wr) (fun _ _ n _=>(L.length - intOf n).toNat)
 case atStart=>exact⟨0,by omega,rfl,rfl,by rw[Nat.pow_zero,Nat.div_one],by simp,Below.refl _ _⟩
 case round =>
  obtain⟨k,hk2,rfl,rfl,rfl,h32,HB⟩:=hrel
  have hkr:=hk.on HB
  by_cases hlt:k<L.length
  ·have hw:=Z (wayP_step L x i k hlt)
   have hql:=wayP_32 (L.take k) x i hx
   obtain⟨b,o,rfl,hb,hc⟩:=Txts.at (Txts.below hs HB) k hlt
   have htake:=Z (take_step L [] k hlt)
   have hy:=hall _ (getD_mem hlt)
   have hmem:=Z (getD_mem hlt)
   generalize L.getD k []=y at *
   generalize wayP x (L.take k) i=q at *
   have hdiv:i / 2 ^ k / 2=i / 2 ^ (k+1):=by rw[Nat.div_div_eq_div_mul,Nat.pow_succ]
   replace hdiv:=Z hdiv
   have hstep:∀ s t:Bytes,Phx.stepT s t i k=if i / 2 ^ k % 2=1 then s ++ t else t ++ s:=fun _ _=>rfl
   replace hstep:=Z hstep
   have hm:i / 2 ^ k<18446744073709551616:=Nat.lt_of_le_of_lt (Nat.div_le_self _ _) hi
   generalize i / 2 ^ k=m at *
   clear hs hall
   replace h32:=Z h32
   by_cases hy32:y.length=32
   ·have hnext:∀ z∈L.take (k+1),z.length=32:=by
     rw[htake.out]
     intro z hz
     rcases List.mem_append.1 hz with h|h
     ·exact h32.out z h
     ·rw[List.mem_singleton.1 h];exact hy32
    replace hnext:=Z hnext
    rcases Nat.mod_two_eq_zero_or_one m with hm2|hm2
    ·have hm3:((m:Int) % 2 == 1)=false:=by
      have:(m:Int) % 2=0:=by omega
      rw[this];rfl
     have hm4:¬ (m:Int) % 2=1:=by omega
     rw[hstep.out,if_neg (by omega)]at hw
     clear hm2
     replace HB:=Z HB
     replace hkr:=Z hkr
     go_wp2_with(go_at_call 136; (with_reducible refine(isChunk_yes y hy32 _).mono ?_);rintro e w' ⟨rfl,rfl⟩)
     refine(sum2_calls q y (by omega) (by omega) _ _ (hkr.out.alloc _) (strs2 wr _ _)).mono ?_
     rintro e w2 ⟨rfl,h2⟩
     have HB2:Below w.heap.size w w2:=Below.on h2 (HB.out.alloc HB.out.size _)
     go_wp2_with fail
     go_roundw
     case rel=>exact⟨k+1,by omega,by go_num,by rw[hw.out],by rw[←hdiv.out];go_num,hnext.out,HB2⟩
     case measure=>simp[intOf];omega
    ·have hm3:((m:Int) % 2 == 1)=true:=by
      have:(m:Int) % 2=1:=by omega
      rw[this];rfl
     have hm4:(m:Int) % 2=1:=by omega
     rw[hstep.out,if_pos hm2]at hw
     clear hm2
     replace HB:=Z HB
     replace hkr:=Z hkr
     go_wp2_with(go_at_call 136; (with_reducible refine(isChunk_yes y hy32 _).mono ?_);rintro e w' ⟨rfl,rfl⟩)
     refine(sum2_calls y q (by omega) (by omega) _ _ (hkr.out.alloc _) (strs2 wr _ _)).mono ?_
     rintro e w2 ⟨rfl,h2⟩
     have HB2:Below w.heap.size w w2:=Below.on h2 (HB.out.alloc HB.out.size _)
     go_wp2_with fail
     go_roundw
     case rel=>exact⟨k+1,by omega,by go_num,by rw[hw.out],by rw[←hdiv.out];go_num,hnext.out,HB2⟩
     case measure=>simp[intOf];omega
   ·have hno:decide (CheckP x L i root)=false:=decide_eq_false fun h=>hy32 (h.2.2.2.2.1 y hmem.out)
    replace hno:=Z hno
    replace HB:=Z HB
    replace hL:=Z hL
    clear hkr
    go_wp2_with(go_at_call 136; (with_reducible refine(isChunk_no y hy32 (by omega) _).mono ?_);rintro e w' ⟨rfl,rfl⟩)
    go_ret
    exact⟨by rw[hno.out];rfl,HB.out⟩
  ·obtain rfl:k=L.length:=by omega
   rw[List.take_of_length_le (Nat.le_refl _)]at h32 ⊢
   have hq:(decide (CheckP x L i root))=decide (wayP x L i=root):=by
    rw[decide_eq_decide]
    exact⟨fun h=>h.2.2.2.2.2,fun h=>⟨hL,hx,hr,(Nat.div_eq_zero_iff_lt (Nat.two_pow_pos _)).1 hi2,h32,h⟩⟩
   replace hq:=Z hq
   have hql:=wayP_32 L x i hx
   generalize wayP x L i=q at *
   replace HB:=Z HB
   clear h32 hs hall
   by_cases hqr:q=root
   ·subst hqr
    go_wp2_with fail
    go_ret
    exact⟨by rw[hq.out];simp,HB.out⟩
   ·have hne:(q == root)=false:=by simpa using hqr
    go_wp2_with fail
    go_ret
    exact⟨by rw[hq.out];simp[hqr],HB.out⟩
theorem check_no(x:Bytes) (A:Option Addr) (c:Nat) (L:List Bytes) (i:Nat) (root:Bytes) (hx:x.length≤1000000000) (hr:root.length≤1000000000) (hL:L.length≤1000000000) (hi:i<18446744073709551616)
  (hn:64<L.length∨x.length≠32∨root.length≠32∨L.length≤64∧x.length=32∧root.length=32∧i / 2 ^ L.length≠0) (w:World) :
  Calls Tryz.prog 109 #[.string (bs x),.slice A L.length c,.int .u64 i,.string (bs root)] w (Ret w (.bool false)):=by
 by_cases h1:64<L.length
 ·have e1:decide ((64:Int)<(L.length:Int))=true:=decide_eq_true (by omega)
  clear hn
  go_enter Tryz.func109, Tryz.ntmps109
  go_wp2_with fail
  go_ret
  exact⟨rfl,Below.refl _ _⟩
 ·have e1:decide ((64:Int)<(L.length:Int))=false:=decide_eq_false (by omega)
  by_cases h2:x.length=32
  ·by_cases h3:root.length=32
   ·have h4:i / 2 ^ L.length≠0:=by omega
    have h5:(0:Int)<(i:Int) / 2 ^ L.length:=by
     have:(0:Int)<((i / 2 ^ L.length:Nat):Int):=Int.natCast_pos.2 (Nat.pos_of_ne_zero h4)
     simpa using this
    have h6:decide ((0:Int)<(i:Int) / 2 ^ L.length)=true:=decide_eq_true h5
    have h7:L.length≤64:=by omega
    clear hn h4
    go_enter Tryz.func109, Tryz.ntmps109
    go_wp2_with(first|(go_at_call 136; (with_reducible refine(isChunk_yes x h2 _).mono ?_);rintro e w' ⟨rfl,rfl⟩)|(go_at_call 136; (with_reducible refine(isChunk_yes root h3 _).mono ?_);rintro e w' ⟨rfl,rfl⟩))
    go_ret
    exact⟨rfl,Below.refl _ _⟩
   ·clear hn
    go_enter Tryz.func109, Tryz.ntmps109
    go_wp2_with(first|(go_at_call 136; (with_reducible refine(isChunk_yes x h2 _).mono ?_);rintro e w' ⟨rfl,rfl⟩)|(go_at_call 136; (with_reducible refine(isChunk_no root h3 (by omega) _).mono ?_);rintro e w' ⟨rfl,rfl⟩))
    go_ret
    exact⟨rfl,Below.refl _ _⟩
  ·clear hn
   go_enter Tryz.func109, Tryz.ntmps109
   go_wp2_with(go_at_call 136; (with_reducible refine(isChunk_no x h2 (by omega) _).mono ?_);rintro e w' ⟨rfl,rfl⟩)
   go_ret
   exact⟨rfl,Below.refl _ _⟩
theorem check_calls(x:Bytes) (A:Option Addr) (c:Nat) (L:List Bytes) (i:Nat) (root:Bytes) (hx:x.length≤1000000000) (hr:root.length≤1000000000) (hL:L.length≤1000000000) (hi:i<18446744073709551616)
  (hall:∀ y∈L,y.length≤1000000000) (w:World) (hk:HasK w) (hs:Txts w A L) :
  Calls Tryz.prog 109 #[.string (bs x),.slice A L.length c,.int .u64 i,.string (bs root)] w (Ret w (.bool (decide (CheckP x L i root)))):=by
 by_cases h:L.length≤64∧x.length=32∧root.length=32∧i / 2 ^ L.length=0
 ·exact check_loop x A c L i root h.2.1 h.2.2.1 h.1 hi h.2.2.2 hall w hk hs
 ·have e:decide (CheckP x L i root)=false:=decide_eq_false fun hc=>h ⟨hc.1,hc.2.1,hc.2.2.1,Nat.div_eq_of_lt hc.2.2.2.1⟩
  rw[e]
  refine check_no x A c L i root hx hr hL hi ?_ w
  by_cases h1:64<L.length
  ·exact .inl h1
  ·by_cases h2:x.length=32
   ·by_cases h3:root.length=32
    ·exact .inr (.inr (.inr ⟨by omega,h2,h3,fun h4=>h ⟨by omega,h2,h3,h4⟩⟩))
    ·exact .inr (.inr (.inl h3))
   ·exact .inr (.inl h2)
end
section
open BigFrame Go.RowKit Go.Phx Go.Shelf
theorem app_rows(w:World) (base:Nat) (hb:base≤w.heap.size) (v:Value) (L0:List Bytes) (R:LRow base w v L0) (A:Option Addr) (c:Nat) (L:List Bytes) (h0:L0.length≤1048576) (hL:L.length≤1048576) (hs:Txts w A L) :
  ∃ v' w',(Builtin.append_ #[31, 31] 31 #[v,.slice A L.length c]).run Tryz.prog w=.ok v' w'∧LRow base w' v' (L0 ++ L)∧w.grownBy w' v.ownBlock:=by
 obtain⟨i0,hi,hz0,hz1,hz2⟩:=info_parts infoStr
 by_cases hz:L=[]
 ·subst hz
  rw[List.append_nil]
  have hsc:Builtin.firstCells 1 0 (.slice A 0 c)=pure #[]:=by
   cases A <;> simp[Builtin.firstCells,loadCells,loadCellsFrom]
  refine⟨v,w,?_,R,World.grownBy.refl _ _⟩
  rcases R.2 with ⟨rfl,hl⟩|⟨g,cap,cur,rfl,_,_,hc,_⟩
  ·simp[Builtin.append_,run_underlying Tryz.underlying31, sizeOf,typeInfo,hi,hz1,Builtin.lenOf,hsc,storeCells]
  ·simp[Builtin.append_,run_underlying Tryz.underlying31, sizeOf,typeInfo,hi,hz1,Builtin.lenOf,hsc,storeCells,hc]
 ·have hpos:0<L.length:=by cases L with|nil=>exact absurd rfl hz|cons=>simp
  obtain⟨b,o,rfl,hb2,_⟩:=hs.at 0 hpos
  have hcs:∀ (j:Nat) u,(L.map tv)[j]?=some u→w.cell? ((⟨b,o,none⟩:Addr).add j)=some u:=fun j u hu=>by
   have hj:j<L.length:=by have:=(List.getElem?_eq_some_iff.1 hu).1;simpa using this
   obtain⟨b',o',he,hlt,hc⟩:=hs.at j hj
   simp only[Option.some.injEq,Addr.mk.injEq,and_true]at he
   obtain⟨rfl,rfl⟩:=he
   rw[Addr.add_mid,hc]
   rw[List.getElem?_map,List.getElem?_eq_getElem hj]at hu
   simp only[Option.map_some,Option.some.injEq]at hu
   rw[←hu,List.getD,List.getElem?_eq_getElem hj]
   rfl
  obtain⟨v',w',hr,h2,h3,_,_⟩:=run_append_own_at (P:=Tryz.prog) w base 31 31 9 i0 (.string ByteArray.empty) 1 16 Tryz.underlying31 hi hz0 hz1 hz2 rfl (by decide) v L0.length (L0.map tv) R ⟨b,o,none⟩ L.length c (L.map tv) (by simp) hcs (fun u hu=>by
   simp only[List.mem_map]at hu
   obtain⟨x,_,rfl⟩:=hu
   rfl) (by unfold maxLen;omega) (by omega) hb
  refine⟨v',w',hr,?_,h3⟩
  unfold LRow
  rw[List.length_append,List.map_append]
  exact h2
end
section
open BigFrame Go.RowKit Go.Phx Go.Shelf
attribute [local go_sem] Oper.semAt_some
theorem and_one(m:Nat) (h:m<18446744073709551616):bits .and .u64 (m:Int) 1=((m % 2:Nat):Int):=by
 have e:(BitVec.ofInt 64 (m:Int) &&& BitVec.ofInt 64 1).toNat=m % 2:=by
  rw[BitVec.toNat_and]
  have e1:(BitVec.ofInt 64 (m:Int)).toNat=m:=by simp;omega
  have e2:(BitVec.ofInt 64 1).toNat=1:=by decide
  rw[e1,e2,Nat.and_one_is_mod]
 show IntKind.u64.wrap ((BitVec.ofInt 64 (m:Int) &&& BitVec.ofInt 64 1).toNat:Int)=_
 rw[e]
 exact IntWalk.u64_in _ (by omega)
end
end Go.Proofs.YtobgigcdpiikaaaGreatDoor
