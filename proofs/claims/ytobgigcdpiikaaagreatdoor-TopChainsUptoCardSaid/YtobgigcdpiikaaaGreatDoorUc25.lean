/- Plain laws and walks, each by its own conditions. -/
import Derived.Test.YtobgigcdpiikaaaGreatDoorUc24
set_option linter.unusedSimpArgs false
set_option linter.unusedVariables false
set_option maxRecDepth 100000
set_option maxHeartbeats 16000000
namespace Go.Proofs.YtobgigcdpiikaaaGreatDoor
section
open BigFrame Go.RowKit Go.Phx Go.Shelf
attribute [local go_sem] Oper.semAt_some
abbrev zIv:Iv:=⟨false,[],none,0,0⟩
theorem infoItem:(Tryz.prog.info? 79).map (fun i=>(i.zero,i.size,i.bytes))=some (some (.agg #[.bool false,.string ByteArray.empty,.slice none 0 0]),3,48):=by kernel_rfl
theorem sizeItem:(Tryz.prog.info? 79).map (·.size)=some 3:=by kernel_rfl
def IRow(base:Nat) (W:World) (v:Value) (vs:List Iv):Prop:=W.ownsRow base 79 3 v vs.length (IvL vs)
theorem IRow.shape{base:Nat}{W:World}{v:Value}{vs:List Iv} (h:IRow base W v vs):∃ A c,v=.slice A vs.length c∧vs.length≤c∧c≤maxLen∧CsS (fun b=>base≤b∧v.ownBlock=some b) W A (IvL vs):=by
 rcases h.2 with ⟨rfl,h0⟩|⟨g,cap,cur,rfl,hb,hg,hn,hm,hs,ht⟩
 ·rw[h0]
  obtain rfl:=List.eq_nil_of_length_eq_zero h0
  exact⟨none,0,rfl,Nat.le_refl _,Nat.zero_le _,CsS.nil _ _ _⟩
 ·refine⟨some ⟨g,0,none⟩,cap,rfl,hn,hm,fun _=>⟨g,0,rfl,⟨hb,rfl⟩,(Array.getElem?_eq_some_iff.1 hg).1,fun i u hu=>?_⟩⟩
  rw[Nat.zero_add,cell_of_row W g i cur _ (0,0) hg]
  rw[←ht,List.getElem?_take]at hu
  split at hu
  ·simpa using hu
  ·cases hu
theorem IRow.lt{base:Nat}{W:World}{v:Value}{vs:List Iv} (h:IRow base W v vs):∀ j,v.ownBlock=some j→base≤j∧j<W.heap.size:=fun j hj=>World.ownsRow.lt h j hj
theorem IRow.keep{base:Nat}{w w':World}{v:Value}{vs:List Iv}{r:Option Nat} (h:IRow base w v vs) (hg:w.grownBy w' r) (hn:∀ j,v.ownBlock=some j→r≠some j):IRow base w' v vs :=
 World.ownsRow.kept h hg (by
  cases hv:v.ownBlock with
  | none=>exact .inl rfl
  | some g=>exact .inr fun e=>hn g hv e.symm)
theorem IRow.cells{base:Nat}{w:World}{v:Value}{vs:List Iv} (h:IRow base w v vs):∀ j,v.ownBlock=some j→∃ cs t fz,w.heap[j]?=some (.cells cs t fz):=fun j hj=>by
 rcases h.2 with ⟨rfl,h0⟩|⟨g,cap,cur,rfl,hb,hg,_⟩
 ·cases hj
 ·cases hj
  exact⟨cur,_,_,hg⟩
theorem IRow.nil(base:Nat) (W:World):IRow base W (.slice none 0 0) []:=World.ownsRow_nil _ _ _ _
theorem wpListIn_append_item{F:Fence}{nF:Nat}{ops:Array Oper}{rest:List Oper}{o:Oper}{a:Act}{w:World}{Q:Exit→Act→World→Prop} (hgd:o.guard=none) (s x:Operand)
  (ho:o.op=.call { callee:=.builtin .append,args := #[s,x],argTypes := #[77, 77] }) (base:Nat) (v:Value) (L:List Iv) (hs:a.eval s=v) (R:IRow base w v L)
  (u:Iv) (ad:Addr) (hx:a.eval x=.slice (some ad) 1 1) (hc:∀ j y,u.cells[j]?=some y→w.cell? (ad.add j)=some y) (hl:L.length≤1000000000) (hb:base≤w.heap.size)
  (h:∀ v' w',IRow base w' v' (L ++ [u])→w.grownBy w' v.ownBlock→(v'.ownBlock=v.ownBlock∨v'.ownBlock=some w.heap.size)→wpListIn F nF Tryz.prog ops Q rest (a.put o.dst v') w'):wpListIn F nF Tryz.prog ops Q (o :: rest) a w:=by
 obtain⟨i0,hi,hz0,hz1,hz2⟩:=info_parts infoItem
 refine wpListIn_append_own_at w hgd s x 77 ho base 79 i0 (.agg #[.bool false,.string ByteArray.empty,.slice none 0 0]) 3 48 Tryz.underlying77 hi hz0 hz1 hz2 rfl (by decide) v L.length (IvL L) hs R ad 1 1 u.cells hx rfl hc (by simp[Value.oneCell',Iv.cells]) (by unfold maxLen;omega) (by omega) hb ?_
 intro v' w' h2 h3 _ h5
 refine h v' w' ?_ h3 h5
 unfold IRow
 rw[List.length_append,IvL_app]
 exact h2
theorem IRow.put{base:Nat}{W:World}{g n cap:Nat}{L:List Iv}{z:Iv} (h:IRow base W (.slice (some ⟨g,0,none⟩) n cap) (L ++ [z])) (hn:n=L.length+1) (y:Iv) :
  IRow base (W.setCells g (L.length*3) y.cells) (.slice (some ⟨g,0,none⟩) n cap) (L ++ [y])∧W.grownBy (W.setCells g (L.length*3) y.cells) (some g):=by
 subst hn
 have h':W.ownsRow base 79 3 (.slice (some ⟨g,0,none⟩) (L.length+1) cap) (L.length+1) (IvL (L ++ [z])):=by
  unfold IRow at h
  rw[List.length_append]at h
  exact h
 have:=own_put h' (IvL L) z.cells [] y.cells (by rw[IvL_app];simp[IvL]) rfl
 rw[IvL_len,Nat.mul_comm,List.append_nil]at this
 unfold IRow
 rw[List.length_append,IvL_app]
 exact⟨by simpa[IvL] using this.1,this.2⟩
theorem IRow.there{base:Nat}{W:World}{g n cap:Nat}{L:List Iv}{z:Iv} (h:IRow base W (.slice (some ⟨g,0,none⟩) n cap) (L ++ [z])) (m:Nat) (hm:m=L.length*3):W.there g m 3:=by
 subst hm
 rcases h.2 with ⟨h2,_⟩|⟨g',cap',cur,hv,hb,hg,hn,hmx,hs,ht⟩
 ·simp at h2
 ·injection hv with h3 h4 h5
  injection h3 with h3
  injection h3 with h3
  subst h3
  intro j hj
  have hlt:L.length*3+j<cur.size:=by rw[hs];rw[List.length_append]at hn;simp at hn;omega
  exact⟨by rw[cell_of_row W g _ cur _ (0,0) hg,Array.getElem?_eq_getElem hlt];rfl,by simp[World.frozen?,hg]⟩
def AllV(w:World) (r:Nat) (v:Value) (s:List (It×Iv)) (W:World):Prop :=
 Blk W r 77 #[v]∧Blk W (r+1) 4 #[.bool true]∧IRow (r+3) W v (s.map Prod.snd)∧Below w.heap.size w W∧(∀ x∈s,RepS (fun b=>r+3≤b∧v.ownBlock≠some b) W x.1 x.2)∧r+3≤W.heap.size
def AllI(w:World) (r:Nat) (s:List (It×Iv)) (x:Hst) (W:World):Prop:=∃ v,AllV w r v s W∧(s.length=x.2→AllV w r v s x.1)
theorem AllV.grown{w A B:World}{r:Nat}{v:Value}{s:List (It×Iv)}{row:Option Nat} (h:AllV w r v s A) (hw:w.heap.size≤r) (hg:A.grownBy B row)
  (hr:∀ j,row=some j→r+2≤j∧(r+3≤j→∃ o:Obj,A.heap[j]?=some o∧o.isCells=false)):AllV w r v s B:=by
 obtain⟨h1,h2,h3,h4,h5,h6⟩:=h
 have hne:∀ b,r+3≤b→(∃ cs t fz,A.heap[b]?=some (.cells cs t fz))→some b≠row:=fun b hb ⟨cs,t,fz,hcs⟩ e=>by
  obtain⟨_,k⟩:=hr b e.symm
  obtain⟨o,ho,hc⟩:=k hb
  rw[hcs]at ho
  injection ho with ho
  subst ho
  cases hc
 refine⟨h1.grown hg (fun e=>by have:=(hr _ e.symm).1;omega),h2.grown hg (fun e=>by have:=(hr _ e.symm).1;omega),h3.keep hg fun j hj e=>?_,h4.grown hg h4.size fun j e=>by have:=(hr j e).1;omega,fun x hx=>?_,Nat.le_trans h6 hg.size⟩
 ·exact hne j (h3.lt j hj).1 (h3.cells j hj) e.symm
 ·exact(h5 x hx).keep2 hg.size fun b hb hlt hcs=>⟨hb,hg.block b hlt (hne b hb.1 hcs)⟩
theorem AllI.own{w A B:World}{r:Nat}{s:List (It×Iv)}{x:Hst}{row:Option Nat}{N:Nat} (h:AllI w r s x A) (hw:w.heap.size≤r) (hg:A.grownBy B row) (hr:∀ j,row=some j→N≤j∧∃ o:Obj,A.heap[j]?=some o∧o.isCells=false) (hN:r+3≤N):AllI w r s x B:=by
 obtain⟨v,h1,h2⟩:=h
 exact⟨v,h1.grown hw hg fun j e=>⟨by have:=(hr j e).1;omega,fun _=>(hr j e).2⟩,h2⟩
theorem AllI.step{w A B:World}{r:Nat}{s:List (It×Iv)}{x y:Hst} (h:AllI w r s x A) (hw:w.heap.size≤r) (hab:AbQ (r+2) x A y B):AllI w r s y B:=by
 obtain⟨v,h1,_⟩:=h
 obtain⟨hg,e⟩:=hab
 exact⟨v,h1.grown hw hg fun j e=>by injection e with e;exact⟨by omega,fun h=>by omega⟩,fun _=>by rw[e];exact h1⟩
theorem items_calls(s:Bytes) (w:World):Calls Tryz.prog 175 #[.string (bs s)] w (fun e w'=>e=.returned (.func (.func 183) #[] #[.pointer (some ⟨w.heap.size,0,none⟩)])∧w'=w.alloc (.cells #[.string (bs s)] 9)):=by
 go_enter Tryz.func175, Tryz.ntmps175
 go_wp2
 go_ret
 exact⟨rfl,rfl⟩
theorem items_stops(n:Nat) (hn:1≤n) (q:Nat) (l:List It) (hl:(putL l).length≤1000000000)
  (hall:∀ x∈l,∀ l',x=.list l'→∀ w',Calls Tryz.prog 154 #[.string (bs (putL l'))] w' (AllP w' l')) (x0:Hst) (W0:World) (K0:Blk W0 q 9 #[.string (bs (putL l))]) :
  SeqSt Fence.wide n Tryz.prog 183 #[.pointer (some ⟨q,0,none⟩)] (fun y:It×Iv => #[y.2.val,.bool true]) (AtQ l) (fun(_:Hst) A B=>KpQ q A B) (AbQ q) x0 (fun xs=>xs.map Prod.fst=l) (fun _=>True) W0 :=
 fun lp J Jx W hW hJ hJx hY h0=>items1_in n hn lp q l hl hall J Jx hJ hY W (K0.below hW) x0 h0
theorem grown_on'{w A B:World}{row:Option Nat} (G:w.grownBy A none) (H:A.grownBy B row):w.grownBy B row :=
 ⟨H.os.trans G.os,H.tape.trans G.tape,H.output.trans G.output,Nat.le_trans G.size H.size,fun k hk hn=>(H.block k (Nat.lt_of_lt_of_le hk G.size) hn).trans (G.block k hk (by simp))⟩
theorem grown_none{w w':World} (hB:Below w.heap.size w w'):w.grownBy w' none:=⟨hB.os,hB.tape,hB.output,hB.size,fun k hk _=>hB.block k hk⟩
theorem all_step(l:List It) (hl:(putL l).length≤1000000000)
  (hall:∀ x∈l,∀ l',x=.list l'→∀ w',Calls Tryz.prog 154 #[.string (bs (putL l'))] w' (AllP w' l')) (w:World):Calls Tryz.prog 154 #[.string (bs (putL l))] w (AllP w l):=by
 refine(callsIn_wide (n:=9)).1 ?_
 have hwf:∀ f,Fence.wide.fn f:=fun _=>trivial
 refine callsIn_of_wp_marks Tryz.func154 rfl trivial ?_ rfl
 simp only[Tryz.ntmps154, List.size_toArray,List.length_cons,List.length_nil,Nat.reduceAdd,Nat.reduceSub,Array.replicate_succ,Array.replicate_zero,List.push_toArray,List.append_toArray,List.nil_append,List.cons_append]
 gi_wp2_with fail
 refine wpIn_scope ?_
 gi_wp2_with fail
 refine wpIn_label ?_
 gi_wp2_with(gi_at_call 175; refine(callsIn_wide.2 (items_calls _ _)).mono ?_;rintro e w' ⟨rfl,rfl⟩)
 obtain⟨W0,hW0⟩:∃ W0,((w.alloc (Obj.cells #[.slice none 0 0] 77)).alloc (Obj.cells #[.bool true] 4)).alloc (Obj.cells #[.string (bs (putL l))] 9)=W0:=⟨_,rfl⟩
 have hs0:W0.heap.size=w.heap.size+3:=by rw[←hW0];simp
 have KR:Blk W0 w.heap.size 77 #[.slice none 0 0]:=by rw[←hW0];exact((Blk.new0 _ _ _).alloc _).alloc _
 have KG:Blk W0 (w.heap.size+1) 4 #[.bool true]:=by rw[←hW0];exact(Blk.new1 _ _ _ _).alloc _
 have KQ:Blk W0 (w.heap.size+2) 9 #[.string (bs (putL l))]:=by rw[←hW0];exact Blk.new2 _ _ _ _ _
 have hB0:Below w.heap.size w W0:=by rw[←hW0];exact bel
 have hV0:AllV w w.heap.size (.slice none 0 0) [] W0:=⟨KR,KG,IRow.nil _ _,hB0,by simp,by omega⟩
 have hI0:AllI w w.heap.size [] (W0,0) W0:=⟨_,hV0,fun _=>hV0⟩
 rw[hW0]
 clear hW0 KR KG hV0
 obtain⟨r,hr⟩:∃ r,w.heap.size=r:=⟨_,rfl⟩
 have hwr:w.heap.size≤r:=by omega
 rw[hr]at KQ hI0 hs0 ⊢
 have hf:=enters_of Tryz.func183 U rfl
 refine wpIn_rangeFunc_stc rfl (by decide) (gf := 183) (lb := #[.pointer (some ⟨r+2,0,none⟩)]) rfl trivial hf
  (items_stops 8 (by decide) (r+2) l hl hall (W0,0) W0 KQ) (fun _=>rfl) (fun _ _ _ _ h k=>⟨Nat.le_trans h.1 k.1,fun hq=>(k.2 (Nat.lt_of_lt_of_le hq h.1)).trans (h.2 hq)⟩) (fun x W l o o' hl h1 h2 h3=>⟨by simp,fun _=>World.putObj_heap_other (by omega)⟩)
  (fun x A y B k o hab hkk hA ho _=>(hab.1.block k (Array.getElem?_eq_some_iff.1 hA).1 (fun e=>by injection e with e;omega)).trans hA)
  (fun pre y x W l o o' h hl h1 h2=>⟨h.1,h.2.1,h.2.2.keep2 (by simp) fun b hb _ hcs=>⟨hb,World.putObj_heap_other (fun e=>by subst e;obtain⟨cs,t,fz,hcs⟩:=hcs;rw[h1]at hcs;injection hcs with hcs;subst hcs;cases h2)⟩⟩)
  (fun s x W=>AllI w r s x W) (fun c _ x W=>False)
  (fun _ s A B row h hg hr=>AllI.own h hwr hg hr (by omega)) (fun _ _ s A B row h hg hr=>h)
  (fun s x A y B h hab=>AllI.step h hwr hab) (fun _ s x A y B h hab=>h) hI0
  (fun y c=>{ tmps := #[.string (bs (putL l)),undef,.slice none 0 0,.bool false,.pointer (some ⟨r,0,none⟩),.pointer (some ⟨r+1,0,none⟩),.pointer (some ⟨c,0,none⟩),.bool true,.string (bs (putL l)),
   .func (.func 183) #[] #[.pointer (some ⟨r+2,0,none⟩)],y.2.val,.bool true,undef,undef,undef,undef,undef,undef,undef,undef,undef,undef],defers:=[] })
  (fun y=>.cells #[.bool y.2.f,.string (bs y.2.t),.slice y.2.A y.2.n y.2.c] 79)
  (fun x W o=>⟨by simp,fun hq=>Below.heap_alloc W _ _ hq⟩) (fun pre y x W o h=>⟨h.1,h.2.1,h.2.2.on ((Below.refl _ _).alloc (Nat.le_refl _) _)⟩)
  ?assign ?body ?done ?stop
 case assign =>
  intro l y W K hK
  gi_wp2
  exact hK
 case stop =>
  rintro D c pre x W hD _ h hK
  exact h.elim
 case done =>
  rintro D xs x W hD hxs ⟨v,⟨h1,h2,h3,h4,h5,h6⟩,_⟩ hK
  have hKD:=Z hK
  have K0:=Z h1
  have K1:=Z h2
  have H3:=Z h3
  have H4:=Z h4
  have H5:=Z h5
  clear h1 h2 h3 h4 h5 hK hI0 KQ hB0 hall
  (obtain⟨k0,f0,l0,m0⟩:=rl_ K0;obtain⟨k1,f1,l1,m1⟩:=rl_ K1)
  gi_wp2_with fail
  refine wpIn_wide.2 ?_
  (refine wp_region_later U U ?_;(repeat(go_big_quiet_step (fail)));refine wpQuiet_nil ?_;intro w' hB)
  have hD2:w'.heap[D]?=some (.deferred (some [])):=(hB.block D (Array.getElem?_eq_some_iff.1 hKD.out).1).trans hKD.out
  have hG2:W.grownBy (w'.putObj D (.deferred none)) (some D):=grown_on' (grown_none hB) (grownBy_putObj' w' D _)
  obtain⟨A,c,rfl,hlc,hcm,hcs⟩:=H3.out.shape
  have hll:(xs.map Prod.snd).length=l.length:=by rw[←hxs];simp
  have hne:∀ b,r+3≤b→b<W.heap.size→(∃ cs t fz,W.heap[b]?=some (.cells cs t fz))→(w'.putObj D (.deferred none)).heap[b]?=W.heap[b]?:=fun b hb hlt ⟨cs,t,fz,hc⟩=>hG2.block b hlt (fun e=>by
   injection e with e
   subst e
   rw[hKD.out]at hc
   cases hc)
  have hfin:AllP w l (.returned (.tuple #[.slice A (xs.map Prod.snd).length c,.bool true])) (w'.putObj D (.deferred none)):=by
   refine⟨A,c,by rw[hll],by rw[←hll];exact hlc,hcm,⟨xs.map Prod.snd,hll,hcs.keep2 hG2.size fun b hb hlt hc=>⟨by omega,hne b hb.1 hlt hc⟩,fun i x v hx hv=>?_⟩,H4.out.grown hG2 H4.out.size fun j e=>by injection e with e;omega⟩
   rw[←hxs,List.getElem?_map]at hx
   rw[List.getElem?_map]at hv
   cases hi:xs[i]? with
   | none=>rw[hi]at hx;cases hx
   | some y =>
    rw[hi]at hx hv
    simp only[Option.map_some,Option.some.injEq]at hx hv
    subst hx hv
    exact(H5.out y (List.mem_of_getElem? hi)).keep2 hG2.size fun b hb hlt hc=>⟨by omega,hne b hb.1 hlt hc⟩
  replace hfin:=Z hfin
  clear k0 f0 l0 m0 k1 f1 l1 m1 K0 K1 H3 H4 H5 hne hcs hG2 hB hKD
  gi_wp2_with fail
  rw[Exit.noGoto_ret]
  exact⟨by simp,.inl ⟨_,_,rfl,run_takeDeferred hD2,⟨_,by simp[results,Tryz.results154, go_sem],hfin.out⟩⟩⟩
 case body =>
  rintro l2 pre y x W c ⟨v,hV,hV1⟩ ⟨a1,a2,a3⟩ hcl hbox ⟨A0,⟨v0,hV0,_⟩,hA0c,hA0⟩
  have hrc:r+3≤c:=by omega
  have hvc:∀ j,v.ownBlock=some j→j<c:=fun j hj=>by
   have e:Blk W r 77 #[v0]:=(hA0 r (by omega) (by omega)).trans hV0.1
   have e2:=hV.1
   unfold Blk at e e2
   rw[e]at e2
   injection e2 with e2
   injection e2 with e2
   have e3:v0=v:=by simpa using e2
   rw[←hA0c]
   exact(hV0.2.2.1.lt j (e3 ▸ hj)).2
  replace hV1:=hV1 a1
  obtain⟨x1,x2,x3,x4,x5,x6⟩:=hV1
  obtain⟨h1,h2,h3,h4,h5,h6⟩:=hV
  obtain⟨A,cap,rfl,hnc,hcm,_⟩:=h3.shape
  obtain⟨y1,f,t,yA,yn,yc⟩:=y
  have hbx:Blk W c 79 #[.bool f,.string (bs t),.slice yA yn yc]:=hbox
  have hnl:(pre.map Prod.snd).length=pre.length:=by simp
  have hpl:pre.length≤l.length:=by have:=(List.getElem?_eq_some_iff.1 a2).1;omega
  have hll:l.length≤1000000000:=Nat.le_trans (putL_ge l) hl
  rw[hnl]at h3 h1 h5 x3 hvc
  have K0:=Z h1
  have K1:=Z h2
  have K2:=Z hbx
  have H3:=Z h3
  have H4:=Z h4
  have H5:=Z h5
  have X3:=Z x3
  have A3:=Z a3
  have A1:=Z a1
  have hn0:pre.length≤1000000000:=by omega
  obtain⟨n,hn⟩:∃ n,pre.length=n:=⟨_,rfl⟩
  have HN:=Z hn
  rw[hn]at K0 H3 H5 X3 hn0 hvc
  have hx6:=Z x6
  clear h1 h2 hbx h3 h4 h5 x1 x2 x3 x4 x5 x6 a1 a2 a3 hnl hnc hpl hll hn hI0 KQ hB0 hall hbox
  (obtain⟨k0,f0,l0,m0⟩:=rl_ K0;obtain⟨k1,f1,l1,m1⟩:=rl_ K1;obtain⟨k2,f2,l2,m2⟩:=rl_ K2)
  gi_wp2_with fail
  refine wpIn_round_held (fun w'=>w'.cell? ⟨r,0,none⟩=some (.slice A n cap)∧w'.cell? ⟨c,0,none⟩=some (.bool f)∧w'.cell? ⟨c,1,none⟩=some (.string (bs t))∧w'.cell? ⟨c,2,none⟩=some (.slice yA yn yc)) (fun j=>decide (j<5)) U ?_
  have hS0:W.drew.cell? ⟨r,0,none⟩=some (.slice A n cap)∧W.drew.cell? ⟨c,0,none⟩=some (.bool f)∧W.drew.cell? ⟨c,1,none⟩=some (.string (bs t))∧W.drew.cell? ⟨c,2,none⟩=some (.slice yA yn yc):=⟨k0 0,k2 0,k2 1,k2 2⟩
  refine S_tk 0 (.slice A n cap) rfl hS0 (fun w' h=>by obtain⟨h1,h2,h3,h4⟩:=h;go_simp) ?_
  refine S_tk 1 (itV f t yA yn yc) rfl hS0 (fun w' h=>by obtain⟨h1,h2,h3,h4⟩:=h;go_simp) ?_
  refine S_tk 2 (.int .i64 (n:Int)) rfl hS0 (fun w' h=>by go_simp) ?_
  refine S_one 3 U rfl (fun K hK=>?_)
  go_simp
  refine hK _ _ ⟨fun _=>⟨?_,?_,?_,?_⟩,?_⟩
  ·go_simp
  ·go_simp
  ·go_simp
  ·go_simp
  clear hK K
  refine S_oneL 4 U rfl ?_
  have hBa:Below W.heap.size W ((W.alloc (Obj.cells #[.bool false,.string ⟨#[]⟩,.slice none 0 0] 79)).drew):=((Below.refl _ W).alloc (Nat.le_refl _) _).drew
  have hza:((W.alloc (Obj.cells #[.bool false,.string ⟨#[]⟩,.slice none 0 0] 79)).drew).heap.size=W.heap.size+1:=by simp
  have hnew:∀ (j:Nat) y,zIv.cells[j]?=some y→((W.alloc (Obj.cells #[.bool false,.string ⟨#[]⟩,.slice none 0 0] 79)).drew).cell? ((⟨W.heap.size,0,none⟩:Addr).add j)=some y:=fun j y hy=>by
   rw[Addr.add_mid,Nat.zero_add]
   exact((Blk.new0 W 79 #[.bool false,.string ⟨#[]⟩,.slice none 0 0]).cell j).trans (by rw[List.getElem?_toArray];exact hy)
  obtain⟨Wa,hWa⟩:∃ Wa,(W.alloc (Obj.cells #[.bool false,.string ⟨#[]⟩,.slice none 0 0] 79)).drew=Wa:=⟨_,rfl⟩
  rw[hWa]at hBa hza hnew ⊢
  clear hWa
  refine wpListIn_append_item rfl _ _ rfl (r+3) (.slice A n cap) (pre.map Prod.snd) (by rfl) (H3.out.keep (grown_none hBa) fun _ _ e=>by cases e) zIv ⟨W.heap.size,0,none⟩ (by rfl) hnew (by simpa[HN.out] using hn0) (by have:=hx6.out;omega) ?_
  intro v' W' HR hg hat
  have hlt2:∀ j,(Value.slice A n cap).ownBlock=some j→r+3≤j∧j<W.heap.size:=fun j hj=>H3.out.lt j hj
  have hltx:∀ j,(Value.slice A n cap).ownBlock=some j→j<x.1.heap.size:=fun j hj=>(X3.out.lt j hj).2
  have hgW:W.grownBy W' (Value.slice A n cap).ownBlock:=grown_on' (grown_none hBa) hg
  have hno:∀ j,j<r+3→some j≠(Value.slice A n cap).ownBlock:=fun j hj e=>by have:=(hlt2 j e.symm).1;omega
  obtain⟨A',cap',hv',hnc',hcm',_⟩:=HR.shape
  have hvl:(pre.map Prod.snd ++ [zIv]).length=n+1:=by rw[List.length_append,List.length_map,HN.out];rfl
  rw[hvl]at hv' hnc'
  have hv0:=HR.2
  obtain⟨g2,rfl⟩:∃ g2,A'=some ⟨g2,0,none⟩:=by
   rcases hv0 with ⟨e,h0⟩|⟨g,cap,cur,e,_⟩
   ·omega
   ·rw[hv']at e
    injection e with e
    exact⟨g,e⟩
  subst hv'
  have hg2:(g2=W.heap.size+1)∨(Value.slice A n cap).ownBlock=some g2:=by
   rcases hat with h|h
   ·exact .inr h.symm
   ·rw[hza]at h
    injection h with h
    exact .inl h
  have hg2r:r+3≤g2:=by
   rcases hg2 with h|h
   ·omega
   ·exact(hlt2 _ h).1
  have P0:=Z (K0.out.grown hgW (hno _ (by omega)))
  have P1:=Z (K1.out.grown hgW (hno _ (by omega)))
  have P2:=Z (K2.out.grown hgW (fun e=>by have:=hvc c e.symm;omega))
  have hc2:c≠g2:=fun e=>by
   rcases hg2 with h|h
   ·have:=K2.out.lt;omega
   ·have:=hvc g2 h;omega
  have hput:=HR.put (by rw[List.length_map,HN.out]) ⟨f,t,yA,yn,yc⟩
  have hth:=HR.there (n*3) (by rw[List.length_map,HN.out])
  rw[List.length_map,HN.out]at hput
  obtain⟨hR2,hgr2⟩:=hput
  obtain⟨W2,hW2⟩:∃ W2,W'.setCells g2 (n*3) (Iv.cells ⟨f,t,yA,yn,yc⟩)=W2:=⟨_,rfl⟩
  rw[hW2]at hR2 hgr2
  have Q0:=Z (P0.out.grown hgr2 (fun e=>by injection e with e;omega))
  have Q1:=Z (P1.out.grown hgr2 (fun e=>by injection e with e;omega))
  have hz2:W.heap.size≤W2.heap.size:=Nat.le_trans hgW.size hgr2.size
  have hKO:KeepsOthers W W2:=KeepsOthers.trans (KeepsOthers.of_grownBy hgW fun j o e ho=>by
    obtain⟨cs,tt,fz,hcs⟩:=H3.out.cells j e
    rw[hcs]at ho
    injection ho with ho
    subst ho
    rfl) (KeepsOthers.of_grownBy hgr2 fun j o e ho=>by
    injection e with e
    subst e
    obtain⟨cs,tt,fz,hcs⟩:=HR.cells g2 rfl
    rw[hcs]at ho
    injection ho with ho
    subst ho
    rfl)
  have hblk:∀ b,b<W.heap.size→(Value.slice A n cap).ownBlock≠some b→b≠g2→W2.heap[b]?=W.heap[b]?:=fun b hb h1 h2=>(hgr2.block b (Nat.lt_of_lt_of_le hb hgW.size) (fun e=>by injection e with e;omega)).trans (hgW.block b hb (Ne.symm h1))
  have hng2:∀ b,b<W.heap.size→(Value.slice A n cap).ownBlock≠some b→b≠g2:=fun b hb h1 e=>by
   rcases hg2 with h|h
   ·omega
   ·exact h1 (e ▸ h)
  have hKp:KpQ (r+2) W W2:=⟨hz2,fun hq=>hblk _ hq (fun e=>hno (r+2) (by omega) e.symm) (by omega)⟩
  have HB2:Below w.heap.size w W2:=(H4.out.grown hgW H4.out.size fun j e=>by have:=(hlt2 j e).1;omega).grown hgr2 (Nat.le_trans H4.out.size hgW.size) fun j e=>by injection e with e;omega
  have H52:∀ z∈pre ++ [(y1,(⟨f,t,yA,yn,yc⟩:Iv))],RepS (fun b=>r+3≤b∧(Value.slice (some ⟨g2,0,none⟩) (n+1) cap').ownBlock≠some b) W2 z.1 z.2:=fun z hz=>by
   rcases List.mem_append.1 hz with hz|hz
   ·exact(H5.out z hz).keep hz2 fun b hb hlt=>⟨⟨hb.1,fun e=>by injection e with e;exact hng2 b hlt hb.2 e.symm⟩,hblk b hlt hb.2 (hng2 b hlt hb.2)⟩
   ·rw[List.mem_singleton]at hz
    subst hz
    have hnb:∀ b,x.1.heap.size≤b→(Value.slice A n cap).ownBlock≠some b:=fun b hb e=>by have:=hltx b e;omega
    exact A3.out.keep hz2 fun b hb hlt=>⟨⟨by have:=hx6.out;omega,fun e=>by injection e with e;exact hng2 b hlt (hnb b hb) e.symm⟩,hblk b hlt (hnb b hb) (hng2 b hlt (hnb b hb))⟩
  replace hR2:=Z hR2
  replace hKO:=Z hKO
  replace hKp:=Z hKp
  replace HB2:=Z HB2
  replace H52:=Z H52
  replace hth:=Z hth
  replace hW2:=Z hW2
  clear hgW hg hat HR hgr2 hblk hng2 hlt2 hltx hno hnew hBa hza k0 f0 l0 m0 k1 f1 l1 m1 k2 f2 l2 m2 K0 K1 K2 H3 H4 H5 X3 A3 hS0
  have k0:=Blk.cell P0.out
  have k2:=Blk.cell P2.out
  have hS0:W'.cell? ⟨r,0,none⟩=some (.slice A n cap)∧W'.cell? ⟨c,0,none⟩=some (.bool f)∧W'.cell? ⟨c,1,none⟩=some (.string (bs t))∧W'.cell? ⟨c,2,none⟩=some (.slice yA yn yc):=⟨k0 0,k2 0,k2 1,k2 2⟩
  refine⟨fun _=>hS0,?_⟩
  have hfin:KeepsOthers W (W2.setCell ⟨r,0,none⟩ (.slice (some ⟨g2,0,none⟩) (n+1) cap'))∧KpQ (r+2) W (W2.setCell ⟨r,0,none⟩ (.slice (some ⟨g2,0,none⟩) (n+1) cap')) ∧
    AllI w r (pre ++ [(y1,(⟨f,t,yA,yn,yc⟩:Iv))]) x (W2.setCell ⟨r,0,none⟩ (.slice (some ⟨g2,0,none⟩) (n+1) cap')):=by
   have G9:W2.grownBy (W2.setCell ⟨r,0,none⟩ (.slice (some ⟨g2,0,none⟩) (n+1) cap')) (some r):=grown_set (World.grownBy.refl _ _)
   refine⟨hKO.out.trans (KeepsOthers.setCell _ _ _),⟨Nat.le_trans hKp.out.1 (by simp),fun hq=>(Below.heap_setCell _ _ _ _ (by simp)).trans (hKp.out.2 hq)⟩,.slice (some ⟨g2,0,none⟩) (n+1) cap',⟨Blk.to (Blk.set_ Q0.out 0 _) rfl,Q1.out.over2 (by omega),?_,HB2.out.setCell (by exact hwr) _,?_,by simp;omega⟩,fun e=>?_⟩
   ·rw[List.map_append]
    exact hR2.out.keep G9 fun j hj e=>(by injection e with e;have hj2:g2=j:=(by simpa[Value.ownBlock] using hj);omega)
   ·exact fun z hz=>(H52.out z hz).keep G9.size fun b hb _=>⟨hb,Below.heap_setCell _ _ _ _ (by simp;omega)⟩
   ·have:=A1.out
    rw[List.length_append]at e
    simp at e
    omega
  have hcomm:=setCells_comm g2 ⟨r,0,none⟩ (.slice (some ⟨g2,0,none⟩) (n+1) cap') (by simp;omega) (Iv.cells ⟨f,t,yA,yn,yc⟩) (n*3) W'
  rw[hW2.out]at hcomm
  have hlt9:¬ ((n:Int)+1≤(n:Int)):=by omega
  have f0:=Blk.free P0.out
  have q0:=Blk.cell Q0.out
  have qf:=Blk.free Q0.out
  have hthB:(W'.setCell ⟨r,0,none⟩ (.slice (some ⟨g2,0,none⟩) (n+1) cap')).there g2 (n*3) 3:=fun j hj=>by
   obtain⟨e1,e2⟩:=hth.out j hj
   exact⟨by rw[World.cell?_setCell_other _ _ _ _ (by intro e;injection e with e;omega)];exact e1,by rw[←e2];exact World.frozen?_setCell _ _ _ _⟩
  replace hfin:=Z hfin
  replace hcomm:=Z hcomm
  replace hthB:=Z hthB
  clear hKO hKp HB2 H52 hR2 Q1 Q0 P0 P1 P2
  refine S_twoL 5 7 U rfl rfl ?_ ?_
  ·gi_wp2_with fail
   simp only[oneQ]
   (try refine⟨(fun h:decide _=true=>by cases h),?_⟩)
   refine S_twoL 6 7 U rfl rfl ?_ ?_
   ·refine wpListIn_store_mid rfl 79 _ _ rfl g2 (n*3) #[.bool f,.string (bs t),.slice yA yn yc] (by rfl) (by rfl) hth.out sizeItem (by simp[Value.oneCell']) ?_
    rw[show(#[.bool f,.string (bs t),.slice yA yn yc]:Array Value).toList=Iv.cells ⟨f,t,yA,yn,yc⟩ from rfl,hW2.out]
    refine⟨(fun h=>by cases h),?_⟩
    refine S_end 7 (ls:=[_]) rfl (fun j hj=>by simp;omega) U ?_
    gi_wp2_with fail
    refine⟨rfl,?_⟩
    gi_wp2_with fail
    exact hfin.out
   ·gi_wp2_with fail
    simp only[oneQ]
    (try refine⟨(fun h:decide _=true=>by cases h),?_⟩)
    refine S_oneL (fuel:=0) 6 U rfl ?_
    refine wpListIn_store_mid rfl 79 _ _ rfl g2 (n*3) #[.bool f,.string (bs t),.slice yA yn yc] (by rfl) (by rfl) hthB.out sizeItem (by simp[Value.oneCell']) ?_
    rw[show(#[.bool f,.string (bs t),.slice yA yn yc]:Array Value).toList=Iv.cells ⟨f,t,yA,yn,yc⟩ from rfl,hcomm.out]
    refine⟨(fun h=>by cases h),?_⟩
    refine S_end 8 (ls:=[]) rfl (fun j hj=>by simp;omega) U ?_
    refine⟨rfl,?_⟩
    gi_wp2_with fail
    exact hfin.out
  ·gi_wp2_with fail
   simp only[oneQ]
   (try refine⟨(fun h:decide _=true=>by cases h),?_⟩)
   refine S_oneL 5 U rfl ?_
   gi_wp2_with fail
   simp only[oneQ]
   (try refine⟨(fun h:decide _=true=>by cases h),?_⟩)
   refine S_oneL (fuel:=0) 6 U rfl ?_
   refine wpListIn_store_mid rfl 79 _ _ rfl g2 (n*3) #[.bool f,.string (bs t),.slice yA yn yc] (by rfl) (by rfl) hthB.out sizeItem (by simp[Value.oneCell']) ?_
   rw[show(#[.bool f,.string (bs t),.slice yA yn yc]:Array Value).toList=Iv.cells ⟨f,t,yA,yn,yc⟩ from rfl,hcomm.out]
   refine⟨(fun h=>by cases h),?_⟩
   refine S_end 8 (ls:=[]) rfl (fun j hj=>by simp;omega) U ?_
   refine⟨rfl,?_⟩
   gi_wp2_with fail
   exact hfin.out
def RepAll(S:Nat→Prop) (W:World):List It→List Iv→Prop
 | [],[]=>True
 | x :: l,v :: vs=>RepS S W x v∧RepAll S W l vs
 | _,_=>False
theorem RepAll.spec{S:Nat→Prop}{W:World}:∀ {l:List It}{vs:List Iv},RepAll S W l vs→vs.length=l.length∧∀ (i:Nat) x v,l[i]?=some x→vs[i]?=some v→RepS S W x v
 | [],[],_=>⟨rfl,fun i x v h=>by simp at h⟩
 | x :: l,v :: vs,h=>by
  obtain⟨h1,h2⟩:=RepAll.spec h.2
  refine⟨by simp[h1],fun i y u hy hu=>?_⟩
  cases i with
  | zero =>
   simp at hy hu
   subst hy hu
   exact h.1
  | succ i=>exact h2 i y u (by simpa using hy) (by simpa using hu)
 | [],_ :: _,h=>h.elim
 | _ :: _,[],h=>h.elim
theorem row_rep{S:Nat→Prop}{W:World}{b:Nat}{t:TypeId}{l:List It}{vs:List Iv}{cs:Array Value} (K:Blk W b t cs) (hcs:cs=(IvL vs).toArray) (hS:S b) (h:RepAll S W l vs) {n:Nat} (hn:n=l.length) (hm:n≤1000000000) :
  RepS S W (.list l) ⟨true,[],some ⟨b,0,none⟩,n,n⟩:=by
 subst hn hcs
 obtain⟨h1,h2⟩:=h.spec
 refine .list l _ _ vs h1 (Nat.le_refl _) (by unfold maxLen;omega) (fun _=>⟨b,0,rfl,hS,K.lt,fun i u hu=>?_⟩) h2
 rw[K.cell,Nat.zero_add]
 simpa using hu
theorem RepS.rowAt{N:Nat}{W:World}{x:It}{v:Iv} (h:RepS (fun b=>N≤b) W x v) {g:Nat} (hg:g<N) {t:TypeId}{cs:Array Value}:RepS (fun b=>N≤b) (setRow W g t cs) x v :=
 h.keep (by rw[size_row];exact Nat.le_refl _) fun b hb hl=>⟨hb,(grown_row W g t cs).block b hl (fun e=>by injection e with e;omega)⟩
theorem RepS.cellAt{N:Nat}{W:World}{x:It}{v:Iv} (h:RepS (fun b=>N≤b) W x v) {g i:Nat} (hg:g<N) (u:Value):RepS (fun b=>N≤b) (W.setCell ⟨g,i,none⟩ u) x v :=
 h.keep (by simp) fun b hb hl=>⟨hb,Below.heap_setCell W ⟨g,i,none⟩ u b (by simp;omega)⟩
def ItP(w:World) (x:It) (e:Ending) (w':World):Prop:=∃ v:Iv,e=.returned v.val∧RepS (fun b=>w.heap.size≤b) w' x v∧Below w.heap.size w w'
theorem hnumber_calls(n:Nat) (hn:n<18446744073709551616) (w:World):Calls Tryz.prog 30 #[.int .u64 (n:Int)] w (Ret w (itV false (rlpN n) none 0 0)):=by
 have n1:=fun W=>number_calls' n hn W
 have n2:=fun W=>text_calls (rlpN n) W
 generalize rlpN n=s at *
 replace n1:=Z n1
 replace n2:=Z n2
 clear hn
 go_enter Tryz.func30, Tryz.ntmps30
 have K0:=Z (Blk.new0 w 79 #[.bool false,.string ⟨#[]⟩,.slice none 0 0])
 have HB:Below w.heap.size w (w.alloc (.cells #[.bool false,.string ⟨#[]⟩,.slice none 0 0] 79)):=bel
 (obtain⟨k0,f0,l0,m0⟩:=rl_ K0)
 go_wp2_with fail
 (refine(n1.out _).mono ?_;rintro e w1 ⟨rfl,hN⟩;replace K0:=hn_ K0 hN;replace HB:Below w.heap.size w w1:=Below.on hN HB;clear hN k0 f0 l0 m0;obtain⟨k0,f0,l0,m0⟩:=rl_ K0)
 go_wp2_with fail
 (refine(n2.out _).mono ?_;rintro e w2 ⟨rfl,hN⟩;replace K0:=hn_ K0 hN;replace HB:Below w.heap.size w w2:=Below.on hN HB;clear hN k0 f0 l0 m0;obtain⟨k0,f0,l0,m0⟩:=rl_ K0)
 go_wp2_with fail
 exact bodyPost_ret (v:=itV false s none 0 0) (by simp (maxDischargeDepth:=9) [results,Tryz.results30, go_sem, *]) rfl ⟨rfl,((HB.setCell (Nat.le_refl _) _).setCell (Nat.le_refl _) _).setCell (Nat.le_refl _) _⟩
theorem wpList_append_item{ops:Array Oper}{rest:List Oper}{o:Oper}{a:Act}{w:World}{Q:Exit→Act→World→Prop} (hgd:o.guard=none) (s x:Operand)
  (ho:o.op=.call { callee:=.builtin .append,args := #[s,x],argTypes := #[77, 77] }) (base:Nat) (v:Value) (L:List Iv) (hs:a.eval s=v) (R:IRow base w v L)
  (u:Iv) (ad:Addr) (hx:a.eval x=.slice (some ad) 1 1) (hc:∀ j y,u.cells[j]?=some y→w.cell? (ad.add j)=some y) (hl:L.length≤1000000000) (hb:base≤w.heap.size)
  (h:∀ v' w',IRow base w' v' (L ++ [u])→w.grownBy w' v.ownBlock→(v'.ownBlock=v.ownBlock∨v'.ownBlock=some w.heap.size)→wpList Tryz.prog ops Q rest (a.put o.dst v') w'):wpList Tryz.prog ops Q (o :: rest) a w:=by
 refine wpList_plain hgd fun K hK=>?_
 obtain⟨i0,hi,hz0,hz1,hz2⟩:=info_parts infoItem
 obtain⟨v',w',hr,h2,h3,_,h5⟩:=run_append_own_at (P:=Tryz.prog) w base 77 o.type 79 i0 (.agg #[.bool false,.string ByteArray.empty,.slice none 0 0]) 3 48 Tryz.underlying77 hi hz0 hz1 hz2 rfl (by decide) v L.length (IvL L) R ad 1 1 u.cells rfl hc (by simp[Value.oneCell',Iv.cells]) (by unfold maxLen;omega) (by omega) hb
 unfold Oper.wp execOp
 simp only[ho,resolve,invoke,builtin,Sem.run_bind,Sem.run_pure,Result.andThen_ok,List.map_toArray,List.map_cons,List.map_nil,hs,hx,hr]
 refine hK _ _ (h v' w' ?_ h3 h5)
 unfold IRow
 rw[List.length_append,IvL_app]
 exact h2
theorem IRow.below{base:Nat}{W W':World}{v:Value}{vs:List Iv} (h:IRow base W v vs) (hB:Below W.heap.size W W'):IRow base W' v vs:=h.keep (r:=none) ⟨hB.os,hB.tape,hB.output,hB.size,fun j hj _=>hB.block j hj⟩ fun _ _ e=>by cases e
theorem IRow.alloc{base:Nat}{W:World}{v:Value}{vs:List Iv} (h:IRow base W v vs) (o:Obj):IRow base (W.alloc o) v vs:=h.below ((Below.refl _ W).alloc (Nat.le_refl _) o)
theorem IRow.rep{base:Nat}{W:World}{v:Value}{vs:List Iv} (h:IRow base W v vs) {l:List It} (hl:vs.length=l.length) (hr:∀ (i:Nat) x u,l[i]?=some x→vs[i]?=some u→RepS (fun b=>base≤b) W x u) {A:Option Addr}{n c:Nat} (hv:v=.slice A n c):RepS (fun b=>base≤b) W (.list l) ⟨true,[],A,n,c⟩:=by
 obtain⟨A',c',e,h1,h2,h3⟩:=h.shape
 rw[hv]at e
 injection e with e1 e2 e3
 subst e1 e2 e3
 rw[hl]
 exact .list l A c vs hl (by omega) h2 (h3.keep (Nat.le_refl _) fun b hb _=>⟨hb.1,rfl⟩) hr
abbrev tvI(b:Bytes):Iv:=⟨false,b,none,0,0⟩
theorem new_tv(W:World) (b:Bytes):∀ j u,(tvI b).cells[j]?=some u→(W.alloc (.cells #[.bool false,.string (bs b),.slice none 0 0] 79)).cell? ((⟨W.heap.size,0,none⟩:Addr).add j)=some u:=by
 intro j u hu
 have hK:=Blk.new0 W 79 #[.bool false,.string (bs b),.slice none 0 0]
 rw[Addr.add_mid,hK.cell,Nat.zero_add]
 simpa[Iv.cells] using hu
theorem htexts_calls(A:Option Addr) (c:Nat) (l:List Bytes) (hl:l.length≤1000) (w:World) (R:Txts w A l):Calls Tryz.prog 29 #[.slice A l.length c] w (ItP w (textsI l)):=by
 obtain⟨n,hn⟩:∃ n,l.length=n:=⟨_,rfl⟩
 have HN:=Z hn
 rw[hn]at hl ⊢
 have n1:=fun s W=>text_calls s W
 have n2:=fun A n c W=>list_calls A n c W
 replace n1:=Z n1
 replace n2:=Z n2
 replace R:=Z R
 clear hn
 go_enter Tryz.func29, Tryz.ntmps29
 go_wp2_with fail
 obtain⟨g,hg⟩:∃ g,w.heap.size=g:=⟨_,rfl⟩
 have HG:=Z hg
 have K0:=Blk.new0 w 79 #[.bool false,.string ⟨#[]⟩,.slice none 0 0]
 rw[hg]at K0 ⊢
 replace K0:=Z K0
 clear hg
 go_loopw [3,5,8] (fun v _ i wr=>∃ k:Nat,k≤n∧i=.int .i64 k∧IRow (g+1) wr v ((l.take k).map tvI)∧Blk wr g 79 #[.bool false,.string ⟨#[]⟩,.slice none 0 0]∧Below w.heap.size w wr) (fun _ _ i _=>(n - intOf i).toNat)
 case atStart=>exact⟨0,by omega,rfl,IRow.nil _ _,K0.out,bel⟩
 case round =>
  clear K0
  obtain⟨k,hk,rfl,OWN,K0,HB⟩:=hrel
  by_cases hlt:k<n
  ·obtain⟨b,o,rfl,hb,hc⟩:=R.out.at k (by rw[HN.out];exact hlt)
   have hc2:=(HB.cell (p:=⟨b,o+k,none⟩) hb).trans hc
   have HT:=Z (show(l.take (k+1)).map tvI=(l.take k).map tvI ++ [tvI (l.getD k [])] by
    rw[List.take_add_one,List.getD,List.getElem?_eq_getElem (by rw[HN.out];exact hlt),List.map_append]
    rfl)
   have hq:((l.take k).map tvI).length=k:=by rw[List.length_map,List.length_take,HN.out];omega
   generalize l.getD k []=s at *
   generalize(l.take k).map tvI=q at *
   obtain⟨A1,c1,rfl,_⟩:=OWN.shape
   rw[hq]
   rw[hq]at OWN
   replace hq:=Z hq
   replace K0:=Z K0
   replace OWN:=Z OWN
   clear hc
   go_wp2_with fail
   refine(n1.out s _).mono ?_
   rintro e w1 ⟨rfl,hB1⟩
   have hs1:=hB1.size
   have OWN1:=Z (IRow.below OWN.out hB1)
   have K1:=Z (K0.out.below hB1)
   have HB1:=Z (HB.trans (hB1.mono HB.size))
   have hgl:g+1≤w1.heap.size:=by have:=K1.out.lt;omega
   clear hB1 OWN K0 HB
   go_wp2_with(at_builtin;refine wpList_append_item rfl _ _ rfl (g+1) (.slice A1 k c1) q rfl (OWN1.out.alloc _) (tvI s) ⟨w1.heap.size,0,none⟩ rfl (new_tv _ _) (by rw[hq.out];omega) (by simp;omega) ?_)
   intro v4 w5 OWN4 hg4 _
   obtain⟨A4,c4,hv4,_⟩:=OWN4.shape
   rw[List.length_append,hq.out]at hv4
   simp only[List.length_singleton]at hv4
   subst hv4
   have hgW:=fun j=>(OWN1.out.lt j)
   have K5:=Z (((K1.out.alloc (.cells #[.bool false,.string (bs s),.slice none 0 0] 79))).grown hg4 (fun e=>by have:=(hgW g e.symm).1;omega))
   have HB5:=(HB1.out.alloc HB1.out.size (.cells #[.bool false,.string (bs s),.slice none 0 0] 79)).grown hg4 (by have:=HB1.out.size;simp;omega) (fun j e=>by have:=(hgW j e).1;have:=HG.out;omega)
   rw[←HT.out]at OWN4
   replace OWN4:=Z OWN4
   replace HB5:=Z HB5
   clear hg4 hgW OWN1 K1 HB1
   go_wp2_with fail
   go_roundw
   case rel=>exact⟨k+1,by omega,by go_num,OWN4.out,K5.out,HB5.out⟩
   case measure=>simp[intOf];omega
  ·obtain rfl:k=n:=by omega
   rw[List.take_of_length_le (by rw[HN.out];exact Nat.le_refl _)]at OWN
   have hln:(l.map tvI).length=k:=by rw[List.length_map,HN.out]
   obtain⟨A1,c1,rfl,_⟩:=OWN.shape
   have hR:=fun W (hB:Below wr.heap.size wr W)=>IRow.rep (l:=l.map It.text) (OWN.below hB) (by simp) (fun i x u hx hu=>by
    rw[List.getElem?_map]at hx hu
    cases he:l[i]? with
    | none=>rw[he]at hx;cases hx
    | some y =>
     rw[he]at hx hu
     simp at hx hu
     subst hx hu
     exact .text y) rfl
   rw[hln]at hR ⊢
   replace hR:=Z hR
   replace K0:=Z K0
   clear OWN
   (obtain⟨k0,f0,l0,m0⟩:=rl_ K0)
   go_wp2_with fail
   refine(n2.out _ _ _ _).mono ?_
   rintro e w1 ⟨rfl,hB1⟩
   have R1:=Z (hR.out w1 hB1)
   have K1:=Z (K0.out.below hB1)
   have HB1:=HB.trans (hB1.mono HB.size)
   clear hB1 hR k0 f0 l0 m0 K0 HB
   have K0:=K1
   clear K1
   (obtain⟨k0,f0,l0,m0⟩:=rl_ K0)
   go_wp2_with fail
   refine bodyPost_ret (v:=itV true [] A1 k c1) (by simp (maxDischargeDepth:=9) [results,Tryz.results29, go_sem, *]) rfl ⟨⟨true,[],A1,k,c1⟩,rfl,?_,?_⟩
   ·exact((((R1.out.cellAt (by have:=HG.out;omega) _).cellAt (by have:=HG.out;omega) _).cellAt (by have:=HG.out;omega) _)).weak fun b hb _=>by have:=HG.out;omega
   ·exact((HB1.setCell (by have:=HG.out;simp;omega) _).setCell (by have:=HG.out;simp;omega) _).setCell (by have:=HG.out;simp;omega) _
theorem open_calls(p:Value) (l:List It) (n:Int) (hn:n = -1∨n=l.length) (hl:l.length≤1000000) (A:Option Addr) (c:Nat) (hc:l.length≤c) (hm:c≤maxLen) (N:Nat) (w:World) (hN:N≤w.heap.size) (R:RepLS (fun b=>b<N) w l A) :
  Calls Tryz.prog 120 #[p,itV true [] A l.length c,.int .i64 n] w (fun e w'=>∃ q,e=.returned (.pointer (some ⟨q,0,none⟩))∧w.heap.size≤q∧RdI N w' q l∧Below w.heap.size w w'):=by
 have K0:=Blk.new0 w 79 #[.bool true,.string (bs []),.slice A l.length c]
 have R2:=RdI.new (W:=w.alloc (.cells #[.bool true,.string (bs []),.slice A l.length c] 79)) (by simp;omega) hc hm (R.below ((Below.refl _ _).alloc (Nat.le_refl _) _))
 rw[size_alloc]at R2
 obtain⟨k,hk⟩:∃ k,l.length=k:=⟨_,rfl⟩
 rw[hk]at K0 R2 hl hn ⊢
 replace R2:=Z R2
 replace K0:=Z K0
 clear R hc hm hk hN
 (obtain⟨k0,f0,l0,m0⟩:=rl_ K0)
 go_enter Tryz.func120, Tryz.ntmps120
 rcases hn with rfl|hn
 ·go_wp2_with fail
  go_ret
  exact⟨_,rfl,Nat.le_succ _,R2.out,bel⟩
 ·have e:n=k:=by omega
  subst e
  have h0:(0:Int)≤k:=by omega
  clear hn
  go_wp2_with fail
  go_ret
  exact⟨_,rfl,Nat.le_succ _,R2.out,bel⟩
theorem item_calls(N q:Nat) (x:It) (l:List It) (hl:l.length≤1000000) (w:World) (R:RdI N w q (x :: l)) :
  Calls Tryz.prog 121 #[.pointer (some ⟨q,0,none⟩)] w (fun e w'=>∃ v:Iv,e=.returned v.val∧RepS (fun b=>b<N) w' x v∧RdI N w' q l∧KpL [q] w w'):=by
 obtain⟨h0,A,c,K0,hc,hm,hr⟩:=R
 obtain⟨b,o,rfl,hb,hbN⟩:=hr.addr
 obtain⟨RT,⟨f,t,vA,vn,vc⟩,c0,c1,c2,RX⟩:=hr.tail
 simp only at c0 c1 c2
 rw[List.length_cons]at K0 hc
 obtain⟨k,hk⟩:∃ k,l.length=k:=⟨_,rfl⟩
 have HK:=Z hk
 rw[hk]at K0 hc hl
 have hq:=K0.lt
 have hfin:∀ W A' c',(A'=some ⟨b,o+3,none⟩∧c'=c - 1∨k=0∧c'=0)→KpL [q] w W→Blk W q 144 #[.slice A' k c',.bool false]→RepS (fun b=>b<N) W x ⟨f,t,vA,vn,vc⟩∧RdI N W q l∧KpL [q] w W:=fun W A' c' hA hK hB=>by
  refine⟨RX.kp hK (by simpa using h0),⟨h0,A',c',by rw[HK.out];exact hB,?_,?_,?_⟩,hK⟩
  ·rw[HK.out]
   rcases hA with ⟨_,h⟩|⟨h,h2⟩ <;> omega
  ·rcases hA with ⟨_,h⟩|⟨h,h2⟩ <;> omega
  ·rcases hA with ⟨rfl,_⟩|⟨h,_⟩
   ·exact RT.kp hK (by simpa using h0)
   ·obtain rfl:=List.eq_nil_of_length_eq_zero (HK.out.trans h)
    exact⟨[],rfl,CsS.nil _ _ _,fun i x v hx=>by simp at hx⟩
 replace hfin:=Z hfin
 replace K0:=Z K0
 clear hr RT RX hk
 (obtain⟨k0,f0,l0,m0⟩:=rl_ K0)
 go_enter Tryz.func121, Tryz.ntmps121
 go_wp2_with fail
 all_goals
  refine bodyPost_ret (v:=itV f t vA vn vc) (by simp (maxDischargeDepth:=9) [results,Tryz.results121, go_sem, *]) rfl ⟨⟨f,t,vA,vn,vc⟩,rfl,hfin.out _ _ _ ?_ ((((KpL.refl [q] w).set (.inl (by simp))).alloc _).alloc _) (((Blk.to (Blk.set_ K0.out 0 _) rfl).alloc _).alloc _)⟩
  first|exact .inl ⟨rfl,rfl⟩|exact .inr ⟨by omega,rfl⟩
def KpR(S:Nat→Prop) (A B:World):Prop:=A.heap.size≤B.heap.size∧∀ k,S k→k<A.heap.size→B.heap[k]?=A.heap[k]?
theorem KpR.trans{S:Nat→Prop}{A B C:World} (h:KpR S A B) (k:KpR S B C):KpR S A C:=⟨Nat.le_trans h.1 k.1,fun j hj hl=>(k.2 j hj (Nat.lt_of_lt_of_le hl h.1)).trans (h.2 j hj hl)⟩
theorem RdI.keep{N q:Nat}{l:List It}{S:Nat→Prop}{W W':World} (h:RdI N W q l) (k:KpR S W W') (hq:S q) (hS:∀ b,b<N→S b):RdI N W' q l:=by
 obtain⟨h0,A,c,h1,h2,h3,h4⟩:=h
 exact⟨h0,A,c,(k.2 q hq h1.lt).trans h1,h2,h3,h4.keep k.1 fun b hb hl=>⟨hb,k.2 b (hS b hb) hl⟩⟩
theorem KpL.grow{bs:List Nat}{w W W':World}{row:Option Nat} (h:KpL bs w W) (k:W.grownBy W' row) (hr:∀ b,row=some b→b∈bs∨w.heap.size≤b):KpL bs w W' :=
 ⟨k.os.trans h.os,k.tape.trans h.tape,k.output.trans h.output,Nat.le_trans h.size k.size,fun j hj hn=>(k.block j (Nat.lt_of_lt_of_le hj h.size) (fun e=>by rcases hr j e.symm with h1|h1;exact hn h1;omega)).trans (h.block j hj hn)⟩
theorem KpL.grows{q:Nat}{w W:World} (h:KpL [q] w W):w.grownBy W (some q):=⟨h.os,h.tape,h.output,h.size,fun k hk hn=>h.block k hk (by simpa using fun e=>hn (by rw[e]))⟩
theorem RdI.grow{N q:Nat}{l:List It}{W W':World}{row:Option Nat} (h:RdI N W q l) (k:W.grownBy W' row) (hr:∀ b,row=some b→N≤b∧b≠q):RdI N W' q l :=
 h.keep (S:=fun b=>some b≠row) ⟨k.size,fun j hj hl=>k.block j hl hj⟩ (fun e=>(hr q e.symm).2 rfl) fun b hb e=>by have:=(hr b e.symm).1;omega
def rdLen(q:Nat) (w:World):Nat:=match w.cell? ⟨q,0,none⟩ with
 | some (.slice _ n _)=>n
 | _=>0
theorem RdI.len{N q:Nat}{l:List It}{w:World} (h:RdI N w q l):rdLen q w=l.length:=by
 obtain⟨_,A,c,h1,_⟩:=h
 have:=h1.cell 0
 unfold rdLen
 rw[this]
 rfl
theorem each_calls(q:Nat) (w:World):Calls Tryz.prog 122 #[.pointer (some ⟨q,0,none⟩)] w (fun e w'=>e=.returned (.func (.func 155) #[] #[.pointer (some ⟨w.heap.size,0,none⟩)])∧w'=w.alloc (.cells #[.pointer (some ⟨q,0,none⟩)] 136)):=by
 go_enter Tryz.func122, Tryz.ntmps122
 go_wp2
 go_ret
 exact⟨rfl,rfl⟩
def EaS(N q b:Nat) (k:Nat):Prop:=k<N∨k=q∨k=b
theorem each1_in(n:Nat) (hn:1≤n) (lp b q N:Nat) (hbq:b≠q) (hbN:N≤b) (l:List Bytes) (hl:l.length≤1000)
  (J Jx:List Bytes→Unit→World→Prop) (hJ:∀ s x A y B,J s x A→KpL [q] A B→J s y B)
  (hY:∀ pre y x A,J pre x A→l[pre.length]?=some y→YieldAt Fence.wide (n - 1) Tryz.prog lp #[itV false y none 0 0] A fun e B =>
   (e=.returned (.bool true)∧J (pre ++ [y]) x B∧KpR (EaS N q b) A B)∨(e=.returned (.bool false)∧Jx (pre ++ [y]) x B))
  (W:World) (K0:Blk W b 136 #[.pointer (some ⟨q,0,none⟩)]) (R:RdI N W q (l.map It.text)) (h0:J [] () W) :
  CallsIn Fence.wide n Tryz.prog 155 #[.func (.yield lp) #[] #[],.pointer (some ⟨b,0,none⟩)] W fun e B=>(∃ v,e=.returned v) ∧
   ((∃ xs x,xs=l∧J xs x B)∨(∃ pre x,True∧Jx pre x B)):=by
 have hwf:∀ f,Fence.wide.fn f:=fun _=>trivial
 replace hY:=Z hY
 replace hJ:=Z hJ
 refine callsIn_of_wp Tryz.func155 rfl trivial ?_ rfl
 simp only[Tryz.ntmps155, List.size_toArray,List.length_cons,List.length_nil,Nat.reduceAdd,Nat.reduceSub,Array.replicate_succ,Array.replicate_zero,List.push_toArray,List.append_toArray,List.nil_append,List.cons_append]
 gi_wp2_with fail
 gi_loopw [] (fun wr=>∃ k,k≤l.length∧Blk wr b 136 #[.pointer (some ⟨q,0,none⟩)]∧RdI N wr q ((l.drop k).map It.text)∧J (l.take k) () wr) (fun wr=>rdLen q wr)
 case atStart=>exact⟨0,by omega,K0,R,h0⟩
 case round =>
  clear K0 h0 R
  obtain⟨k,hk,K0,R,hj⟩:=hrel
  have hm0:=R.len
  by_cases hlt:k<l.length
  ·have hd:(l.drop k).map It.text=.text l[k] :: (l.drop (k+1)).map It.text:=by rw[List.drop_eq_getElem_cons hlt];rfl
   rw[hd]at R hm0
   have htk:l.take (k+1)=l.take k ++ [l[k]]:=by rw[List.take_add_one,List.getElem?_eq_getElem hlt];rfl
   have hyk:l[(l.take k).length]?=some l[k]:=by rw[List.length_take,Nat.min_eq_left (by omega),List.getElem?_eq_getElem hlt]
   generalize l[k]=y at *
   obtain⟨r,hr⟩:∃ r,(l.drop (k+1)).map It.text=r:=⟨_,rfl⟩
   have hrl:r.length≤1000000:=by rw[←hr,List.length_map,List.length_drop];omega
   rw[hr]at R hm0 hd
   have n1:=Z (item_calls N q (.text y) r hrl wr R)
   obtain⟨_,A,c,KQ,hc,hm,_⟩:=R
   rw[List.length_cons]at KQ hm0
   obtain⟨m,hm9⟩:∃ m,r.length=m:=⟨_,rfl⟩
   rw[hm9]at KQ hm0
   replace hr:=Z hr
   replace htk:=Z htk
   replace hyk:=Z hyk
   replace hj:=Z hj
   replace K0:=Z K0
   have K1:=Z KQ
   replace hm0:=Z hm0
   replace hm9:=Z hm9
   clear KQ hc hd
   (obtain⟨k0,f0,l0,m0⟩:=rl_ K0;obtain⟨k1,f1,l1,m1⟩:=rl_ K1)
   gi_wp2_with(gi_at_call 121; refine(callsIn_wide.2 n1.out).mono ?_)
   rintro e w1 ⟨v,rfl,hv,R1,hK⟩
   have hv:=hv.txt
   subst hv
   have J1:=hJ.out _ _ _ () _ hj.out hK
   have P0:=Z (K0.out.kp hK (by simpa using hbq))
   obtain⟨fn,tmps,assign,body,hy,hYR⟩:=hY.out _ y () w1 J1 hyk.out
   have R2:=Z R1
   clear k0 f0 l0 m0 K0 k1 f1 l1 m1 K1 hK R1 n1 hj J1
   gi_wp2_with fail
   refine hYR.mono ?_
   rintro e W3 (⟨rfl,hJ3,hk3⟩|⟨rfl,hJx3⟩)
   ·have R3:=R2.out.keep hk3 (.inr (.inl rfl)) fun b hb=>.inl hb
    have P3:=Z ((hk3.2 b (.inr (.inr rfl)) P0.out.lt).trans P0.out)
    have hm3:=Z R3.len
    replace R3:=Z R3
    replace hJ3:=Z hJ3
    clear hk3 hy hYR R2 P0
    gi_wp2_with fail
    go_roundw
    case rel=>exact⟨k+1,by omega,P3.out,by rw[hr.out];exact R3.out,by rw[htk.out];exact hJ3.out⟩
    case measure=>rw[hm3.out,hm0.out,hm9.out];omega
   ·replace hJx3:=Z hJx3
    clear hy hYR R2 P0
    gi_wp2_with fail
    refine bodyPost_ret (results_none rfl _ _ _) rfl ?_
    exact⟨⟨_,rfl⟩,.inr ⟨_,(),trivial,hJx3.out⟩⟩
  ·obtain rfl:k=l.length:=by omega
   rw[List.take_of_length_le (Nat.le_refl _)]at hj
   rw[List.drop_of_length_le (Nat.le_refl _)]at R
   obtain⟨_,A,c,KQ,_⟩:=R
   replace hj:=Z hj
   replace K0:=Z K0
   have K1:=Z KQ
   simp only[List.map_nil,List.length_nil]at K1
   clear hm0 KQ
   (obtain⟨k0,f0,l0,m0⟩:=rl_ K0;obtain⟨k1,f1,l1,m1⟩:=rl_ K1)
   gi_wp2_with fail
   go_end0
   exact⟨⟨_,rfl⟩,.inl ⟨l,(),rfl,hj.out⟩⟩
theorem each_stops(n:Nat) (hn:1≤n) (b q N:Nat) (hbq:b≠q) (hbN:N≤b) (l:List Bytes) (hl:l.length≤1000) (W0:World) (K0:Blk W0 b 136 #[.pointer (some ⟨q,0,none⟩)]) (R:RdI N W0 q (l.map It.text)) :
  SeqSt Fence.wide n Tryz.prog 155 #[.pointer (some ⟨b,0,none⟩)] (fun y:Bytes => #[itV false y none 0 0]) (fun pre y _ _=>l[pre.length]?=some y) (fun(_:Unit) A B=>KpR (EaS N q b) A B) (fun _ A _ B=>KpL [q] A B) () (fun xs=>xs=l) (fun _=>True) W0 :=
 fun lp J Jx W hW hJ hJx hY h0=>each1_in n hn lp b q N hbq hbN l hl J Jx hJ hY W (K0.below hW) (R.below hW) h0
theorem others_calls(A:Option Addr) (n c:Nat) (m:Nat) (w:World):Calls Tryz.prog 84 #[.slice A n c,.int .u64 (m:Int)] w (fun e w'=>e=.returned (.func (.func 124) #[] #[.pointer (some ⟨w.heap.size,0,none⟩),.pointer (some ⟨w.heap.size+1,0,none⟩)]) ∧
  w'=(w.alloc (.cells #[.slice A n c] 56)).alloc (.cells #[.int .u64 (m:Int)] 22)):=by
 go_enter Tryz.func84, Tryz.ntmps84
 go_wp2
 go_ret
 exact⟨rfl,rfl⟩
def otherB(m:Nat) (x:Ex):Bool:=x.num != m
theorem filter_mid{m:Nat}{v:Ex} (a b:List Ex) (h:otherB m v=true):((a ++ v :: b).filter (otherB m))[(a.filter (otherB m)).length]?=some v:=by
 rw[List.filter_append,List.filter_cons_of_pos h,List.getElem?_append_right (Nat.le_refl _),Nat.sub_self]
 rfl
def OtS(S:Nat→Prop) (b:Nat) (k:Nat):Prop:=S k∨k=b
theorem CsS.keepR{S T:Nat→Prop}{A B:World}{a:Option Addr}{cs:List Value} (h:CsS S A a cs) (k:KpR T A B) (hS:∀ b,S b→T b):CsS S B a cs:=h.keep k.1 fun b hs hb=>⟨hs,k.2 b (hS b hs) hb⟩
theorem others1_in(n:Nat) (hn:1≤n) (lp b1 b2:Nat) (S:Nat→Prop) (xs:List Ex) (hxs:xs.length≤1000) (A:Option Addr) (c m:Nat) (hc:xs.length≤c)
  (J Jx:List Ex→Unit→World→Prop) (hJ:∀ s x A y B,J s x A→A.grownBy B none→J s y B)
  (hY:∀ pre y x A,J pre x A→(xs.filter (otherB m))[pre.length]?=some y→YieldAt Fence.wide (n - 1) Tryz.prog lp #[exV y] A fun e B =>
   (e=.returned (.bool true)∧J (pre ++ [y]) x B∧KpR (OtS S b2) A B)∨(e=.returned (.bool false)∧Jx (pre ++ [y]) x B))
  (W:World) (K0:Blk W b1 56 #[.slice A xs.length c]) (K1:Blk W b2 22 #[.int .u64 (m:Int)]) (R:CsS S W A (ExL xs)) (h0:J [] () W) :
  CallsIn Fence.wide n Tryz.prog 124 #[.func (.yield lp) #[] #[],.pointer (some ⟨b1,0,none⟩),.pointer (some ⟨b2,0,none⟩)] W fun e B=>(∃ v,e=.returned v) ∧
   ((∃ ys x,ys=xs.filter (otherB m)∧J ys x B)∨(∃ pre x,True∧Jx pre x B)):=by
 have hwf:∀ f,Fence.wide.fn f:=fun _=>trivial
 obtain⟨nx,hnx⟩:∃ k,xs.length=k:=⟨_,rfl⟩
 have HNX:=Z hnx
 rw[hnx]at K0 hc hxs
 replace hY:=Z hY
 replace hJ:=Z hJ
 replace K0:=Z K0
 have K1':=Z K1
 replace R:=Z R
 clear hnx
 (obtain⟨k0,f0,l0,m0⟩:=rl_ K0)
 refine callsIn_of_wp Tryz.func124 rfl trivial ?_ rfl
 simp only[Tryz.ntmps124, List.size_toArray,List.length_cons,List.length_nil,Nat.reduceAdd,Nat.reduceSub,Array.replicate_succ,Array.replicate_zero,List.push_toArray,List.append_toArray,List.nil_append,List.cons_append]
 gi_wp2_with fail
 clear k0 f0 l0 m0 K0
 gi_loopw [8] (fun i wr=>∃ k:Nat,k≤nx∧i=.int .i64 k∧Blk wr b2 22 #[.int .u64 (m:Int)]∧CsS S wr A (ExL xs)∧J ((xs.take k).filter (otherB m)) () wr) (fun i _=>(nx - intOf i).toNat)
 case atStart=>exact⟨0,by omega,rfl,K1'.out,R.out,h0⟩
 case round =>
  clear h0 K1 K1' R
  obtain⟨k,hk,rfl,K1,R,hj⟩:=hrel
  by_cases hlt:k<nx
  ·obtain⟨v,hv⟩:∃ v,xs[k]?=some v:=⟨_,List.getElem?_eq_getElem (by rw[HNX.out];exact hlt)⟩
   have hspl:xs=xs.take k ++ v :: xs.drop (k+1):=by
    conv=>lhs;rw[←List.take_append_drop k xs]
    rw[List.drop_eq_getElem_cons (by rw[HNX.out];exact hlt),←(List.getElem?_eq_some_iff.1 hv).2]
   have hmem:otherB m v=true→(xs.filter (otherB m))[((xs.take k).filter (otherB m)).length]?=some v:=fun ho=>by
    have:=filter_mid (xs.take k) (xs.drop (k+1)) ho
    rwa [←hspl]at this
   obtain⟨p1,p2,p3⟩:=ExL_at xs k v hv
   obtain⟨b,o,rfl,hbS,hb,hcs⟩:=R (by rw[ExL_len,HNX.out];omega)
   have c0:=hcs _ _ p1
   have c1:=hcs _ _ p2
   have c2:=hcs _ _ p3
   rw[Nat.mul_comm 3 k]at c0 c1 c2
   rw[←Nat.add_assoc]at c1 c2
   have htk:(xs.take (k+1)).filter (otherB m)=(xs.take k).filter (otherB m) ++ [v].filter (otherB m):=by rw[List.take_add_one,hv];simp
   obtain⟨acc,rcp,mm⟩:=v
   simp only at c0 c1 c2
   have hg1:=World.grownBy_alloc wr (.cells ((((exA Ex.zero).setIfInBounds 0 (.string (bs acc))).setIfInBounds 1 (.string (bs rcp))).setIfInBounds 2 (.int .u64 (mm:Int))) 30) none
   have hj2:=hJ.out _ () wr () _ hj hg1
   have R2:=Z (R.keep hg1.size fun b hs hb=>⟨hs,hg1.block b hb (by simp)⟩)
   have P9:=Z (K1.alloc (.cells ((((exA Ex.zero).setIfInBounds 0 (.string (bs acc))).setIfInBounds 1 (.string (bs rcp))).setIfInBounds 2 (.int .u64 (mm:Int))) 30))
   have P1:=Z K1
   clear p1 p2 p3 hv hcs hj hg1 R K1
   have K1:=P1
   clear P1
   (obtain⟨k1,f1,l1,m1⟩:=rl_ K1)
   by_cases hm:mm=m
   ·subst hm
    have he:[(⟨acc,rcp,mm⟩:Ex)].filter (otherB mm)=[]:=by simp[otherB]
    rw[he,List.append_nil]at htk
    rw[←htk]at hj2
    replace hj2:=Z hj2
    clear htk hmem he
    gi_wp2_with fail
    go_roundw
    case rel=>exact⟨k+1,by omega,by go_num,P9.out,R2.out,hj2.out⟩
    case measure=>simp[intOf];omega
   ·have he:[(⟨acc,rcp,mm⟩:Ex)].filter (otherB m)=[⟨acc,rcp,mm⟩]:=by simp[otherB,hm]
    have hne:((mm:Int) != (m:Int))=true:=by simp;omega
    have hne2:¬ ((mm:Int)=(m:Int)):=by omega
    rw[he]at htk
    obtain⟨fn,tmps,assign,body,hy,hYR⟩:=hY.out _ ⟨acc,rcp,mm⟩ () _ hj2 (hmem (by simp[otherB,hm]))
    rw[←htk]at hYR
    replace hy:(Instr.yield lp #[.agg #[.string (bs acc),.string (bs rcp),.int .u64 (mm:Int)]]).run Tryz.prog _=_:=hy
    clear htk hmem hj2 he
    gi_wp2_with fail
    refine hYR.mono ?_
    rintro e W3 (⟨rfl,hJ3,hk3⟩|⟨rfl,hJx3⟩)
    ·have R3:=Z (R2.out.keepR hk3 fun b h=>.inl h)
     have P1:=Z ((hk3.2 b2 (.inr rfl) P9.out.lt).trans P9.out)
     replace hJ3:=Z hJ3
     clear R2 hk3 hy hYR c0 c1 c2 k1 f1 l1 m1 K1 P9
     gi_wp2_with fail
     go_roundw
     case rel=>exact⟨k+1,by omega,by go_num,P1.out,R3.out,hJ3.out⟩
     case measure=>simp[intOf];omega
    ·replace hJx3:=Z hJx3
     clear R2 hy hYR c0 c1 c2 k1 f1 l1 m1 K1 P9
     gi_wp2_with fail
     refine bodyPost_ret (results_none rfl _ _ _) rfl ?_
     exact⟨⟨_,rfl⟩,.inr ⟨_,(),trivial,hJx3.out⟩⟩
  ·obtain rfl:k=nx:=by omega
   rw[List.take_of_length_le (by rw[HNX.out];exact Nat.le_refl _)]at hj
   replace hj:=Z hj
   clear R K1
   gi_wp2_with fail
   go_end0
   exact⟨⟨_,rfl⟩,.inl ⟨_,(),rfl,hj.out⟩⟩
theorem others_stops(n:Nat) (hn:1≤n) (b1 b2:Nat) (S:Nat→Prop) (xs:List Ex) (hxs:xs.length≤1000) (A:Option Addr) (c m:Nat) (hc:xs.length≤c) (W0:World)
  (K0:Blk W0 b1 56 #[.slice A xs.length c]) (K1:Blk W0 b2 22 #[.int .u64 (m:Int)]) (R:CsS S W0 A (ExL xs)) :
  SeqSt Fence.wide n Tryz.prog 124 #[.pointer (some ⟨b1,0,none⟩),.pointer (some ⟨b2,0,none⟩)] (fun y:Ex => #[exV y]) (fun pre y _ _=>(xs.filter (otherB m))[pre.length]?=some y) (fun(_:Unit) A B=>KpR (OtS S b2) A B) (fun _ A _ B=>A.grownBy B none) () (fun ys=>ys=xs.filter (otherB m)) (fun _=>True) W0 :=
 fun lp J Jx W hW hJ hJx hY h0=>others1_in n hn lp b1 b2 S xs hxs A c m hc J Jx hJ hY W (K0.below hW) (K1.below hW) (R.below hW) h0
def KeV(w:World) (hb g B0:Nat) (H:Hl) (x:Ex) (pre:List Ex) (W:World):Prop :=
 ∃ v,Blk W (g+1) 56 #[v]∧ERow B0 W v pre∧Blk W g 30 (exA x)∧Blk W hb 97 (hlA H)∧KpL [hb] w W∧B0≤W.heap.size
theorem KeV.grown{w A B:World}{hb g B0:Nat}{H:Hl}{x:Ex}{pre:List Ex}{row:Option Nat} (h:KeV w hb g B0 H x pre A) (hw:w.heap.size=g) (hq:hb<g) (hB:g+2≤B0) (k:A.grownBy B row)
  (hr:∀ j,row=some j→g+2≤j∧(B0≤j→∃ o:Obj,A.heap[j]?=some o∧o.isCells=false)):KeV w hb g B0 H x pre B:=by
 obtain⟨v,h1,h2,h3,h4,h5,h6⟩:=h
 refine⟨v,h1.grown k (fun e=>by have:=(hr _ e.symm).1;omega),h2.keep k fun j hj e=>?_,h3.grown k (fun e=>by have:=(hr _ e.symm).1;omega),h4.grown k (fun e=>by have:=(hr _ e.symm).1;omega),h5.grow k fun b e=>.inr (by have:=(hr b e).1;omega),Nat.le_trans h6 k.size⟩
 obtain⟨cs,t,fz,hcs⟩:=ERow.cells h2 j hj
 obtain⟨o,ho,hc⟩:=(hr j e).2 (h2.lt j hj).1
 rw[hcs]at ho
 injection ho with ho
 subst ho
 cases hc
theorem new_ex(W:World) (y:Ex):∀ j u,(exC y)[j]?=some u→(W.alloc (.cells (exA y) 30)).cell? ((⟨W.heap.size,0,none⟩:Addr).add j)=some u:=by
 intro j u hu
 have hK:=Blk.new0 W 30 (exA y)
 rw[Addr.add_mid,hK.cell,Nat.zero_add]
 simpa[exA] using hu
theorem keep_calls(hb:Nat) (H:Hl) (xs:List Ex) (hxs:xs.length≤7) (x:Ex) (w:World) (K:Blk w hb 97 (hlA H)) (hl:H.w.len=xs.length) (hc:xs.length≤H.w.cap) (R:CsS (fun b=>b≠hb) w H.w.addr (ExL xs)) :
  Calls Tryz.prog 49 #[.pointer (some ⟨hb,0,none⟩),exV x] w (fun e w'=>(∃ v,e=.returned v)∧∃ (W:Wn) (ys:List Ex),Blk w' hb 97 (hlA ⟨H.s,W⟩)∧W.len=ys.length∧1≤ys.length∧ys.length≤xs.length+1∧ys.length≤W.cap∧CsS (fun b=>b≠hb∧w.heap.size≤b) w' W.addr (ExL ys)∧KpL [hb] w w'):=by
 refine(callsIn_wide (n:=9)).1 ?_
 have hwf:∀ f,Fence.wide.fn f:=fun _=>trivial
 refine callsIn_of_wp_marks Tryz.func49 rfl trivial ?_ rfl
 simp only[Tryz.ntmps49, List.size_toArray,List.length_cons,List.length_nil,Nat.reduceAdd,Nat.reduceSub,Array.replicate_succ,Array.replicate_zero,List.push_toArray,List.append_toArray,List.nil_append,List.cons_append]
 have hqw:=K.lt
 obtain⟨s,A,n,c⟩:=H
 simp only at hl hc R
 subst hl
 gi_wp2_with fail
 obtain⟨W1,hW1⟩:∃ W1,(w.alloc (.cells (exA x) 30)).alloc (.cells #[.slice none 0 0] 56)=W1:=⟨_,rfl⟩
 have K0:Blk W1.drew w.heap.size 30 (exA x):=by rw[←hW1];exact(Blk.new0 _ _ _).alloc _
 have K1:Blk W1.drew (w.heap.size+1) 56 #[.slice none 0 0]:=by rw[←hW1];exact Blk.new1 _ _ _ _
 have hs1:W1.drew.heap.size=w.heap.size+2:=by rw[←hW1];simp
 have KH:Blk W1.drew hb 97 (hlA ⟨s,⟨A,xs.length,c⟩⟩):=by rw[←hW1];exact((K.alloc _).alloc _).drew
 have HB1:Below w.heap.size w W1.drew:=by rw[←hW1];exact(((Below.refl _ w).alloc (Nat.le_refl _) _).alloc (by simp) _).drew
 have RX:=(R.weak (S':=fun b=>b≠hb∧b<w.heap.size) fun b h1 h2=>⟨h1,h2⟩).below HB1
 rw[hW1]
 clear hW1 R K
 obtain⟨g,hg⟩:∃ g,w.heap.size=g:=⟨_,rfl⟩
 have HG:=Z hg
 rw[hg]at K0 K1 hs1 hqw RX ⊢
 clear hg
 refine wpIn_round_held (fun w'=>Below W1.drew.heap.size W1.drew w') (fun j=>true) U ?_
 have hS0:(fun w':World=>Below W1.drew.heap.size W1.drew w') W1.drew:=Below.refl _ _
 obtain⟨WD,hWD⟩:∃ WD,W1.drew=WD:=⟨_,rfl⟩
 rw[hWD]at K0 K1 KH RX HB1 hs1 hS0 ⊢
 clear hWD
 replace HB1:=Z HB1
 replace RX:=Z RX
 replace K0:=Z K0
 have K2:=Z KH
 replace K1:=Z K1
 clear KH
 refine S_tk 0 (.pointer (some ⟨hb,0,none⟩)) rfl hS0 (fun w' hw=>by have j0:=Blk.cell (K0.out.below hw);have j2:=Blk.cell (K2.out.below hw);go_simp) ?_
 refine S_tk 1 (.pointer (some ⟨hb,0,none⟩)) rfl hS0 (fun w' hw=>by have j0:=Blk.cell (K0.out.below hw);have j2:=Blk.cell (K2.out.below hw);go_simp) ?_
 refine S_tk 2 (.pointer (some ⟨hb,51,none⟩)) rfl hS0 (fun w' hw=>by have j0:=Blk.cell (K0.out.below hw);have j2:=Blk.cell (K2.out.below hw);go_simp) ?_
 refine S_tk 3 (.slice A xs.length c) rfl hS0 (fun w' hw=>by have j0:=Blk.cell (K0.out.below hw);have j2:=Blk.cell (K2.out.below hw);go_simp) ?_
 refine S_tk 4 (.pointer (some ⟨g,2,none⟩)) rfl hS0 (fun w' hw=>by have j0:=Blk.cell (K0.out.below hw);have j2:=Blk.cell (K2.out.below hw);go_simp) ?_
 refine S_tk 5 (.int .u64 (x.num:Int)) rfl hS0 (fun w' hw=>by have j0:=Blk.cell (K0.out.below hw);have j2:=Blk.cell (K2.out.below hw);go_simp) ?_
 refine S_one 6 U rfl (fun K hK=>?_)
 go_simp
 gi_wp2_with(gi_at_call 84; refine(callsIn_wide.2 (others_calls _ _ _ _ _)).mono ?_;rintro e w' ⟨rfl,rfl⟩)
 refine⟨fun _=>((Below.refl _ _).alloc (Nat.le_refl _) _).alloc (by simp) _,?_⟩
 refine⟨by kernel_rfl,rfl,?_⟩
 clear hS0
 gi_wp2_with fail
 obtain⟨W0,hW0⟩:∃ W0,(WD.alloc (.cells #[.slice A xs.length c] 56)).alloc (.cells #[.int .u64 (x.num:Int)] 22)=W0:=⟨_,rfl⟩
 have hs0:W0.heap.size=g+4:=by rw[←hW0];simp[hs1]
 have KB1:Blk W0 (g+2) 56 #[.slice A xs.length c]:=by rw[←hW0];exact(Blk.newAt hs1).alloc _
 have KB2:Blk W0 (g+2+1) 22 #[.int .u64 (x.num:Int)]:=by rw[←hW0];exact Blk.newAt (by simp[hs1])
 have hBW:Below WD.heap.size WD W0:=by rw[←hW0];exact((Below.refl _ _).alloc (Nat.le_refl _) _).alloc (by simp) _
 have KRow:=RX.out.below hBW
 have hV0:KeV w hb g (g+4) ⟨s,⟨A,xs.length,c⟩⟩ x [] W0:=⟨.slice none 0 0,K1.out.below hBW,World.ownsRow_nil _ _ _ _,K0.out.below hBW,K2.out.below hBW,(KpL.of HB1.out).on hBW,by omega⟩
 rw[hW0]
 clear hW0 K0 K1 K2 RX HB1 hBW hs1
 have hf:=enters_of Tryz.func124 U rfl
 refine wpIn_rangeFunc_stc rfl (by decide) (gf := 124) (lb := #[.pointer (some ⟨g+2,0,none⟩),.pointer (some ⟨g+2+1,0,none⟩)]) rfl trivial hf
  (others_stops 8 (by decide) (g+2) (g+2+1) (fun b=>b≠hb∧b<g) xs (by omega) A c x.num hc W0 KB1 KB2 KRow) (fun _=>rfl) (fun _ _ _ _ h k=>h.trans k) (fun x W l o o' hl h1 h2 h3=>⟨by simp,fun k hk _=>World.putObj_heap_other (by unfold OtS at hk;omega)⟩)
  (fun x A y B k o hab hkk hA ho _=>(hab.block k (Array.getElem?_eq_some_iff.1 hA).1 (by simp)).trans hA)
  (fun pre y x W l o o' h _ _ _=>h)
  (fun pre _ W=>KeV w hb g (g+4) ⟨s,⟨A,xs.length,c⟩⟩ x pre W) (fun c _ x W=>False)
  (fun _ s A B row h hg hr=>KeV.grown h HG.out hqw (by omega) hg fun j e=>⟨by have:=(hr j e).1;omega,fun _=>(hr j e).2⟩) (fun _ _ s A B row h hg hr=>h)
  (fun s x A y B h hab=>KeV.grown h HG.out hqw (by omega) hab fun j e=>by cases e) (fun _ s x A y B h hab=>h) hV0
  (fun y c2=>{ tmps := #[.pointer (some ⟨hb,0,none⟩),exV x,undef,.pointer (some ⟨g,0,none⟩),.pointer (some ⟨g+1,0,none⟩),.pointer (some ⟨c2,0,none⟩),undef,.pointer (some ⟨hb,0,none⟩),.pointer (some ⟨hb,0,none⟩),.pointer (some ⟨hb,51,none⟩),.slice A xs.length c,.pointer (some ⟨g,2,none⟩),.int .u64 (x.num:Int),
   .func (.func 124) #[] #[.pointer (some ⟨g+2,0,none⟩),.pointer (some ⟨g+2+1,0,none⟩)],exV y,undef,undef,undef,undef,undef,undef,undef,undef,undef,undef,undef,undef,undef,undef,undef,undef,undef,undef,undef,undef,undef,undef],defers:=[] })
  (fun y=>.cells (exA y) 30)
  (fun x W o=>⟨by simp,fun k _ hk=>Below.heap_alloc W _ _ hk⟩) (fun pre y x W o h=>h)
  ?assign ?body ?done ?stop
 case assign =>
  intro l y W K hK
  have hth:(W.alloc (.cells (exA Ex.zero) 30)).there W.heap.size 0 3:=fun j hj=>by
   have hB:=Blk.new0 W 30 (exA Ex.zero)
   exact⟨by rw[hB.cell,Array.getElem?_eq_getElem (by rw[exA_size];omega)];rfl,hB.free _⟩
  have hse:(W.alloc (.cells (exA Ex.zero) 30)).setCells W.heap.size 0 (exA y).toList=W.alloc (.cells (exA y) 30):=by
   rw[setCells_row (cells:=exA y) (Blk.new0 W 30 (exA Ex.zero)) rfl,row_new]
  replace hth:=Z hth
  replace hse:=Z hse
  gi_wp2_with(refine wpListIn_store_mid rfl 30 _ _ rfl W.heap.size 0 (exA y) (by rfl) (by rfl) hth.out sizeEx (exA_one y) ?_;rw[hse.out])
  exact hK
 case stop =>
  rintro D c pre x W hD _ h hK
  exact h.elim
 case done =>
  rintro D ys _ W hD hys ⟨v,h1,h2,h3,h4,h5,h6⟩ hK
  have hD4:g+4≤D:=by omega
  have hyl:ys.length≤xs.length:=by rw[hys];exact List.length_filter_le _ _
  obtain⟨A',c',rfl,hc',hm',_⟩:=h2.shape
  obtain⟨m,hm⟩:∃ m,ys.length=m:=⟨_,rfl⟩
  have HM:=Z hm
  rw[hm]at h1 h2 hyl hc'
  have hlr:∀ j,(Value.slice A' m c').ownBlock=some j→g+4≤j∧j<W.heap.size:=fun j hj=>h2.lt j hj
  have K1:=Z h1
  have K0:=Z h3
  have K2:=Z h4
  have R2:=Z h2
  have HK:=Z h5
  have hKD:=Z hK
  clear h1 h2 h3 h4 h5 hK hV0 KB1 KB2 KRow hs0 hm hys
  (obtain⟨k0,f0,l0,m0⟩:=rl_ K0;obtain⟨k1,f1,l1,m1⟩:=rl_ K1;obtain⟨k2,f2,l2,m2⟩:=rl_ K2)
  gi_wp2_with(gi_at_builtin;refine wpListIn_append_exec rfl _ _ rfl (g+4) (.slice A' m c') ys rfl (R2.out.keep (World.grownBy_alloc W _ none) fun _ _ e=>by cases e) x ⟨W.heap.size,0,none⟩ rfl (new_ex _ _) (by rw[HM.out];omega) (by simp;omega) ?_)
  intro v4 w4 OWN4 hg4 hx4
  obtain⟨A4,c4,hv4,hc4,hm4,hcs4⟩:=OWN4.shape
  have hv5:v4=.slice A4 (m+1) c4:=by rw[hv4];simp[HM.out]
  clear hv4
  subst hv5
  rw[List.length_append,HM.out,List.length_singleton]at hc4
  have hg5:(W.alloc (.cells (exA x) 30)).grownBy w4 (Value.slice A' m c').ownBlock:=hg4
  have hgW:W.grownBy w4 (Value.slice A' m c').ownBlock:=⟨hg5.os,hg5.tape,hg5.output,Nat.le_trans (by simp) hg5.size,fun j hj hr=>(hg5.block j (by simp;omega) hr).trans (Below.heap_alloc _ _ j hj)⟩
  have hno:∀ j,j<g+4→some j≠(Value.slice A' m c').ownBlock:=fun j hj e=>by have:=(hlr j e.symm).1;omega
  have N1:=Z (K1.out.grown hgW (hno _ (by omega)))
  have N0:=Z (K0.out.grown hgW (hno _ (by omega)))
  have N2:=Z (K2.out.grown hgW (hno _ (by omega)))
  have NP:=Z (HK.out.grow hgW fun b e=>.inr (by have:=(hlr b e).1;have:=HG.out;omega))
  have hz4:g+4≤w4.heap.size:=Nat.le_trans h6 hgW.size
  have hlt4:∀ j,(Value.slice A4 (m+1) c4).ownBlock=some j→g+4≤j:=fun j hj=>(OWN4.lt j hj).1
  have hKD2:=Z (show w4.heap[D]?=some (.deferred (some [])) from(hgW.block D (Array.getElem?_eq_some_iff.1 hKD.out).1 (fun e=>by
   obtain⟨cs,t,fz,hcs⟩:=ERow.cells R2.out D e.symm
   rw[hKD.out]at hcs
   cases hcs)).trans hKD.out)
  replace OWN4:=Z OWN4
  replace hcs4:=Z hcs4
  clear hg4 hg5 hgW hx4 hlr hno k0 f0 l0 m0 K0 k1 f1 l1 m1 K1 k2 f2 l2 m2 K2 R2 HK hKD
  have K1:=N1;have K2:=N2
  clear N1 N2 N0
  (obtain⟨k1,f1,l1,m1⟩:=rl_ K1;obtain⟨k2,f2,l2,m2⟩:=rl_ K2)
  have hmx:max (0:Int) ((m:Int)+1 - 8)=0:=by omega
  have hm0:(0:Int)≤(m:Int)+1:=by omega
  have hmc:(m:Int)+1≤(c4:Int):=by omega
  gi_wp2_with fail
  obtain⟨WF,hWF⟩:∃ WF,((w4.setCell ⟨g+1,0,none⟩ (.slice A4 (m+1) c4)).setCell ⟨hb,51,none⟩ (.slice A4 (m+1) (m+1)))=WF:=⟨_,rfl⟩
  have G9:w4.grownBy (w4.setCell ⟨g+1,0,none⟩ (.slice A4 (m+1) c4)) (some (g+1)):=grown_set (World.grownBy.refl _ _)
  have KF:Blk WF hb 97 (hlA ⟨s,⟨A4,m+1,m+1⟩⟩):=by rw[←hWF];exact Blk.to (Blk.set_ (K2.out.far (by simp;omega) _) 51 _) rfl
  have HF:KpL [hb] w WF:=by rw[←hWF];exact(NP.out.set (.inr (by have:=HG.out;omega))).set (.inl (by simp))
  have CF:CsS (fun b=>b≠hb∧w.heap.size≤b) WF A4 (ExL (ys ++ [x])):=by
   rw[←hWF]
   exact hcs4.out.keep (by simp) fun b hb2 hl=>by
    have h9:g+4≤b:=hb2.1
    exact⟨⟨by omega,by have:=HG.out;omega⟩,by rw[Below.heap_setCell _ _ _ _ (by simp;omega),Below.heap_setCell _ _ _ _ (by simp;omega)]⟩
  have DF:WF.heap[D]?=some (.deferred (some [])):=by rw[←hWF,Below.heap_setCell _ _ _ _ (by simp;omega),Below.heap_setCell _ _ _ _ (by simp;omega)];exact hKD2.out
  rw[hWF]
  have hG:=grownBy_putObj' WF D (.deferred none)
  have KF2:=KF.grown hG (fun e=>by injection e with e;omega)
  have HF2:=HF.grow hG fun b e=>by injection e with e;exact .inr (by have:=HG.out;omega)
  have CF2:CsS (fun b=>b≠hb∧w.heap.size≤b) (WF.putObj D (.deferred none)) A4 (ExL (ys ++ [x])):=CF.keep2 hG.size fun b hb hlt ⟨cs,t,fz,hc⟩=>⟨hb,hG.block b hlt fun e=>by
   injection e with e
   subst e
   rw[DF]at hc
   cases hc⟩
  clear KF HF CF hWF G9 hcs4
  exact⟨by simp,.inl ⟨_,_,rfl,run_takeDeferred DF,⟨.tuple #[],(by simp[results,Tryz.results49, go_sem]),⟨_,rfl⟩,⟨A4,m+1,m+1⟩,KF2,ys ++ [x],by simp[HM.out],by simp,by simp[HM.out];omega,by simp[HM.out],CF2,HF2⟩⟩⟩
 case body =>
  rintro lx pre y _ W c2 ⟨v,h1,h2,h3,h4,h5,h6⟩ hat hcl hbox _
  have hpl:pre.length<xs.length:=Nat.lt_of_lt_of_le (List.getElem?_eq_some_iff.1 hat).1 (List.length_filter_le _ _)
  obtain⟨A',c',rfl,hc',hm',_⟩:=h2.shape
  obtain⟨m,hm⟩:∃ m,pre.length=m:=⟨_,rfl⟩
  have HM:=Z hm
  rw[hm]at h1 h2 hpl hc'
  have hlr:∀ j,(Value.slice A' m c').ownBlock=some j→g+4≤j∧j<W.heap.size:=fun j hj=>h2.lt j hj
  have K1:=Z h1
  have K0:=Z h3
  have K2:=Z h4
  have K3:=Z (show Blk W c2 30 (exA y) from hbox)
  have R2:=Z h2
  have HK:=Z h5
  clear h1 h2 h3 h4 h5 hat hbox hV0 KB1 KB2 KRow hs0 hm
  (obtain⟨k1,f1,l1,m1⟩:=rl_ K1;obtain⟨k3,f3,l3,m3⟩:=rl_ K3)
  gi_wp2_with(gi_at_builtin;refine wpListIn_append_exec rfl _ _ rfl (g+4) (.slice A' m c') pre rfl (R2.out.keep (World.grownBy_alloc W _ none) fun _ _ e=>by cases e) y ⟨W.heap.size,0,none⟩ rfl (new_ex _ _) (by rw[HM.out];omega) (by simp;omega) ?_)
  intro v4 w4 OWN4 hg4 hx4
  obtain⟨A4,c4,hv4,hc4,hm4,hcs4⟩:=OWN4.shape
  have hv5:v4=.slice A4 (m+1) c4:=by rw[hv4];simp[HM.out]
  clear hv4
  subst hv5
  rw[List.length_append,HM.out,List.length_singleton]at hc4
  have hg5:(W.alloc (.cells (exA y) 30)).grownBy w4 (Value.slice A' m c').ownBlock:=hg4
  have hgW:W.grownBy w4 (Value.slice A' m c').ownBlock:=⟨hg5.os,hg5.tape,hg5.output,Nat.le_trans (by simp) hg5.size,fun j hj hr=>(hg5.block j (by simp;omega) hr).trans (Below.heap_alloc _ _ j hj)⟩
  have hno:∀ j,j<g+4→some j≠(Value.slice A' m c').ownBlock:=fun j hj e=>by have:=(hlr j e.symm).1;omega
  have N1:=Z (K1.out.grown hgW (hno _ (by omega)))
  have N0:=Z (K0.out.grown hgW (hno _ (by omega)))
  have N2:=Z (K2.out.grown hgW (hno _ (by omega)))
  have NP:=Z (HK.out.grow hgW fun b e=>.inr (by have:=(hlr b e).1;have:=HG.out;omega))
  have hz4:g+4≤w4.heap.size:=Nat.le_trans h6 hgW.size
  have hlt4:∀ j,(Value.slice A4 (m+1) c4).ownBlock=some j→g+4≤j:=fun j hj=>(OWN4.lt j hj).1
  have hKO:KeepsOthers W w4:=KeepsOthers.of_grownBy hgW fun j o e ho=>by
   obtain⟨cs,t,fz,hcs⟩:=ERow.cells R2.out j e
   rw[hcs]at ho
   injection ho with ho
   subst ho
   rfl
  have hKp:KpR (OtS (fun b=>b≠hb∧b<g) (g+2+1)) W w4:=⟨hgW.size,fun j hj hl=>hgW.block j hl (hno j (by unfold OtS at hj;omega))⟩
  replace OWN4:=Z OWN4
  replace hKO:=Z hKO
  replace hKp:=Z hKp
  clear hg4 hg5 hgW hx4 hlr hno k1 f1 l1 m1 K1 k3 f3 l3 m3 K3 K0 K2 R2 HK hcs4
  have K1:=N1
  clear N1
  (obtain⟨k1,f1,l1,m1⟩:=rl_ K1)
  gi_wp2_with fail
  refine⟨hKO.out.trans (KeepsOthers.setCell _ _ _),⟨Nat.le_trans hKp.out.1 (by simp),fun j hj hl=>(Below.heap_setCell _ _ _ _ (by unfold OtS at hj;simp;omega)).trans (hKp.out.2 j hj hl)⟩,.slice A4 (m+1) c4,Blk.to (Blk.set_ K1.out 0 _) rfl,?_,N0.out.far (by simp) _,N2.out.far (by simp;omega) _,NP.out.set (.inr (by have:=HG.out;omega)),by simpa using hz4⟩
  exact OWN4.out.keep (grown_set (World.grownBy.refl _ _)) fun j hj e=>by have:=hlt4 j hj;injection e with e;omega
end
section
open Go.RowKit Go.Shelf
section
variable {P:Program}{ops:Array Oper}{md:Region.Mode}{S:World→Prop}{nd:Nat→Bool}{F:Fence}{m:Nat}{Q:Exit→Act→World→Prop}
def BehindI(md:Region.Mode) (ops:Array Oper) (D:List Nat) (i:Nat) (listed:Array Bool):Prop :=
 ∀ k∈D,k≠i→∃ ok,ops[k]?=some ok∧∃ e∈ok.after,Region.binds md e=true∧e.on∈D∧listed.getD e.on true=false
theorem getD_tf{l:Array Bool}{k:Nat} (h:l.getD k true=false) (h2:l.getD k false=true):False:=by
 rcases Nat.lt_or_ge k l.size with h'|h'
 ·simp[Array.getD,h']at h h2
  rw[h]at h2
  cases h2
 ·simp[Array.getD,Nat.not_lt.2 h']at h
theorem S_firstT(hF:∀ f,F.fn f) {i:Nat}{oi:Oper}{v:Value}{D:List Nat} (hd:noDefer ops=true) (hi:ops[i]?=some oi) (hsel:∀ (j:Nat) (o:Oper) cs b,ops[j]?=some o→o.op ≠ .select cs b)
  (hQ:∀ c a w,Q (.panic c) (a.put oi.dst v) w→Q (.panic c) a w) (hni:nd i=true) :
  ∀ (fuel:Nat) (listed:Array Bool) (a:Act) (w:World),
   (∀ j oj,ops[j]?=some oj→j≠i→listed.getD j true=false→(∀ e∈oj.after,Region.binds md e=true→e.on≠i)→oi.apart ops oj=true∧(j∉D→nd j=true)) →
   BehindI md ops D i listed →
   i∈Region.ready md ops listed→YieldsIf P ops S oi v a→S w →
   anyS F m P md ops Q S nd fuel (listed.setIfInBounds i true) (a.put oi.dst v) w→anyS F m P md ops Q S nd (fuel+1) listed a w:=by
 intro fuel
 induction fuel with
 | zero =>
  intro listed a w _ _ hr hy hS H
  refine⟨fun h=>(by rw[h]at hr;cases hr),fun j hj=>?_⟩
  by_cases hji:j=i
  ·subst hji;exact yields_step hF hd hi hy hS ⟨fun _=>hS,H⟩
  ·have:=ready_mono hj hji
   rw[H.1]at this
   cases this
 | succ fuel ih =>
  intro listed a w hfree hbeh hr hy hS H
  refine⟨fun h=>(by rw[h]at hr;cases hr),fun j hj=>?_⟩
  by_cases hji:j=i
  ·subst hji;exact yields_step hF hd hi hy hS ⟨fun _=>hS,H⟩
  ·have h1:=H.2 j (ready_mono hj hji)
   obtain⟨hjun,oj,hoj,hall⟩:=mem_ready.1 hj
   have hnot:∀ e∈oj.after,Region.binds md e=true→e.on≠i:=fun e he hb heq=>by
    have h1:=hall e he hb
    have h0:=(mem_ready.1 hr).1
    rw[heq]at h1
    rcases Nat.lt_or_ge i listed.size with h'|h'
    ·simp[h']at h0 h1;rw[h0]at h1;cases h1
    ·simp[Array.getElem?_eq_none h']at h1
   have hjD:j∉D:=fun hm=>by
    obtain⟨ok,hok,e,he,hb,_,hun⟩:=hbeh j hm hji
    rw[hoj]at hok
    injection hok with hok
    subst hok
    exact getD_tf hun (hall e he hb)
   obtain⟨hap,hndj⟩:=hfree j oj hoj hji hjun hnot
   have hndj:=hndj hjD
   have h2:=put_step hF hd hoj hap (fun cs b=>hsel i oi cs b hi) (fun cs b=>hsel j oj cs b hoj) hQ hy h1
   have hset:∀ k,(listed.setIfInBounds j true).getD k true=false→listed.getD k true=false:=fun k hun=>by
    by_cases hjk:j=k
    ·subst hjk;exact hjun
    ·rw[Go.getD_set_ne true hjk]at hun;exact hun
   have hfree':∀ k ok,ops[k]?=some ok→k≠i→(listed.setIfInBounds j true).getD k true=false →
     (∀ e∈ok.after,Region.binds md e=true→e.on≠i)→oi.apart ops ok=true∧(k∉D→nd k=true):=fun k ok hk hki hun hno=>hfree k ok hk hki (hset k hun) hno
   have hbeh':BehindI md ops D i (listed.setIfInBounds j true):=fun k hk hki=>by
    obtain⟨ok,hok,e,he,hb,heD,hun⟩:=hbeh k hk hki
    refine⟨ok,hok,e,he,hb,heD,?_⟩
    rw[Go.getD_set_ne true (fun h:j=e.on=>hjD (by rw[h];exact heD))]
    exact hun
   refine wpOpIn_mono (fun a' w' h3=>⟨h3.2.1,ih (listed.setIfInBounds j true) a' w' hfree' hbeh' (ready_mono hr (Ne.symm hji)) h3.1 (h3.2.1 hndj) ?_⟩) h2
   rw[Array.setIfInBounds_comm _ _ hji]
   exact h3.2.2
def ndT(md:Region.Mode) (ops:Array Oper) (nd:Nat→Bool) (listed:Array Bool) (D:List Nat) (i:Nat):Bool :=
 nd i && ((List.range ops.size).all (fun j=>j == i || listed.getD j true || nd j || D.contains j) && D.all fun k=>k == i || match ops[k]? with
   | some ok=>ok.after.any (fun e=>Region.binds md e && (D.contains e.on && !(listed.getD e.on true)))
   | none=>false)
theorem ndT_spec{i:Nat}{listed:Array Bool}{D:List Nat} (h:ndT md ops nd listed D i=true):BehindI md ops D i listed∧∀ j oj,ops[j]?=some oj→j≠i→listed.getD j true=false→j∉D→nd j=true:=by
 simp only[ndT,Bool.and_eq_true,List.all_eq_true,List.mem_range]at h
 refine⟨fun k hk hki=>?_,fun j oj hj hne hun hD=>?_⟩
 ·have h1:=h.2.2 k hk
  cases hok:ops[k]? with
  | none=>simp[hok,hki]at h1
  | some ok =>
   simp only[hok,Bool.or_eq_true,beq_iff_eq,hki,false_or]at h1
   rw[Array.any_eq_true]at h1
   obtain⟨x,hx,h2⟩:=h1
   simp only[Bool.and_eq_true,Bool.not_eq_true',List.contains_iff_mem]at h2
   exact⟨ok,rfl,_,Array.getElem_mem hx,h2.1,h2.2.1,h2.2.2⟩
 ·have h1:=h.2.1 j (Array.getElem?_eq_some_iff.1 hj).1
  have hc:D.contains j=false:=by
   cases hb:D.contains j with
   | false=>rfl
   | true=>exact absurd (List.contains_iff_mem.1 hb) hD
  simp only[Bool.or_eq_true,beq_iff_eq,hne,false_or,hun,Bool.false_eq_true,hc,or_false]at h1
  exact h1
theorem S_takeT(D:List Nat) (hF:∀ f,F.fn f) (i:Nat) {oi:Oper} (v:Value) {fuel:Nat}{listed:Array Bool}{a:Act}{w:World} (hd:noDefer ops=true) (hi:ops[i]?=some oi)
  (hs:Region.noSelect ops=true) (hf:Region.free md ops listed i=true) (hr:(Region.ready md ops listed).contains i=true) (hn:ndT md ops nd listed D i=true)
  (hQ:∀ c a w,Q (.panic c) (a.put oi.dst v) w→Q (.panic c) a w) (hS:S w) (hw:Region.wanted oi (yielded ops a.tmps)=true) (hy:∀ w,S w→(execOp a.eval oi).run P w=.ok (.value v) w)
  (h:anyS F m P md ops Q S nd fuel (listed.setIfInBounds i true) (a.put oi.dst v) w):anyS F m P md ops Q S nd (fuel+1) listed a w :=
 S_firstT (D:=D) hF hd hi (Region.noSelect_spec hs) hQ (by simp only[ndT,Bool.and_eq_true]at hn;exact hn.1) fuel listed a w (fun j oj h1 h2 h3 h4=>⟨Region.free_spec hi hf j oj h1 h2 h3 h4,(ndT_spec hn).2 j oj h1 h2 h3⟩) (ndT_spec hn).1 (by simpa using hr) (.inl ⟨hw,hy⟩) hS h
end
end
section
open BigFrame Go.RowKit Go.Phx Go.Shelf
attribute [local go_sem] Oper.semAt_some
theorem neqHd_run(a b:Hd) (w:World):(binOp .neq 28 (hdV a) (hdV b)).run Tryz.prog w=.ok (.bool (!eqHd a b)) w:=by
 unfold hdV hdA hdC eqHd
 go_simp
 have e:∀ x y:Nat,((x:Int)=y)↔x=y:=fun x y=>by omega
 simp only[e]
 (repeat' split) <;> simp_all
theorem neqHd_guard(x y:Operand) (a b:Hd) (w:World):(eqGuard .neq 28 x y (hdV a) (hdV b)).run Tryz.prog w=.ok () w:=by
 unfold hdV hdA hdC
 go_simp
theorem goes_calls(g0 g1:Nat) (S:Nat→Prop) (hS1:∀ b,S b→b≠g1) (hne:g0≠g1) (root:Bytes) (H:Hl) (xs:List Ex) (hxs:xs.length≤7) (s:Sr) (e:Int) (w:World) (P0:Blk w g0 100 #[.string (bs root),.pointer (some ⟨g1,0,none⟩)]) (P1:Blk w g1 97 (hlA H)) (hl:H.w.len=xs.length) (hc:xs.length≤H.w.cap) (hS2:∀ b,w.heap.size≤b→b≠g1→S b) (R:CsS S w H.w.addr (ExL xs)) :
  Calls Tryz.prog 43 #[.pointer (some ⟨g0,0,none⟩),srV s,.int .i64 e] w (fun en w'=>en=.returned (.int .i64 e)∧∃ (W:Wn) (ys:List Ex),Blk w' g1 97 (hlA ⟨if e=0 then s else H.s,W⟩)∧W.len=ys.length∧ys.length≤xs.length+1∧ys.length≤W.cap∧CsS S w' W.addr (ExL ys)∧KpL [g1] w w'):=by
 have hng:¬ S g1:=fun h=>hS1 _ h rfl
 replace hS1:=Z hS1
 replace hS2:=Z hS2
 have hg0:=P0.lt
 have hg1:=P1.lt
 have K0:=Z P0
 have K1:=Z P1
 have RX:=Z R
 have HK:=Z (KpL.refl [g1] w)
 clear P0 P1 R
 (obtain⟨k0,f0,l0,m0⟩:=rl_ K0;obtain⟨k1,f1,l1,m1⟩:=rl_ K1)
 go_enter Tryz.func43, Tryz.ntmps43
 by_cases h0:e=0
 ·subst h0
  rw[if_pos rfl]
  go_upto_if 9 with fail
  (obtain⟨g2,hgj⟩:∃ g,(World.heap w).size=g:=⟨_,rfl⟩;obtain⟨w1,hWN⟩:∃ W',World.alloc w (.cells (srA s) 39)=W':=⟨_,rfl⟩;have hN:KpL [] w w1:=(by rw[←hWN];exact(KpL.refl _ _).alloc _);replace K2:=Z (show Blk w1 g2 39 (srA s) by rw[←hWN];exact Blk.newAt hgj);have h0_2:g0<g2:=(by rw[←hgj];exact K0.out.lt);have h1_2:g1<g2:=(by rw[←hgj];exact K1.out.lt);have hw_2:w.heap.size≤g2:=(by rw[←hgj];exact HK.out.size);rw[hWN];(try rw[hgj]);clear hWN hgj k0 f0 l0 m0 k1 f1 l1 m1;replace K0:=bK K0 hN;replace K1:=bK K1 hN;replace RX:=Z (RX.out.kp hN);replace HK:=jK HK hN;clear hN;obtain⟨k0,f0,l0,m0⟩:=rl_ K0;obtain⟨k1,f1,l1,m1⟩:=rl_ K1;obtain⟨k2,f2,l2,m2⟩:=rl_ K2)
  (go_wp2_with(first|(with_reducible refine wlr (ldHl_s_fin_b _ K1.out) rfl ?_)|(with_reducible refine wsh (stHd (Hd.zero) (Blk.new0 w1 28 (hdA (Hd.zero))) (H.s.fin.b)) rfl rfl ?_));generalize hWN:setRow _ _ _ _=w2;obtain⟨g3,hgj⟩:∃ g,(World.heap w1).size=g:=⟨_,rfl⟩;have hN:KpL [] w1 w2:=(by rw[←hWN];exact((KpL.refl _ _).alloc _).row (.inr (Nat.le_refl _)) (by simp));replace K3:=Z (show Blk w2 g3 _ (hdA (H.s.fin.b)) by rw[←hWN,←hgj];exact Blk.row (by simp));have h0_3:g0<g3:=(by rw[←hgj];exact K0.out.lt);have h1_3:g1<g3:=(by rw[←hgj];exact K1.out.lt);have h2_3:g2<g3:=(by rw[←hgj];exact K2.out.lt);have hw_3:w.heap.size≤g3:=(by rw[←hgj];exact HK.out.size);have hz_3:(World.heap w1).size≤g3:=(by rw[←hgj];exact Nat.le_refl _);(try rw[hgj]);clear hWN hgj k0 f0 l0 m0 k1 f1 l1 m1 k2 f2 l2 m2;replace K0:=bK K0 hN;replace K1:=bK K1 hN;replace K2:=bK K2 hN;replace RX:=Z (RX.out.kp hN);replace HK:=jK HK hN;clear hN;obtain⟨k0,f0,l0,m0⟩:=rl_ K0;obtain⟨k1,f1,l1,m1⟩:=rl_ K1;obtain⟨k2,f2,l2,m2⟩:=rl_ K2;obtain⟨k3,f3,l3,m3⟩:=rl_ K3;unfold Halted)
  go_wp2_with fail
  have hwf:∀ f,Fence.wide.fn f:=fun _=>trivial
  refine(wpIn_wide (n:=9)).1 ?_
  refine wpIn_round_held (fun w'=>Below w2.heap.size w2 w') (fun j => !decide (j∈[7])) U ?_
  have hS0:(fun w'=>Below w2.heap.size w2 w') w2.drew:=(Below.refl _ _).drew
  refine S_tg 0 (.pointer (some ⟨g0,0,none⟩)) rfl hS0 ?_
  refine S_tg 1 (.pointer (some ⟨g0,0,none⟩)) rfl hS0 ?_
  simp only[Act.put,jA,jE,jF,jB,jC,jD]
  refine S_tg 2 (.pointer (some ⟨g0,1,none⟩)) rfl hS0 ?_
  refine S_tk 3 (.pointer (some ⟨g1,0,none⟩)) rfl hS0 (fun w' hw=>by exact exec_load rfl U (run_load_cell (i:=1) (K0.out.below hw) rfl szHp nrHp)) ?_
  simp only[Act.put,jA,jE,jF,jB,jC,jD]
  refine S_tk 4 (srV (s)) rfl hS0 (fun w' hw=>exec_load rfl U (ldSr (s) (K2.out.below hw))) ?_
  refine S_takeT [5,6,7] (fun _=>trivial) 5 (.pointer (some ⟨g1,0,none⟩)) U rfl U U U U (onlyN_panic _ _) hS0 U (fun w' hw=>by go_simp) ?_
  simp only[Act.put,jA,jE,jF,jB,jC,jD]
  refine S_tg 6 (.pointer (some ⟨g1,0,none⟩)) rfl hS0 ?_
  refine S_store 7 (fun _=>trivial) U U rfl U (setRow w2.drew g1 97 (hlA ⟨s,H.w⟩)) (exec_store _ _ rfl U U (stHl_s H K1.out.drew s)) (fun h=>absurd h (by decide)) ?_
  refine⟨by kernel_rfl,rfl,?_⟩
  clear hS0 hwf
  (try simp only[Act.put,jA,jE,jF,jB,jC,jD])
  (obtain⟨w3,hWN⟩:∃ W',(setRow w2.drew g1 97 (hlA ⟨s,H.w⟩))=W':=⟨_,rfl⟩;have hN:=(((KpL.refl [g1] w2).drew).row (g:=g1) (t := 97) (xs:=hlA ⟨s,H.w⟩) (.inl (by simp)) (Nat.le_of_lt K1.out.lt));rw[hWN]at hN ⊢;replace K1:=Z ((Blk.row (w:=w2.drew) (g:=g1) (t := 97) (cs:=hlA ⟨s,H.w⟩) K1.out.lt));rw[hWN]at K1;clear k1 f1 l1 m1 hWN k0 f0 l0 m0 k2 f2 l2 m2 k3 f3 l3 m3;replace K0:=bK K0 hN;replace K2:=bK K2 hN;replace K3:=bK K3 hN;replace RX:=Z (RX.out.kp hN);replace HK:=jK HK hN;clear hN;obtain⟨k0,f0,l0,m0⟩:=rl_ K0;obtain⟨k2,f2,l2,m2⟩:=rl_ K2;obtain⟨k3,f3,l3,m3⟩:=rl_ K3;obtain⟨k1,f1,l1,m1⟩:=rl_ K1)
  go_wp2_with fail
  have e1:=neqHd_run s.fin.b H.s.fin.b
  have e2:=fun x y=>neqHd_guard x y s.fin.b H.s.fin.b
  have hwf:∀ f,Fence.wide.fn f:=fun _=>trivial
  refine(wpIn_wide (n:=9)).1 ?_
  refine wpIn_round_held (fun w'=>Below w3.heap.size w3 w') (fun j=>true) U ?_
  have hS0:(fun w'=>Below w3.heap.size w3 w') w3.drew:=(Below.refl _ _).drew
  refine S_tg 0 (.pointer (some ⟨g0,0,none⟩)) rfl hS0 ?_
  refine S_tg 1 (.pointer (some ⟨g0,0,none⟩)) rfl hS0 ?_
  simp only[Act.put,jA,jE,jF,jB,jC,jD]
  refine S_tg 2 (.pointer (some ⟨g0,1,none⟩)) rfl hS0 ?_
  refine S_tk 3 (.pointer (some ⟨g1,0,none⟩)) rfl hS0 (fun w' hw=>by exact exec_load rfl U (run_load_cell (i:=1) (K0.out.below hw) rfl szHp nrHp)) ?_
  simp only[Act.put,jA,jE,jF,jB,jC,jD]
  refine S_tg 4 (.pointer (some ⟨g1,0,none⟩)) rfl hS0 ?_
  refine S_tg 5 (.pointer (some ⟨g1,0,none⟩)) rfl hS0 ?_
  simp only[Act.put,jA,jE,jF,jB,jC,jD]
  refine S_tg 6 (.pointer (some ⟨g1,0,none⟩)) rfl hS0 ?_
  refine S_tg 7 (.pointer (some ⟨g1,0,none⟩)) rfl hS0 ?_
  simp only[Act.put,jA,jE,jF,jB,jC,jD]
  refine S_tk 8 (hdV s.fin.b) rfl hS0 (fun w' hw=>by exact exec_load rfl U (ldHl_s_fin_b ⟨s,H.w⟩ (K1.out.below hw))) ?_
  refine S_tk 9 (hdV H.s.fin.b) rfl hS0 (fun w' hw=>by exact exec_load rfl U (ldHd H.s.fin.b (K3.out.below hw))) ?_
  simp only[Act.put,jA,jE,jF,jB,jC,jD]
  refine S_tg 10 (.bool (!eqHd s.fin.b H.s.fin.b)) rfl hS0 ?_
  refine⟨by kernel_rfl,rfl,?_⟩
  clear hS0 hwf e1 e2
  (try simp only[Act.put,jA,jE,jF,jB,jC,jD])
  (obtain⟨w4,hWN⟩:∃ W',w3.drew=W':=⟨_,rfl⟩;have hN:=((KpL.refl [] w3).drew);rw[hWN]at hN ⊢;clear hWN;clear k0 f0 l0 m0 k1 f1 l1 m1 k2 f2 l2 m2 k3 f3 l3 m3;replace K0:=bK K0 hN;replace K1:=bK K1 hN;replace K2:=bK K2 hN;replace K3:=bK K3 hN;replace RX:=Z (RX.out.kp hN);replace HK:=jK HK hN;clear hN;(obtain⟨k0,f0,l0,m0⟩:=rl_ K0;obtain⟨k1,f1,l1,m1⟩:=rl_ K1;obtain⟨k2,f2,l2,m2⟩:=rl_ K2;obtain⟨k3,f3,l3,m3⟩:=rl_ K3))
  cases hq:eqHd s.fin.b H.s.fin.b with
  | true =>
   go_wp2_with fail
   exact bodyPost_ret (v:=.int .i64 0) (by simp[results,Tryz.results43, go_sem]) rfl ⟨rfl,H.w,xs,K1.out,hl,Nat.le_succ _,hc,RX.out,HK.out⟩
  | false =>
   go_wp2_with fail
   have hwf:∀ f,Fence.wide.fn f:=fun _=>trivial
   refine(wpIn_wide (n:=9)).1 ?_
   refine wpIn_round_held (fun w'=>Below w4.heap.size w4 w') (fun j => !decide (j∈[7])) U ?_
   have hS0:(fun w'=>Below w4.heap.size w4 w') w4.drew:=(Below.refl _ _).drew
   refine S_takeT [0,1,2,3,7] (fun _=>trivial) 0 (.pointer (some ⟨g0,0,none⟩)) U rfl U U U U (onlyN_panic _ _) hS0 U (fun w' hw=>by go_simp) ?_
   refine S_takeT [1,2,3,7] (fun _=>trivial) 1 (.pointer (some ⟨g0,0,none⟩)) U rfl U U U U (onlyN_panic _ _) hS0 U (fun w' hw=>by go_simp) ?_
   simp only[Act.put,jA,jE,jF,jB,jC,jD]
   refine S_takeT [2,3,7] (fun _=>trivial) 2 (.pointer (some ⟨g0,1,none⟩)) U rfl U U U U (onlyN_panic _ _) hS0 U (fun w' hw=>by go_simp) ?_
   refine S_tk 3 (.pointer (some ⟨g1,0,none⟩)) rfl hS0 (fun w' hw=>by exact exec_load rfl U (run_load_cell (i:=1) (K0.out.below hw) rfl szHp nrHp)) ?_
   simp only[Act.put,jA,jE,jF,jB,jC,jD]
   refine S_takeT [4,5,6,7] (fun _=>trivial) 4 (.pointer (some ⟨g2,0,none⟩)) U rfl U U U U (onlyN_panic _ _) hS0 U (fun w' hw=>by go_simp) ?_
   refine S_takeT [5,6,7] (fun _=>trivial) 5 (.pointer (some ⟨g2,5,none⟩)) U rfl U U U U (onlyN_panic _ _) hS0 U (fun w' hw=>by go_simp) ?_
   simp only[Act.put,jA,jE,jF,jB,jC,jD]
   refine S_tk 6 (exV (s.fin.x)) rfl hS0 (fun w' hw=>exec_load rfl U (ldSr_fin_x (s) (K2.out.below hw))) ?_
   refine S_one 7 U rfl (fun K hK=>?_)
   go_simp
   gi_wp2_with(gi_at_call 49; refine(callsIn_wide.2 (keep_calls g1 ⟨s,H.w⟩ xs hxs s.fin.x _ (K1.out.below hS0) hl hc ((RX.out.below hS0).weak fun b h1 _=>hS1.out b h1))).mono ?_;rintro e w4h1 ⟨⟨v,rfl⟩,W9,ys,q1,q2,q3,q4,q5,q6,q7⟩)
   refine⟨(fun h=>absurd h (by decide)),?_⟩
   refine⟨by kernel_rfl,rfl,?_⟩
   (try simp only[Act.put,jA,jE,jF,jB,jC,jD])
   go_wp2_with fail
   exact bodyPost_ret (v:=.int .i64 0) (by simp[results,Tryz.results43, go_sem]) rfl ⟨rfl,W9,ys,q1,q2,q4,q5,q6.weak (fun b h1 _=>hS2.out b (by have h2:=h1.2;have h3:=HK.out.size;have h4:=hS0.size;omega) h1.1),(HK.out.drew).join q7 (by simp)⟩
 ·rw[if_neg h0]
  go_wp2_with fail
  exact bodyPost_ret (v:=.int .i64 e) (by simp[results,Tryz.results43, go_sem]) rfl ⟨rfl,H.w,xs,K1.out.alloc _,hl,Nat.le_succ _,hc,RX.out.below ((Below.refl _ _).alloc (Nat.le_refl _) _),HK.out.alloc _⟩
theorem rdtext_calls(N q p:Nat) (s:Bytes) (l:List It) (hl:l.length≤1000000) (w:World) (R:RdI N w q (.text s :: l)) (B:Bd w p) :
  Calls Tryz.prog 81 #[.pointer (some ⟨q,0,none⟩),.pointer (some ⟨p,0,none⟩)] w (fun e w'=>e=.returned (.string (bs s))∧RdI N w' q l∧KpL [q] w w'):=by
 have n1:=Z (item_calls N q (.text s) l hl w R)
 have hlt:=B.lt
 have hN:=R.hq
 have hql:=R.lt
 have HBd:=Z B
 clear R B
 go_enter Tryz.func81, Tryz.ntmps81
 go_wp2_with fail
 refine n1.out.mono ?_
 rintro e w1 ⟨v,rfl,hv,R1,hK⟩
 have hv:=hv.txt
 subst hv
 have B1:Bd w1 p:=by
  by_cases h:p=q
  ·rw[h];exact R1.bd
  ·exact HBd.out.kp hK (by simpa using h)
 have hs:=hK.size
 have K0:=Z (Blk.new0 w1 79 #[.bool false,.string (bs s),.slice none 0 0])
 have R2:=Z R1
 have HK:=Z hK
 obtain⟨x,hx⟩:=B1
 have B2:Bd (w1.alloc (.cells #[.bool false,.string (bs s),.slice none 0 0] 79)) p:=⟨x,hx.alloc _⟩
 have e2:=Z B2.set
 have K1:=Z (hx.alloc (.cells #[.bool false,.string (bs s),.slice none 0 0] 79))
 clear hK R1 n1 HBd hx B2
 (obtain⟨k0,f0,l0,m0⟩:=rl_ K0;obtain⟨k1,f1,l1,m1⟩:=rl_ K1)
 go_wp2_with fail
 rw[e2.out]
 exact bodyPost_ret (v:=.string (bs s)) (by simp[results,Tryz.results81, go_sem]) rfl ⟨rfl,R2.out.alloc _,HK.out.alloc _⟩
theorem rdnum_calls(N q p:Nat) (n:Nat) (hn:n<18446744073709551616) (l:List It) (hl:l.length≤1000000) (w:World) (R:RdI N w q (numI n :: l)) (B:Bd w p) :
  Calls Tryz.prog 80 #[.pointer (some ⟨q,0,none⟩),.pointer (some ⟨p,0,none⟩)] w (fun e w'=>e=.returned (.int .u64 (n:Int))∧RdI N w' q l∧KpL [q] w w'):=by
 have n1:=Z (rdtext_calls N q p (rlpN n) l hl w R B)
 have n2:=Z (fun W=>value_calls (rlpN n) (rlpN_len n) (rlpN_head n) W)
 have hlt:=B.lt
 have HBd:=Z B
 have hv:=rlpV_rlpN hn
 rw[hv]at n2
 generalize rlpN n=s at *
 clear R B hn hv
 go_enter Tryz.func80, Tryz.ntmps80
 go_wp2_with fail
 refine n1.out.mono ?_
 rintro e w1 ⟨rfl,R1,hK⟩
 have B1:Bd w1 p:=by
  by_cases h:p=q
  ·rw[h];exact R1.bd
  ·exact HBd.out.kp hK (by simpa using h)
 have e2:=Z B1.set
 have R2:=Z R1
 have HK:=Z hK
 obtain⟨x,hx⟩:=B1
 have K1:=Z hx
 clear hK R1 n1 HBd hx
 (obtain⟨k1,f1,l1,m1⟩:=rl_ K1)
 go_wp2_with fail
 refine(n2.out _).mono ?_
 rintro e w2 ⟨rfl,rfl⟩
 go_wp2_with fail
 rw[e2.out]
 exact bodyPost_ret (v:=.int .u64 (n:Int)) (by simp[results,Tryz.results80, go_sem]) rfl ⟨rfl,R2.out,HK.out⟩
def TxV(w:World) (q g B0 N:Nat) (rest:List It) (pre:List Bytes) (W:World):Prop :=
 ∃ v,Blk W (g+1) 31 #[v]∧LRow B0 W v pre∧RdI N W q rest∧KpL [q] w W∧B0≤W.heap.size
theorem TxV.grown{w A B:World}{q g B0 N:Nat}{rest:List It}{pre:List Bytes}{row:Option Nat} (h:TxV w q g B0 N rest pre A) (hw:w.heap.size=g) (hq:q<g) (hB:g+2≤B0) (k:A.grownBy B row)
  (hr:∀ j,row=some j→g+2≤j∧(B0≤j→∃ o:Obj,A.heap[j]?=some o∧o.isCells=false)):TxV w q g B0 N rest pre B:=by
 obtain⟨v,h1,h2,h3,h4,h5⟩:=h
 have hN:=h3.hq
 refine⟨v,h1.grown k (fun e=>by have:=(hr _ e.symm).1;omega),h2.keep k fun j hj e=>?_,h3.grow k fun b e=>?_,h4.grow k fun b e=>.inr (by have:=(hr b e).1;omega),Nat.le_trans h5 k.size⟩
 ·obtain⟨hb,cs,t,fz,hcs⟩:=LRow.cells h2 j hj
  obtain⟨o,ho,hc⟩:=(hr j e).2 hb
  rw[hcs]at ho
  injection ho with ho
  subst ho
  cases hc
 ·have:=(hr b e).1
  exact⟨by omega,by omega⟩
theorem rtexts_calls(N q:Nat) (ls:List Bytes) (hls:ls.length≤1000) (rest:List It) (hrest:rest.length≤1000000) (w:World) (R:RdI N w q (textsI ls :: rest)) :
  Calls Tryz.prog 79 #[.pointer (some ⟨q,0,none⟩)] w (fun e w'=>∃ r:Rw,e=.returned (.slice r.addr r.l.length r.cap)∧r.l=ls∧RwS (fun b=>w.heap.size≤b) w' r∧RdI N w' q rest∧KpL [q] w w'):=by
 refine(callsIn_wide (n:=9)).1 ?_
 have hwf:∀ f,Fence.wide.fn f:=fun _=>trivial
 refine callsIn_of_wp_marks Tryz.func79 rfl trivial ?_ rfl
 simp only[Tryz.ntmps79, List.size_toArray,List.length_cons,List.length_nil,Nat.reduceAdd,Nat.reduceSub,Array.replicate_succ,Array.replicate_zero,List.push_toArray,List.append_toArray,List.nil_append,List.cons_append]
 have hqw:=R.lt
 have hNq:=R.hq
 gi_wp2_with fail
 refine wpIn_scope ?_
 gi_wp2_with fail
 obtain⟨W1,hW1⟩:∃ W1,(w.alloc (.cells #[.pointer (some ⟨q,0,none⟩)] 136)).alloc (.cells #[.slice none 0 0] 31)=W1:=⟨_,rfl⟩
 have K0:Blk W1 w.heap.size 136 #[.pointer (some ⟨q,0,none⟩)]:=by rw[←hW1];exact(Blk.new0 _ _ _).alloc _
 have K1:Blk W1 (w.heap.size+1) 31 #[.slice none 0 0]:=by rw[←hW1];exact Blk.new1 _ _ _ _
 have hs1:W1.heap.size=w.heap.size+2:=by rw[←hW1];simp
 have R1:RdI N W1 q (textsI ls :: rest):=by rw[←hW1];exact(R.alloc _).alloc _
 have HK1:KpL [q] w W1:=by rw[←hW1];exact((KpL.refl [q] w).alloc _).alloc _
 rw[hW1]
 clear hW1 R
 obtain⟨g,hg⟩:∃ g,w.heap.size=g:=⟨_,rfl⟩
 have HG:=Z hg
 rw[hg]at K0 K1 hs1 hqw ⊢
 clear hg
 have RI:RdI N W1.drew q (textsI ls :: rest):=R1.kp (gs:=[]) ((KpL.refl _ _).drew) (by simp) (by simp)
 have P0:Blk W1.drew g 136 #[.pointer (some ⟨q,0,none⟩)]:=K0
 have P1:Blk W1.drew (g+1) 31 #[.slice none 0 0]:=K1
 have HP:KpL [q] w W1.drew:=HK1.drew
 have hsP:W1.drew.heap.size=g+2:=hs1
 refine wpIn_round_held (fun w'=>w'.cell? ⟨g,0,none⟩=some (.pointer (some ⟨q,0,none⟩))) (fun j=>true) U ?_
 have hS0:(fun w':World=>w'.cell? ⟨g,0,none⟩=some (.pointer (some ⟨q,0,none⟩))) W1.drew:=P0.cell 0
 refine S_tk 0 (.pointer (some ⟨q,0,none⟩)) rfl hS0 (fun w' h=>by go_simp) ?_
 refine S_tk 1 (.pointer (some ⟨q,0,none⟩)) rfl hS0 (fun w' h=>by go_simp) ?_
 have n1:=Z (item_calls N q (textsI ls) rest hrest _ RI)
 obtain⟨WD,hWD⟩:∃ WD,W1.drew=WD:=⟨_,rfl⟩
 rw[hWD]at P0 P1 HP hsP n1 hS0 ⊢
 clear K0 K1 R1 HK1 hs1 RI hWD
 refine S_one 2 U rfl (fun K hK=>?_)
 go_simp
 gi_wp2_with(gi_at_call 121; refine(callsIn_wide.2 n1.out).mono ?_;rintro e w1 ⟨v,rfl,hv,R1,hK1⟩)
 have hN2:=R1.hq
 obtain⟨f,t,A,n,cc⟩:=v
 obtain⟨rfl,rfl,rfl,hcc,hcm,hr⟩:=hv.row
 have Q0:=P0.kp hK1 (by simp;omega)
 have Q1:=P1.kp hK1 (by simp;omega)
 have HQ:KpL [q] w w1:=KpL.join HP hK1 (by simp)
 have hsQ:=hK1.size
 rw[hsP]at hsQ
 have hS1:(fun w':World=>w'.cell? ⟨g,0,none⟩=some (.pointer (some ⟨q,0,none⟩))) w1:=Q0.cell 0
 have hlen:(ls.map It.text).length≤1000000:=by rw[List.length_map];omega
 have n2:=Z (open_calls (.pointer (some ⟨q,0,none⟩)) (ls.map It.text) (-1) (.inl rfl) hlen A cc hcc hcm N w1 (by omega) hr)
 obtain⟨k,hk⟩:∃ k,(ls.map It.text).length=k:=⟨_,rfl⟩
 rw[hk]at n2 ⊢
 have R1':=Z R1
 clear n1 hv hK1 P0 P1 HP hsP hS0 hcc hcm hr R1 hk hlen
 refine⟨fun _=>hS1,?_⟩
 refine S_one 3 U rfl (fun K hK=>?_)
 go_simp
 gi_wp2_with(gi_at_call 120; refine(callsIn_wide.2 n2.out).mono ?_;rintro e w2 ⟨q2,rfl,hq2,R2,hB2⟩)
 have P0:=Q0.below hB2
 have P1:=Q1.below hB2
 have RR:=R1'.out.below hB2
 have HP:=HQ.on hB2
 have hs2:=hB2.size
 have hS0:(fun w':World=>w'.cell? ⟨g,0,none⟩=some (.pointer (some ⟨q,0,none⟩))) w2:=P0.cell 0
 have hq2l:=R2.lt
 replace P0:=Z P0
 replace P1:=Z P1
 replace RR:=Z RR
 replace R2:=Z R2
 replace HP:=Z HP
 clear Q0 Q1 HQ hS1 n2 R1' hB2
 refine⟨fun _=>hS0,?_⟩
 refine S_tk 4 (.pointer (some ⟨q2,0,none⟩)) rfl hS0 (fun w' h=>by go_simp) ?_
 refine⟨by kernel_rfl,rfl,?_⟩
 clear hS0
 have hg2:g+2≤q2:=by omega
 have hg2w:g+2≤w2.heap.size:=by omega
 clear hs2 hsQ hq2
 gi_wp2_with fail
 refine wpIn_label ?_
 gi_wp2_with(gi_at_call 122; refine(callsIn_wide.2 (each_calls _ _)).mono ?_;rintro e w' ⟨rfl,rfl⟩)
 obtain⟨b2,hb2⟩:∃ b,w2.heap.size=b:=⟨_,rfl⟩
 have HB2:=Z hb2
 obtain⟨W0,hW0⟩:∃ W0,w2.alloc (.cells #[.pointer (some ⟨q2,0,none⟩)] 136)=W0:=⟨_,rfl⟩
 have hs0:W0.heap.size=b2+1:=by rw[←hW0,←hb2];simp
 have KBx:Blk W0 b2 136 #[.pointer (some ⟨q2,0,none⟩)]:=by rw[←hW0];exact Blk.newAt hb2
 have KR:RdI N W0 q2 (ls.map It.text):=by rw[←hW0];exact R2.out.alloc _
 have hV0:TxV w q g (b2+1) N rest [] W0:=⟨.slice none 0 0,by rw[←hW0];exact P1.out.alloc _,World.ownsRow_nil _ _ _ _,by rw[←hW0];exact RR.out.alloc _,by rw[←hW0];exact HP.out.alloc _,by omega⟩
 rw[hW0,hb2]
 rw[hb2]at hq2l hg2w
 clear hW0 hb2 P0 P1 RR R2 HP
 have hf:=enters_of Tryz.func155 U rfl
 refine wpIn_rangeFunc_stc rfl (by decide) (gf := 155) (lb := #[.pointer (some ⟨b2,0,none⟩)]) rfl trivial hf
  (each_stops 8 (by decide) b2 q2 N (by omega) (by omega) ls hls W0 KBx KR) (fun _=>rfl) (fun _ _ _ _ h k=>h.trans k) (fun x W l o o' hl h1 h2 h3=>⟨by simp,fun k hk _=>World.putObj_heap_other (by unfold EaS at hk;omega)⟩)
  (fun x A y B k o hab hkk hA ho _=>(hab.block k (Array.getElem?_eq_some_iff.1 hA).1 (by simp;omega)).trans hA)
  (fun pre y x W l o o' h _ _ _=>h)
  (fun pre x W=>TxV w q g (b2+1) N rest pre W) (fun c _ x W=>False)
  (fun _ s A B row h hg hr=>TxV.grown h HG.out hqw (by omega) hg fun j e=>⟨by have:=(hr j e).1;omega,fun _=>(hr j e).2⟩) (fun _ _ s A B row h hg hr=>h)
  (fun s x A y B h hab=>TxV.grown h HG.out hqw (by omega) hab.grows fun j e=>by injection e with e;exact⟨by omega,fun h=>by omega⟩) (fun _ s x A y B h hab=>h) hV0
  (fun y c=>{ tmps := #[.pointer (some ⟨q,0,none⟩),.pointer (some ⟨g,0,none⟩),.slice none 0 0,.pointer (some ⟨g+1,0,none⟩),.pointer (some ⟨q2,0,none⟩),.pointer (some ⟨c,0,none⟩),.pointer (some ⟨q,0,none⟩),.pointer (some ⟨q,0,none⟩),
   itV true [] A k cc,.pointer (some ⟨q2,0,none⟩),.pointer (some ⟨q2,0,none⟩),.func (.func 155) #[] #[.pointer (some ⟨b2,0,none⟩)],itV false y none 0 0,undef,undef,undef,undef,undef,undef,undef,undef,undef,undef,undef],defers:=[] })
  (fun y=>.cells #[.bool false,.string (bs y),.slice none 0 0] 79)
  (fun x W o=>⟨by simp,fun k _ hk=>Below.heap_alloc W _ _ hk⟩) (fun pre y x W o h=>h)
  ?assign ?body ?done ?stop
 case assign =>
  intro l y W K hK
  gi_wp2
  exact hK
 case stop =>
  rintro D c pre x W hD _ h hK
  exact h.elim
 case done =>
  rintro D xs x W hD rfl ⟨v,h1,h2,h3,h4,h5⟩ hK
  obtain⟨A',c',rfl,hc',hm',hcs⟩:=h2.css
  have hG:=grownBy_putObj' W D (.deferred none)
  have hcells:=LRow.cells h2
  have R1:=h3.grow hG fun b e=>by injection e with e;exact⟨by omega,by omega⟩
  have HF:=h4.grow hG fun b e=>by injection e with e;exact .inr (by have:=HG.out;omega)
  have RWx:RwS (fun b=>w.heap.size≤b) (W.putObj D (.deferred none)) ⟨A',c',xs⟩:=⟨hcs.keep2 hG.size fun b hb hlt ⟨cs,t,fz,hc⟩=>⟨by have:=HG.out;omega,hG.block b hlt fun e=>by
   injection e with e
   subst e
   rw[hK]at hc
   cases hc⟩,hc'⟩
  have K1:=Z h1
  have hKD:=Z hK
  replace R1:=Z R1
  replace HF:=Z HF
  replace RWx:=Z RWx
  clear h1 h2 h3 h4 hK hcs hc' hm' hG hcells hV0 KBx KR hs0
  (obtain⟨k1,f1,l1,m1⟩:=rl_ K1)
  gi_wp2_with fail
  rw[Exit.noGoto_ret]
  exact⟨by simp,.inl ⟨_,_,rfl,run_takeDeferred hKD.out,⟨_,(by simp[results,Tryz.results79, go_sem]),⟨A',c',xs⟩,rfl,rfl,RWx.out,R1.out,HF.out⟩⟩⟩
 case body =>
  rintro lx pre y x W c ⟨v,h1,h2,h3,h4,h5⟩ hat hcl hbox _
  have hpl:pre.length<ls.length:=(List.getElem?_eq_some_iff.1 hat).1
  obtain⟨A',c',rfl,hc',hm',_⟩:=h2.css
  have hlr:∀ j,(Value.slice A' pre.length c').ownBlock=some j→b2+1≤j∧j<W.heap.size:=fun j hj=>h2.lt j hj
  have K1:=Z h1
  have K2:=Z (show Blk W c 79 #[.bool false,.string (bs y),.slice none 0 0] from hbox)
  have R2:=Z h2
  have R3:=Z h3
  have HP:=Z h4
  obtain⟨m,hm⟩:∃ m,pre.length=m:=⟨_,rfl⟩
  have HM:=Z hm
  rw[hm]at K1 R2 hlr hpl
  have hcc2:m≤1000000000:=by omega
  clear h1 h2 h3 h4 hat hbox hV0 KBx KR hs0 hm
  (obtain⟨k1,f1,l1,m1⟩:=rl_ K1;obtain⟨k2,f2,l2,m2⟩:=rl_ K2)
  gi_wp2_with(gi_at_builtin;refine wpListIn_append_txt rfl _ _ rfl (b2+1) (.slice A' m c') pre rfl (R2.out.on _) y ⟨W.heap.size,0,none⟩ rfl (new_cell _ _ _) (by rw[HM.out];exact hcc2) (by simp;omega) ?_)
  intro v4 w4 OWN4 hg4 hx4
  obtain⟨A4,c4,hv4,_⟩:=OWN4.txts
  have hv5:v4=.slice A4 (m+1) c4:=by rw[hv4];simp[HM.out]
  clear hv4
  subst hv5
  have hgW:W.grownBy w4 (Value.slice A' m c').ownBlock:=⟨hg4.os,hg4.tape,hg4.output,Nat.le_trans (by simp) hg4.size,fun j hj hr=>(hg4.block j (by simp;omega) hr).trans (Below.heap_alloc _ _ j hj)⟩
  have hno:∀ j,j<b2+1→some j≠(Value.slice A' m c').ownBlock:=fun j hj e=>by have:=(hlr j e.symm).1;omega
  have N1:=Z (K1.out.grown hgW (hno _ (by omega)))
  have N3:=R3.out.grow hgW fun b e=>by have:=(hlr b e).1;exact⟨by omega,by omega⟩
  have NP:=HP.out.grow hgW fun b e=>.inr (by have:=(hlr b e).1;have:=HG.out;omega)
  have hz4:b2+1≤w4.heap.size:=Nat.le_trans h5 hgW.size
  have hlt4:∀ j,(Value.slice A4 (m+1) c4).ownBlock=some j→b2+1≤j:=fun j hj=>(OWN4.lt j hj).1
  have hKO:KeepsOthers W w4:=KeepsOthers.of_grownBy hgW fun j o e ho=>by
   obtain⟨_,cs,t,fz,hcs⟩:=LRow.cells R2.out j e
   rw[hcs]at ho
   injection ho with ho
   subst ho
   rfl
  have hKp:KpR (EaS N q2 b2) W w4:=⟨hgW.size,fun j hj hl=>hgW.block j hl (hno j (by unfold EaS at hj;omega))⟩
  replace N3:=Z N3
  replace NP:=Z NP
  replace OWN4:=Z OWN4
  replace hKO:=Z hKO
  replace hKp:=Z hKp
  clear hg4 hgW hx4 hlr hno k1 f1 l1 m1 K1 k2 f2 l2 m2 K2 R2 R3 HP
  have K1:=N1
  clear N1
  (obtain⟨k1,f1,l1,m1⟩:=rl_ K1)
  gi_wp2_with fail
  refine⟨hKO.out.trans (KeepsOthers.setCell _ _ _),⟨Nat.le_trans hKp.out.1 (by simp),fun j hj hl=>(Below.heap_setCell _ _ _ _ (by unfold EaS at hj;simp;omega)).trans (hKp.out.2 j hj hl)⟩,.slice A4 (m+1) c4,Blk.to (Blk.set_ K1.out 0 _) rfl,?_,N3.out.cell (by omega) (by omega),NP.out.set (.inr (by have:=HG.out;omega)),by simpa using hz4⟩
  exact OWN4.out.keep (grown_set (World.grownBy.refl _ _)) fun j hj e=>by have:=hlt4 j hj;injection e with e;omega
theorem build_cm(r:Rw) (w:World):(Instr.build 35 #[(0,.slice r.addr r.l.length r.cap)]).run Tryz.prog w=.ok (cmV ⟨r,[]⟩) w :=
 run_build w _ _ (cmA ⟨r,[]⟩) U
theorem rcomm_calls(N q:Nat) (c:Cm) (hc:c.ks.l.length≤1000) (l:List It) (hl:l.length≤1000000) (w:World) (R:RdI N w q (cmI c :: l)) :
  Calls Tryz.prog 78 #[.pointer (some ⟨q,0,none⟩)] w (fun e w'=>∃ c':Cm,e=.returned (cmV c')∧c'.bare=c.bare∧RwS (fun b=>w.heap.size≤b) w' c'.ks∧RdI N w' q l∧KpL [q] w w'):=by
 have hNq:=R.hq
 have hqw:=R.lt
 have HK:=Z (KpL.refl [q] w)
 have Rq:=Z R
 clear R
 go_enter Tryz.func78, Tryz.ntmps78
 go_wp2_with fail
 (obtain⟨g0,hgj⟩:∃ g,(World.heap w).size=g:=⟨_,rfl⟩;obtain⟨w1,hWN⟩:∃ W',World.alloc w (.cells (cmA Cm.zero) 35)=W':=⟨_,rfl⟩;have hN:KpL [] w w1:=(by rw[←hWN];exact(KpL.refl _ _).alloc _);replace K0:=Z (show Blk w1 g0 35 (cmA Cm.zero) by rw[←hWN];exact Blk.newAt hgj);have hq_0:q<g0:=(by rw[←hgj];exact Rq.out.lt);have hw_0:w.heap.size≤g0:=(by rw[←hgj];exact HK.out.size);rw[hWN];(try rw[hgj]);clear hWN hgj;replace Rq:=rK Rq hN;replace HK:=jK HK hN;clear hN;obtain⟨k0,f0,l0,m0⟩:=rl_ K0)
 (refine(item_calls N q _ l hl _ Rq.out).mono ?_;rintro e w2 ⟨v,rfl,hv,RN,hN⟩;clear k0 f0 l0 m0;replace K0:=bK K0 hN;replace HK:=jK HK hN;clear hN;(try clear Rq);have NZ:=Z RN;clear RN;have Rq:=NZ;clear NZ;(obtain⟨k0,f0,l0,m0⟩:=rl_ K0))
 obtain⟨f,t,A,n,cc⟩:=v
 obtain⟨rfl,rfl,rfl,hcc,hcm,hr⟩:=hv.row
 clear hv
 go_wp2_with fail
 (refine(open_calls _ _ 2 (.inr rfl) (by simp) A cc hcc hcm N _ Rq.out.sz hr).mono ?_;rintro e w3 ⟨i,rfl,hi9,RN9,hB9⟩;have hN:=KpL.of (bs:=[]) hB9;clear hB9;have h0_i:=Nat.lt_of_lt_of_le K0.out.lt hi9;have hq_i:=Nat.lt_of_lt_of_le Rq.out.lt hi9;have hw_i:=Nat.le_trans HK.out.size hi9;clear hi9;clear k0 f0 l0 m0;replace K0:=bK K0 hN;replace Rq:=rK Rq hN;replace HK:=jK HK hN;clear hN;(try clear Ri);have NZ:=Z RN9;clear RN9;have Ri:=NZ;clear NZ;(obtain⟨k0,f0,l0,m0⟩:=rl_ K0))
 clear hr hcc hcm
 go_wp2_with fail
 have hz3:=HK.out.size
 have hzi:=Ri.out.lt
 have hz0:=K0.out.lt
 (refine(rtexts_calls N i c.ks.l hc _ (by simp) _ Ri.out).mono ?_;rintro e w4 ⟨r,rfl,hr,RWx,RN,hN⟩;clear k0 f0 l0 m0;replace K0:=bK K0 hN;replace Rq:=rK Rq hN;replace HK:=jK HK hN;clear hN;(try clear Ri);have NZ:=Z RN;clear RN;have Ri:=NZ;clear NZ;(obtain⟨k0,f0,l0,m0⟩:=rl_ K0))
 obtain⟨A1,c1,l1⟩:=r
 simp only at hr
 subst hr
 replace RWx:=Z (RWx.weak (S':=fun b=>w3.heap.size≤b∧b<w4.heap.size) fun b hb hl=>⟨hb,hl⟩)
 (go_wp2_with(first|(with_reducible refine wpList_build_run (build_cm ⟨A1,c1,c.ks.l⟩ _) rfl _ rfl rfl ?_)|(with_reducible refine wsh (stCm (Cm.zero) (Blk.new0 w4 35 (cmA (Cm.zero))) (⟨⟨A1,c1,c.ks.l⟩,[]⟩)) rfl rfl ?_));generalize hWN:setRow _ _ _ _=w5;obtain⟨g1,hgj⟩:∃ g,(World.heap w4).size=g:=⟨_,rfl⟩;have hN:KpL [] w4 w5:=(by rw[←hWN];exact((KpL.refl _ _).alloc _).row (.inr (Nat.le_refl _)) (by simp));replace K1:=Z (show Blk w5 g1 _ (cmA (⟨⟨A1,c1,c.ks.l⟩,[]⟩)) by rw[←hWN,←hgj];exact Blk.row (by simp));have h0_1:g0<g1:=(by rw[←hgj];exact K0.out.lt);have hq_1:q<g1:=(by rw[←hgj];exact Rq.out.lt);have hi_1:i<g1:=(by rw[←hgj];exact Ri.out.lt);have hw_1:w.heap.size≤g1:=(by rw[←hgj];exact HK.out.size);have hz_1:(World.heap w4).size≤g1:=(by rw[←hgj];exact Nat.le_refl _);(try rw[hgj]);clear hWN hgj k0 f0 l0 m0;replace K0:=bK K0 hN;replace Rq:=rK Rq hN;replace Ri:=rK Ri hN;replace RWx:=Z (RWx.out.kp hN);replace HK:=jK HK hN;clear hN;obtain⟨k0,f0,l0,m0⟩:=rl_ K0;obtain⟨k1,f1,l1,m1⟩:=rl_ K1;unfold Halted)
 go_wp2_with fail
 (refine(rdtext_calls N i q c.sum _ (by simp) _ Ri.out Rq.out.bd).mono ?_;rintro e w6 ⟨rfl,RN,hN⟩;clear k0 f0 l0 m0 k1 f1 l1 m1;replace K0:=bK K0 hN;replace K1:=bK K1 hN;replace Rq:=rK Rq hN;replace RWx:=Z (RWx.out.kp hN);replace HK:=jK HK hN;clear hN;(try clear Ri);have NZ:=Z RN;clear RN;have Ri:=NZ;clear NZ;(obtain⟨k0,f0,l0,m0⟩:=rl_ K0;obtain⟨k1,f1,l1,m1⟩:=rl_ K1))
 (obtain⟨w7,hWN⟩:∃ W',World.setCell w6 ⟨g1,1,none⟩ (.string (bs c.sum))=W':=⟨_,rfl⟩;have hN:KpL [g1] w6 w7:=(by rw[←hWN];exact(KpL.refl _ _).set (.inl (by simp)));have kp1:=Blk.cell K1.out;have fp1:=Blk.free K1.out;have lp1:=Blk.lt K1.out;replace K1:=Z (show Blk w7 _ _ (cmA ⟨⟨A1,c1,c.ks.l⟩,c.sum⟩) by rw[←hWN];exact Blk.to (Blk.set_ K1.out 1 _) rfl);have hWN_w7:=hWN;clear hWN k1 f1 l1 m1 k0 f0 l0 m0;replace K0:=bK K0 hN;replace Rq:=rK Rq hN;replace Ri:=rK Ri hN;replace RWx:=Z (RWx.out.kp hN);replace HK:=jK HK hN;clear hN;obtain⟨k0,f0,l0,m0⟩:=rl_ K0;obtain⟨k1,f1,l1,m1⟩:=rl_ K1)
 have e2:=Rq.out.bd.set
 obtain⟨xq,hxq⟩:=Rq.out.bd
 obtain⟨xi,hxi⟩:=Ri.out.bd
 have K5:=Z hxq
 have K6:=Z hxi
 clear hxq hxi
 (obtain⟨k5,f5,l5,m5⟩:=rl_ K5;obtain⟨k6,f6,l6,m6⟩:=rl_ K6)
 (go_wp2_with(first|(with_reducible refine wlr (ldCm _ K1.out) rfl ?_)|(with_reducible refine wlg (ldCm _ K1.out) (by with_unfolding_all rfl) rfl ?_)|(with_reducible refine wsh (stCm _ K0.out (⟨⟨A1,c1,c.ks.l⟩,c.sum⟩)) rfl rfl ?_));generalize hWN:setRow _ _ _ _=w8;have hN:KpL [g0] w7 w8:=(by rw[←hWN];exact(KpL.refl _ _).row (.inl (by simp)) (Nat.le_of_lt l0));replace K0:=Z (show Blk w8 _ _ (cmA ⟨⟨A1,c1,c.ks.l⟩,c.sum⟩) by rw[←hWN];exact Blk.row K0.out.lt);clear hWN k0 f0 l0 m0 k1 f1 l1 m1;replace K1:=bK K1 hN;replace Rq:=rK Rq hN;replace RWx:=Z (RWx.out.kp hN);replace HK:=jK HK hN;clear hN;obtain⟨k1,f1,l1,m1⟩:=rl_ K1;obtain⟨k0,f0,l0,m0⟩:=rl_ K0;unfold Halted)
 go_wp2_with fail
 exact bodyPost_ret (results_cell rfl rfl (ldCm _ K0.out)) rfl ⟨⟨⟨A1,c1,c.ks.l⟩,c.sum⟩,rfl,rfl,RWx.out.weak fun b hb _=>Nat.le_trans hz3 hb.1,Rq.out,HK.out⟩
end
end Go.Proofs.YtobgigcdpiikaaaGreatDoor
