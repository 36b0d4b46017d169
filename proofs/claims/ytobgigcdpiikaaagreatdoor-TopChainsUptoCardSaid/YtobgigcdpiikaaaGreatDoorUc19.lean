/- Plain laws and walks, each by its own conditions. -/
import Derived.Test.YtobgigcdpiikaaaGreatDoorUc17
set_option linter.unusedSimpArgs false
set_option linter.unusedVariables false
set_option maxRecDepth 100000
set_option maxHeartbeats 16000000
namespace Go.Proofs.YtobgigcdpiikaaaGreatDoor
section
open BigFrame Go.RowKit Go.Phx Go.Shelf
structure RdI (N:Nat) (W:World) (q:Nat) (l:List It):Prop where
 hq:N≤q
 row:∃ A c,Blk W q 144 #[.slice A l.length c,.bool false]∧l.length≤c∧c≤maxLen∧RepLS (fun b=>b<N) W l A
def Bd(W:World) (p:Nat):Prop:=∃ x,Blk W p 144 #[x,.bool false]
section
variable {gs cs:List Nat}{w W W':World}{g i N q p:Nat}{u:Value}{t:TypeId}{xs:Array Value}{l:List It}
theorem RdI.kp(h:RdI N W q l) (k:KpL gs W W') (hq:q∉gs:=by first|(simp;done)|(simp;omega)|omega|(simp;assumption)) (hN:∀ b∈gs,N≤b:=by first|(simp;done)|(simp;omega)|omega|(simp;assumption)):RdI N W' q l:=by
 obtain⟨h0,A,c,h1,h2,h3,h4⟩:=h
 exact⟨h0,A,c,h1.kp k hq,h2,h3,h4.kp k hN⟩
theorem RdI.below(h:RdI N W q l) (k:Below W.heap.size W W'):RdI N W' q l:=h.kp (gs:=[]) (.of k) (by simp) (by simp)
theorem RdI.lt(h:RdI N W q l):q<W.heap.size:=by
 obtain⟨h0,A,c,h1,_⟩:=h
 exact h1.lt
theorem RdI.sz(h:RdI N W q l):N≤W.heap.size:=Nat.le_of_lt (Nat.lt_of_le_of_lt h.hq h.lt)
theorem RdI.bd(h:RdI N W q l):Bd W q:=by
 obtain⟨h0,A,c,h1,_⟩:=h
 exact⟨_,h1⟩
theorem Bd.kp(h:Bd W p) (k:KpL gs W W') (hp:p∉gs):Bd W' p:=by
 obtain⟨x,h⟩:=h
 exact⟨x,h.kp k hp⟩
theorem Bd.lt(h:Bd W p):p<W.heap.size:=by
 obtain⟨x,h⟩:=h
 exact h.lt
theorem Bd.set(h:Bd W p):W.setCell ⟨p,1,none⟩ (.bool false)=W:=by
 obtain⟨x,h⟩:=h
 rw[set_row h]
 exact row_of _ _ _ _ h
theorem KpL.join(h:KpL gs w W) (k:KpL cs W W') (hs:∀ b∈cs,b∈gs∨w.heap.size≤b):KpL gs w W' :=
 ⟨k.os.trans h.os,k.tape.trans h.tape,k.output.trans h.output,Nat.le_trans h.size k.size,fun j hj hn=>(k.block j (Nat.lt_of_lt_of_le hj h.size) fun hm=>by rcases hs j hm with e|e;exact hn e;omega).trans (h.block j hj hn)⟩
theorem RdI.cell(h:RdI N W q l) (hg:g≠q) (hN:N≤g):RdI N (W.setCell ⟨g,i,none⟩ u) q l:=h.kp (gs:=[g]) ((KpL.refl _ _).set (.inl (by simp))) (by simpa using Ne.symm hg) (by simpa using hN)
theorem RdI.alloc(h:RdI N W q l) (o:Obj):RdI N (W.alloc o) q l:=h.kp (gs:=[]) ((KpL.refl _ _).alloc o) (by simp) (by simp)
theorem RdI.new{A:Option Addr}{c:Nat} (hN:N≤W.heap.size) (h1:l.length≤c) (h2:c≤maxLen) (h:RepLS (fun b=>b<N) W l A):RdI N (W.alloc (.cells #[.slice A l.length c,.bool false] 144)) W.heap.size l:=⟨hN,A,c,Blk.new0 _ _ _,h1,h2,h.below ((Below.refl _ _).alloc (Nat.le_refl _) _)⟩
theorem CsS.kp{S:Nat→Prop}{A:Option Addr}{vs:List Value} (h:CsS S w A vs) (k:KpL gs w W) (hS:∀ b∈gs,¬ S b:=by first|(simp;done)|(simp;omega)|omega|(simp;assumption)):CsS S W A vs:=h.keep k.size fun b hb hl=>⟨hb,k.block b hl fun hm=>hS b hm hb⟩
theorem CsS.weak{S S':Nat→Prop}{A:Option Addr}{vs:List Value} (h:CsS S w A vs) (hS:∀ b,S b→b<w.heap.size→S' b):CsS S' w A vs:=h.keep (Nat.le_refl _) fun b hb hl=>⟨hS b hb hl,rfl⟩
theorem CsS.txts{S:Nat→Prop}{A:Option Addr}{L:List Bytes} (h:CsS S w A (L.map tv)):Txts w A L:=fun h0=>by
 obtain⟨b,o,ha,_,hb,hc⟩:=h (by simpa using h0)
 refine⟨b,o,ha,hb,fun i x hx=>hc i _ ?_⟩
 rw[List.getElem?_map]at hx ⊢
 cases hi:L[i]? with
 | none=>rw[hi]at hx;cases hx
 | some y=>rw[hi]at hx;simp only[Option.map_some,Option.some.injEq]at hx ⊢;rw[←hx];rfl
theorem LRow.css{base:Nat}{v:Value}{L:List Bytes} (h:LRow base w v L):∃ A c,v=.slice A L.length c∧L.length≤c∧c≤maxLen∧CsS (fun b=>base≤b∧v.ownBlock=some b) w A (L.map tv):=by
 rcases h.2 with ⟨rfl,h0⟩|⟨g,cap,cur,rfl,hb,hg,hn,hm,hs,ht⟩
 ·rw[h0]
  obtain rfl:=List.eq_nil_of_length_eq_zero h0
  exact⟨none,0,rfl,Nat.le_refl _,Nat.zero_le _,CsS.nil _ _ _⟩
 ·refine⟨some ⟨g,0,none⟩,cap,rfl,hn,hm,fun _=>⟨g,0,rfl,⟨hb,rfl⟩,(Array.getElem?_eq_some_iff.1 hg).1,fun i u hu=>?_⟩⟩
  rw[Nat.zero_add,cell_of_row w g i cur _ (0,0) hg]
  rw[←ht,List.getElem?_take]at hu
  split at hu
  ·simpa using hu
  ·cases hu
theorem RepLS.addr{S:Nat→Prop}{x:It}{A:Option Addr} (h:RepLS S W (x :: l) A):∃ b o,A=some ⟨b,o,none⟩∧b<W.heap.size∧S b:=by
 obtain⟨vs,h1,h2,h3⟩:=h
 obtain⟨b,o,e,hs,hb,_⟩:=h2 (by rw[IvL_len,h1];simp)
 exact⟨b,o,e,hb,hs⟩
theorem RepLS.tail{S:Nat→Prop}{x:It}{b o:Nat} (h:RepLS S W (x :: l) (some ⟨b,o,none⟩)) :
  RepLS S W l (some ⟨b,o+3,none⟩)∧∃ v:Iv,W.cell? ⟨b,o,none⟩=some (.bool v.f)∧W.cell? ⟨b,o+1,none⟩=some (.string (bs v.t))∧W.cell? ⟨b,o+2,none⟩=some (.slice v.A v.n v.c)∧RepS S W x v:=by
 obtain⟨vs,h1,h2,h3⟩:=h
 cases vs with
 | nil=>simp at h1
 | cons v vs =>
  obtain⟨b',o',e,hs,hb,hc⟩:=h2 (by rw[IvL_len];simp)
  obtain⟨rfl,rfl⟩:b'=b∧o'=o:=by
   injection e with e
   injection e with e1 e2
   exact⟨e1.symm,e2.symm⟩
  rw[IvL_cons]at hc
  refine⟨⟨vs,by simpa using h1,fun _=>⟨b',o'+3,rfl,hs,hb,fun i u hu=>?_⟩,fun i y u hy hu=>h3 (i+1) y u (by simpa using hy) (by simpa using hu)⟩,v,hc 0 _ rfl,hc 1 _ rfl,hc 2 _ rfl,h3 0 x v rfl rfl⟩
  rw[show o'+3+i=o'+(i+3) by omega]
  exact hc (i+3) u (by simpa using hu)
def RwS(S:Nat→Prop) (W:World) (r:Rw):Prop:=CsS S W r.addr (r.l.map tv)∧r.l.length≤r.cap
theorem RwS.kp{S:Nat→Prop}{r:Rw} (h:RwS S w r) (k:KpL gs w W) (hS:∀ b∈gs,¬ S b:=by first|(simp;done)|(simp;omega)|omega|(simp;assumption)):RwS S W r:=⟨h.1.kp k hS,h.2⟩
theorem RwS.weak{S S':Nat→Prop}{r:Rw} (h:RwS S w r) (hS:∀ b,S b→b<w.heap.size→S' b):RwS S' w r:=⟨h.1.weak hS,h.2⟩
theorem RwS.rw{S:Nat→Prop}{r:Rw} (h:RwS S w r) (h1:r.l.length≤1048576) (h2:∀ x∈r.l,x.length≤1048576):RwIn w r:=⟨h.1.txts,h.2,h1,h2⟩
theorem bK(h:RowKit.Hid (Blk w g t xs)) (k:KpL gs w W) (hg:g∉gs:=by first|(simp;done)|(simp;omega)|omega|(simp;assumption)):RowKit.Hid (Blk W g t xs):=Z (h.out.kp k hg)
theorem rK(h:RowKit.Hid (RdI N w q l)) (k:KpL gs w W) (hq:q∉gs:=by first|(simp;done)|(simp;omega)|omega|(simp;assumption)) (hN:∀ b∈gs,N≤b:=by first|(simp;done)|(simp;omega)|omega|(simp;assumption)):RowKit.Hid (RdI N W q l):=Z (h.out.kp k hq hN)
theorem jK(h:RowKit.Hid (KpL gs w W)) (k:KpL cs W W') (hs:∀ b∈cs,b∈gs∨w.heap.size≤b:=by first|(simp;done)|(simp;omega)|omega|(simp;assumption)):RowKit.Hid (KpL gs w W'):=Z (h.out.join k hs)
end
end
section
open Go.RowKit Go.Shelf BigFrame Go.Phx
section
variable {P:Program}{ops:Array Oper}{md:Region.Mode}{S:World→Prop}{nd:Nat→Bool}{F:Fence}{m:Nat}{Q:Exit→Act→World→Prop}
theorem S_skip(hF:∀ f,F.fn f) (i:Nat) {oi:Oper}{fuel:Nat}{listed:Array Bool}{a:Act}{w:World} (hd:noDefer ops=true) (hi:ops[i]?=some oi)
  (hs:Region.noSelect ops=true) (hf:Region.free md ops listed i=true) (hr:(Region.ready md ops listed).contains i=true) (hn:ndB md ops nd listed i=true)
  (hQ:∀ c a w,Q (.panic c) (a.put oi.dst undef) w→Q (.panic c) a w) (hS:S w) (hw:Region.wanted oi (yielded ops a.tmps)=false)
  (h:anyS F m P md ops Q S nd fuel (listed.setIfInBounds i true) (a.put oi.dst undef) w):anyS F m P md ops Q S nd (fuel+1) listed a w :=
 S_first hF hd hi (Region.noSelect_spec hs) hQ (by simp only[ndB,Bool.and_eq_true]at hn;exact hn.1) fuel listed a w (fun j oj h1 h2 h3 h4=>⟨Region.free_spec hi hf j oj h1 h2 h3 h4,ndB_spec hn j oj h1 h2 h3 h4⟩) (by simpa using hr) (.inr ⟨hw,rfl⟩) hS h
theorem S_sk(i:Nat) {oi:Oper}{fuel:Nat}{listed:Array Bool}{a:Act}{w:World} (hi:ops[i]?=some oi) (hS:S w)
  (h:anyS F m P md ops Q S nd fuel (listed.setIfInBounds i true) (a.put oi.dst undef) w) (hF:∀ f,F.fn f:=by exact fun _=>trivial) (hd:noDefer ops=true:=by kernel_rfl) (hs:Region.noSelect ops=true:=by kernel_rfl) (hf:Region.free md ops listed i=true:=by kernel_rfl)
  (hr:(Region.ready md ops listed).contains i=true:=by kernel_rfl) (hn:ndB md ops nd listed i=true:=by kernel_rfl) (hQ:∀ c a w,Q (.panic c) (a.put oi.dst undef) w→Q (.panic c) a w:=by exact onlyN_panic _ _) (hw:Region.wanted oi (yielded ops a.tmps)=false:=by kernel_rfl) :
  anyS F m P md ops Q S nd (fuel+1) listed a w:=S_skip hF i hd hi hs hf hr hn hQ hS hw h
theorem S_go(i:Nat) {oi:Oper}{fuel:Nat}{listed:Array Bool}{a:Act}{w:World} (hF:∀ f,F.fn f) (hd:noDefer ops=true) (hr:Region.ready md ops listed=[i]) (hi:ops[i]?=some oi)
  (wi:Region.wanted oi (yielded ops a.tmps)=true) (v:Value) (w':World) (h1:(execOp a.eval oi).run P w=.ok (.value v) w') (h2:nd i=true→S w')
  (h3:anyS F m P md ops Q S nd fuel (listed.setIfInBounds i true) (a.put oi.dst v) w'):anyS F m P md ops Q S nd (fuel+1) listed a w:=by
 refine⟨fun h0=>(by rw[hr]at h0;cases h0),fun k hk=>?_⟩
 rw[hr]at hk
 obtain rfl:=List.mem_singleton.1 hk
 unfold wpOpIn
 simp only[hi,wi,if_true,Oper.wpIn,Oper.semAt_plain _ _ _ (noDefer_spec hd hi),h1,Oper.uponIn]
 exact⟨fun f _=>hF f,h2,h3⟩
theorem S_store(i:Nat) {oi:Oper}{fuel:Nat}{listed:Array Bool}{a:Act}{w:World} (hF:∀ f,F.fn f) (hd:noDefer ops=true) (hr:Region.ready md ops listed=[i]) (hi:ops[i]?=some oi)
  (wi:Region.wanted oi (yielded ops a.tmps)=true) (w':World) (h1:(execOp a.eval oi).run P w=.ok .skip w') (h2:nd i=true→S w')
  (h3:anyS F m P md ops Q S nd fuel (listed.setIfInBounds i true) (a.put oi.dst undef) w'):anyS F m P md ops Q S nd (fuel+1) listed a w:=by
 refine⟨fun h0=>(by rw[hr]at h0;cases h0),fun k hk=>?_⟩
 rw[hr]at hk
 obtain rfl:=List.mem_singleton.1 hk
 unfold wpOpIn
 simp only[hi,wi,if_true,Oper.wpIn,Oper.semAt_plain _ _ _ (noDefer_spec hd hi),h1,Oper.uponIn]
 exact⟨fun f _=>hF f,h2,h3⟩
def EachP(p:Nat→Prop):List Nat→Prop
 | []=>True
 | i :: r=>p i∧EachP p r
theorem EachP.mem{p:Nat→Prop}:∀ {l:List Nat},EachP p l→∀ i∈l,p i
 | [],_,i,h=>by cases h
 | x :: r,h,i,hi=>by
  rcases List.mem_cons.1 hi with rfl|hi
  ·exact h.1
  ·exact EachP.mem h.2 i hi
theorem S_list(l:List Nat) {fuel:Nat}{listed:Array Bool}{a:Act}{w:World} (hr:Region.ready md ops listed=l) (hl:l≠[])
  (h:EachP (fun i=>wpOpIn F m P ops Q i (fun a' w'=>(nd i=true→S w')∧anyS F m P md ops Q S nd fuel (listed.setIfInBounds i true) a' w') a w) l):anyS F m P md ops Q S nd (fuel+1) listed a w :=
 ⟨fun h0=>absurd (hr.symm.trans h0) hl,fun k hk=>h.mem k (by rw[←hr];exact hk)⟩
theorem op_go{i:Nat}{oi:Oper}{fuel:Nat}{listed:Array Bool}{a:Act}{w:World} (hF:∀ f,F.fn f) (hd:noDefer ops=true) (hi:ops[i]?=some oi)
  (wi:Region.wanted oi (yielded ops a.tmps)=true) (v:Value) (w':World) (h1:(execOp a.eval oi).run P w=.ok (.value v) w') (h2:nd i=true→S w')
  (h3:anyS F m P md ops Q S nd fuel (listed.setIfInBounds i true) (a.put oi.dst v) w'):wpOpIn F m P ops Q i (fun a' w'=>(nd i=true→S w')∧anyS F m P md ops Q S nd fuel (listed.setIfInBounds i true) a' w') a w:=by
 unfold wpOpIn
 simp only[hi,wi,if_true,Oper.wpIn,Oper.semAt_plain _ _ _ (noDefer_spec hd hi),h1,Oper.uponIn]
 exact⟨fun f _=>hF f,h2,h3⟩
theorem op_call{i:Nat}{o:Oper}{fuel:Nat}{listed:Array Bool}{a:Act}{w:World} (hi:ops[i]?=some o)
  (h:∀ K':Act→World→Prop,(∀ a w,(nd i=true→S w)∧anyS F m P md ops Q S nd fuel (listed.setIfInBounds i true) a w→K' a w) →
   if Region.wanted o (yielded ops a.tmps)=true then Oper.wpIn F m P o a w K' Q else(∀ f,o.about P w a.eval=some f→F.fn f)∧K' (a.put o.dst undef) w) :
  wpOpIn F m P ops Q i (fun a' w'=>(nd i=true→S w')∧anyS F m P md ops Q S nd fuel (listed.setIfInBounds i true) a' w') a w:=wpOpIn_step hi h
theorem exec_store{o:Oper}{a:Act}{w w':World}{ty:TypeId}{p v:Value} (x y:Operand) (ho:o.op=.store ty x y) (hx:a.eval x=p) (hy:a.eval y=v) (hr:(Instr.storeAt ty p v).run P w=.ok () w') :
  (execOp a.eval o).run P w=.ok .skip w':=by
 unfold execOp
 simp only[ho,hx,hy,Sem.run_bind,hr,Result.andThen_ok,Sem.run_pure]
theorem run_load_cell{w:World}{b i:Nat}{t ty:TypeId}{cs:Array Value}{v:Value} (h:Blk w b t cs) (hc:cs[i]?=some v) (hz:(P.info? ty).map (·.size)=some 1) (hv:(P.underlying ty).map (·.isRow)=some false):(Instr.loadAt ty (.pointer (some ⟨b,i,none⟩))).run P w=.ok v w:=by
 have hc2:w.cell? ⟨b,i,none⟩=some v:=by rw[h.cell,hc]
 cases hq:P.info? ty with
 | none=>simp[hq]at hz
 | some j =>
  have hs:j.size=1:=by simpa[hq] using hz
  cases hu:P.underlying ty with
  | none=>simp[hu]at hv
  | some d =>
   have hd:d.isRow=false:=by simpa[hu] using hv
   cases d <;> first|(exfalso;revert hd;simp[TypeDesc.isRow];done)|(simp[Instr.loadAt,Instr.sureAddr,loadVar,sizeOf,typeInfo,hq,hs,hu,loadCells,isAgg,run_underlying hu,go_sem,hc2];done)
theorem wpList_load_run_g{rest:List Oper}{o:Oper}{a:Act}{w:World}{ty:TypeId}{p v:Value} (hr:(Instr.loadAt ty p).run P w=.ok v w) (hw:Region.wanted o (yielded ops a.tmps)=true) (x:Operand) (ho:o.op=.load ty x) (hx:a.eval x=p) (h:wpList P ops Q rest (a.put o.dst v) w):wpList P ops Q (o :: rest) a w:=by
 unfold wpList
 rw[if_pos hw]
 refine .inl ?_
 unfold Oper.wp execOp
 simp only[ho,hx,Sem.run_bind,hr,Result.andThen_ok,Sem.run_pure]
 exact h
end
theorem szU64:(Tryz.prog.info? 22).map (·.size)=some 1:=by kernel_rfl
theorem szStr:(Tryz.prog.info? 9).map (·.size)=some 1:=by kernel_rfl
theorem szInt:(Tryz.prog.info? 3).map (·.size)=some 1:=by kernel_rfl
theorem szRw:(Tryz.prog.info? 31).map (·.size)=some 1:=by kernel_rfl
theorem nrU64:(Tryz.prog.underlying 22).map (·.isRow)=some false:=by kernel_rfl
theorem nrStr:(Tryz.prog.underlying 9).map (·.isRow)=some false:=by kernel_rfl
theorem nrInt:(Tryz.prog.underlying 3).map (·.isRow)=some false:=by kernel_rfl
theorem nrRw:(Tryz.prog.underlying 31).map (·.isRow)=some false:=by kernel_rfl
theorem wlg{P:Program}{ops:Array Oper}{Q:Exit→Act→World→Prop}{rest:List Oper}{d:Option Tmp}{x:Operand}{y:TypeId}{pos:String}{af:Array Edge}{gd:Nat×Bool}{a:Act}{w:World}{ty:TypeId}{p v:Value} (hr:(Instr.loadAt ty p).run P w=.ok v w) (hgd:Region.wanted ⟨d,.load ty x,y,pos,af,some gd⟩ (yielded ops a.tmps)=true) (hx:a.eval x=p) (h:wpList P ops Q rest (a.put d v) w):wpList P ops Q (⟨d,.load ty x,y,pos,af,some gd⟩ :: rest) a w :=
 wpList_load_run_g hr hgd x rfl hx h
end
end Go.Proofs.YtobgigcdpiikaaaGreatDoor
