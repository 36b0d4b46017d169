/- Plain laws and walks, each by its own conditions. -/
import Derived.Test.YtobgigcdpiikaaaGreatDoorUc4
import Derived.OrdersHeld
set_option linter.unusedSimpArgs false
set_option linter.unusedVariables false
set_option maxRecDepth 100000
set_option maxHeartbeats 16000000
namespace Go.Proofs.YtobgigcdpiikaaaGreatDoor
section
open Go.RowKit Go.Shelf
section
variable {P:Program}{ops:Array Oper}{md:Region.Mode}{S:World→Prop}{nd:Nat→Bool}{F:Fence}{m:Nat}{Q:Exit→Act→World→Prop}
def anyS(F:Fence) (m:Nat) (P:Program) (md:Region.Mode) (ops:Array Oper) (Q:Exit→Act→World→Prop) (S:World→Prop) (nd:Nat→Bool):Nat→Array Bool→Act→World→Prop
 | 0,listed,a,w=>Region.ready md ops listed=[]∧Q .normal a w
 | fuel+1,listed,a,w=>(Region.ready md ops listed=[]→Q .normal a w) ∧
  ∀ i∈Region.ready md ops listed,wpOpIn F m P ops Q i (fun a' w'=>(nd i=true→S w')∧anyS F m P md ops Q S nd fuel (listed.setIfInBounds i true) a' w') a w
theorem any_of_S:∀ (fuel:Nat) (listed:Array Bool) (a:Act) (w:World),anyS F m P md ops Q S nd fuel listed a w→wpAnyIn F m P md ops Q fuel listed a w
 | 0,_,_,_,h=>h
 | fuel+1,_,_,_,h=>⟨h.1,fun i hi=>wpOpIn_mono (fun a' w' h'=>any_of_S fuel _ a' w' h'.2) (h.2 i hi)⟩
theorem yields_step(hF:∀ f,F.fn f) {i:Nat}{o:Oper}{v:Value}{a:Act} (hd:noDefer ops=true) (hi:ops[i]?=some o) (hy:YieldsIf P ops S o v a) {K:Act→World→Prop}{w:World} (hS:S w) (h:K (a.put o.dst v) w) :
  wpOpIn F m P ops Q i K a w:=by
 unfold wpOpIn
 simp only[hi]
 rcases hy with ⟨hw,hv⟩|⟨hw,rfl⟩
 ·simp only[hw,if_true,Oper.wpIn,Oper.semAt_plain _ _ _ (noDefer_spec hd hi),hv w hS,Oper.uponIn]
  exact⟨fun f _=>hF f,h⟩
 ·simp only[hw,Bool.false_eq_true,if_false]
  exact⟨fun f _=>hF f,h⟩
theorem put_step(hF:∀ f,F.fn f) {j:Nat}{oi oj:Oper}{v:Value} (hd:noDefer ops=true) (hj:ops[j]?=some oj) (hap:oi.apart ops oj=true) (hsi:∀ cs b,oi.op ≠ .select cs b) (hsj:∀ cs b,oj.op ≠ .select cs b)
  (hQ:∀ c a w,Q (.panic c) (a.put oi.dst v) w→Q (.panic c) a w) {K:Act→World→Prop}{a:Act}{w:World}
  (hy:YieldsIf P ops S oi v a) (h:wpOpIn F m P ops Q j K (a.put oi.dst v) w) :
  wpOpIn F m P ops Q j (fun a' w'=>YieldsIf P ops S oi v a'∧K (a'.put oi.dst v) w') a w:=by
 obtain⟨h1,h2,h3⟩:=Oper.apart_spec hap
 have keep:∀ (a:Act),YieldsIf P ops S oi v a→∀ u,YieldsIf P ops S oi v (a.put oj.dst u):=fun a hy u =>
  hy.of_same (execOp_put oi hsi a oj.dst u h3) (wanted_put oi a oj.dst u h3)
 have keepD:∀ d,YieldsIf P ops S oi v { a with defers:=d :: a.defers }:=fun d=>hy.of_same rfl rfl
 have hj0:=noDefer_spec hd hj
 unfold wpOpIn at *
 simp only[hj]at *
 rw[wanted_put oj a oi.dst v h1]at h
 split
 ·rename_i hw
  simp only[hw,if_true]at h
  unfold Oper.wpIn at *
  refine⟨fun f _=>hF f,?_⟩
  have h:=h.2
  rw[Oper.semAt_plain _ _ _ hj0,execOp_put oj hsj a oi.dst v h1]at h
  rw[Oper.semAt_plain _ _ _ hj0]
  generalize(execOp a.eval oj).run P w=r at *
  cases r with
  | ok x w' =>
   cases x <;> simp only[Oper.uponIn]at h ⊢
   case value u=>exact⟨keep a hy u,by rw[←Act.put_comm a v u h2];exact h⟩
   case skip=>exact⟨keep a hy _,by rw[←Act.put_comm a v undef h2];exact h⟩
   case defer d =>
    refine⟨keep _ (keepD d) _,?_⟩
    rw[←Act.put_comm _ v undef h2,←Act.put_defers]
    exact h
   case enter f args =>
    refine⟨h.1,CallsIn.mono h.2 fun e w'' he=>?_⟩
    cases e with
    | returned u=>exact⟨keep a hy u,by rw[←Act.put_comm a v u h2];exact he⟩
    | panicked c=>exact hQ _ _ _ he
    | outgrown=>exact he
   case row row args=>exact⟨h.1,RowsIn.mono h.2 fun u w'' he=>⟨keep a hy u,by rw[←Act.put_comm a v u h2];exact he⟩⟩
   case round l f tmps assign body =>
    refine⟨h.1,RoundIn.mono h.2 fun e w'' he=>?_⟩
    cases e with
    | returned u=>exact⟨keep a hy u,by rw[←Act.put_comm a v u h2];exact he⟩
    | panicked c=>exact hQ _ _ _ he
    | outgrown=>exact he
  | halt x w' =>
   cases x <;> simp only[Oper.uponIn]at h ⊢
   case panic u=>exact hQ _ _ _ h
 ·rename_i hw
  simp only[hw]at h
  exact⟨fun f _=>hF f,keep a hy _,by rw[←Act.put_comm a v undef h2];exact h.2⟩
theorem S_first(hF:∀ f,F.fn f) {i:Nat}{oi:Oper}{v:Value} (hd:noDefer ops=true) (hi:ops[i]?=some oi) (hsel:∀ (j:Nat) (o:Oper) cs b,ops[j]?=some o→o.op ≠ .select cs b)
  (hQ:∀ c a w,Q (.panic c) (a.put oi.dst v) w→Q (.panic c) a w) (hni:nd i=true) :
  ∀ (fuel:Nat) (listed:Array Bool) (a:Act) (w:World),
   (∀ j oj,ops[j]?=some oj→j≠i→listed.getD j true=false→(∀ e∈oj.after,Region.binds md e=true→e.on≠i)→oi.apart ops oj=true∧nd j=true) →
   i∈Region.ready md ops listed→YieldsIf P ops S oi v a→S w →
   anyS F m P md ops Q S nd fuel (listed.setIfInBounds i true) (a.put oi.dst v) w→anyS F m P md ops Q S nd (fuel+1) listed a w:=by
 intro fuel
 induction fuel with
 | zero =>
  intro listed a w _ hr hy hS H
  refine⟨fun h=>(by rw[h]at hr;cases hr),fun j hj=>?_⟩
  by_cases hji:j=i
  ·subst hji;exact yields_step hF hd hi hy hS ⟨fun _=>hS,H⟩
  ·have:=ready_mono hj hji
   rw[H.1]at this
   cases this
 | succ fuel ih =>
  intro listed a w hfree hr hy hS H
  refine⟨fun h=>(by rw[h]at hr;cases hr),fun j hj=>?_⟩
  by_cases hji:j=i
  ·subst hji;exact yields_step hF hd hi hy hS ⟨fun _=>hS,H⟩
  ·have h1:=H.2 j (ready_mono hj hji)
   obtain⟨hjun,oj,hoj,hall⟩:=mem_ready.1 hj
   have hnot:∀ e∈oj.after,Region.binds md e=true→e.on≠i:=fun e he hb heq=>by
    have h1:=hall e he hb
    have h0:=(mem_ready.1 hr).1
    rw[heq]at h1
    rcases Nat.lt_or_ge i listed.size with h'|h'
    ·simp[h']at h0 h1;rw[h0]at h1;cases h1
    ·simp[Array.getElem?_eq_none h']at h1
   obtain⟨hap,hndj⟩:=hfree j oj hoj hji hjun hnot
   have h2:=put_step hF hd hoj hap (fun cs b=>hsel i oi cs b hi) (fun cs b=>hsel j oj cs b hoj) hQ hy h1
   have hfree':∀ k ok,ops[k]?=some ok→k≠i→(listed.setIfInBounds j true).getD k true=false →
     (∀ e∈ok.after,Region.binds md e=true→e.on≠i)→oi.apart ops ok=true∧nd k=true:=fun k ok hk hki hun hno=>by
    refine hfree k ok hk hki ?_ hno
    by_cases hjk:j=k
    ·subst hjk;exact hjun
    ·rw[Go.getD_set_ne true hjk]at hun;exact hun
   refine wpOpIn_mono (fun a' w' h3=>⟨h3.2.1,ih (listed.setIfInBounds j true) a' w' hfree' (ready_mono hr (Ne.symm hji)) h3.1 (h3.2.1 hndj) ?_⟩) h2
   rw[Array.setIfInBounds_comm _ _ hji]
   exact h3.2.2
def ndB(md:Region.Mode) (ops:Array Oper) (nd:Nat→Bool) (listed:Array Bool) (i:Nat):Bool :=
 nd i && (List.range ops.size).all fun j=>j == i || listed.getD j true || nd j || match ops[j]? with
   | some oj=>oj.after.any (fun e=>Region.binds md e && e.on == i)
   | none=>true
theorem ndB_spec{i:Nat}{listed:Array Bool} (h:ndB md ops nd listed i=true) (j:Nat) (oj:Oper) (hj:ops[j]?=some oj) (hne:j≠i) (hun:listed.getD j true=false) (hno:∀ e∈oj.after,Region.binds md e=true→e.on≠i):nd j=true:=by
 simp only[ndB,Bool.and_eq_true,List.all_eq_true,List.mem_range]at h
 have h1:=h.2 j (Array.getElem?_eq_some_iff.1 hj).1
 simp only[hj,Bool.or_eq_true,beq_iff_eq,hne,false_or,hun,Bool.false_eq_true]at h1
 rcases h1 with h1|h1
 ·exact h1
 ·rw[Array.any_eq_true]at h1
  obtain⟨x,hx,h2⟩:=h1
  simp only[Bool.and_eq_true,beq_iff_eq]at h2
  exact absurd h2.2 (hno _ (Array.getElem_mem hx) h2.1)
theorem S_take(hF:∀ f,F.fn f) (i:Nat) {oi:Oper} (v:Value) {fuel:Nat}{listed:Array Bool}{a:Act}{w:World} (hd:noDefer ops=true) (hi:ops[i]?=some oi)
  (hs:Region.noSelect ops=true) (hf:Region.free md ops listed i=true) (hr:(Region.ready md ops listed).contains i=true) (hn:ndB md ops nd listed i=true)
  (hQ:∀ c a w,Q (.panic c) (a.put oi.dst v) w→Q (.panic c) a w) (hS:S w) (hw:Region.wanted oi (yielded ops a.tmps)=true) (hy:∀ w,S w→(execOp a.eval oi).run P w=.ok (.value v) w)
  (h:anyS F m P md ops Q S nd fuel (listed.setIfInBounds i true) (a.put oi.dst v) w):anyS F m P md ops Q S nd (fuel+1) listed a w :=
 S_first hF hd hi (Region.noSelect_spec hs) hQ (by simp only[ndB,Bool.and_eq_true]at hn;exact hn.1) fuel listed a w (fun j oj h1 h2 h3 h4=>⟨Region.free_spec hi hf j oj h1 h2 h3 h4,ndB_spec hn j oj h1 h2 h3 h4⟩) (by simpa using hr) (.inl ⟨hw,hy⟩) hS h
theorem S_tk(i:Nat) (v:Value) {oi:Oper}{fuel:Nat}{listed:Array Bool}{a:Act}{w:World} (hi:ops[i]?=some oi) (hS:S w) (hy:∀ w,S w→(execOp a.eval oi).run P w=.ok (.value v) w)
  (h:anyS F m P md ops Q S nd fuel (listed.setIfInBounds i true) (a.put oi.dst v) w) (hF:∀ f,F.fn f:=by exact fun _=>trivial) (hd:noDefer ops=true:=by kernel_rfl) (hs:Region.noSelect ops=true:=by kernel_rfl) (hf:Region.free md ops listed i=true:=by kernel_rfl)
  (hr:(Region.ready md ops listed).contains i=true:=by kernel_rfl) (hn:ndB md ops nd listed i=true:=by kernel_rfl) (hQ:∀ c a w,Q (.panic c) (a.put oi.dst v) w→Q (.panic c) a w:=by exact onlyN_panic _ _) (hw:Region.wanted oi (yielded ops a.tmps)=true:=by kernel_rfl) :
  anyS F m P md ops Q S nd (fuel+1) listed a w:=S_take hF i v hd hi hs hf hr hn hQ hS hw hy h
theorem S_tg(i:Nat) (v:Value) {oi:Oper}{fuel:Nat}{listed:Array Bool}{a:Act}{w:World} (hi:ops[i]?=some oi) (hS:S w)
  (h:anyS F m P md ops Q S nd fuel (listed.setIfInBounds i true) (a.put oi.dst v) w) (hy:∀ w,S w→(execOp a.eval oi).run P w=.ok (.value v) w:=by intro w' hw;go_simp) (hF:∀ f,F.fn f:=by exact fun _=>trivial) (hd:noDefer ops=true:=by kernel_rfl) (hs:Region.noSelect ops=true:=by kernel_rfl) (hf:Region.free md ops listed i=true:=by kernel_rfl)
  (hr:(Region.ready md ops listed).contains i=true:=by kernel_rfl) (hn:ndB md ops nd listed i=true:=by kernel_rfl) (hQ:∀ c a w,Q (.panic c) (a.put oi.dst v) w→Q (.panic c) a w:=by exact onlyN_panic _ _) (hw:Region.wanted oi (yielded ops a.tmps)=true:=by kernel_rfl) :
  anyS F m P md ops Q S nd (fuel+1) listed a w:=S_take hF i v hd hi hs hf hr hn hQ hS hw hy h
theorem S_one(i:Nat) {o:Oper}{fuel:Nat}{listed:Array Bool}{a:Act}{w:World} (hr:Region.ready md ops listed=[i]) (hi:ops[i]?=some o)
  (h:∀ K':Act→World→Prop,(∀ a w,(nd i=true→S w)∧anyS F m P md ops Q S nd fuel (listed.setIfInBounds i true) a w→K' a w) →
   if Region.wanted o (yielded ops a.tmps)=true then Oper.wpIn F m P o a w K' Q else(∀ f,o.about P w a.eval=some f→F.fn f)∧K' (a.put o.dst undef) w) :
  anyS F m P md ops Q S nd (fuel+1) listed a w :=
 ⟨fun h0=>(by rw[hr]at h0;cases h0),fun j hj=>(by
  rw[hr]at hj
  obtain rfl:=List.mem_singleton.1 hj
  exact wpOpIn_step hi h)⟩
def oneQ(Q:Exit→Act→World→Prop) (K:Act→World→Prop) (e:Exit) (a:Act) (w:World):Prop:=match e with
 | .normal=>K a w
 | e=>Q e a w
theorem lets_one{Q:Exit→Act→World→Prop}{K:Act→World→Prop} (h:LetsOut (oneQ Q K)):LetsOut Q:=by
 obtain⟨a,w,h⟩:=h
 exact⟨a,w,h⟩
theorem oper_oneQ{o:Oper}{a:Act}{w:World}{n:Nat}{K K':Act→World→Prop} (hh:o.wpIn F n P a w K' (oneQ Q K)):o.wpIn F n P a w K' Q:=by
 unfold Oper.wpIn at *
 refine⟨hh.1,?_⟩
 have hh:=hh.2
 generalize(o.semAt F.round a.eval).run P w=r at *
 cases r with
 | ok x w' =>
  cases x <;> simp only[Oper.uponIn]at hh ⊢
  case value u=>exact hh
  case skip=>exact hh
  case defer d=>exact hh
  case enter f args=>exact⟨hh.1,CallsIn.mono hh.2 (fun e w'' he=>by cases e <;> first|exact he|exact lets_one he)⟩
  case row row args=>exact hh
  case round l f tmps assign body=>exact⟨hh.1,RoundIn.mono hh.2 (fun e w'' he=>by cases e <;> first|exact he|exact lets_one he)⟩
 | halt x w'=>cases x <;> simp only[Oper.uponIn]at hh ⊢ <;> exact hh
theorem S_oneL(i:Nat) {o:Oper}{fuel:Nat}{listed:Array Bool}{a:Act}{w:World} (hr:Region.ready md ops listed=[i]) (hi:ops[i]?=some o)
  (h:wpListIn F m P ops (oneQ Q fun a w=>(nd i=true→S w)∧anyS F m P md ops Q S nd fuel (listed.setIfInBounds i true) a w) [o] a w) :
  anyS F m P md ops Q S nd (fuel+1) listed a w :=
 S_one i hr hi fun K' hK=>by
  have h':if Region.wanted o (yielded ops a.tmps)=true then Oper.wpIn F m P o a w (fun a w=>(nd i=true→S w)∧anyS F m P md ops Q S nd fuel (listed.setIfInBounds i true) a w) (oneQ Q fun a w=>(nd i=true→S w)∧anyS F m P md ops Q S nd fuel (listed.setIfInBounds i true) a w)
   else(∀ f,o.about P w a.eval=some f→F.fn f)∧((nd i=true→S (w))∧anyS F m P md ops Q S nd fuel (listed.setIfInBounds i true) (a.put o.dst undef) w):=h
  split
  ·rename_i hw
   rw[if_pos hw]at h'
   exact Oper.wpIn_mono hK (oper_oneQ h')
  ·rename_i hw
   rw[if_neg hw]at h'
   exact⟨h'.1,hK _ _ h'.2⟩
theorem S_seq:∀ (ls:List Oper) (k:Nat) (listed:Array Bool) (a:Act) (w:World),(∀ j,ls[j]?=ops[k+j]?)→(∀ j,k≤j→nd j=false) →
  Region.seqB md ops ls.length k listed=true→wpListIn F m P ops Q ls a w→anyS F m P md ops Q S nd ls.length listed a w
 | [],_,_,_,_,_,_,hB,h=>⟨by simpa[Region.seqB] using hB,h⟩
 | o :: ls,k,listed,a,w,hl,hn,hB,h=>by
  have h0:ops[k]?=some o:=by simpa using(hl 0).symm
  simp only[List.length_cons,Region.seqB,Bool.and_eq_true,decide_eq_true_eq]at hB
  refine⟨fun h1=>(by rw[hB.1]at h1;cases h1),fun i hi=>?_⟩
  rw[hB.1]at hi
  have hik:i=k:=by simpa using hi
  subst hik
  have hw:wpOpIn F m P ops Q i (wpListIn F m P ops Q ls) a w:=by unfold wpOpIn;simp only[h0];exact h
  exact wpOpIn_mono (fun a' w' h'=>⟨fun h2=>(by rw[hn i (Nat.le_refl _)]at h2;cases h2),S_seq ls (i+1) _ a' w' (fun j=>by have:=hl (j+1);simpa[Nat.add_assoc,Nat.add_comm 1 j] using this) (fun j hj=>hn j (by omega)) hB.2 h'⟩) hw
theorem S_end(k:Nat) {ls:List Oper}{listed:Array Bool}{a:Act}{w:World} (hl:ls=ops.toList.drop k) (hn:∀ j,k≤j→nd j=false) (hB:Region.seqB md ops ls.length k listed=true)
  (h:wpListIn F m P ops Q ls a w):anyS F m P md ops Q S nd ls.length listed a w :=
 S_seq ls k listed a w (fun j=>by rw[hl];simp) hn hB h
def onlyN(Q:Exit→Act→World→Prop) (e:Exit) (a:Act) (w:World):Prop:=e=.normal∧Q .normal a w
theorem onlyN_panic(d:Option Tmp) (v:Value):∀ c a w,onlyN Q (.panic c) (a.put d v) w→onlyN Q (.panic c) a w:=fun c a w h=>by cases h.1
theorem wpIn_round_held(S:World→Prop) (nd:Nat→Bool) {id:Nat}{a:Act}{w:World} (hm:P.follows .mixedOrders=true)
  (h:anyS F m P .any ops (onlyN Q) S nd ops.size (Array.replicate ops.size false) a w.drew):(Code.region id ops true).wpIn F m P Q a w :=
 wpIn_mono (wpIn_region_any hm (any_of_S _ _ _ _ h)) fun e a w hq=>by obtain⟨rfl,h⟩:=hq;exact h
end
end
end Go.Proofs.YtobgigcdpiikaaaGreatDoor
