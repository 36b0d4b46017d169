/- Plain laws and walks, each by its own conditions. -/
import Derived.Test.YtobgigcdpiikaaaGreatDoorUc33
import Derived.Test.YtobgigcdpiikaaaGreatDoorUc3
import Derived.Test.YtobgigcdpiikaaaGreatDoorChecked
import Derived.WalkKit
import Derived.WalkSpells
import Derived.RangeFuncNested
import Derived.RangeFuncBound
import Derived.RangeFuncCalls
import Derived.RangeFuncLeaves
import Derived.RangeFuncBox
import Derived.Shelf.Abstract
import Derived.Shelf.RegionOpen
import Derived.OwnWalkIn
import Derived.TacticsInMore
import Derived.LoopNIn
import Derived.LoopIn
import Derived.WalkSmall
import Derived.WalkMore
import Derived.BigQuiet
import Derived.Deep.QuietTactic
import Derived.Deep.RegionHeld3
import Derived.Deep.RegionWith
import Derived.Lib.Hide
import Derived.Test.YtobgigcdpiikaaaGreatDoorRows
import Derived.ProofKit
import Derived.OpenShut
import Derived.Lib.SmallJoins
import Derived.ChangeMaps5
import Derived.Laws.Rows
import Derived.StillTail
import Derived.OrdersIn
import Derived.Carry
import Derived.SliceStrings
import Derived.Deep.DeepHandedRow
import Derived.Lib.LaidTab
import Derived.Deep.MidRow
import Derived.Lib.FrozenHead
import Derived.Laws.OwnMore
import Derived.Deep.AppendLies
import Derived.Maps.OwnIn
set_option linter.unusedSimpArgs false
set_option linter.unusedVariables false
set_option maxRecDepth 100000
set_option maxHeartbeats 16000000
namespace Go.Phx
section
inductive It where
 | text (b:Bytes)
 | list (l:List It)
def be8(n:Nat):Bytes:=[UInt8.ofNat (n / 72057594037927936),UInt8.ofNat (n / 281474976710656),UInt8.ofNat (n / 1099511627776),UInt8.ofNat (n / 4294967296),UInt8.ofNat (n / 16777216),UInt8.ofNat (n / 65536),UInt8.ofNat (n / 256),UInt8.ofNat n]
def rlpN(n:Nat):Bytes:=(be8 n).dropWhile fun c=>c == 0
def rlpV(s:Bytes):Nat:=s.foldl (fun n c=>n*256+c.toNat) 0
theorem rlpV_cons0(s:Bytes):rlpV (0 :: s)=rlpV s:=rfl
theorem rlpV_be8{n:Nat} (h:n<18446744073709551616):rlpV (be8 n)=n:=by
 simp only[rlpV,be8,List.foldl_cons,List.foldl_nil,UInt8.toNat_ofNat']
 omega
theorem rlpV_drop(s:Bytes):rlpV (s.dropWhile fun c=>c == 0)=rlpV s:=by
 induction s with
 | nil=>rfl
 | cons c s ih =>
  rw[List.dropWhile_cons]
  by_cases h:c=0
  ·subst h
   rw[if_pos (by rfl),ih,rlpV_cons0]
  ·rw[if_neg (by simpa using h)]
theorem rlpV_rlpN{n:Nat} (h:n<18446744073709551616):rlpV (rlpN n)=n:=by unfold rlpN;rw[rlpV_drop,rlpV_be8 h]
theorem rlpN_len(n:Nat):(rlpN n).length≤8:=by
 unfold rlpN
 exact Nat.le_trans (List.dropWhile_sublist _).length_le (by simp[be8])
theorem drop_head(s:Bytes) (r:Bytes):(s.dropWhile fun c=>c == 0)≠0 :: r:=by
 induction s with
 | nil=>simp
 | cons c s ih =>
  rw[List.dropWhile_cons]
  by_cases h:c=0
  ·subst h
   rw[if_pos (by rfl)]
   exact ih
  ·rw[if_neg (by simpa using h)]
   intro e
   exact h (List.cons.inj e).1
theorem rlpN_head(n:Nat) (r:Bytes):rlpN n≠0 :: r:=drop_head _ _
def headF(f n:Nat):Bytes:=if n<56 then [UInt8.ofNat (f+n)] else UInt8.ofNat (f+55+(rlpN n).length) :: rlpN n
def frameF(f:Nat) (s:Bytes):Bytes:=headF f s.length ++ s
def isOne:Bytes→Bool
 | [x]=>decide (x.toNat<128)
 | _=>false
mutual
def putI:It→Bytes
 | .text b=>if isOne b then b else frameF 128 b
 | .list l=>frameF 192 (putL l)
def putL:List It→Bytes
 | []=>[]
 | x :: r=>putI x ++ putL r
end
mutual
def deepI:It→Nat
 | .text _=>1
 | .list l=>deepL l+1
def deepL:List It→Nat
 | []=>0
 | x :: r=>max (deepI x) (deepL r)
end
theorem putL_append(a b:List It):putL (a ++ b)=putL a ++ putL b:=by
 induction a with
 | nil=>rfl
 | cons x a ih=>rw[List.cons_append,putL,putL,ih,List.append_assoc]
theorem headF_len(f n:Nat):(headF f n).length≤9:=by
 unfold headF
 have:=rlpN_len n
 split <;> simp <;> omega
theorem rlpN_pos{n:Nat} (h0:0<n) (h:n<18446744073709551616):1≤(rlpN n).length:=by
 rcases Nat.eq_zero_or_pos (rlpN n).length with k|k
 ·have:=rlpV_rlpN h
  rw[List.eq_nil_of_length_eq_zero k]at this
  simp[rlpV]at this
  omega
 ·exact k
theorem frame_is{f:Nat}{s:Bytes} (hs:s.length<18446744073709551616):(s.length<56∧frameF f s=UInt8.ofNat (f+s.length) :: s) ∨
  (56≤s.length∧1≤(rlpN s.length).length∧(rlpN s.length).length≤8∧frameF f s=UInt8.ofNat (f+55+(rlpN s.length).length) :: (rlpN s.length ++ s)):=by
 unfold frameF headF
 by_cases h:s.length<56
 ·rw[if_pos h]
  exact .inl ⟨h,rfl⟩
 ·rw[if_neg h]
  exact .inr ⟨by omega,rlpN_pos (by omega) hs,rlpN_len _,rfl⟩
theorem frame_ne(f:Nat) (s:Bytes):frameF f s≠[]:=by
 unfold frameF headF
 split <;> simp
theorem one_is:∀ {b:Bytes},isOne b=true→∃ x:UInt8,b=[x]∧x.toNat<128
 | [],h=>by cases h
 | [x],h=>⟨x,rfl,of_decide_eq_true h⟩
 | _ :: _ :: _,h=>by cases h
theorem not_one{b:Bytes} (h:isOne b=false):b.length≠1∨∃ x:UInt8,b=[x]∧128≤x.toNat:=by
 match b,h with
 | [],_=>exact .inl (by simp)
 | [x],h=>exact .inr ⟨x,rfl,by have:=of_decide_eq_false h;omega⟩
 | _ :: _ :: _,_=>exact .inl (by simp)
theorem put_ne:∀ x:It,putI x≠[]
 | .text b=>by
  rw[putI]
  split
  ·rename_i h
   obtain⟨x,rfl,_⟩:=one_is h
   simp
  ·exact frame_ne _ _
 | .list l=>by
  rw[putI]
  exact frame_ne _ _
theorem putL_cons(x:It) (r:List It):putL (x :: r)=putI x ++ putL r:=by rw[putL]
def insI:It→Bytes
 | .text b=>b
 | .list l=>putL l
def isL:It→Bool
 | .text _=>false
 | .list _=>true
def fromI(x:It):Nat:=if isL x then 192 else 128
theorem put_is(x:It):(∃ c:UInt8,putI x=[c]∧c.toNat<128∧x=.text [c])∨(putI x=frameF (fromI x) (insI x)∧(isL x=true∨(insI x).length≠1∨∃ c:UInt8,insI x=[c]∧128≤c.toNat)):=by
 cases x with
 | text b =>
  cases h:isOne b with
  | true =>
   obtain⟨c,rfl,hc⟩:=one_is h
   exact .inl ⟨c,by rw[putI,if_pos h],hc,rfl⟩
  | false=>exact .inr ⟨by rw[putI,if_neg (by rw[h];decide)];rfl,.inr (not_one h)⟩
 | list l=>exact .inr ⟨by rw[putI];rfl,.inl rfl⟩
theorem ins_le(x:It):(insI x).length≤(putI x).length:=by
 rcases put_is x with ⟨c,h1,_,rfl⟩|⟨h1,_⟩
 ·rw[h1];exact Nat.le_refl _
 ·rw[h1];unfold frameF;rw[List.length_append];omega
end
end Go.Phx
namespace Go.Proofs.YtobgigcdpiikaaaGreatDoor
section
open Go.RowKit Go.Shelf
def Ret(w:World) (v:Value) (e:Ending) (w':World):Prop:=e=.returned v∧Below w.heap.size w w'
def KeepB(B:Nat) (W W':World):Prop:=W'.heap[B]?=W.heap[B]?
theorem KeepB.refl(B:Nat) (W:World):KeepB B W W:=rfl
theorem KeepB.trans{B:Nat}{a b c:World} (h:KeepB B a b) (k:KeepB B b c):KeepB B a c:=Eq.trans k h
theorem KeepB.cell{B:Nat}{W W':World} (h:KeepB B W W') (o:Nat):W'.cell? ⟨B,o,none⟩=W.cell? ⟨B,o,none⟩:=World.cell?_of_block (w:=W) h
theorem keepB_b{B:Nat}{w:World} (hB:B<w.heap.size) (W:World) (l:Nat) (o o':Obj) (hl:w.heap.size≤l) (_:W.heap[l]?=some o) (_:o.isCells=false) (_:o.isWalk=false):KeepB B W (W.putObj l o') :=
 World.putObj_heap_other (by omega)
theorem keepB_t{B:Nat}{a b c:World} (h:KeepB B a b) (k:KeepB B b c):KeepB B a c:=h.trans k
theorem KeepB.below{B n:Nat}{W W':World} (h:Below n W W') (hB:B<n):KeepB B W W':=h.block B hB
theorem KeepB.setCell{B:Nat}{W:World}{a:Addr} (h:B≠a.block) (v:Value):KeepB B W (W.setCell a v):=Below.heap_setCell _ _ _ _ h
theorem KeepsOthers.below{W W':World} (h:Below W.heap.size W W'):KeepsOthers W W' :=
 ⟨h.size,fun k _ hk _=>(h.block k (Array.getElem?_eq_some_iff.1 hk).1).trans hk⟩
theorem below_shut{n:Nat}{w W:World}{D:Nat}{o':Obj} (hB:Below n w W) (hn:n≤w.heap.size) (hD:n≤D):Below n w (W.putObj D o') :=
 hB.grown (grownBy_putObj' W D o') (Nat.le_trans hn hB.size) (fun k e=>by cases e;exact hD)
theorem qs{P:Program}{f:FuncId}{args:Array Value}{w:World}{n:Nat}{v:Value} (h:Calls P f args (w.drewN n) fun e w'=>e=.returned v∧w.drewN n=w') :
  Calls P f args (w.drewN n) fun e w''=>e=.returned v∧∃ m,w''=w.drewN m :=
 h.mono fun _ _ ⟨he,hm⟩=>⟨he,n,hm.symm⟩
theorem qa{P:Program}{f:FuncId}{args:Array Value}{w:World}{a n:Nat}{v:Value} (h:Calls P f args (w.drewN (a+n)) fun e w'=>e=.returned v∧w.drewN (a+n)=w') :
  Calls P f args (w.drewN (a+n)) fun e w''=>e=.returned v∧∃ m,w''=w.drewN (a+m) :=
 h.mono fun _ _ ⟨he,hm⟩=>⟨he,n,hm.symm⟩
theorem Below.via{n m:Nat}{w W w':World} (h:Below m W w') (hm:n≤m) (hB:Below n w W):Below n w w':=hB.trans (h.mono hm)
theorem Below.on{w W w':World} (h:Below W.heap.size W w') (hB:Below w.heap.size w W):Below w.heap.size w w':=hB.trans (h.mono hB.size)
theorem bcell{n:Nat}{W w1:World} (hb:Below n W w1):(∀ b o,b<n→w1.cell? ⟨b,o,none⟩=W.cell? ⟨b,o,none⟩)∧(∀ b o,b<n→w1.frozen? ⟨b,o,none⟩=W.frozen? ⟨b,o,none⟩) :=
 ⟨fun b o h=>hb.cell (p:=⟨b,o,none⟩) h,fun b o h=>hb.frozen (p:=⟨b,o,none⟩) h⟩
theorem wpIn_scope{n:Nat}{P:Program}{c:Code}{Q:Exit→Act→World→Prop}{a:Act}{w:World} (h:c.wpIn Fence.wide n P (Exit.noGoto Q) a w):(Code.scope c).wpIn Fence.wide n P Q a w :=
 wpIn_wide.2 (wp_scope_straight (wpIn_wide.1 h))
def v2(z:Go.Phx.F2):Value:=.agg #[.int .u64 (Go.Phx.vz z.1),.int .u64 (Go.Phx.vz z.2)]
theorem bel{n:Nat}{w w':World} (h:Below n w w':=by repeat(first|assumption|exact Below.refl _ _|refine Below.setCell ?_ (by first|exact Nat.le_refl _|(simp;done)|omega|(simp;omega)) _|refine Below.alloc ?_ (by first|exact Nat.le_refl _|(simp;done)|omega|(simp;omega)) _|refine below_drewN ?_ _|refine Below.drew ?_|refine Below.on (by assumption) ?_|refine Below.via (by assumption) (by first|exact Nat.le_refl _|(simp;done)|omega|(simp;omega)) ?_)):Below n w w':=h
end
section
open Go.ChangeShapes Go.WideShapes Go.ChangeAt Go.RowKit Go.Joins
set_option maxRecDepth 100000
theorem own:ownKnob Tryz.prog.godebug=none:=by kernel_rfl
section
variable {H:Type}{enc:TypeId×Value→H}{P:Program}
theorem post_below{f:Func}{s:ChangeSpec}{apart fresh handsOn again:Bool}{W W':World}{args:Array Value}{v:Value}{ds gs:List (DataW H)}{before pa pv:List MemPlace}
  (hW:DataW.Whole enc P f.params.toList s.vars apart W args.toList ds gs before)
  (hres:∀ (b:Nat) (sp:Nat→Bool) (hd:Bool),DataW.TrodAll enc P W' b sp hd f.resultTypes.toList (v.resultList f.resultTypes.size) (s.fn H (ds ++ gs)).results [])
  (hargs:∀ sp:Nat→Bool,(∀ p∈before,sp p.block=true)→DataW.TrodAll enc P W' 0 sp true f.params.toList args.toList (s.fn H (ds ++ gs)).args pa)
  (hvars:∀ sp:Nat→Bool,(∀ p∈before,sp p.block=true)→DataW.TrodVars enc P W' sp s.vars (s.fn H (ds ++ gs)).vars pv)
  (hps:before=pa ++ pv) (hb:Below W.heap.size W W')
  (hok:∀ (j:Nat) (t:TypeId) (r:Value),f.resultTypes[j]?=some t→(v.resultList f.resultTypes.size)[j]?=some r→Value.okWide P W' .any 0 t r) :
  s.post enc P f apart fresh handsOn again W args v W':=by
 have hlt:∀ p∈before,p.block<W.heap.size:=fun p hp=>hW.lt p hp
 have hold:∀ p∈before,(fun b=>decide (b<W.heap.size)) p.block=true:=fun p hp=>by simpa using hlt p hp
 refine⟨ds,gs,before,[],pa,pv,hW,hres _ _ _,hargs _ hold,hvars _ hold,World.keptBut_mono (fun p hp=>⟨hp,?_⟩) (hb.frame (· ∈ before)),fun _=>?_⟩
 ·rw[hps,List.mem_append]at hp
  exact Or.inr hp
 ·obtain⟨_,_,_,_,_,hz,hn⟩:=hW
  refine⟨hok,_,_,([] ++ pa) ++ pv,⟨[] ++ pa,pv,trodAll_append (hargs _ (fun _ _=>rfl)) (hres _ _ _),hvars _ (fun _ _=>rfl),rfl,?_,?_⟩,?_⟩
  ·intro b off hp
   have hin:MemPlace.cell b off∈before:=by rw[hps];simpa using hp
   rw[hb.frozen (hlt _ hin)]
   exact hz b off hin
  ·intro ha
   have:=hn ha
   rw[hps]at this
   simpa using this
  ·intro p hp _
   rw[hps]
   simpa using hp
end
section
variable {H:Type}{enc:TypeId×Value→H}{w:World}{base:Nat}{spare:Nat→Bool}{held:Bool}{r:Reach}{b0:Nat}{v:Value}{d:DataW H}{p:List MemPlace}
theorem openU64(hv:Value.okWide Tryz.prog w r b0 22 v) (h:DataW.Trod enc Tryz.prog w base spare held 22 v d p):∃ a,v=.int .u64 a∧d=.lit (.int .u64 a)∧p=[]∧(Lit.int .u64 a).wf=true :=
 open_int Tryz.underlying22 hv h
end
end
section
open Go.ChangeShapes Go.WideShapes Go.ChangeAt Go.RowKit Go.Joins
set_option maxRecDepth 100000
section
variable {H:Type}{enc:TypeId×Value→H}{w:World}{base:Nat}{spare:Nat→Bool}{held:Bool}{r:Reach}{b0:Nat}{v:Value}{d:DataW H}{p:List MemPlace}
theorem underString:Tryz.prog.underlying 9 = some .string:=by kernel_rfl
theorem openString(hv:Value.okWide Tryz.prog w r b0 9 v) (h:DataW.Trod enc Tryz.prog w base spare held 9 v d p):∃ s:ByteArray,v=.string s∧d=.lit (.string s.data.toList)∧p=[]∧s.size≤maxLen :=
 Go.ChangeMaps.open_string underString hv h
end
end
section
open Go.RowKit Go.Shelf
def Later(w:World):Type:={ w':World // Below w.heap.size w w' }
instance instLater (w:World):Nonempty (Later w):=⟨⟨w,Below.refl _ _⟩⟩
def Later.at{w:World} (x:Later w):World:=x.1
theorem Later.below{w:World} (x:Later w):Below w.heap.size w x.at:=x.2
@[go_sem] theorem Later.cell {w:World} (x:Later w) (b o:Nat) (h:b<w.heap.size):x.at.cell? ⟨b,o,none⟩=w.cell? ⟨b,o,none⟩:=x.below.cell (p:=⟨b,o,none⟩) h
@[go_sem] theorem Later.frozen {w:World} (x:Later w) (b o:Nat) (h:b<w.heap.size):x.at.frozen? ⟨b,o,none⟩=w.frozen? ⟨b,o,none⟩:=x.below.frozen (p:=⟨b,o,none⟩) h
theorem wp_region_later{P:Program}{id:Nat}{Q:Exit→Act→World→Prop}{a:Act}{w:World}{l:List Oper} (hm:P.follows .mixedOrders=true) (hB:Region.lexB .any l.toArray=true)
  (h:wpQuiet P l.toArray (fun w'=>∃ x:Later w,w'=x.at) (fun a'=>∀ w',Below w.heap.size w w'→Q .normal a' w') l a):(Code.region id l.toArray true).wp P Q a w :=
 wp_region_quiet (C:=fun w'=>∃ x:Later w,w'=x.at) hm hB ⟨⟨_,(Below.refl _ w).drew⟩,rfl⟩ (by
  have e:∀ a',(∀ w',Below w.heap.size w w'→Q .normal a' w')→∀ w',(∃ x:Later w,w'=x.at)→Q .normal a' w':=fun a' h w' ⟨x,hx⟩=>h w' (by rw[hx];exact x.below)
  have mono:∀ (l':List Oper) (a:Act) (Q₁ Q₂:Act→Prop),(∀ a,Q₁ a→Q₂ a)→wpQuiet P l.toArray (fun w'=>∃ x:Later w,w'=x.at) Q₁ l' a→wpQuiet P l.toArray (fun w'=>∃ x:Later w,w'=x.at) Q₂ l' a:=by
   intro l'
   induction l' with
   | nil=>exact fun a Q₁ Q₂ hq h=>hq _ h
   | cons o l' ih =>
    intro a Q₁ Q₂ hq h
    simp only[wpQuiet]at h ⊢
    split
    ·rename_i hw
     rw[if_pos hw]at h
     exact Oper.quiet_mono (fun a h=>ih a _ _ hq h) h
    ·rename_i hw
     rw[if_neg hw]at h
     exact ih _ _ _ hq h
  simpa using mono _ _ _ _ e h)
theorem lq{P:Program}{f:FuncId}{args:Array Value}{w:World}{x:Later w}{v:Value} (h:Calls P f args x.at (Ret x.at v)) :
  Calls P f args x.at fun e w''=>e=.returned v∧∃ y:Later w,w''=y.at :=
 h.mono fun _ _ ⟨he,hb⟩=>⟨he,⟨_,Below.on hb x.below⟩,rfl⟩
theorem lw{P:Program}{f:FuncId}{args:Array Value}{w:World}{x:Later w}{v:Value} (h:Calls P f args x.at fun e w'=>e=.returned v∧x.at=w') :
  Calls P f args x.at fun e w''=>e=.returned v∧∃ y:Later w,w''=y.at :=
 h.mono fun _ _ ⟨he,hb⟩=>⟨he,x,hb.symm⟩
end
section
open Go.RowKit Go.Shelf
def Blk(w:World) (g:Nat) (t:TypeId) (cs:Array Value):Prop:=w.heap[g]?=some (.cells cs t (0,0))
section
variable {w w':World}{g:Nat}{t:TypeId}{cs:Array Value}
theorem Blk.lt(h:Blk w g t cs):g<w.heap.size:=by
 rcases Nat.lt_or_ge g w.heap.size with hlt|hge
 ·exact hlt
 ·unfold Blk at h;rw[Array.getElem?_eq_none hge]at h;cases h
theorem Blk.cell(h:Blk w g t cs) (i:Nat):w.cell? ⟨g,i,none⟩=cs[i]?:=cell_of_row w g i cs t (0,0) h
theorem Blk.free(h:Blk w g t cs) (i:Nat):w.frozen? ⟨g,i,none⟩=false:=by
 unfold Blk at h
 simp[World.frozen?,h]
theorem Blk.new0(w:World) (t:TypeId) (cs:Array Value):Blk (w.alloc (.cells cs t)) w.heap.size t cs:=heap_alloc_new w _
theorem size_alloc(w:World) (o:Obj):(w.alloc o).heap.size=w.heap.size+1:=by
 show(w.heap.push o).size=_
 simp
theorem Blk.new1(w:World) (o1:Obj) (t:TypeId) (cs:Array Value):Blk ((w.alloc o1).alloc (.cells cs t)) (w.heap.size+1) t cs:=by
 have:=Blk.new0 (w.alloc o1) t cs
 rwa [size_alloc]at this
theorem Blk.new2(w:World) (o1 o2:Obj) (t:TypeId) (cs:Array Value):Blk (((w.alloc o1).alloc o2).alloc (.cells cs t)) (w.heap.size+1+1) t cs:=by
 have:=Blk.new1 (w.alloc o1) o2 t cs
 rwa [size_alloc]at this
theorem Blk.new3(w:World) (o1 o2 o3:Obj) (t:TypeId) (cs:Array Value):Blk ((((w.alloc o1).alloc o2).alloc o3).alloc (.cells cs t)) (w.heap.size+1+1+1) t cs:=by
 have:=Blk.new2 (w.alloc o1) o2 o3 t cs
 rwa [size_alloc]at this
theorem Blk.new4(w:World) (o1 o2 o3 o4:Obj) (t:TypeId) (cs:Array Value):Blk (((((w.alloc o1).alloc o2).alloc o3).alloc o4).alloc (.cells cs t)) (w.heap.size+1+1+1+1) t cs:=by
 have:=Blk.new3 (w.alloc o1) o2 o3 o4 t cs
 rwa [size_alloc]at this
theorem Blk.drew(h:Blk w g t cs):Blk w.drew g t cs:=h
theorem Blk.drewN(h:Blk w g t cs) (n:Nat):Blk (w.drewN n) g t cs:=h
theorem Blk.alloc(h:Blk w g t cs) (o:Obj):Blk (w.alloc o) g t cs:=(Below.heap_alloc w o g h.lt).trans h
theorem Blk.set_(h:Blk w g t cs) (i:Nat) (u:Value):Blk (w.setCell ⟨g,i,none⟩ u) g t (cs.setIfInBounds i u):=by
 unfold Blk at h ⊢
 simp[World.setCell,Array.getElem?_modify,h]
theorem Blk.far(h:Blk w g t cs) {p:Addr} (hp:g≠p.block) (u:Value):Blk (w.setCell p u) g t cs:=(Below.heap_setCell w p u g hp).trans h
theorem Blk.over{p:Addr} (hp:g≠p.block) {u:Value} (h:Blk w g t cs):Blk (w.setCell p u) g t cs:=h.far hp u
theorem Blk.on{B:Nat} (h:Blk w g t cs) (hb:Below B w w') (hg:g<B):Blk w' g t cs:=(hb.block g hg).trans h
theorem Blk.below(h:Blk w g t cs) (hb:Below w.heap.size w w'):Blk w' g t cs:=(hb.block g h.lt).trans h
end
theorem Blk.rl{w:World}{g:Nat}{t:TypeId}{cs:Array Value} (h:Blk w g t cs):(∀ i,w.cell? ⟨g,i,none⟩=cs[i]?)∧(∀ i,w.frozen? ⟨g,i,none⟩=false)∧g<w.heap.size∧g≤w.heap.size:=⟨Blk.cell h,Blk.free h,Blk.lt h,Nat.le_of_lt (Blk.lt h)⟩
theorem nwI{w:World}{g:Nat}{t:TypeId}{cs:Array Value} (h:Blk w g t cs:=by first|with_reducible exact Blk.new0 _ _ _|with_reducible exact Blk.new1 _ _ _ _|with_reducible exact Blk.new2 _ _ _ _ _|with_reducible exact Blk.new3 _ _ _ _ _ _|with_reducible exact Blk.new4 _ _ _ _ _ _ _):Blk w g t cs:=h
end
section
open Go.RowKit Go.Shelf
section
variable {P:Program}{ops:Array Oper}{md:Region.Mode}{C:World→Prop}
def wpHd(P:Program) (md:Region.Mode) (ops:Array Oper) (C:World→Prop) (n:Nat) (L:Array Bool→Act→Prop):Nat→Array Bool→Act→Prop
 | 0,listed,a=>L listed a
 | f+1,listed,a=>Region.ready md ops listed≠[]∧∀ i∈Region.ready md ops listed,i<n∧qOp P ops C i (wpHd P md ops C n L f (listed.setIfInBounds i true)) a
theorem any_of_hd{n g:Nat}{L:Array Bool→Act→Prop}{Q':Exit→Act→World→Prop} (hL:∀ listed a,L listed a→∀ w,C w→wpAny P md ops Q' g listed a w) :
  ∀ (f:Nat) (listed:Array Bool) (a:Act) (w:World),C w→wpHd P md ops C n L f listed a→wpAny P md ops Q' (f+g) listed a w
 | 0,listed,a,w,hw,h=>by rw[Nat.zero_add];exact hL _ _ h w hw
 | f+1,listed,a,w,hw,h=>by
  rw[show f+1+g=(f+g)+1 by omega]
  exact⟨fun h0=>absurd h0 h.1,fun i hi=>wpOp_of_qOp hw (fun a' w' hw' h'=>any_of_hd hL f _ a' w' hw' h') (h.2 i hi).2⟩
theorem hd_first{n i:Nat}{oi:Oper}{v:Value}{L:Array Bool→Act→Prop} (hi:ops[i]?=some oi) (hsel:∀ (j:Nat) (o:Oper) cs b,ops[j]?=some o→o.op ≠ .select cs b)
  (hs:Region.sinkB md ops n=true) (hc:Region.chainB md ops n=true) (hn:n<ops.size) (hin:i<n)
  (hdone:∀ listed a,L listed a→∀ j∈Region.ready md ops listed,n≤j) :
  ∀ (f:Nat) (listed:Array Bool) (a:Act),HeadInv md ops n listed →
   (∀ j oj,ops[j]?=some oj→j≠i→listed.getD j true=false→(∀ e∈oj.after,Region.binds md e=true→e.on≠i)→oi.apart ops oj=true) →
   i∈Region.ready md ops listed→YieldsIn P ops C oi v a →
   wpHd P md ops C n L f (listed.setIfInBounds i true) (a.put oi.dst v)→wpHd P md ops C n L (f+1) listed a:=by
 intro f
 induction f with
 | zero =>
  intro listed a inv _ hr hy H
  have hun:=(mem_ready.1 hr).1
  refine⟨fun h=>(by rw[h]at hr;cases hr),fun j hj=>?_⟩
  have hjn:j<n:=by
   rcases Nat.lt_or_ge j n with h|h
   ·exact h
   ·exact absurd hj (tail_waits hs hc hn inv _ i rfl hin hun j h)
  refine⟨hjn,?_⟩
  by_cases hji:j=i
  ·subst hji
   exact hy.qOp hi H
  ·have:=hdone _ _ H j (ready_mono hj hji)
   omega
 | succ f ih =>
  intro listed a inv hfree hr hy H
  have hun:=(mem_ready.1 hr).1
  refine⟨fun h=>(by rw[h]at hr;cases hr),fun j hj=>?_⟩
  have hjn:j<n:=by
   rcases Nat.lt_or_ge j n with h|h
   ·exact h
   ·exact absurd hj (tail_waits hs hc hn inv _ i rfl hin hun j h)
  refine⟨hjn,?_⟩
  by_cases hji:j=i
  ·subst hji
   exact hy.qOp hi H
  ·obtain⟨hjun,oj,hoj,hall⟩:=mem_ready.1 hj
   have hnot:∀ e∈oj.after,Region.binds md e=true→e.on≠i:=fun e he hb heq=>by
    have h1:=hall e he hb
    rw[heq,getD_both hun]at h1
    cases h1
   have h2:=qOp_put hoj (hfree j oj hoj hji hjun hnot) (fun cs b=>hsel i oi cs b hi) (fun cs b=>hsel j oj cs b hoj) hy (H.2 j (ready_mono hj hji)).2
   refine qOp_mono (fun a' h3=>ih (listed.setIfInBounds j true) a' (inv.set hj hjn) (fun k ok hk hki hku hno=>?_) (ready_mono hr (Ne.symm hji)) h3.1 ?_) h2
   ·refine hfree k ok hk hki ?_ hno
    by_cases hjk:j=k
    ·subst hjk
     exact hjun
    ·rw[getD_set_ne true hjk]at hku
     exact hku
   ·rw[Array.setIfInBounds_comm _ _ hji]
    exact h3.2
theorem hd_lex{n g:Nat}{Lq:Act→Prop} (hsel:Region.noSelect ops=true) (hs:Region.sinkB md ops n=true) (hc:Region.chainB md ops n=true) (hn:n<ops.size) :
  ∀ (l:List Oper) (k:Nat) (listed:Array Bool) (a:Act),(∀ j,j<l.length→l[j]?=ops[k+j]?)→k+l.length=n→HeadInv md ops n listed →
  Region.lexHead md ops g l.length k listed=true→wpQuiet P ops C Lq l a →
  wpHd P md ops C n (fun listed' a'=>Region.seqB md ops g n listed'=true∧Lq a') l.length listed a
 | [],k,listed,a,_,hk,_,hB,h=>by
  have:k=n:=by simpa using hk
  subst this
  exact⟨by simpa[Region.lexHead] using hB,h⟩
 | o :: l,k,listed,a,hl,hk,inv,hB,h=>by
  have h0:ops[k]?=some o:=by simpa using(hl 0 (by simp)).symm
  simp only[List.length_cons,Region.lexHead,Bool.and_eq_true]at hB
  obtain⟨⟨hr,hf⟩,hB'⟩:=hB
  have hkn:k<n:=by simp only[List.length_cons]at hk;omega
  have hr':k∈Region.ready md ops listed:=by simpa using hr
  have hst:qOp P ops C k (wpQuiet P ops C Lq l) a:=by unfold qOp;simp only[h0];exact h
  obtain⟨v,hy,hK⟩:=yieldsIn_of_qOp h0 hst
  exact hd_first h0 (Region.noSelect_spec hsel) hs hc hn hkn (fun listed' a' hL=>seqB_ready hL.1) l.length listed a inv (Region.free_spec h0 hf) hr' hy
   (hd_lex hsel hs hc hn l (k+1) _ _ (fun j hj=>by have:=hl (j+1) (by simp;omega);simpa[Nat.add_assoc,Nat.add_comm 1 j] using this) (by simp only[List.length_cons]at hk;omega) (inv.set hr' hkn) hB' hK)
theorem wp_region_class_tail{id:Nat}{Q:Exit→Act→World→Prop}{a:Act}{w:World}{l:List Oper} (n:Nat) (hm:P.follows .mixedOrders=true) (hB:Region.lexTailB .any l.toArray n=true)
  (hC:C { w with drawn:=w.drawn+1 }) (h:wpQuiet P l.toArray C (fun a'=>∀ w',C w'→wpList P l.toArray Q (l.drop n) a' w') (l.take n) a):(Code.region id l.toArray true).wp P Q a w:=by
 simp only[Region.lexTailB,Bool.and_eq_true,decide_eq_true_eq]at hB
 obtain⟨⟨⟨⟨hsel,hn⟩,hs⟩,hc⟩,hlex⟩:=hB
 have hn':n<l.length:=by simpa using hn
 have htl:(l.take n).length=n:=by simp;omega
 have hdl:(l.drop n).length=l.toArray.size - n:=by simp
 have inv0:HeadInv .any l.toArray n (Array.replicate l.toArray.size false) :=
  ⟨by simp,fun j oj _ hl=>(by rw[getD_replicate_false]at hl;cases hl),fun t _ ht=>getD_in (by simpa using ht) (getD_replicate_false _ _)⟩
 have H:=hd_lex (md:=.any) (g:=l.toArray.size - n) hsel hs hc hn (l.take n) 0 _ a (fun j hj=>by
  have hj':j<n:=by rw[htl]at hj;exact hj
  simp[hj']) (by simpa using htl) inv0 (by rw[htl];exact hlex) h
 refine wp_region_any hm ?_
 have:=any_of_hd (Q':=Q) (g:=l.toArray.size - n) (fun listed a' hL w' hw'=>by
  have:=wpAny_of_seq (md:=.any) (Q':=Q) (l.drop n) n listed a' w' (fun j=>by simp[List.getElem?_drop]) (by rw[hdl];exact hL.1) (hL.2 w' hw')
  rwa [hdl]at this) _ _ _ _ hC H
 rw[htl,show n+(l.toArray.size - n)=l.toArray.size by omega]at this
 exact this
theorem quiet_to{l:List Oper}{Q₁ Q₂:Act→Prop} (hq:∀ a,Q₁ a→Q₂ a):∀ (l':List Oper) (a:Act),wpQuiet P l.toArray C Q₁ l' a→wpQuiet P l.toArray C Q₂ l' a:=by
 intro l'
 induction l' with
 | nil=>exact fun a h=>hq _ h
 | cons o l' ih =>
  intro a h
  simp only[wpQuiet]at h ⊢
  split
  ·rename_i hw
   rw[if_pos hw]at h
   exact Oper.quiet_mono (fun a h=>ih a h) h
  ·rename_i hw
   rw[if_neg hw]at h
   exact ih _ h
theorem wp_region_later_tail{id:Nat}{Q:Exit→Act→World→Prop}{a:Act}{w:World}{l:List Oper} (n:Nat) (hm:P.follows .mixedOrders=true) (hB:Region.lexTailB .any l.toArray n=true)
  (h:wpQuiet P l.toArray (fun w'=>∃ x:Later w,w'=x.at) (fun a'=>∀ w',Below w.heap.size w w'→wpList P l.toArray Q (l.drop n) a' w') (l.take n) a):(Code.region id l.toArray true).wp P Q a w :=
 wp_region_class_tail n hm hB ⟨⟨_,(Below.refl _ w).drew⟩,rfl⟩ (quiet_to (fun a' h w' ⟨x,hx⟩=>h w' (by rw[hx];exact x.below)) _ _ h)
end
end
section
open Go.RowKit Go.Shelf
section
variable {P:Program}{ops:Array Oper}{md:Region.Mode}{C:World→Prop}{l m:Nat}
def noDefer(ops:Array Oper):Bool:=ops.all fun o=>match o.op with | .defer _=>false|_=>true
theorem noDefer_spec{i:Nat}{o:Oper} (h:noDefer ops=true) (hi:ops[i]?=some o):∀ c,o.op ≠ .defer c:=by
 intro c hc
 obtain⟨hlt,he⟩:=Array.getElem?_eq_some_iff.1 hi
 have:=Array.all_eq_true.1 h i hlt
 rw[he,hc]at this
 cases this
theorem operIn_of_quiet{o:Oper}{a:Act}{K:Act→Prop}{K':Act→World→Prop}{Q':Exit→Act→World→Prop}{w:World} (hd:∀ c,o.op ≠ .defer c) (hw:C w) (h:∀ a w',C w'→K a→K' a w') (hh:o.quiet P a C K) :
  o.wpIn (Fence.wide.inRound l) m P a w K' Q':=by
 obtain⟨v,h1,h2⟩:=hh
 have h3:=h1 w hw
 unfold Oper.quietAt at h3
 refine⟨fun _ _=>trivial,?_⟩
 rw[Oper.semAt_plain _ _ _ hd]
 generalize(execOp a.eval o).run P w=r at *
 cases r with
 | ok n w' =>
  cases n <;> simp only[Oper.quietUpon]at h3 <;> simp only[Oper.uponIn]
  case value u =>
   obtain⟨e1,e2⟩:=h3
   rw[e1,e2]
   exact h _ _ hw h2
  case skip =>
   obtain⟨e1,e2⟩:=h3
   rw[e1,←e2]
   exact h _ _ hw h2
  case enter f args =>
   obtain⟨e1,hc⟩:=h3
   rw[e1]
   refine⟨fun hs=>by simp[Fence.inRound,Fence.wide]at hs,CallsIn.inRound l (callsIn_wide.2 (hc.mono ?_))⟩
   intro e w'' ⟨he,hw''⟩
   subst he
   exact h _ _ hw'' h2
 | halt x w'=>simp only[Oper.quietUpon]at h3
theorem opIn_of_q{i:Nat}{a:Act}{K:Act→Prop}{K':Act→World→Prop}{Q':Exit→Act→World→Prop}{w:World} (hd:noDefer ops=true) (hC:C w) (h:∀ a w',C w'→K a→K' a w') (hh:qOp P ops C i K a) :
  wpOpIn (Fence.wide.inRound l) m P ops Q' i K' a w:=by
 unfold qOp at hh
 unfold wpOpIn
 split
 ·rename_i ho
  simp only[ho]at hh
  exact h _ _ hC hh
 ·rename_i o ho
  simp only[ho]at hh
  split
  ·rename_i hw
   simp only[hw,if_true]at hh
   exact operIn_of_quiet (noDefer_spec hd ho) hC h hh
  ·rename_i hw
   simp only[hw]at hh
   exact⟨fun _ _=>trivial,h _ _ hC hh⟩
theorem anyIn_of_hd{n g:Nat}{L:Array Bool→Act→Prop}{Q':Exit→Act→World→Prop} (hd:noDefer ops=true) (hL:∀ listed a,L listed a→∀ w,C w→wpAnyIn (Fence.wide.inRound l) m P md ops Q' g listed a w) :
  ∀ (f:Nat) (listed:Array Bool) (a:Act) (w:World),C w→wpHd P md ops C n L f listed a→wpAnyIn (Fence.wide.inRound l) m P md ops Q' (f+g) listed a w
 | 0,listed,a,w,hw,h=>by rw[Nat.zero_add];exact hL _ _ h w hw
 | f+1,listed,a,w,hw,h=>by
  rw[show f+1+g=(f+g)+1 by omega]
  exact⟨fun h0=>absurd h0 h.1,fun i hi=>opIn_of_q hd hw (fun a' w' hw' h'=>anyIn_of_hd hd hL f _ a' w' hw' h') (h.2 i hi).2⟩
theorem anyIn_of_seq{F:Fence}{Q':Exit→Act→World→Prop}:∀ (l:List Oper) (k:Nat) (listed:Array Bool) (a:Act) (w:World),(∀ j,l[j]?=ops[k+j]?) →
  Region.seqB md ops l.length k listed=true→wpListIn F m P ops Q' l a w→wpAnyIn F m P md ops Q' l.length listed a w
 | [],_,_,_,_,_,hB,h=>⟨by simpa[Region.seqB] using hB,h⟩
 | o :: l,k,listed,a,w,hl,hB,h=>by
  have h0:ops[k]?=some o:=by simpa using(hl 0).symm
  simp only[List.length_cons,Region.seqB,Bool.and_eq_true,decide_eq_true_eq]at hB
  refine⟨fun h1=>(by rw[hB.1]at h1;cases h1),fun i hi=>?_⟩
  rw[hB.1]at hi
  have hik:i=k:=by simpa using hi
  subst hik
  have hw:wpOpIn F m P ops Q' i (wpListIn F m P ops Q' l) a w:=by unfold wpOpIn;simp only[h0];exact h
  exact wpOpIn_mono (fun a' w' h'=>anyIn_of_seq l (i+1) _ a' w' (fun j=>by have:=hl (j+1);simpa[Nat.add_assoc,Nat.add_comm 1 j] using this) hB.2 h') hw
theorem wpIn_round_later_tail{id:Nat}{Q:Exit→Act→World→Prop}{a:Act}{w:World}{ls:List Oper} (n:Nat) (hm:P.follows .mixedOrders=true) (hB:Region.lexTailB .any ls.toArray n=true) (hd:noDefer ls.toArray=true)
  (h:wpQuiet P ls.toArray (fun w'=>∃ x:Later w,w'=x.at) (fun a'=>∀ w',Below w.heap.size w w'→wpListIn (Fence.wide.inRound l) m P ls.toArray Q (ls.drop n) a' w') (ls.take n) a) :
  (Code.region id ls.toArray true).wpIn (Fence.wide.inRound l) m P Q a w:=by
 simp only[Region.lexTailB,Bool.and_eq_true,decide_eq_true_eq]at hB
 obtain⟨⟨⟨⟨hsel,hn⟩,hs⟩,hc⟩,hlex⟩:=hB
 have hn':n<ls.length:=by simpa using hn
 have htl:(ls.take n).length=n:=by simp;omega
 have hdl:(ls.drop n).length=ls.toArray.size - n:=by simp
 have inv0:HeadInv .any ls.toArray n (Array.replicate ls.toArray.size false) :=
  ⟨by simp,fun j oj _ hl=>(by rw[getD_replicate_false]at hl;cases hl),fun t _ ht=>getD_in (by simpa using ht) (getD_replicate_false _ _)⟩
 have H:=hd_lex (md:=.any) (g:=ls.toArray.size - n) hsel hs hc hn (ls.take n) 0 _ a (fun j hj=>by
  have hj':j<n:=by rw[htl]at hj;exact hj
  simp[hj']) (by simpa using htl) inv0 (by rw[htl];exact hlex) h
 refine wpIn_region_any hm ?_
 have:=anyIn_of_hd (l:=l) (m:=m) (Q':=Q) (g:=ls.toArray.size - n) hd (fun listed a' hL w' hw'=>by
  have:=anyIn_of_seq (ops:=ls.toArray) (F:=Fence.wide.inRound l) (m:=m) (md:=.any) (Q':=Q) (ls.drop n) n listed a' w' (fun j=>by simp[List.getElem?_drop]) (by rw[hdl];exact hL.1) (by
   obtain⟨x,hx⟩:=hw'
   exact hL.2 w' (by rw[hx];exact x.below))
  rwa [hdl]at this) _ _ _ { w with drawn:=w.drawn+1 } ⟨⟨_,(Below.refl _ w).drew⟩,rfl⟩ H
 rw[htl,show n+(ls.toArray.size - n)=ls.toArray.size by omega]at this
 exact this
end
end
section
open Go.RowKit Go.Shelf
theorem Blk.later{w w':World}{g:Nat}{t:TypeId}{cs:Array Value} (hb:Below w.heap.size w w') (h:Blk w g t cs):Blk w' g t cs:=h.below hb
theorem Blk.to{W:World}{g:Nat}{t:TypeId}{cs cs':Array Value} (h:Blk W g t cs) (e:cs=cs'):Blk W g t cs':=e ▸ h
theorem Blk.over2{w:World}{g b i:Nat}{t:TypeId}{cs:Array Value}{u:Value} (hp:g≠b) (h:Blk w g t cs):Blk (w.setCell ⟨b,i,none⟩ u) g t cs:=h.far hp u
theorem Blk.newAt{w:World}{g:Nat}{t:TypeId}{cs:Array Value} (hs:w.heap.size=g):Blk (w.alloc (.cells cs t)) g t cs:=hs ▸ Blk.new0 w t cs
theorem size_set(w:World) (p:Addr) (u:Value):(w.setCell p u).heap.size=w.heap.size:=by simp[World.setCell]
theorem Blk.newS1(w:World) (p:Addr) (u:Value) (t:TypeId) (cs:Array Value):Blk ((w.setCell p u).alloc (.cells cs t)) w.heap.size t cs:=Blk.newAt (size_set _ _ _)
theorem Blk.newS2(w:World) (p p':Addr) (u u':Value) (t:TypeId) (cs:Array Value):Blk (((w.setCell p u).setCell p' u').alloc (.cells cs t)) w.heap.size t cs:=Blk.newAt (by rw[size_set,size_set])
theorem Blk.newS3(w:World) (p p' p'':Addr) (u u' u'':Value) (t:TypeId) (cs:Array Value):Blk ((((w.setCell p u).setCell p' u').setCell p'' u'').alloc (.cells cs t)) w.heap.size t cs:=Blk.newAt (by rw[size_set,size_set,size_set])
theorem blk_kept{W W':World}{g:Nat}{t:TypeId}{cs:Array Value}{row:Option Nat} (h:Blk W g t cs) (hg:W.grownBy W' row) (hr:∀ r,row=some r→∃ o:Obj,W.heap[r]?=some o∧o.isCells=false):Blk W' g t cs:=by
 refine(hg.block g h.lt ?_).trans h
 intro e
 obtain⟨o,ho,hc⟩:=hr g e.symm
 unfold Blk at h
 rw[h]at ho
 injection ho with ho
 subst ho
 simp[Obj.isCells]at hc
theorem nwJ{w:World}{g:Nat}{t:TypeId}{cs:Array Value} (h:Blk w g t cs:=by first|with_reducible exact Blk.new0 _ _ _|with_reducible exact Blk.new1 _ _ _ _|with_reducible exact Blk.new2 _ _ _ _ _|with_reducible exact Blk.new3 _ _ _ _ _ _|with_reducible exact Blk.new4 _ _ _ _ _ _ _|with_reducible exact Blk.newS1 _ _ _ _ _|with_reducible exact Blk.newS2 _ _ _ _ _ _ _|with_reducible exact Blk.newS3 _ _ _ _ _ _ _ _ _):Blk w g t cs:=h
theorem blI{w:World}{g:Nat}{t:TypeId}{cs:Array Value} (h:Blk w g t cs:=by repeat(first|with_reducible assumption|exact nwI|with_reducible apply Blk.set_|with_reducible apply Blk.alloc|with_reducible apply Blk.drewN|with_reducible apply Blk.drew|(with_reducible apply Blk.over;first|(intro h;omega)|(simp;done)|(simp;omega)))):Blk w g t cs:=h
theorem blJ{w:World}{g:Nat}{t:TypeId}{cs:Array Value} (h:Blk w g t cs:=by repeat(first|with_reducible assumption|exact nwJ|with_reducible apply Blk.set_|with_reducible apply Blk.alloc|with_reducible apply Blk.drewN|with_reducible apply Blk.drew|(with_reducible apply Blk.over2;first|assumption|omega))):Blk w g t cs:=h
theorem sB{α:Type} (a:List α) (i:Nat) (v:α):a.toArray.setIfInBounds i v=(a.set i v).toArray:=List.setIfInBounds_toArray a i v
theorem sC{α:Type}{x:α}{a:List α}{i:Nat}{v:α}:(x :: a).set (i+1) v=x :: a.set i v:=List.set_cons_succ
theorem sD{α:Type}{x:α}{a:List α}{v:α}:(x :: a).set 0 v=v :: a:=List.set_cons_zero
theorem hkI{w0 w w':World}{g:Nat}{t:TypeId}{cs0 cs:Array Value} (kk:Blk w0 g t cs0) (hb:Below w.heap.size w w') (h:Blk w0 g t cs0→Blk w g t cs:=by intro kk;repeat(first|with_reducible assumption|exact nwI|with_reducible apply Blk.set_|with_reducible apply Blk.alloc|with_reducible apply Blk.drewN|with_reducible apply Blk.drew|(with_reducible apply Blk.over;first|(intro h;omega)|(simp;done)|(simp;omega)))):RowKit.Hid (Blk w' g t cs):=Z ((h kk).below hb)
theorem hkJ{w0 w w':World}{g:Nat}{t:TypeId}{cs0 cs:Array Value} (kk:Blk w0 g t cs0) (hb:Below w.heap.size w w') (h:Blk w0 g t cs0→Blk w g t cs:=by intro kk;repeat(first|with_reducible assumption|exact nwJ|with_reducible apply Blk.set_|with_reducible apply Blk.alloc|with_reducible apply Blk.drewN|with_reducible apply Blk.drew|(with_reducible apply Blk.over2;first|assumption|omega))):RowKit.Hid (Blk w' g t cs):=Z ((h kk).below hb)
theorem hn_{w w':World}{g:Nat}{t:TypeId}{cs:Array Value} (h:RowKit.Hid (Blk w g t cs)) (hb:Below w.heap.size w w'):RowKit.Hid (Blk w' g t cs):=Z (Blk.below (RowKit.Hid.out h) hb)
theorem rl_{w:World}{g:Nat}{t:TypeId}{cs:Array Value} (h:RowKit.Hid (Blk w g t cs)):(∀ i,w.cell? ⟨g,i,none⟩=cs[i]?)∧(∀ i,w.frozen? ⟨g,i,none⟩=false)∧g<w.heap.size∧g≤w.heap.size:=Blk.rl (RowKit.Hid.out h)
theorem hb_{w w':World}{g:Nat}{t:TypeId}{cs:Array Value} (h:Blk w g t cs) (hb:Below w.heap.size w w'):RowKit.Hid (Blk w' g t cs):=Z (h.below hb)
end
section
open Go.ChangeShapes Go.WideShapes Go.ChangeAt Go.RowKit Go.Joins
set_option maxRecDepth 100000
def Strs(w:World) (A:Option Addr) (xs:List ByteArray):Prop :=
 0<xs.length→∃ b o,A=some ⟨b,o,none⟩∧b<w.heap.size∧∀ (i:Nat) (x:ByteArray),xs[i]?=some x→w.cell? ⟨b,o+i,none⟩=some (.string x)
theorem Strs.nil(w:World) (A:Option Addr):Strs w A []:=fun h=>absurd h (by simp)
theorem Strs.keep{w w':World}{A:Option Addr}{xs:List ByteArray} (h:Strs w A xs) (hz:w.heap.size≤w'.heap.size) (hk:∀ b o,b<w.heap.size→w'.cell? ⟨b,o,none⟩=w.cell? ⟨b,o,none⟩):Strs w' A xs:=fun h0=>by
 obtain⟨b,o,ha,hb,hc⟩:=h h0
 exact⟨b,o,ha,by omega,fun i x hx=>(hk _ _ hb).trans (hc i x hx)⟩
theorem Strs.below{w w':World}{A:Option Addr}{xs:List ByteArray} (h:Strs w A xs) (hb:Below w.heap.size w w'):Strs w' A xs:=h.keep hb.size fun b o hp=>hb.cell (p:=⟨b,o,none⟩) hp
theorem Strs.mk{w:World}{b o:Nat}{xs:List ByteArray} (hb:b<w.heap.size) (h:∀ (i:Nat) (x:ByteArray),xs[i]?=some x→w.cell? ⟨b,o+i,none⟩=some (.string x)):Strs w (some ⟨b,o,none⟩) xs:=fun _=>⟨b,o,rfl,hb,h⟩
section
variable {H:Type}{enc:TypeId×Value→H}{P:Program}
theorem stays_all(hl:laidOutB P=true) {W W':World} (hb:Below W.heap.size W W'):∀ {ts:List TypeId}{vs:List Value}{ds:List (DataW H)}{ps:List MemPlace},
  (ts.all fun t=>P.readableRec t && decide (t<P.types.size))=true→DataW.TrodAll enc P W 0 (fun _=>true) true ts vs ds ps→(∀ x∈ps,x.block<W.heap.size) →
  ∀ sp:Nat→Bool,(∀ x∈ps,sp x.block=true)→DataW.TrodAll enc P W' 0 sp true ts vs ds ps:=by
 intro ts
 induction ts with
 | nil =>
  intro vs ds ps _ h _ sp _
  obtain⟨rfl,rfl,rfl⟩:=trodAll_nil h
  exact trodAll_mk0
 | cons t ts ih =>
  intro vs ds ps hr h hlt sp hsp
  obtain⟨v,vs',d,ds',p,p',rfl,rfl,rfl,h0,h1⟩:=trodAll_cons h
  simp only[List.all_cons,Bool.and_eq_true,decide_eq_true_eq]at hr
  exact trodAll_cons_mk (WideElems.Trod_stays hl hr.1.1 hr.1.2 h0 (fun x hx=>hb.same (hlt x (by simp[hx]))) (fun x hx=>hsp x (by simp[hx])))
   (ih hr.2 h1 (fun x hx=>hlt x (by simp[hx])) sp (fun x hx=>hsp x (by simp[hx])))
end
theorem laidOut:laidOutB Tryz.prog=true:=by kernel_rfl
section
variable {H:Type}{enc:TypeId×Value→H}{w:World}{base:Nat}{spare:Nat→Bool}{held:Bool}{r:Reach}{b0:Nat}{v:Value}{d:DataW H}{p:List MemPlace}
end
end
section
open BigFrame Go.RowKit Go.Phx Go.Shelf
attribute [local go_sem] Oper.semAt_some
def vw(x:Wd):Int:=(x.toNat:Int)
theorem vw_nonneg(x:Wd):0≤vw x:=Int.natCast_nonneg _
theorem vw_lt(x:Wd):vw x<4294967296:=by have:=x.isLt;unfold vw;omega
@[go_sem] theorem xor_w (x y:Wd):bits .xor .u32 (vw x) (vw y)=vw (x ^^^ y):=by
 unfold vw
 rw[u32_xor_nat _ _ x.isLt y.isLt,BitVec.toNat_xor]
@[go_sem] theorem and_w (x y:Wd):bits .and .u32 (vw x) (vw y)=vw (x &&& y):=by
 unfold vw
 rw[u32_and_nat _ _ x.isLt y.isLt,BitVec.toNat_and]
@[go_sem] theorem or_w (x y:Wd):bits .or .u32 (vw x) (vw y)=vw (x ||| y):=by
 unfold vw
 rw[u32_or_nat _ _ x.isLt y.isLt,BitVec.toNat_or]
@[go_sem] theorem add_w (x y:Wd):IntKind.u32.wrap (vw x+vw y)=vw (x+y):=by
 unfold vw
 rw[IntKind.wrap_u32',BitVec.toNat_add]
 omega
theorem shl_w(x:Wd) (n:Nat) (k:Int) (hk:k=2 ^ n):IntKind.u32.wrap (vw x*k)=vw (x <<< n):=by
 unfold vw
 rw[IntKind.wrap_u32',BitVec.toNat_shiftLeft,Nat.shiftLeft_eq,hk]
 have e:((x.toNat:Int))*2 ^ n=((x.toNat*2 ^ n:Nat):Int):=by rw[Int.natCast_mul,Int.natCast_pow];rfl
 rw[e]
 omega
theorem shr_w(x:Wd) (n:Nat) (k:Int) (hk:k=2 ^ n):vw x / k=vw (x >>> n):=by
 unfold vw
 rw[BitVec.toNat_ushiftRight,Nat.shiftRight_eq_div_pow,hk,Int.natCast_ediv,Int.natCast_pow]
 rfl
theorem rot_2(x:Wd) (w:World):Calls Tryz.prog 166 #[.int .u32 (vw x),.int .i64 (-2)] w fun e w'=>e=.returned (.int .u32 (vw (ror x 2)))∧w=w':=by
 have h1:=vw_nonneg x
 have h2:=vw_lt x
 have e0:bits .and .u64 (IntKind.u64.wrap (-2)) 31=30:=by decide
 have e1:=shl_w x 30 1073741824 rfl
 have e2:=shr_w x 2 4 rfl
 go_enter Tryz.func166, Tryz.ntmps166
 go_wp2_with fail
 go_ret
 refine⟨?_,rfl⟩
 unfold ror
 rw[BitVec.or_comm]
 rfl
theorem turn_2(x:Wd) (w:World):Calls Tryz.prog 140 #[.int .u32 (vw x),.int .i64 2] w fun e w'=>e=.returned (.int .u32 (vw (ror x 2)))∧w=w':=by
 go_enter Tryz.func140, Tryz.ntmps140
 go_wp2_with fail
 refine(rot_2 x _).mono ?_
 rintro e w' ⟨rfl,rfl⟩
 go_wp2_with fail
 go_ret
 exact⟨rfl,rfl⟩
theorem rot_6(x:Wd) (w:World):Calls Tryz.prog 166 #[.int .u32 (vw x),.int .i64 (-6)] w fun e w'=>e=.returned (.int .u32 (vw (ror x 6)))∧w=w':=by
 have h1:=vw_nonneg x
 have h2:=vw_lt x
 have e0:bits .and .u64 (IntKind.u64.wrap (-6)) 31=26:=by decide
 have e1:=shl_w x 26 67108864 rfl
 have e2:=shr_w x 6 64 rfl
 go_enter Tryz.func166, Tryz.ntmps166
 go_wp2_with fail
 go_ret
 refine⟨?_,rfl⟩
 unfold ror
 rw[BitVec.or_comm]
 rfl
theorem turn_6(x:Wd) (w:World):Calls Tryz.prog 140 #[.int .u32 (vw x),.int .i64 6] w fun e w'=>e=.returned (.int .u32 (vw (ror x 6)))∧w=w':=by
 go_enter Tryz.func140, Tryz.ntmps140
 go_wp2_with fail
 refine(rot_6 x _).mono ?_
 rintro e w' ⟨rfl,rfl⟩
 go_wp2_with fail
 go_ret
 exact⟨rfl,rfl⟩
theorem rot_7(x:Wd) (w:World):Calls Tryz.prog 166 #[.int .u32 (vw x),.int .i64 (-7)] w fun e w'=>e=.returned (.int .u32 (vw (ror x 7)))∧w=w':=by
 have h1:=vw_nonneg x
 have h2:=vw_lt x
 have e0:bits .and .u64 (IntKind.u64.wrap (-7)) 31=25:=by decide
 have e1:=shl_w x 25 33554432 rfl
 have e2:=shr_w x 7 128 rfl
 go_enter Tryz.func166, Tryz.ntmps166
 go_wp2_with fail
 go_ret
 refine⟨?_,rfl⟩
 unfold ror
 rw[BitVec.or_comm]
 rfl
theorem turn_7(x:Wd) (w:World):Calls Tryz.prog 140 #[.int .u32 (vw x),.int .i64 7] w fun e w'=>e=.returned (.int .u32 (vw (ror x 7)))∧w=w':=by
 go_enter Tryz.func140, Tryz.ntmps140
 go_wp2_with fail
 refine(rot_7 x _).mono ?_
 rintro e w' ⟨rfl,rfl⟩
 go_wp2_with fail
 go_ret
 exact⟨rfl,rfl⟩
theorem rot_11(x:Wd) (w:World):Calls Tryz.prog 166 #[.int .u32 (vw x),.int .i64 (-11)] w fun e w'=>e=.returned (.int .u32 (vw (ror x 11)))∧w=w':=by
 have h1:=vw_nonneg x
 have h2:=vw_lt x
 have e0:bits .and .u64 (IntKind.u64.wrap (-11)) 31=21:=by decide
 have e1:=shl_w x 21 2097152 rfl
 have e2:=shr_w x 11 2048 rfl
 go_enter Tryz.func166, Tryz.ntmps166
 go_wp2_with fail
 go_ret
 refine⟨?_,rfl⟩
 unfold ror
 rw[BitVec.or_comm]
 rfl
theorem turn_11(x:Wd) (w:World):Calls Tryz.prog 140 #[.int .u32 (vw x),.int .i64 11] w fun e w'=>e=.returned (.int .u32 (vw (ror x 11)))∧w=w':=by
 go_enter Tryz.func140, Tryz.ntmps140
 go_wp2_with fail
 refine(rot_11 x _).mono ?_
 rintro e w' ⟨rfl,rfl⟩
 go_wp2_with fail
 go_ret
 exact⟨rfl,rfl⟩
theorem rot_13(x:Wd) (w:World):Calls Tryz.prog 166 #[.int .u32 (vw x),.int .i64 (-13)] w fun e w'=>e=.returned (.int .u32 (vw (ror x 13)))∧w=w':=by
 have h1:=vw_nonneg x
 have h2:=vw_lt x
 have e0:bits .and .u64 (IntKind.u64.wrap (-13)) 31=19:=by decide
 have e1:=shl_w x 19 524288 rfl
 have e2:=shr_w x 13 8192 rfl
 go_enter Tryz.func166, Tryz.ntmps166
 go_wp2_with fail
 go_ret
 refine⟨?_,rfl⟩
 unfold ror
 rw[BitVec.or_comm]
 rfl
theorem turn_13(x:Wd) (w:World):Calls Tryz.prog 140 #[.int .u32 (vw x),.int .i64 13] w fun e w'=>e=.returned (.int .u32 (vw (ror x 13)))∧w=w':=by
 go_enter Tryz.func140, Tryz.ntmps140
 go_wp2_with fail
 refine(rot_13 x _).mono ?_
 rintro e w' ⟨rfl,rfl⟩
 go_wp2_with fail
 go_ret
 exact⟨rfl,rfl⟩
theorem rot_17(x:Wd) (w:World):Calls Tryz.prog 166 #[.int .u32 (vw x),.int .i64 (-17)] w fun e w'=>e=.returned (.int .u32 (vw (ror x 17)))∧w=w':=by
 have h1:=vw_nonneg x
 have h2:=vw_lt x
 have e0:bits .and .u64 (IntKind.u64.wrap (-17)) 31=15:=by decide
 have e1:=shl_w x 15 32768 rfl
 have e2:=shr_w x 17 131072 rfl
 go_enter Tryz.func166, Tryz.ntmps166
 go_wp2_with fail
 go_ret
 refine⟨?_,rfl⟩
 unfold ror
 rw[BitVec.or_comm]
 rfl
theorem turn_17(x:Wd) (w:World):Calls Tryz.prog 140 #[.int .u32 (vw x),.int .i64 17] w fun e w'=>e=.returned (.int .u32 (vw (ror x 17)))∧w=w':=by
 go_enter Tryz.func140, Tryz.ntmps140
 go_wp2_with fail
 refine(rot_17 x _).mono ?_
 rintro e w' ⟨rfl,rfl⟩
 go_wp2_with fail
 go_ret
 exact⟨rfl,rfl⟩
theorem rot_18(x:Wd) (w:World):Calls Tryz.prog 166 #[.int .u32 (vw x),.int .i64 (-18)] w fun e w'=>e=.returned (.int .u32 (vw (ror x 18)))∧w=w':=by
 have h1:=vw_nonneg x
 have h2:=vw_lt x
 have e0:bits .and .u64 (IntKind.u64.wrap (-18)) 31=14:=by decide
 have e1:=shl_w x 14 16384 rfl
 have e2:=shr_w x 18 262144 rfl
 go_enter Tryz.func166, Tryz.ntmps166
 go_wp2_with fail
 go_ret
 refine⟨?_,rfl⟩
 unfold ror
 rw[BitVec.or_comm]
 rfl
theorem turn_18(x:Wd) (w:World):Calls Tryz.prog 140 #[.int .u32 (vw x),.int .i64 18] w fun e w'=>e=.returned (.int .u32 (vw (ror x 18)))∧w=w':=by
 go_enter Tryz.func140, Tryz.ntmps140
 go_wp2_with fail
 refine(rot_18 x _).mono ?_
 rintro e w' ⟨rfl,rfl⟩
 go_wp2_with fail
 go_ret
 exact⟨rfl,rfl⟩
theorem rot_19(x:Wd) (w:World):Calls Tryz.prog 166 #[.int .u32 (vw x),.int .i64 (-19)] w fun e w'=>e=.returned (.int .u32 (vw (ror x 19)))∧w=w':=by
 have h1:=vw_nonneg x
 have h2:=vw_lt x
 have e0:bits .and .u64 (IntKind.u64.wrap (-19)) 31=13:=by decide
 have e1:=shl_w x 13 8192 rfl
 have e2:=shr_w x 19 524288 rfl
 go_enter Tryz.func166, Tryz.ntmps166
 go_wp2_with fail
 go_ret
 refine⟨?_,rfl⟩
 unfold ror
 rw[BitVec.or_comm]
 rfl
theorem turn_19(x:Wd) (w:World):Calls Tryz.prog 140 #[.int .u32 (vw x),.int .i64 19] w fun e w'=>e=.returned (.int .u32 (vw (ror x 19)))∧w=w':=by
 go_enter Tryz.func140, Tryz.ntmps140
 go_wp2_with fail
 refine(rot_19 x _).mono ?_
 rintro e w' ⟨rfl,rfl⟩
 go_wp2_with fail
 go_ret
 exact⟨rfl,rfl⟩
theorem rot_22(x:Wd) (w:World):Calls Tryz.prog 166 #[.int .u32 (vw x),.int .i64 (-22)] w fun e w'=>e=.returned (.int .u32 (vw (ror x 22)))∧w=w':=by
 have h1:=vw_nonneg x
 have h2:=vw_lt x
 have e0:bits .and .u64 (IntKind.u64.wrap (-22)) 31=10:=by decide
 have e1:=shl_w x 10 1024 rfl
 have e2:=shr_w x 22 4194304 rfl
 go_enter Tryz.func166, Tryz.ntmps166
 go_wp2_with fail
 go_ret
 refine⟨?_,rfl⟩
 unfold ror
 rw[BitVec.or_comm]
 rfl
theorem turn_22(x:Wd) (w:World):Calls Tryz.prog 140 #[.int .u32 (vw x),.int .i64 22] w fun e w'=>e=.returned (.int .u32 (vw (ror x 22)))∧w=w':=by
 go_enter Tryz.func140, Tryz.ntmps140
 go_wp2_with fail
 refine(rot_22 x _).mono ?_
 rintro e w' ⟨rfl,rfl⟩
 go_wp2_with fail
 go_ret
 exact⟨rfl,rfl⟩
theorem rot_25(x:Wd) (w:World):Calls Tryz.prog 166 #[.int .u32 (vw x),.int .i64 (-25)] w fun e w'=>e=.returned (.int .u32 (vw (ror x 25)))∧w=w':=by
 have h1:=vw_nonneg x
 have h2:=vw_lt x
 have e0:bits .and .u64 (IntKind.u64.wrap (-25)) 31=7:=by decide
 have e1:=shl_w x 7 128 rfl
 have e2:=shr_w x 25 33554432 rfl
 go_enter Tryz.func166, Tryz.ntmps166
 go_wp2_with fail
 go_ret
 refine⟨?_,rfl⟩
 unfold ror
 rw[BitVec.or_comm]
 rfl
theorem turn_25(x:Wd) (w:World):Calls Tryz.prog 140 #[.int .u32 (vw x),.int .i64 25] w fun e w'=>e=.returned (.int .u32 (vw (ror x 25)))∧w=w':=by
 go_enter Tryz.func140, Tryz.ntmps140
 go_wp2_with fail
 refine(rot_25 x _).mono ?_
 rintro e w' ⟨rfl,rfl⟩
 go_wp2_with fail
 go_ret
 exact⟨rfl,rfl⟩
theorem turn_of(x:Wd) (n:Int) (h:n=2∨n=6∨n=7∨n=11∨n=13∨n=17∨n=18∨n=19∨n=22∨n=25) (w:World):Calls Tryz.prog 140 #[.int .u32 (vw x),.int .i64 n] w fun e w'=>e=.returned (.int .u32 (vw (ror x n.toNat)))∧w=w':=by
 rcases h with rfl|rfl|rfl|rfl|rfl|rfl|rfl|rfl|rfl|rfl
 ·exact turn_2 x w
 ·exact turn_6 x w
 ·exact turn_7 x w
 ·exact turn_11 x w
 ·exact turn_13 x w
 ·exact turn_17 x w
 ·exact turn_18 x w
 ·exact turn_19 x w
 ·exact turn_22 x w
 ·exact turn_25 x w
def cw(L:List Wd):Array Value:=(L.map fun x=>Value.int .u32 (vw x)).toArray
theorem cw_get{L:List Wd}{i:Nat} (h:i<L.length):(cw L)[i]?=some (.int .u32 (vw (L.getD i 0))):=by
 unfold cw
 simp[List.getElem?_eq_getElem h,List.getD]
theorem cw_set(L:List Wd) (i:Nat) (x:Wd):(cw L).setIfInBounds i (.int .u32 (vw x))=cw (L.set i x):=by
 unfold cw
 rw[jB,List.map_set]
def bw(c:UInt8):Wd:=BitVec.ofNat 32 c.toNat
theorem vw_bw(c:UInt8):vw (bw c)=(c.toNat:Int):=by
 unfold vw bw
 rw[BitVec.toNat_ofNat]
 have:=c.toNat_lt
 omega
theorem bw_lt(c:UInt8):vw (bw c)<256:=by
 rw[vw_bw]
 have:=c.toNat_lt
 omega
theorem index_at(s:ByteArray) (k:Nat) (hk:k<s.size) (h63:s.size≤9223372036854775807) (w:World):(Instr.index 9 (.string s) (.int .i64 (k:Int))).run Tryz.prog w=.ok (.int .u8 (vw (bw (s.data.toList.getD k 0)))) w:=by
 have hd:Tryz.prog.underlying 9 = some .string:=by kernel_rfl
 rw[vw_bw]
 simp[go_sem,Instr.index,hd,hk]
 rfl
def firstW(l:List UInt8):Nat→List Wd
 | 0=>List.replicate 64 0
 | k+1=>(firstW l k).set (k / 4) ((firstW l k).getD (k / 4) 0 <<< 8 ||| bw (l.getD k 0))
theorem firstW_len(l:List UInt8) (k:Nat):(firstW l k).length=64:=by
 induction k with
 | zero=>simp[firstW]
 | succ k ih=>simp[firstW,ih]
def HasK(w:World):Prop:=(∀ i,i<64→w.cell? ⟨0, i,none⟩=some (.int .u32 (vw (kTab.getD i 0)))) ∧ 0 < w.heap.size
theorem HasK.on{w w':World} (h:HasK w) (hB:Below w.heap.size w w'):HasK w' :=
 ⟨fun i hi=>(hB.cell (p:=⟨0, i,none⟩) h.2).trans (h.1 i hi),Nat.lt_of_lt_of_le h.2 hB.size⟩
theorem HasK.from{n:Nat}{w w':World} (h:HasK w) (hB:Below n w w') (hn : 0 < n):HasK w' :=
 ⟨fun i hi=>(hB.cell (p:=⟨0, i,none⟩) hn).trans (h.1 i hi),Nat.lt_of_lt_of_le h.2 hB.size⟩
theorem HasK.alloc{w:World} (h:HasK w) (o:Obj):HasK (w.alloc o):=h.on ((Below.refl _ _).alloc (Nat.le_refl _) _)
def cS(v:St):Array Value := #[.int .u32 (vw v.a),.int .u32 (vw v.b),.int .u32 (vw v.c),.int .u32 (vw v.d),.int .u32 (vw v.e),.int .u32 (vw v.f),.int .u32 (vw v.g),.int .u32 (vw v.h)]
def Wrote(w:World) (b:Nat) (t:TypeId) (cs:Array Value) (e:Ending) (w':World):Prop:=e=.returned (.tuple #[])∧w.grownBy w' (some b)∧Blk w' b t cs
theorem grown_of{w w':World}{b:Nat} (hB:Below w.heap.size w w'):w.grownBy w' (some b):=⟨hB.os,hB.tape,hB.output,hB.size,fun k hk _=>hB.block k hk⟩
theorem grown_on{w W w':World}{b:Nat} (G:w.grownBy W (some b)) (hB:Below W.heap.size W w'):w.grownBy w' (some b) :=
 ⟨hB.os.trans G.os,hB.tape.trans G.tape,hB.output.trans G.output,Nat.le_trans G.size hB.size,fun k hk hn=>(hB.block k (Nat.lt_of_lt_of_le hk G.size)).trans (G.block k hk hn)⟩
theorem grown_set{w W:World}{b i:Nat}{u:Value} (G:w.grownBy W (some b)):w.grownBy (W.setCell ⟨b,i,none⟩ u) (some b) :=
 ⟨G.os,G.tape,G.output,by rw[size_set];exact G.size,fun k hk hn=>(Below.heap_setCell _ _ _ _ (fun e=>hn (by rw[e]))).trans (G.block k hk hn)⟩
@[go_sem] theorem add_w' (x y:Wd):(vw x+vw y) % 4294967296=vw (x+y):=by
 rw[←add_w x y,IntKind.wrap_u32']
theorem shl_w'(x:Wd) (n:Nat) (k:Int) (hk:k=2 ^ n):vw x*k % 4294967296=vw (x <<< n):=by
 rw[←shl_w x n k hk,IntKind.wrap_u32']
theorem getD_set_eq{L:List Wd}{i:Nat} (h:i<L.length) (x:Wd):(L.set i x).getD i 0=x:=by simp[List.getD,h]
theorem sha_set_ne{L:List Wd}{i j:Nat} (h:i≠j) (x:Wd):(L.set i x).getD j 0=L.getD j 0:=by simp[List.getD,List.getElem?_set_ne h]
theorem wordOf_snoc(l:List UInt8) (c:UInt8):wordOf (l ++ [c])=wordOf l <<< 8 ||| bw c:=by unfold wordOf bw;simp
theorem take_snoc8(l:List UInt8) (a n:Nat) (h:a+n<l.length):(l.drop a).take (n+1)=(l.drop a).take n ++ [l.getD (a+n) 0]:=by
 rw[List.take_add_one]
 congr 1
 rw[List.getElem?_drop,List.getD,List.getElem?_eq_getElem h]
 rfl
theorem firstW_at(l:List UInt8) (hl:l.length=64) (k:Nat) (hk:k≤64) (j:Nat) (hj:j<64) :
  (firstW l k).getD j 0=wordOf ((l.drop (4*j)).take (min 4 (k - 4*j))):=by
 induction k with
 | zero =>
  rw[show min 4 (0 - 4*j)=0 by omega,firstW,List.getD,List.getElem?_replicate,if_pos hj]
  rfl
 | succ k ih =>
  have ih:=ih (by omega)
  have hlen:=firstW_len l k
  by_cases h:k / 4=j
  ·subst h
   rw[firstW,getD_set_eq (by omega),ih,←wordOf_snoc,show min 4 (k - 4*(k / 4))=k - 4*(k / 4) by omega,show min 4 (k+1 - 4*(k / 4))=(k - 4*(k / 4))+1 by omega,
    take_snoc8 l (4*(k / 4)) (k - 4*(k / 4)) (by omega),show 4*(k / 4)+(k - 4*(k / 4))=k by omega]
  ·rw[firstW,sha_set_ne h,ih,show min 4 (k+1 - 4*j)=min 4 (k - 4*j) by omega]
theorem words16_len(l:List UInt8):(words16 l).length=16:=by simp[words16]
theorem firstW_all(l:List UInt8) (hl:l.length=64):firstW l 64=words16 l ++ List.replicate 48 0:=by
 apply List.ext_getElem?
 intro j
 have hlen:=firstW_len l 64
 by_cases hj:j<64
 ·have h1:=firstW_at l hl 64 (Nat.le_refl _) j hj
  rw[List.getD,List.getElem?_eq_getElem (by omega)]at h1
  rw[List.getElem?_eq_getElem (by omega)]
  simp only[Option.getD_some]at h1
  rw[h1]
  by_cases h16:j<16
  ·rw[List.getElem?_append_left (by simp[words16];exact h16),show min 4 (64 - 4*j)=4 by omega]
   simp[words16,h16]
  ·rw[List.getElem?_append_right (by rw[words16_len];omega),words16_len,List.getElem?_replicate,if_pos (by omega),show min 4 (64 - 4*j)=0 by omega]
   rfl
 ·rw[List.getElem?_eq_none (by omega),List.getElem?_eq_none (by simp[words16];omega)]
theorem grow_len(n:Nat) (w:List Wd):(grow n w).length=w.length+n:=by
 induction n generalizing w with
 | zero=>rfl
 | succ n ih=>rw[grow,ih];simp;omega
theorem grow_succ(n:Nat) (w:List Wd):grow (n+1) w=grow n w ++ [nextW (grow n w)]:=by
 induction n generalizing w with
 | zero=>rfl
 | succ n ih=>rw[grow,ih,grow]
def moreW(l:List UInt8) (k:Nat):List Wd:=grow k (words16 l) ++ List.replicate (48 - k) 0
theorem moreW_len(l:List UInt8) (k:Nat) (hk:k≤48):(moreW l k).length=64:=by
 unfold moreW
 rw[List.length_append,grow_len,words16_len,List.length_replicate]
 omega
theorem moreW_at(l:List UInt8) (k:Nat) (j:Nat) (hj:j<16+k):(moreW l k).getD j 0=(grow k (words16 l)).getD j 0:=by
 unfold moreW
 rw[List.getD,List.getD,List.getElem?_append_left (by rw[grow_len,words16_len];exact hj)]
theorem moreW_next(l:List UInt8) (k:Nat) (hk:k<48) :
  moreW l (k+1)=(moreW l k).set (k+16) ((moreW l k).getD k 0+(moreW l k).getD (k+9) 0+sig0 ((moreW l k).getD (k+1) 0)+sig1 ((moreW l k).getD (k+14) 0)):=by
 rw[moreW_at l k k (by omega),moreW_at l k (k+9) (by omega),moreW_at l k (k+1) (by omega),moreW_at l k (k+14) (by omega)]
 have hlen:(grow k (words16 l)).length=k+16:=by rw[grow_len,words16_len];omega
 have e:nextW (grow k (words16 l))=(grow k (words16 l)).getD k 0+(grow k (words16 l)).getD (k+9) 0+sig0 ((grow k (words16 l)).getD (k+1) 0)+sig1 ((grow k (words16 l)).getD (k+14) 0):=by
  unfold nextW
  rw[hlen,show k+16 - 16=k by omega,show k+16 - 7=k+9 by omega,show k+16 - 15=k+1 by omega,show k+16 - 2=k+14 by omega]
 rw[←e]
 unfold moreW
 rw[grow_succ,show 48 - k=(48 - (k+1))+1 by omega,List.replicate_succ,List.set_append_right _ _ (by omega),hlen,show k+16 - (k+16)=0 by omega,jD,List.append_assoc]
 rfl
theorem moreW_all(l:List UInt8):moreW l 48=grow 48 (words16 l):=by simp[moreW]
def roundW(v:St) (L:List Wd) (k:Nat):St:=rounds v ((kTab.zip L).take k)
theorem roundW_succ(v:St) (L:List Wd) (hL:L.length=64) (k:Nat) (hk:k<64):roundW v L (k+1)=rnd (roundW v L k) (kTab.getD k 0) (L.getD k 0):=by
 have hz:(kTab.zip L).length=64:=by rw[List.length_zip,hL];rfl
 unfold roundW rounds
 rw[List.take_add_one,List.foldl_append,List.getElem?_eq_getElem (by omega)]
 simp only[Option.toList_some,List.foldl_cons,List.foldl_nil,List.getElem_zip]
 rw[List.getD,List.getElem?_eq_getElem (show k<kTab.length from hk),List.getD,List.getElem?_eq_getElem (show k<L.length by omega)]
 rfl
theorem roundW_all(v:St) (L:List Wd) (hL:L.length=64):roundW v L 64=rounds v (kTab.zip L):=by
 unfold roundW
 rw[List.take_of_length_le (by rw[List.length_zip,hL];exact Nat.le_refl _)]
def bs(l:List UInt8):ByteArray:=⟨l.toArray⟩
theorem bs_list(l:List UInt8):(bs l).data.toList=l:=rfl
theorem bs_of(s:ByteArray):bs s.data.toList=s:=rfl
@[go_sem] theorem bs_size (l:List UInt8):(bs l).size=l.length:=by simp[bs,ByteArray.size]
@[go_sem] theorem bs_toList (l:List UInt8):(bs l).toList=l:=by
 rw[ByteArray.toList_eq]
 rfl
@[go_sem] theorem bs_app (a b:List UInt8):bs a ++ bs b=bs (a ++ b):=by
 apply ByteArray.ext
 simp[bs,ByteArray.data_append]
theorem bs_ext(l:List UInt8) (a b:Nat):(bs l).extract a b=bs ((l.drop a).take (b - a)):=by
 apply ByteArray.ext
 simp[bs,ByteArray.data_extract]
@[go_sem] theorem bs_take (l:List UInt8) (b:Nat):(bs l).extract 0 b=bs (l.take b):=by rw[bs_ext];simp
@[go_sem] theorem bs_drop (l:List UInt8) (a:Nat):(bs l).extract a l.length=bs (l.drop a):=by
 rw[bs_ext,List.take_of_length_le (by simp)]
theorem conv1(W:World) (t:TypeId) (a:Int) (k:Nat):(convert 55 9 (.slice (some ⟨W.heap.size,0,none⟩) 1 k)).run Tryz.prog (W.alloc (.cells #[.int .u8 a] t)) =
  .ok (.string (bs [UInt8.ofNat a.toNat])) (W.alloc (.cells #[.int .u8 a] t)):=by
 have hs:Tryz.prog.underlying 55 = some (.slice 5):=by kernel_rfl
 have he:Tryz.prog.underlying 5 = some (.int .u8):=by kernel_rfl
 have hd:Tryz.prog.underlying 9 = some .string:=by kernel_rfl
 exact run_convert_bytes_arg _ _ _ hs he W.heap.size 0 1 k [a] rfl (fun i hi=>by
  have hK:=Blk.new0 W t #[.int .u8 a]
  rw[hK.cell]
  obtain rfl:i=0:=by omega
  rfl) _ hd
theorem conv1d(W:World) (t:TypeId) (a:Int) (k:Nat):(convert 55 9 (.slice (some ⟨W.heap.size,0,none⟩) 1 k)).run Tryz.prog (W.alloc (.cells #[.int .u8 a] t)).drew =
  .ok (.string (bs [UInt8.ofNat a.toNat])) (W.alloc (.cells #[.int .u8 a] t)).drew:=by
 have hs:Tryz.prog.underlying 55 = some (.slice 5):=by kernel_rfl
 have he:Tryz.prog.underlying 5 = some (.int .u8):=by kernel_rfl
 have hd:Tryz.prog.underlying 9 = some .string:=by kernel_rfl
 exact run_convert_bytes_arg _ _ _ hs he W.heap.size 0 1 k [a] rfl (fun i hi=>by
  have hK:=(Blk.new0 W t #[.int .u8 a]).drew
  rw[hK.cell]
  obtain rfl:i=0:=by omega
  rfl) _ hd
attribute [go_sem] conv1 conv1d
def boxLen(b:Nat) (w:World):Nat:=match w.cell? ⟨b,0,none⟩ with
 | some (.string s)=>s.size
 | _=>0
theorem boxLen_of{b:Nat}{w:World}{t:TypeId}{l:List UInt8} (h:Blk w b t #[.string (bs l)]):boxLen b w=l.length:=by
 unfold boxLen
 rw[h.cell 0]
 exact bs_size l
theorem Blk.grown{w w':World}{g:Nat}{t:TypeId}{cs:Array Value}{row:Option Nat} (h:Blk w g t cs) (hg:w.grownBy w' row) (hn:some g≠row):Blk w' g t cs:=(hg.block g h.lt hn).trans h
theorem HasK.grown{w w':World}{row:Option Nat} (h:HasK w) (hg:w.grownBy w' row) (hn:some 0 ≠ row):HasK w' :=
 ⟨fun i hi=>(World.cell?_of_block (w:=w) (a:=⟨0, i,none⟩) (hg.block _ h.2 hn)).trans (h.1 i hi),Nat.lt_of_lt_of_le h.2 hg.size⟩
theorem keepsOthers_row{W W':World}{b:Nat}{t:TypeId}{cs:Array Value} (h:Blk W b t cs) (hg:W.grownBy W' (some b)):KeepsOthers W W' :=
 KeepsOthers.of_grownBy hg fun j o e ho=>by
  cases e
  unfold Blk at h
  rw[h]at ho
  injection ho with ho
  subst ho
  rfl
theorem below_row{w W W':World}{b:Nat} (h:Below w.heap.size w W) (hg:W.grownBy W' (some b)) (hb:w.heap.size≤b):Below w.heap.size w W':=h.grown hg h.size fun k e=>by injection e with e;omega
def bcells(N:Nat) (L:List UInt8) (k:Nat):Array Value:=((L.take k ++ List.replicate (N - k) 0).map fun c:UInt8=>Value.int .u8 (c.toNat:Int)).toArray
theorem bcells_set(N:Nat) (L:List UInt8) (k:Nat) (hk:k<N) (hL:L.length=N) (v:Int) (hv:v=((L.getD k 0).toNat:Int)):(bcells N L k).setIfInBounds k (.int .u8 v)=bcells N L (k+1):=by
 subst hv
 unfold bcells
 rw[jB,←List.map_set (f:=fun c:UInt8=>Value.int .u8 (c.toNat:Int)),List.set_append_right _ _ (by simp;omega)]
 congr 1
 congr 1
 rw[List.length_take,show k - min k L.length=0 by omega,show N - k=(N - (k+1))+1 by omega,List.replicate_succ,jD,List.take_add_one,List.getElem?_eq_getElem (by omega),List.append_assoc]
 simp[List.getD,List.getElem?_eq_getElem (show k<L.length by omega)]
theorem bcells_at(N:Nat) (L:List UInt8) (k:Nat) (hk:k<N) (hL:L.length=N):(bcells N L k)[k]?=some (.int .u8 0):=by
 unfold bcells
 rw[List.getElem?_toArray,List.getElem?_map,List.getElem?_append_right (by simp;omega),List.getElem?_replicate,if_pos (by simp;omega)]
 rfl
theorem bcells_all(N:Nat) (L:List UInt8) (hL:L.length=N):bcells N L N=(L.map fun c:UInt8=>Value.int .u8 (c.toNat:Int)).toArray:=by
 unfold bcells
 rw[List.take_of_length_le (by omega),Nat.sub_self]
 simp
theorem strOfNums_map(L:List UInt8):strOfNums (L.map fun c:UInt8=>(c.toNat:Int))=bs L:=by
 unfold strOfNums bs
 rw[List.map_map]
 have e:((fun n:Int=>UInt8.ofNat n.toNat) ∘ fun c:UInt8=>(c.toNat:Int))=id:=by
  funext c
  simp
 rw[e,List.map_id]
theorem conv_row(W:World) (g:Nat) (t:TypeId) (L:List UInt8) (n c:Nat) (h:Blk W g t (L.map fun c:UInt8=>Value.int .u8 (c.toNat:Int)).toArray) (hn:L.length=n) :
  (convert 55 9 (.slice (some ⟨g,0,none⟩) n c)).run Tryz.prog W=.ok (.string (bs L)) W:=by
 have hs:Tryz.prog.underlying 55 = some (.slice 5):=by kernel_rfl
 have he:Tryz.prog.underlying 5 = some (.int .u8):=by kernel_rfl
 have hd:Tryz.prog.underlying 9 = some .string:=by kernel_rfl
 have:=run_convert_bytes_arg (P:=Tryz.prog) W _ _ hs he g 0 n c (L.map fun c:UInt8=>(c.toNat:Int)) (by simpa using hn) (fun i hi=>by
  rw[h.cell]
  simp[List.getD,List.getElem?_eq_getElem (show i<L.length by omega)]) _ hd
 rw[this,strOfNums_map]
end
section
open Go.RowKit Go.Phx Go.Shelf
def setRow(w:World) (g:Nat) (t:TypeId) (cs:Array Value):World:=w.putObj g (.cells cs t (0,0))
theorem Blk.row{w:World}{g:Nat}{t:TypeId}{cs:Array Value} (hg:g<w.heap.size):Blk (setRow w g t cs) g t cs:=World.putObj_heap_same hg
theorem Blk.rowOver{w:World}{g g':Nat}{t t':TypeId}{cs cs':Array Value} (hn:g≠g') (h:Blk w g t cs):Blk (setRow w g' t' cs') g t cs:=(World.putObj_heap_other hn).trans h
theorem grown_row(w:World) (g:Nat) (t:TypeId) (cs:Array Value):w.grownBy (setRow w g t cs) (some g):=grownBy_putObj' _ _ _
theorem size_row(w:World) (g:Nat) (t:TypeId) (cs:Array Value):(setRow w g t cs).heap.size=w.heap.size:=by simp[setRow]
theorem Below.row{n:Nat}{w W:World}{g:Nat}{t:TypeId}{cs:Array Value} (h:Below n w W) (hg:n≤g) (hz:n≤W.heap.size):Below n w (setRow W g t cs):=h.grown (grown_row _ _ _ _) hz fun k e=>by injection e with e;omega
theorem row_set(w:World) (g:Nat) (t:TypeId) (cs:Array Value) (i:Nat) (v:Value) (hg:g<w.heap.size):(setRow w g t cs).setCell ⟨g,i,none⟩ v=setRow w g t (cs.setIfInBounds i v):=by
 unfold setRow World.putObj World.setCell
 congr 1
 apply Array.ext_getElem?
 intro k
 by_cases hk:k=g
 ·subst hk
  rw[Array.getElem?_modify,if_pos rfl,Array.getElem?_setIfInBounds_self,if_pos hg,Array.getElem?_setIfInBounds_self,if_pos hg]
  rfl
 ·simp[Array.getElem?_modify,Array.getElem?_setIfInBounds,Ne.symm hk,hk]
theorem row_of(w:World) (g:Nat) (t:TypeId) (cs:Array Value) (h:Blk w g t cs):setRow w g t cs=w:=by
 unfold setRow World.putObj
 have:w.heap.setIfInBounds g (.cells cs t (0,0))=w.heap:=by
  apply Array.ext_getElem?
  intro k
  by_cases hk:k=g
  ·subst hk
   rw[Array.getElem?_setIfInBounds_self,if_pos h.lt]
   exact h.symm
  ·rw[Array.getElem?_setIfInBounds_ne (Ne.symm hk)]
 rw[this]
theorem row_cells(w:World) (g:Nat) (t:TypeId) (hg:g<w.heap.size):∀ (vs pre olds:List Value),olds.length=vs.length→(setRow w g t (pre ++ olds).toArray).setCells g pre.length vs=setRow w g t (pre ++ vs).toArray
 | [],pre,olds,h=>by
  obtain rfl:=List.eq_nil_of_length_eq_zero h
  rfl
 | v :: vs,pre,[],h=>by simp at h
 | v :: vs,pre,u :: olds,h=>by
  rw[World.setCells,row_set w g t _ _ _ hg,jB,List.set_append_right _ _ (Nat.le_refl _),Nat.sub_self,jD]
  have:=row_cells w g t hg vs (pre ++ [v]) olds (by simpa using h)
  simp only[List.length_append,List.length_cons,List.length_nil,List.append_assoc,List.cons_append,List.nil_append]at this
  exact this
theorem setCells_row{w:World}{g:Nat}{t:TypeId}{cs cells:Array Value} (h:Blk w g t cs) (hs:cells.size=cs.size):w.setCells g 0 cells.toList=setRow w g t cells:=by
 have:=row_cells w g t h.lt cells.toList [] cs.toList (by simp[hs])
 simp only[List.nil_append,List.length_nil]at this
 rw[row_of w g t _ (by simpa using h)]at this
 exact this
theorem row_new(w:World) (t:TypeId) (cs cs':Array Value):setRow (w.alloc (.cells cs t)) w.heap.size t cs'=w.alloc (.cells cs' t):=by
 unfold setRow World.putObj World.alloc
 congr 1
 apply Array.ext_getElem?
 intro k
 by_cases hk:k=w.heap.size
 ·subst hk
  simp
 ·rw[Array.getElem?_setIfInBounds_ne (Ne.symm hk),Array.getElem?_push,Array.getElem?_push,if_neg hk,if_neg hk]
def OwnX(w:World) (base:Nat) (e:TypeId) (v:Value) (n:Nat) (xs:List Value):Prop :=
 xs.length=n∧∃ g cap cur fz,v=.slice (some ⟨g,0,none⟩) n cap∧base≤g∧w.heap[g]?=some (.cells cur e fz)∧(fz.2≤fz.1∨cap≤fz.1)∧n≤cap∧cap≤maxLen∧cur.size=cap∧cur.toList.take n=xs
theorem OwnX.form{w:World}{base:Nat}{e:TypeId}{v:Value}{n:Nat}{xs:List Value} (h:OwnX w base e v n xs) :
  ∃ g cap,v=.slice (some ⟨g,0,none⟩) n cap∧base≤g∧g<w.heap.size∧n≤cap∧cap≤maxLen∧∀ j u,xs[j]?=some u→w.cell? ⟨g,j,none⟩=some u:=by
 obtain⟨_,g,cap,cur,fz,hv,hb,hg,_,hnc,hcm,_,ht⟩:=h
 refine⟨g,cap,hv,hb,(Array.getElem?_eq_some_iff.1 hg).1,hnc,hcm,fun j u hu=>?_⟩
 rw[cell_of_row w g j cur e fz hg]
 rw[←ht,List.getElem?_take]at hu
 split at hu
 ·simpa using hu
 ·cases hu
theorem news1(W:World) (t:TypeId) (v:Value):∀ j u,[v][j]?=some u→(W.alloc (.cells #[v] t)).cell? ((⟨W.heap.size,0,none⟩:Addr).add j)=some u:=by
 intro j u hu
 match j,hu with
 | 0,hu =>
  have:=(Blk.new0 W t #[v]).cell 0
  simp at hu
  subst hu
  simp[Addr.add]
def bv(c:UInt8):Value:=.int .u8 (c.toNat:Int)
def txtCells(w:World) (s:ByteArray):World :=
 w.drew.alloc (.cells (bytesRow s (grownCap w s.size 0 5)) 5 ((bytesRow s (grownCap w s.size 0 5)).size,(bytesRow s (grownCap w s.size 0 5)).size+1))
@[go_sem] theorem conv_txt (w:World) (s:ByteArray):(convert 9 55 (.string s)).run Tryz.prog w=.ok (.slice (some ⟨w.heap.size,0,none⟩) s.size (grownCap w s.size 0 5)) (txtCells w s) :=
 run_bytes_of_string w _ _ _ s (show Tryz.prog.underlying 9 = some .string by kernel_rfl) (show Tryz.prog.underlying 55 = some (.slice 5) by kernel_rfl) (show Tryz.prog.underlying 5 = some (.int .u8) by kernel_rfl)
theorem txt_own(w:World) (l:List UInt8) (base:Nat) (hb:base≤w.heap.size) (hl:l.length≤140737488355328) :
  OwnX (txtCells w (bs l)) base 5 (.slice (some ⟨w.heap.size,0,none⟩) l.length (grownCap w l.length 0 5)) l.length (l.map bv):=by
 have hge:=grownCap_ge w l.length 0 5
 unfold txtCells
 rw[bs_size]
 refine⟨by simp,w.heap.size,_,_,_,rfl,hb,heap_alloc_new w.drew _,.inr ?_,hge,grownCap_le_maxLen w _ _ _ (by unfold maxLen;omega),?_,?_⟩
 ·show _≤(bytesRow (bs l) _).size
  have e1:(bs l).data.size=l.length:=by simp[bs]
  unfold bytesRow
  rw[Array.size_append,Array.size_map,Array.size_replicate,bs_size,e1]
  omega
 ·have e1:(bs l).data.size=l.length:=by simp[bs]
  unfold bytesRow
  rw[Array.size_append,Array.size_map,Array.size_replicate,bs_size,e1]
  omega
 ·simp[bytesRow,bs]
  exact fun _ _=>rfl
theorem txt_below(w:World) (s:ByteArray):Below w.heap.size w (txtCells w s):=((Below.refl _ _).drew).alloc (Nat.le_refl _) _
theorem txt_size(w:World) (s:ByteArray):(txtCells w s).heap.size=w.heap.size+1:=by simp[txtCells]
theorem conv_cells(W:World) (g:Nat) (L:List UInt8) (n c:Nat) (hn:L.length=n) (h:∀ j u,(L.map bv)[j]?=some u→W.cell? ⟨g,j,none⟩=some u) :
  (convert 55 9 (.slice (some ⟨g,0,none⟩) n c)).run Tryz.prog W=.ok (.string (bs L)) W:=by
 have hs:Tryz.prog.underlying 55 = some (.slice 5):=by kernel_rfl
 have he:Tryz.prog.underlying 5 = some (.int .u8):=by kernel_rfl
 have hd:Tryz.prog.underlying 9 = some .string:=by kernel_rfl
 have:=run_convert_bytes_arg (P:=Tryz.prog) W _ _ hs he g 0 n c (L.map fun c:UInt8=>(c.toNat:Int)) (by simpa using hn) (fun i hi=>by
  rw[Nat.zero_add,h i (bv (L.getD i 0)) (by rw[List.getElem?_map,List.getElem?_eq_getElem (by omega),List.getD,List.getElem?_eq_getElem (by omega)];rfl)]
  unfold bv
  simp[List.getD,List.getElem?_eq_getElem (show i<L.length by omega)]) _ hd
 rw[this,strOfNums_map]
theorem own_cells{w:World}{base:Nat}{e:TypeId}{n cap g:Nat}{xs:List Value} (h:w.ownsRow base e 1 (.slice (some ⟨g,0,none⟩) n cap) n xs):∀ j u,xs[j]?=some u→w.cell? ⟨g,j,none⟩=some u:=fun j u hu=>by
 have:=h.cells (g:=g) rfl j u hu
 rwa [Addr.add_mid,Nat.zero_add]at this
end
section
open BigFrame Go.RowKit Go.Phx Go.Shelf
attribute [local go_sem] Oper.semAt_some
def Txts(w:World) (A:Option Addr) (L:List Bytes):Prop:=Strs w A (L.map bs)
theorem Txts.at{w:World}{A:Option Addr}{L:List Bytes} (h:Txts w A L) (i:Nat) (hi:i<L.length):∃ b o,A=some ⟨b,o,none⟩∧b<w.heap.size∧w.cell? ⟨b,o+i,none⟩=some (.string (bs (L.getD i []))):=by
 obtain⟨b,o,ha,hb,hc⟩:=h (by simp;omega)
 exact⟨b,o,ha,hb,hc i _ (by rw[List.getElem?_map,List.getElem?_eq_getElem hi,List.getD,List.getElem?_eq_getElem hi];rfl)⟩
def tv(b:Bytes):Value:=.string (bs b)
def LRow(base:Nat) (w:World) (v:Value) (L:List Bytes):Prop:=w.ownsRow base 9 1 v L.length (L.map tv)
theorem LRow.txts{base:Nat}{w:World}{v:Value}{L:List Bytes} (h:LRow base w v L):∃ A c,v=.slice A L.length c∧Txts w A L:=by
 rcases h.2 with ⟨rfl,h0⟩|⟨g,cap,cur,rfl,_⟩
 ·obtain rfl:=List.eq_nil_of_length_eq_zero h0
  exact⟨none,0,rfl,Strs.nil _ _⟩
 ·refine⟨_,_,rfl,Strs.mk (h.lt g rfl).2 fun i x hx=>?_⟩
  have hi:i<L.length:=by have:=(List.getElem?_eq_some_iff.1 hx).1;simpa using this
  rw[Nat.zero_add,World.ownsRow.cellAt h i (by omega)]
  rw[List.getElem?_map]at hx ⊢
  cases hl:L[i]? with
  | none=>rw[hl]at hx;cases hx
  | some y=>rw[hl]at hx;simp only[Option.map_some,Option.some.injEq]at hx ⊢;rw[←hx];rfl
theorem LRow.cells{base:Nat}{w:World}{v:Value}{L:List Bytes} (h:LRow base w v L):∀ j,v.ownBlock=some j→base≤j∧∃ cs t fz,w.heap[j]?=some (.cells cs t fz):=fun j hj=>by
 rcases h.2 with ⟨rfl,h0⟩|⟨g,cap,cur,rfl,hb,hg,_⟩
 ·cases hj
 ·cases hj
  exact⟨hb,cur,_,_,hg⟩
theorem LRow.mono{base base':Nat}{w:World}{v:Value}{L:List Bytes} (h:LRow base w v L) (hb:base'≤base):LRow base' w v L :=
 ⟨h.1,h.2.imp id fun⟨g,cap,cur,a,b,r⟩=>⟨g,cap,cur,a,Nat.le_trans hb b,r⟩⟩
theorem LRow.at{base:Nat}{w:World}{g cap:Nat}{L:List Bytes}{n:Nat} (h:LRow base w (.slice (some ⟨g,0,none⟩) n cap) L) (i:Nat) (hi:i<L.length):w.cell? ⟨g,i,none⟩=some (.string (bs (L.getD i []))):=by
 have hn:L.length=n:=by
  rcases h.2 with ⟨h',_⟩|⟨g',cap',cur,h',_⟩
  ·simp at h'
  ·simp only[Value.slice.injEq]at h'
   exact h'.2.1.symm
 subst hn
 rw[World.ownsRow.cellAt h i (by omega),List.getElem?_map,List.getElem?_eq_getElem hi,List.getD,List.getElem?_eq_getElem hi]
 rfl
theorem infoStr:(Tryz.prog.info? 9).map (fun i=>(i.zero,i.size,i.bytes))=some (some (.string ByteArray.empty),1,16):=by kernel_rfl
theorem LRow.keep{base:Nat}{w w':World}{v:Value}{L:List Bytes}{r:Option Nat} (h:LRow base w v L) (hg:w.grownBy w' r) (hn:∀ j,v.ownBlock=some j→r≠some j):LRow base w' v L :=
 h.kept hg (by
  cases hv:v.ownBlock with
  | none=>exact .inl rfl
  | some g=>exact .inr fun e=>hn g hv e.symm)
theorem LRow.on{base:Nat}{w:World}{v:Value}{L:List Bytes} (h:LRow base w v L) (o:Obj):LRow base (w.alloc o) v L :=
 h.keep (World.grownBy_alloc w o none) fun _ _ e=>by cases e
theorem wpList_append_txt{ops:Array Oper}{rest:List Oper}{o:Oper}{a:Act}{w:World}{Q:Exit→Act→World→Prop} (hgd:o.guard=none) (s x:Operand)
  (ho:o.op=.call { callee:=.builtin .append,args := #[s,x],argTypes := #[31, 31] }) (base:Nat) (v:Value) (L:List Bytes) (hs:a.eval s=v) (R:LRow base w v L)
  (u:Bytes) (ad:Addr) (hx:a.eval x=.slice (some ad) 1 1) (hc:w.cell? (ad.add 0)=some (tv u)) (hl:L.length≤1000000000) (hb:base≤w.heap.size)
  (h:∀ v' w',LRow base w' v' (L ++ [u])→w.grownBy w' v.ownBlock→(v'.ownBlock=v.ownBlock∨v'.ownBlock=some w.heap.size)→wpList Tryz.prog ops Q rest (a.put o.dst v') w'):wpList Tryz.prog ops Q (o :: rest) a w:=by
 refine wpList_plain hgd fun K hK=>?_
 obtain⟨i0,hi,hz0,hz1,hz2⟩:=info_parts infoStr
 obtain⟨v',w',hr,h2,h3,_,h5⟩:=run_append_own_at (P:=Tryz.prog) w base 31 o.type 9 i0 (.string ByteArray.empty) 1 16 Tryz.underlying31 hi hz0 hz1 hz2 rfl (by decide) v L.length (L.map tv) R ad 1 1 [tv u] rfl (fun j y hy=>by
  match j,hy with
  | 0,hy=>simp at hy;subst hy;exact hc) (by simp[Value.oneCell',tv]) (by unfold maxLen;omega) (by omega) hb
 unfold Oper.wp execOp
 simp only[ho,resolve,invoke,builtin,Sem.run_bind,Sem.run_pure,Result.andThen_ok,List.map_toArray,List.map_cons,List.map_nil,hs,hx,hr]
 refine hK _ _ (h v' w' ?_ h3 h5)
 unfold LRow
 rw[List.length_append,List.map_append]
 exact h2
theorem new_cell(w:World) (t:TypeId) (v:Value):(w.alloc (.cells #[v] t)).cell? ((⟨w.heap.size,0,none⟩:Addr).add 0)=some v:=news1 w t v 0 v rfl
theorem below_app{w W w':World}{v:Value}{L:List Bytes} (hB:Below w.heap.size w W) (R:LRow w.heap.size W v L) (hg:W.grownBy w' v.ownBlock):Below w.heap.size w w' :=
 hB.grown hg hB.size fun j e=>(R.lt j e).1
theorem wpList_append_run{P:Program}{ops:Array Oper}{rest:List Oper}{o:Oper}{a:Act}{w w':World}{Q:Exit→Act→World→Prop} (hgd:o.guard=none) (s x:Operand) (t u:TypeId)
  (ho:o.op=.call { callee:=.builtin .append,args := #[s,x],argTypes := #[t,u] }) (v y v':Value) (hs:a.eval s=v) (hx:a.eval x=y)
  (hr:(Builtin.append_ #[t,u] o.type #[v,y]).run P w=.ok v' w') (h:wpList P ops Q rest (a.put o.dst v') w'):wpList P ops Q (o :: rest) a w:=by
 refine wpList_plain hgd fun K hK=>?_
 unfold Oper.wp execOp
 simp only[ho,resolve,invoke,builtin,Sem.run_bind,Sem.run_pure,Result.andThen_ok,List.map_toArray,List.map_cons,List.map_nil,hs,hx,hr]
 exact hK _ _ h
def CsS(S:Nat→Prop) (w:World) (A:Option Addr) (cs:List Value):Prop:=0<cs.length→∃ b o,A=some ⟨b,o,none⟩∧S b∧b<w.heap.size∧∀ i v,cs[i]?=some v→w.cell? ⟨b,o+i,none⟩=some v
theorem CsS.keep{S S':Nat→Prop}{w w':World}{A:Option Addr}{cs:List Value} (h:CsS S w A cs) (hz:w.heap.size≤w'.heap.size) (hS:∀ b,S b→b<w.heap.size→S' b∧w'.heap[b]?=w.heap[b]?):CsS S' w' A cs:=fun h0=>by
 obtain⟨b,o,ha,hs,hb,hc⟩:=h h0
 obtain⟨h1,h2⟩:=hS b hs hb
 exact⟨b,o,ha,h1,by omega,fun i x hx=>(World.cell?_of_block (w:=w) h2).trans (hc i x hx)⟩
theorem cell_cells{w:World}{b o:Nat}{v:Value} (h:w.cell? ⟨b,o,none⟩=some v):∃ cs t fz,w.heap[b]?=some (.cells cs t fz):=by
 unfold World.cell? at h
 split at h
 ·rename_i c e f hb
  exact⟨c,e,f,hb⟩
 ·cases h
theorem CsS.keep2{S S':Nat→Prop}{w w':World}{A:Option Addr}{cs:List Value} (h:CsS S w A cs) (hz:w.heap.size≤w'.heap.size) (hS:∀ b,S b→b<w.heap.size→(∃ cs t fz,w.heap[b]?=some (.cells cs t fz))→S' b∧w'.heap[b]?=w.heap[b]?):CsS S' w' A cs:=fun h0=>by
 obtain⟨b,o,ha,hs,hb,hc⟩:=h h0
 obtain⟨h1,h2⟩:=hS b hs hb (cell_cells (hc 0 _ (List.getElem?_eq_getElem h0)))
 exact⟨b,o,ha,h1,by omega,fun i x hx=>(World.cell?_of_block (w:=w) h2).trans (hc i x hx)⟩
theorem CsS.below{S:Nat→Prop}{w w':World}{A:Option Addr}{cs:List Value} (h:CsS S w A cs) (hB:Below w.heap.size w w'):CsS S w' A cs:=h.keep hB.size fun b hs hb=>⟨hs,hB.block b hb⟩
theorem CsS.nil(S:Nat→Prop) (w:World) (A:Option Addr):CsS S w A []:=fun h=>absurd h (by simp)
abbrev Cs(w:World) (A:Option Addr) (cs:List Value):Prop:=CsS (fun _=>True) w A cs
theorem Cs.nil(w:World) (A:Option Addr):Cs w A []:=CsS.nil _ w A
structure Iv where
 f:Bool
 t:Bytes
 A:Option Addr
 n:Nat
 c:Nat
abbrev itV(f:Bool) (t:Bytes) (A:Option Addr) (n c:Nat):Value:=.agg #[.bool f,.string (bs t),.slice A n c]
abbrev Iv.val(v:Iv):Value:=itV v.f v.t v.A v.n v.c
def Iv.cells(v:Iv):List Value:=[.bool v.f,.string (bs v.t),.slice v.A v.n v.c]
def IvL(vs:List Iv):List Value:=vs.flatMap Iv.cells
theorem IvL_cons(v:Iv) (vs:List Iv):IvL (v :: vs)=.bool v.f :: .string (bs v.t) :: .slice v.A v.n v.c :: IvL vs:=rfl
theorem IvL_len(vs:List Iv):(IvL vs).length=3*vs.length:=by
 induction vs with
 | nil=>rfl
 | cons v vs ih=>rw[IvL_cons];simp only[List.length_cons,ih];omega
theorem IvL_at:∀ (vs:List Iv) (i:Nat) (v:Iv),vs[i]?=some v→(IvL vs)[3*i]?=some (.bool v.f)∧(IvL vs)[3*i+1]?=some (.string (bs v.t))∧(IvL vs)[3*i+2]?=some (.slice v.A v.n v.c)
 | [],i,v,h=>by simp at h
 | u :: vs,0,v,h=>by
  simp at h
  subst h
  rw[IvL_cons]
  simp
 | u :: vs,i+1,v,h=>by
  have ih:=IvL_at vs i v (by simpa using h)
  rw[IvL_cons,show 3*(i+1)=3*i+1+1+1 by omega,show 3*i+1+1+1+1=3*i+1+1+1+1 from rfl]
  simp only[List.getElem?_cons_succ]
  exact ih
theorem IvL_app(a b:List Iv):IvL (a ++ b)=IvL a ++ IvL b:=by simp[IvL]
inductive RepS (S:Nat→Prop) (W:World):It→Iv→Prop
 | text (b:Bytes):RepS S W (.text b) ⟨false,b,none,0,0⟩
 | list (l:List It) (A:Option Addr) (c:Nat) (vs:List Iv) (hl:vs.length=l.length) (hc:l.length≤c) (hm:c≤maxLen) (hA:CsS S W A (IvL vs)) (h:∀ (i:Nat) x v,l[i]?=some x→vs[i]?=some v→RepS S W x v):RepS S W (.list l) ⟨true,[],A,l.length,c⟩
abbrev Rep(W:World) (x:It) (v:Iv):Prop:=RepS (fun _=>True) W x v
theorem RepS.keep{S S':Nat→Prop}{W W':World}{x:It}{v:Iv} (h:RepS S W x v) (hz:W.heap.size≤W'.heap.size) (hS:∀ b,S b→b<W.heap.size→S' b∧W'.heap[b]?=W.heap[b]?):RepS S' W' x v:=by
 induction h with
 | text b=>exact .text b
 | list l A c vs hl hc hm hA h ih=>exact .list l A c vs hl hc hm (hA.keep hz hS) ih
theorem RepS.keep2{S S':Nat→Prop}{W W':World}{x:It}{v:Iv} (h:RepS S W x v) (hz:W.heap.size≤W'.heap.size) (hS:∀ b,S b→b<W.heap.size→(∃ cs t fz,W.heap[b]?=some (.cells cs t fz))→S' b∧W'.heap[b]?=W.heap[b]?):RepS S' W' x v:=by
 induction h with
 | text b=>exact .text b
 | list l A c vs hl hc hm hA h ih=>exact .list l A c vs hl hc hm (hA.keep2 hz hS) ih
theorem RepS.on{S:Nat→Prop}{W W':World}{x:It}{v:Iv} (h:RepS S W x v) (hB:Below W.heap.size W W'):RepS S W' x v:=h.keep hB.size fun b hs hb=>⟨hs,hB.block b hb⟩
theorem RepS.weak{S S':Nat→Prop}{W:World}{x:It}{v:Iv} (h:RepS S W x v) (hS:∀ b,S b→b<W.heap.size→S' b):RepS S' W x v:=h.keep (Nat.le_refl _) fun b hs hb=>⟨hS b hs hb,rfl⟩
theorem RepS.rep{S:Nat→Prop}{W:World}{x:It}{v:Iv} (h:RepS S W x v):Rep W x v:=h.weak fun _ _ _=>trivial
def RepLS(S:Nat→Prop) (W:World) (l:List It) (A:Option Addr):Prop:=∃ vs:List Iv,vs.length=l.length∧CsS S W A (IvL vs)∧∀ (i:Nat) x v,l[i]?=some x→vs[i]?=some v→RepS S W x v
abbrev RepL(W:World) (l:List It) (A:Option Addr):Prop:=RepLS (fun _=>True) W l A
theorem RepLS.keep{S S':Nat→Prop}{W W':World}{l:List It}{A:Option Addr} (h:RepLS S W l A) (hz:W.heap.size≤W'.heap.size) (hS:∀ b,S b→b<W.heap.size→S' b∧W'.heap[b]?=W.heap[b]?):RepLS S' W' l A:=by
 obtain⟨vs,h1,h2,h3⟩:=h
 exact⟨vs,h1,h2.keep hz hS,fun i x v hx hv=>(h3 i x v hx hv).keep hz hS⟩
theorem RepLS.below{S:Nat→Prop}{W W':World}{l:List It}{A:Option Addr} (h:RepLS S W l A) (hB:Below W.heap.size W W'):RepLS S W' l A:=h.keep hB.size fun b hs hb=>⟨hs,hB.block b hb⟩
theorem RepS.row{S:Nat→Prop}{W:World}{l:List It}{v:Iv} (h:RepS S W (.list l) v):v.f=true∧v.t=[]∧v.n=l.length∧l.length≤v.c∧v.c≤maxLen∧RepLS S W l v.A:=by
 cases h with
 | list _ A c vs hl hc hm hA h=>exact⟨rfl,rfl,rfl,hc,hm,vs,hl,hA,h⟩
theorem RepS.txt{S:Nat→Prop}{W:World}{b:Bytes}{v:Iv} (h:RepS S W (.text b) v):v=⟨false,b,none,0,0⟩:=by
 cases h with
 | text=>rfl
theorem RepLS.of{S:Nat→Prop}{W:World}{l:List It}{A:Option Addr} (h:RepLS S W l A) {c:Nat} (hc:l.length≤c) (hm:c≤maxLen):RepS S W (.list l) ⟨true,[],A,l.length,c⟩:=by
 obtain⟨vs,h1,h2,h3⟩:=h
 exact .list l A c vs h1 hc hm h2 h3
theorem RepLS.at{S:Nat→Prop}{W:World}{l:List It}{A:Option Addr} (h:RepLS S W l A) (i:Nat) (x:It) (hi:l[i]?=some x):∃ b o v,A=some ⟨b,o,none⟩∧b<W.heap.size∧W.cell? ⟨b,o+i*3,none⟩=some (.bool v.f)∧W.cell? ⟨b,o+i*3+1,none⟩=some (.string (bs v.t)) ∧
  W.cell? ⟨b,o+i*3+2,none⟩=some (.slice v.A v.n v.c)∧RepS S W x v:=by
 obtain⟨vs,h1,h2,h3⟩:=h
 have hlt:i<l.length:=(List.getElem?_eq_some_iff.1 hi).1
 obtain⟨b,o,hA,_,hb,hc⟩:=h2 (by rw[IvL_len];omega)
 obtain⟨e1,e2,e3⟩:=IvL_at vs i vs[i] (List.getElem?_eq_getElem (by omega))
 rw[Nat.mul_comm 3 i]at e1 e2 e3
 exact⟨b,o,vs[i],hA,hb,hc _ _ e1,by rw[Nat.add_assoc];exact hc _ _ e2,by rw[Nat.add_assoc];exact hc _ _ e3,h3 i x _ hi (List.getElem?_eq_getElem (by omega))⟩
theorem deepL_mem{y:It}{l:List It} (h:y∈l):deepI y≤deepL l:=by
 induction l with
 | nil=>cases h
 | cons x r ih =>
  rw[deepL]
  rcases List.mem_cons.1 h with h|h
  ·subst h;omega
  ·have:=ih h;omega
theorem deepL_ex{m:Nat}{l:List It} (h:m<deepL l):∃ y∈l,m<deepI y:=by
 induction l with
 | nil=>simp[deepL]at h
 | cons x r ih =>
  rw[deepL]at h
  by_cases hx:m<deepI x
  ·exact⟨x,List.mem_cons_self,hx⟩
  ·obtain⟨y,hy,hm⟩:=ih (by omega)
   exact⟨y,List.mem_cons_of_mem _ hy,hm⟩
theorem putL_mem_le{y:It}:∀ {l:List It},y∈l→(putI y).length≤(putL l).length
 | x :: r,h=>by
  rw[putL_cons,List.length_append]
  rcases List.mem_cons.1 h with h|h
  ·subst h;omega
  ·have:=putL_mem_le h;omega
end
section
open BigFrame Go.RowKit Go.Phx Go.Shelf
structure KpL (bs:List Nat) (w w':World):Prop where
 os:w'.os=w.os
 tape:w'.tape=w.tape
 output:w'.output=w.output
 size:w.heap.size≤w'.heap.size
 block:∀ k,k<w.heap.size→k∉bs→w'.heap[k]?=w.heap[k]?
section
variable {bs cs:List Nat}{w W W':World}{g i N:Nat}{u:Value}{t:TypeId}{xs:Array Value}
theorem KpL.refl(bs:List Nat) (w:World):KpL bs w w:=⟨rfl,rfl,rfl,Nat.le_refl _,fun _ _ _=>rfl⟩
theorem KpL.trans(h:KpL bs w W) (k:KpL bs W W'):KpL bs w W' :=
 ⟨k.os.trans h.os,k.tape.trans h.tape,k.output.trans h.output,Nat.le_trans h.size k.size,fun j hj hn=>(k.block j (Nat.lt_of_lt_of_le hj h.size) hn).trans (h.block j hj hn)⟩
theorem KpL.of(h:Below w.heap.size w W):KpL bs w W:=⟨h.os,h.tape,h.output,h.size,fun k hk _=>h.block k hk⟩
theorem KpL.on(h:KpL bs w W) (k:Below W.heap.size W W'):KpL bs w W':=h.trans (.of k)
theorem KpL.weak(h:KpL bs w W) (hs:∀ k∈bs,k<w.heap.size→k∈cs):KpL cs w W:=⟨h.os,h.tape,h.output,h.size,fun k hk hn=>h.block k hk fun hb=>hn (hs k hb hk)⟩
theorem KpL.below(h:KpL bs w W) {n:Nat} (hn:n≤w.heap.size) (hb:∀ k∈bs,n≤k):Below n w W:=⟨h.os,h.tape,h.output,h.size,fun k hk=>h.block k (by omega) fun hm=>by have:=hb k hm;omega⟩
theorem KpL.alloc(h:KpL bs w W) (o:Obj):KpL bs w (W.alloc o):=h.on ((Below.refl _ W).alloc (Nat.le_refl _) _)
theorem KpL.drew(h:KpL bs w W):KpL bs w W.drew:=h.on ((Below.refl _ W).drew)
theorem KpL.set(h:KpL bs w W) (hg:g∈bs∨w.heap.size≤g):KpL bs w (W.setCell ⟨g,i,none⟩ u):=by
 have hB:Below g W (W.setCell ⟨g,i,none⟩ u):=Below.setCell (Below.refl g W) (p:=⟨g,i,none⟩) (Nat.le_refl g) u
 refine⟨hB.os.trans h.os,hB.tape.trans h.tape,hB.output.trans h.output,Nat.le_trans h.size hB.size,fun k hk hn=>?_⟩
 rw[Below.heap_setCell W ⟨g,i,none⟩ u k (fun e=>?_)]
 ·exact h.block k hk hn
 ·subst e
  rcases hg with hg|hg
  ·exact hn hg
  ·exact absurd hk (by simpa using hg)
theorem KpL.row(h:KpL bs w W) (hg:g∈bs∨w.heap.size≤g) (hgl:g≤W.heap.size):KpL bs w (setRow W g t xs):=by
 have G:=grown_row W g t xs
 have hB:Below g W (setRow W g t xs):=Below.row (Below.refl g W) (Nat.le_refl _) hgl
 refine⟨hB.os.trans h.os,hB.tape.trans h.tape,hB.output.trans h.output,Nat.le_trans h.size hB.size,fun k hk hn=>?_⟩
 rw[G.block k (Nat.lt_of_lt_of_le hk h.size) (fun e=>?_)]
 ·exact h.block k hk hn
 ·injection e with e
  subst e
  rcases hg with hg|hg
  ·exact hn hg
  ·omega
theorem Blk.kp(h:Blk w g t xs) (k:KpL bs w W) (hg:g∉bs):Blk W g t xs:=(k.block g h.lt hg).trans h
theorem RepLS.kp{l:List It}{A:Option Addr} (h:RepLS (fun b=>b<N) w l A) (k:KpL bs w W) (hN:∀ b∈bs,N≤b):RepLS (fun b=>b<N) W l A:=h.keep k.size fun b hb hl=>⟨hb,k.block b hl fun hm=>by have:=hN b hm;omega⟩
theorem RepS.kp{x:It}{v:Iv} (h:RepS (fun b=>b<N) w x v) (k:KpL bs w W) (hN:∀ b∈bs,N≤b):RepS (fun b=>b<N) W x v:=h.keep k.size fun b hb hl=>⟨hb,k.block b hl fun hm=>by have:=hN b hm;omega⟩
end
end
section
open Go.RowKit Go.Shelf
def SeqSt{α σ:Type} (F:Fence) (n:Nat) (P:Program) (g:Nat) (lb:Array Value) (encs:α→Array Value) (At:List α→α→σ→World→Prop)
  (Kp:σ→World→World→Prop) (Ab:σ→World→σ→World→Prop) (x0:σ) (S Sp:List α→Prop) (w:World):Prop :=
 ∀ (l:Nat) (J Jx:List α→σ→World→Prop) (W:World),Below w.heap.size w W →
  (∀ s x A y B,J s x A→Ab x A y B→J s y B)→(∀ s x A y B,Jx s x A→Ab x A y B→Jx s y B) →
  (∀ pre y x A,J pre x A→At pre y x A→YieldAt F (n - 1) P l (encs y) A fun e B =>
   (e=.returned (.bool true)∧J (pre ++ [y]) x B∧Kp x A B)∨(e=.returned (.bool false)∧Jx (pre ++ [y]) x B)) →
  J [] x0 W →
  CallsIn F n P g (#[.func (.yield l) #[] #[]] ++ lb) W fun e B=>(∃ v,e=.returned v)∧((∃ xs x,S xs∧J xs x B)∨(∃ pre x,Sp pre∧Jx pre x B))
theorem wpIn_rangeFunc_st{α σ:Type}{F:Fence}{n:Nat}{P:Program}{g:Operand}{ps:Array Tmp}{assign body:Code}{Q:Exit→Act→World→Prop}{a:Act}{w:World}
  (hro:F.round=none) (h1:1≤n) {gf:Nat}{lb:Array Value} (hg:a.eval g=.func (.func gf) #[] lb) (hFg:F.fn gf) (eg:∀ args w,(callFunc gf args).run P w=.ok (.enter gf args) w)
  {encs:α→Array Value}{At:List α→α→σ→World→Prop}{Kp:σ→World→World→Prop}{Ab:σ→World→σ→World→Prop}{x0:σ}{S Sp:List α→Prop}
  (hseq:SeqSt F (n - 1) P gf lb encs At Kp Ab x0 S Sp w) (hps:∀ y,(encs y).size=ps.size)
  (hKt:∀ x A B C,Kp x A B→Kp x B C→Kp x A C) (hKb:∀ x (W:World) (l:Nat) (o o':Obj),w.heap.size≤l→W.heap[l]?=some o→o.isCells=false→o.isWalk=false→Kp x W (W.putObj l o'))
  (hAb:∀ x (A:World) y (B:World) (k:Nat) (o:Obj),Ab x A y B→w.heap.size≤k→A.heap[k]?=some o→o.isCells=false→o.isWalk=false→B.heap[k]?=some o)
  (hAt:∀ pre y x (W:World) (l:Nat) (o o':Obj),At pre y x W→w.heap.size≤l→W.heap[l]?=some o→o.isCells=false→At pre y x (W.putObj l o'))
  (I:List α→σ→World→Prop) (Ix:Code→List α→σ→World→Prop) (hI:∀ x,OwnFrom w.heap.size fun s W=>I s x W) (hIx:∀ c x,OwnFrom w.heap.size fun s W=>Ix c s x W)
  (hIA:∀ s x A y B,I s x A→Ab x A y B→I s y B) (hIxA:∀ c s x A y B,Ix c s x A→Ab x A y B→Ix c s y B)
  (h0:I [] x0 w) (a₁:α→Act)
  (hassign:∀ (l:Nat) (y:α) (W:World) (K:Act→World→Prop),K (a₁ y) W →
   assign.wpIn (F.inRound l) (n - 1 - 1) P (Exit.then K (fun _ _ _=>False)) { tmps:=(ps.zip (encs y)).foldl (fun t (p,v)=>t.setIfInBounds p v) a.tmps,defers:=[] } W)
  (hbody:∀ (l:Nat) (pre:List α) (y:α) (x:σ) (W:World),I pre x W→At pre y x W →
   body.wpIn (F.inRound l) (n - 1 - 1) P (ownPostK (Kp x) (fun s W=>I s x W) (fun c s W=>Ix c s x W) (pre ++ [y]) W) (a₁ y) W)
  (hdone:∀ (D:Nat) (xs:List α) (x:σ) (W:World),w.heap.size≤D→S xs→I xs x W→W.heap[D]?=some (.deferred (some []))→Q .normal { a with defers:={ target:=.collected D,args := #[] } :: a.defers } W)
  (hstop:∀ (D:Nat) (c:Code) (pre:List α) (x:σ) (W:World),w.heap.size≤D→Sp pre→Ix c pre x W→W.heap[D]?=some (.deferred (some []))→c.wpIn F n P Q { a with defers:={ target:=.collected D,args := #[] } :: a.defers } W) :
  (Code.rangeFunc g ps assign body).wpIn F n P Q a w:=by
 refine wpIn_rangeFunc fun fn hfn=>?_
 rw[hro]
 obtain⟨rec,hrec⟩:∃ rec:LoopState→Option Code→Loop,rec=fun st pe=>{ state:=st,pending:=pe,fn,tmps:=a.tmps,params:=ps,assign,body,defers:=w.heap.size }:=⟨_,rfl⟩
 obtain⟨V,hV⟩:∃ V,(w.alloc (.deferred (some []))).alloc (.loop (rec .ready none))=V:=⟨_,rfl⟩
 have hLV:V.heap[w.heap.size+1]?=some (.loop (rec .ready none)):=by
  rw[←hV]
  have:=World.alloc_heap_new (w.alloc (.deferred (some []))) (.loop (rec .ready none))
  rwa [World.size_alloc]at this
 have hDV:V.heap[w.heap.size]?=some (.deferred (some [])):=by
  rw[←hV]
  exact(Below.heap_alloc _ _ _ (by simp)).trans (World.alloc_heap_new w _)
 have hIV:I [] x0 V:=by rw[←hV];exact(hI x0).alloc _ ((hI x0).alloc _ h0)
 have hBV:Below w.heap.size w V:=by rw[←hV];exact((Below.refl _ w).alloc (Nat.le_refl _) _).alloc (by simp) _
 let J:List α→σ→World→Prop:=fun s x W=>I s x W∧W.heap[w.heap.size+1]?=some (.loop (rec .ready none))∧W.heap[w.heap.size]?=some (.deferred (some []))
 let Jx:List α→σ→World→Prop:=fun s x W=>∃ c,Ix c s x W∧W.heap[w.heap.size+1]?=some (.loop (rec .done (some c)))∧W.heap[w.heap.size]?=some (.deferred (some []))
 have hJ:∀ s x A y B,J s x A→Ab x A y B→J s y B:=fun s x A y B h hab=>⟨hIA _ _ _ _ _ h.1 hab,hAb _ _ _ _ _ _ hab (by omega) h.2.1 rfl rfl,hAb _ _ _ _ _ _ hab (Nat.le_refl _) h.2.2 rfl rfl⟩
 have hJx:∀ s x A y B,Jx s x A→Ab x A y B→Jx s y B:=fun s x A y B h hab=>by
  obtain⟨c,h1,h2,h3⟩:=h
  exact⟨c,hIxA _ _ _ _ _ _ h1 hab,hAb _ _ _ _ _ _ hab (by omega) h2 rfl rfl,hAb _ _ _ _ _ _ hab (Nat.le_refl _) h3 rfl rfl⟩
 have round:∀ pre y x A,J pre x A→At pre y x A→YieldAt F (n - 1 - 1) P (w.heap.size+1) (encs y) A fun e B =>
   (e=.returned (.bool true)∧J (pre ++ [y]) x B∧Kp x A B)∨(e=.returned (.bool false)∧Jx (pre ++ [y]) x B):=by
  rintro pre y x W ⟨hi,hl,hk⟩ hat
  have hlt:w.heap.size+1<W.heap.size:=(Array.getElem?_eq_some_iff.1 hl).1
  have hy:=run_yield (P:=P) (args:=encs y) hl (by rw[hrec];exact hps y)
  rw[hrec]at hy
  refine⟨fn,_,assign,body,hy,roundIn_of_wpIn hfn (hassign _ y W _ ⟨_,run_beginRound hl (by rw[hrec]),?_⟩)⟩
  have hl2:(W.putObj (w.heap.size+1) (.loop { rec .ready none with state:=.busy })).heap[w.heap.size+1]?=some (.loop { rec .ready none with state:=.busy }):=World.putObj_heap_same hlt
  have hk2:(W.putObj (w.heap.size+1) (.loop { rec .ready none with state:=.busy })).heap[w.heap.size]?=some (.deferred (some [])):=(World.putObj_heap_other (by omega)).trans hk
  have hw2:Kp x W (W.putObj (w.heap.size+1) (.loop { rec .ready none with state:=.busy })):=hKb _ _ _ _ _ (by omega) hl rfl rfl
  refine wpIn_mono (hbody _ pre y x _ ((hI x).putObj _ hi (by omega) hl rfl) (hAt _ _ _ _ _ _ _ hat (by omega) hl rfl)) ?_
  have fin:∀ (jump:Option Code) (W3:World),KeepsOthers (W.putObj (w.heap.size+1) (.loop { rec .ready none with state:=.busy })) W3 →
    (Instr.endRound (w.heap.size+1) jump).run P W3=.ok (.bool jump.isNone) (W3.putObj (w.heap.size+1) (.loop (rec (if jump.isNone then .ready else .done) jump))) ∧
    W3.heap[w.heap.size+1]?=some (.loop { rec .ready none with state:=.busy }) ∧
    (W3.putObj (w.heap.size+1) (.loop (rec (if jump.isNone then .ready else .done) jump))).heap[w.heap.size+1]?=some (.loop (rec (if jump.isNone then .ready else .done) jump)) ∧
    (W3.putObj (w.heap.size+1) (.loop (rec (if jump.isNone then .ready else .done) jump))).heap[w.heap.size]?=some (.deferred (some [])):=fun jump W3 hk3=>by
   have hl3:=hk3.same _ _ hl2 rfl
   have h4:=run_endRound (P:=P) jump hl3
   rw[hrec]at h4 ⊢
   exact⟨h4,by rw[hrec]at hl3;exact hl3,World.putObj_heap_same (Array.getElem?_eq_some_iff.1 hl3).1,(World.putObj_heap_other (by omega)).trans (hk3.same _ _ hk2 rfl)⟩
  rintro e a3 W3 hp
  cases e with
  | normal =>
   obtain⟨hk3,hkp3,hi3⟩:=hp
   obtain⟨hr,hl3,hl4,hk4⟩:=fin none W3 hk3
   exact⟨_,_,hr,.inl ⟨rfl,⟨(hI x).putObj _ hi3 (by omega) hl3 rfl,hl4,hk4⟩,hKt _ _ _ _ (hKt _ _ _ _ hw2 hkp3) (hKb _ _ _ _ _ (by omega) hl3 rfl rfl)⟩⟩
  | ret =>
   obtain⟨hr,hl3,hl4,hk4⟩:=fin (some .ret) W3 hp.1
   exact⟨_,_,hr,.inr ⟨rfl,.ret,(hIx _ x).putObj _ hp.2 (by omega) hl3 rfl,hl4,hk4⟩⟩
  | exit id =>
   obtain⟨hr,hl3,hl4,hk4⟩:=fin (some (.exit id)) W3 hp.1
   exact⟨_,_,hr,.inr ⟨rfl,.exit id,(hIx _ x).putObj _ hp.2 (by omega) hl3 rfl,hl4,hk4⟩⟩
  | goto t =>
   obtain⟨hr,hl3,hl4,hk4⟩:=fin (some (.goto t)) W3 hp.1
   exact⟨_,_,hr,.inr ⟨rfl,.goto t,(hIx _ x).putObj _ hp.2 (by omega) hl3 rfl,hl4,hk4⟩⟩
  | panic ch=>exact hp.elim
  | outgrown=>exact hp.elim
 refine⟨w.heap.size+1,[{ target:=.collected w.heap.size,args := #[] }],V,{ target:=.fn (.func gf) lb,args := #[.func (.yield (w.heap.size+1)) #[] #[]] },V,gf,
  #[.func (.yield (w.heap.size+1)) #[] #[]] ++ lb,V,?_,?_,?_,?_,fun _=>h1,?_⟩
 ·rw[←hV,hrec];exact run_enterLoop_outer _ _ _ _ _
 ·simp only[resolve,hg]
  simp[go_sem]
 ·intro f' hf'
  simp[Target.leads]at hf'
  subst hf'
  exact hFg
 ·simp[invoke,go_sem,eg]
 refine(hseq (w.heap.size+1) J Jx V hBV hJ hJx round ⟨hIV,hLV,hDV⟩).mono ?_
 rintro e W2 ⟨⟨v,rfl⟩,(⟨xs,x,hS,hi,hl,hk⟩|⟨pre,x,hSp,c,hi,hl,hk⟩)⟩
 ·exact⟨none,_,by have:=run_endLoop (P:=P) hl (by rw[hrec];simp);rw[hrec]at this;exact this,hdone _ xs x _ (Nat.le_refl _) hS ((hI x).putObj _ hi (by omega) hl rfl) ((World.putObj_heap_other (by omega)).trans hk)⟩
 ·exact⟨some c,_,by have:=run_endLoop (P:=P) hl (by rw[hrec];simp);rw[hrec]at this;exact this,hstop _ c pre x _ (Nat.le_refl _) hSp ((hIx c x).putObj _ hi (by omega) hl rfl) ((World.putObj_heap_other (by omega)).trans hk)⟩
end
section
open BigFrame Go.RowKit Go.Phx Go.Shelf
attribute [local go_sem] Oper.semAt_some
theorem ix8_0(x0 x1 x2 x3 x4 x5 x6 x7:Value) (w:World):(Instr.index 176 (.agg #[x0,x1,x2,x3,x4,x5,x6,x7]) (.int .i64 0)).run Tryz.prog w=.ok x0 w:=by
 have hd:Tryz.prog.underlying 176 = some (.array 8 175):=by kernel_rfl
 simp[go_sem,Instr.index,hd]
theorem ix8_1(x0 x1 x2 x3 x4 x5 x6 x7:Value) (w:World):(Instr.index 176 (.agg #[x0,x1,x2,x3,x4,x5,x6,x7]) (.int .i64 1)).run Tryz.prog w=.ok x1 w:=by
 have hd:Tryz.prog.underlying 176 = some (.array 8 175):=by kernel_rfl
 simp[go_sem,Instr.index,hd]
theorem ix8_2(x0 x1 x2 x3 x4 x5 x6 x7:Value) (w:World):(Instr.index 176 (.agg #[x0,x1,x2,x3,x4,x5,x6,x7]) (.int .i64 2)).run Tryz.prog w=.ok x2 w:=by
 have hd:Tryz.prog.underlying 176 = some (.array 8 175):=by kernel_rfl
 simp[go_sem,Instr.index,hd]
theorem ix8_3(x0 x1 x2 x3 x4 x5 x6 x7:Value) (w:World):(Instr.index 176 (.agg #[x0,x1,x2,x3,x4,x5,x6,x7]) (.int .i64 3)).run Tryz.prog w=.ok x3 w:=by
 have hd:Tryz.prog.underlying 176 = some (.array 8 175):=by kernel_rfl
 simp[go_sem,Instr.index,hd]
theorem ix8_4(x0 x1 x2 x3 x4 x5 x6 x7:Value) (w:World):(Instr.index 176 (.agg #[x0,x1,x2,x3,x4,x5,x6,x7]) (.int .i64 4)).run Tryz.prog w=.ok x4 w:=by
 have hd:Tryz.prog.underlying 176 = some (.array 8 175):=by kernel_rfl
 simp[go_sem,Instr.index,hd]
theorem ix8_5(x0 x1 x2 x3 x4 x5 x6 x7:Value) (w:World):(Instr.index 176 (.agg #[x0,x1,x2,x3,x4,x5,x6,x7]) (.int .i64 5)).run Tryz.prog w=.ok x5 w:=by
 have hd:Tryz.prog.underlying 176 = some (.array 8 175):=by kernel_rfl
 simp[go_sem,Instr.index,hd]
theorem ix8_6(x0 x1 x2 x3 x4 x5 x6 x7:Value) (w:World):(Instr.index 176 (.agg #[x0,x1,x2,x3,x4,x5,x6,x7]) (.int .i64 6)).run Tryz.prog w=.ok x6 w:=by
 have hd:Tryz.prog.underlying 176 = some (.array 8 175):=by kernel_rfl
 simp[go_sem,Instr.index,hd]
theorem ix8_7(x0 x1 x2 x3 x4 x5 x6 x7:Value) (w:World):(Instr.index 176 (.agg #[x0,x1,x2,x3,x4,x5,x6,x7]) (.int .i64 7)).run Tryz.prog w=.ok x7 w:=by
 have hd:Tryz.prog.underlying 176 = some (.array 8 175):=by kernel_rfl
 simp[go_sem,Instr.index,hd]
attribute [local go_sem] ix8_0 ix8_1 ix8_2 ix8_3 ix8_4 ix8_5 ix8_6 ix8_7
theorem take_calls(b:Nat) (v:St) (s:ByteArray) (hs:s.size=64) (w:World) (hk:HasK w) (hb:Blk w b 176 (cS v)) (hne:b ≠ 0) :
  Calls Tryz.prog 101 #[.pointer (some ⟨b,0,none⟩),.string s] w (Wrote w b 176 (cS (takeB v s.data.toList))):=by
 have hidx:=index_at s
 obtain⟨l,hl⟩:∃ l,s.data.toList=l:=⟨_,rfl⟩
 have hll:l.length=64:=by rw[←hl];simpa using hs
 rw[hl]at hidx ⊢
 clear hl
 have hx0:∀ k:Nat,k<64→∀ w,(Instr.index 9 (.string s) (.int .i64 (k:Int))).run Tryz.prog w=.ok (.int .u8 (vw (bw (l.getD k 0)))) w:=fun k hk=>hidx k (by omega) (by omega)
 clear hidx hs
 have hF1:=Z (firstW_all l hll)
 replace hll:=Z hll
 have KH:=Z hb
 have hbl:=hb.lt
 have HK:=Z hk
 have hkl:=hk.2
 clear hb hk
 have hTB:takeB v l=v.add (roundW v (moreW l 48) 64):=by
  rw[roundW_all _ _ (moreW_len l 48 (by decide)),moreW_all]
  rfl
 rw[hTB]
 clear hTB
 go_enter Tryz.func101, Tryz.ntmps101
 go_wp2_with fail
 go_loopw [22,5] (fun i j wr=>∃ k:Nat,k≤64∧i=.int .i64 k∧Blk wr w.heap.size 223 (cw (firstW l k))∧Below w.heap.size w wr)
  (fun i _ _=>(64 - intOf i).toNat)
 case atStart=>exact⟨0,Nat.zero_le _,rfl,Blk.to (Blk.new0 _ _ _) rfl,bel⟩
 case round =>
  obtain⟨k,hk,rfl,K0,HB⟩:=hrel
  by_cases hlt:k<64
  ·have HX:=hx0 k hlt
   have hlen:=firstW_len l k
   have g0:=cw_get (L:=firstW l k) (i:=k / 4) (by omega)
   have v1:=vw_nonneg (bw (l.getD k 0))
   have v2:=bw_lt (l.getD k 0)
   have e1:=shl_w' ((firstW l k).getD (k / 4) 0) 8 256 rfl
   have HS:=(show firstW l (k+1)=(firstW l k).set (k / 4) ((firstW l k).getD (k / 4) 0 <<< 8 ||| bw (l.getD k 0)) from rfl)
   have hc:=cw_set (firstW l k) (k / 4) ((firstW l k).getD (k / 4) 0 <<< 8 ||| bw (l.getD k 0))
   rw[←HS]at hc
   replace hc:=Z hc
   clear hlen HS
   generalize(firstW l k).getD (k / 4) 0=x at *
   generalize firstW l k=L at *
   generalize bw (l.getD k 0)=c at *
   clear hx0 hF1
   replace K0:=Z K0
   (obtain⟨k0,f0,l0,m0⟩:=rl_ K0)
   go_wp2_with fail
   (refine wp_region_later_tail 13 U U ?_;simp only[List.take_succ_cons,List.take_zero,List.drop_succ_cons,List.drop_zero];(repeat(go_big_quiet_step (fail)));refine wpQuiet_nil ?_;intro w' hB)
   (replace HB:Below w.heap.size w w':=Below.on hB bel;replace K0:=hkJ K0.out hB;(try simp only[sB,sC,sD]at K0);clear k0 f0 l0 m0 hB;have HZw':=HB.size;obtain⟨k0,f0,l0,m0⟩:=rl_ K0)
   go_wp2_with fail
   go_roundw
   case rel=>exact⟨k+1,by omega,by go_num,by rw[←hc.out];exact K0.out.set_ _ _,bel⟩
   case measure=>simp[intOf];omega
  ·obtain rfl:k=64:=by omega
   rw[hF1.out]at K0
   simp only[show((64:Nat):Int)=64 from rfl]
   change Blk wr _ _ (cw (moreW l 0)) at K0
   clear hx0 hF1
   go_wp2_with fail
   go_loopw [6] (fun i wr2=>∃ k:Nat,k≤48∧i=.int .i64 ((k:Int)+16)∧Blk wr2 w.heap.size 223 (cw (moreW l k))∧Below w.heap.size w wr2)
    (fun i _=>(64 - intOf i).toNat)
   case atStart=>exact⟨0,Nat.zero_le _,rfl,K0,HB⟩
   case round =>
    clear K0 HB
    obtain⟨k,hk,rfl,K0,HB⟩:=hrel
    by_cases hlt:k<48
    ·have HN:=moreW_next l k hlt
     have hlen:=moreW_len l k hk
     have hc:=cw_set (moreW l k) (k+16) ((moreW l k).getD k 0+(moreW l k).getD (k+9) 0+sig0 ((moreW l k).getD (k+1) 0)+sig1 ((moreW l k).getD (k+14) 0))
     rw[←HN]at hc
     have g0:=cw_get (L:=moreW l k) (i:=k) (by omega)
     have g9:=cw_get (L:=moreW l k) (i:=k+9) (by omega)
     have g1:=cw_get (L:=moreW l k) (i:=k+1) (by omega)
     have g14:=cw_get (L:=moreW l k) (i:=k+14) (by omega)
     have g16:=cw_get (L:=moreW l k) (i:=k+16) (by omega)
     clear HN hlen
     generalize(moreW l k).getD k 0=x0 at *
     generalize(moreW l k).getD (k+9) 0=x9 at *
     generalize(moreW l k).getD (k+1) 0=x1 at *
     generalize(moreW l k).getD (k+14) 0=x14 at *
     generalize(moreW l k).getD (k+16) 0=x16 at *
     generalize moreW l k=L at *
     have g9':=g9
     rw[show k+9=k+16 - 7 from rfl]at g9'
     have g1':=g1
     rw[show k+1=k+16 - 15 from rfl]at g1'
     have g14':=g14
     rw[show k+14=k+16 - 2 from rfl]at g14'
     replace hc:=Z hc
     have e1:=shr_w x1 3 8 rfl
     have e2:=shr_w x14 10 1024 rfl
     replace K0:=Z K0
     (obtain⟨k0,f0,l0,m0⟩:=rl_ K0)
     go_wp2_with fail
     (refine wp_region_later U U ?_;(repeat(go_big_quiet_step (fail)));refine wpQuiet_nil ?_;intro w' hB)
     (replace HB:Below w.heap.size w w':=Below.on hB bel;replace K0:=hkJ K0.out hB;(try simp only[sB,sC,sD]at K0);clear k0 f0 l0 m0 hB;have HZw':=HB.size;obtain⟨k0,f0,l0,m0⟩:=rl_ K0)
     go_wp2_with fail
     (refine wp_region_later_tail 29 U U ?_;simp only[List.take_succ_cons,List.take_zero,List.drop_succ_cons,List.drop_zero];(repeat(go_big_quiet_step ((go_at_call 140; with_reducible exact lw (turn_of _ _ (by decide) _)))));refine wpQuiet_nil ?_;intro w' hB)
     (replace HB:Below w.heap.size w w':=Below.on hB bel;replace K0:=hkJ K0.out hB;(try simp only[sB,sC,sD]at K0);clear k0 f0 l0 m0 hB;have HZw':=HB.size;obtain⟨k0,f0,l0,m0⟩:=rl_ K0)
     go_wp2_with fail
     go_roundw
     case rel=>exact⟨k+1,by omega,by congr 1 <;> omega,by rw[←hc.out];exact K0.out.set_ _ _,bel⟩
     case measure=>simp[intOf];omega
    ·obtain rfl:k=48:=by omega
     simp only[show((48:Nat):Int)+16=64 from rfl]
     have hlen:=moreW_len l 48 (by decide)
     have HR:=fun k hk=>roundW_succ v (moreW l 48) hlen k hk
     have hg:=fun(i:Nat) (hi:i<64)=>cw_get (L:=moreW l 48) (i:=i) (by omega)
     generalize moreW l 48=L at *
     clear hlen
     have K1:=KH.out.on HB hbl
     unfold cS at K1
     replace K1:=Z K1
     have HK1:=HK.out.from HB hkl
     replace K0:=Z K0
     (obtain⟨k0,f0,l0,m0⟩:=rl_ K0;obtain⟨k1,f1,l1,m1⟩:=rl_ K1)
     go_wp2_with fail
     (refine wp_region_later U U ?_;(repeat(go_big_quiet_step (fail)));refine wpQuiet_nil ?_;intro w' hB)
     have HK2:=Z (HK1.on hB)
     clear HK1
     (replace HB:Below w.heap.size w w':=Below.on hB bel;replace K0:=hkJ K0.out hB;replace K1:=hkJ K1.out hB;(try simp only[sB,sC,sD]at K0 K1);clear k0 f0 l0 m0 k1 f1 l1 m1 hB;have HZw':=HB.size;obtain⟨k0,f0,l0,m0⟩:=rl_ K0;obtain⟨k1,f1,l1,m1⟩:=rl_ K1)
     go_wp2_with fail
     go_loopw [9,10,11,12,13,14,15,16,112] (fun a1 b1 c1 d1 e1 f1 g1 h1 i wr3=>∃ (k:Nat) (u:St),k≤64∧u=roundW v L k∧i=.int .i64 k∧a1=.int .u32 (vw u.a)∧b1=.int .u32 (vw u.b)∧c1=.int .u32 (vw u.c)∧d1=.int .u32 (vw u.d)∧e1=.int .u32 (vw u.e)∧f1=.int .u32 (vw u.f)∧g1=.int .u32 (vw u.g)∧h1=.int .u32 (vw u.h) ∧
       Blk wr3 w.heap.size 223 (cw L)∧Below w.heap.size w wr3)
      (fun _ _ _ _ _ _ _ _ i _=>(64 - intOf i).toNat)
     case atStart=>exact⟨0,v,Nat.zero_le _,rfl,rfl,rfl,rfl,rfl,rfl,rfl,rfl,rfl,rfl,K0.out,HB⟩
     case round =>
      clear K0 K1 k0 f0 l0 m0 k1 f1 l1 m1 HB HZw' HK2
      obtain⟨k,u,hk,hu,rfl,rfl,rfl,rfl,rfl,rfl,rfl,rfl,rfl,K0,HB⟩:=hrel
      by_cases hlt:k<64
      ·have HS:=HR k hlt
       rw[←hu]at HS
       have hgk:=hg k hlt
       have HK1:=HK.out.from HB hkl
       have hkk:=HK1.1 k hlt
       have hk0:=HK1.2
       clear HR hg HK1 hu
       generalize L.getD k 0=y at *
       generalize kTab.getD k 0=kk at *
       replace HS:=Z HS
       replace K0:=Z K0
       (obtain⟨k0,f0,l0,m0⟩:=rl_ K0)
       go_wp2_with fail
       (refine wp_region_later U U ?_;(repeat(go_big_quiet_step ((go_at_call 140; with_reducible exact lw (turn_of _ _ (by decide) _)))));refine wpQuiet_nil ?_;intro w' hB)
       (replace HB:Below w.heap.size w w':=Below.on hB bel;replace K0:=hkJ K0.out hB;(try simp only[sB,sC,sD]at K0);clear k0 f0 l0 m0 hB;have HZw':=HB.size;obtain⟨k0,f0,l0,m0⟩:=rl_ K0)
       go_wp2_with fail
       refine(turn_of _ _ (by decide) _).mono ?_
       rintro e w' ⟨rfl,rfl⟩
       go_wp2_with fail
       refine(turn_of _ _ (by decide) _).mono ?_
       rintro e w' ⟨rfl,rfl⟩
       go_wp2_with fail
       refine(turn_of _ _ (by decide) _).mono ?_
       rintro e w' ⟨rfl,rfl⟩
       go_wp2_with fail
       go_roundw
       case rel=>exact⟨k+1,rnd u kk y,by omega,HS.out.symm,by congr 1 <;> omega,rfl,rfl,rfl,rfl,rfl,rfl,rfl,rfl,K0.out,HB⟩
       case measure=>simp[intOf];omega
      ·obtain rfl:k=64:=by omega
       have HU:=Z hu
       clear hu HR hg
       have K1:=KH.out.on HB hbl
       have G:=grown_of (b:=b) HB
       clear KH HK K0 HB
       unfold cS at K1
       replace K1:=Z K1
       go_wp2_with fail
       refine wp_loop_rounds 9 ?_
       rw[rounds_succ]
       (obtain⟨k1,f1,l1,m1⟩:=rl_ K1)
       go_wp2_with fail
       (refine wp_region_later_tail 9 U U ?_;simp only[List.take_succ_cons,List.take_zero,List.drop_succ_cons,List.drop_zero];(repeat(go_big_quiet_step (fail)));refine wpQuiet_nil ?_;intro w' hB)
       clear k1 f1 l1 m1
       replace K1:=Z (K1.out.below hB)
       replace G:=grown_on G hB
       clear hB
       (obtain⟨k1,f1,l1,m1⟩:=rl_ K1)
       go_wp2_with fail
       clear k1 f1 l1 m1
       replace K1:=Z (K1.out.set_ 0 (.int .u32 (vw (v.a+u.a))))
       replace G:=grown_set (i:=0) (u:=.int .u32 (vw (v.a+u.a))) G
       simp only[sB,sC,sD]at K1
       generalize w'.setCell ⟨b,0,none⟩ (.int .u32 (vw (v.a+u.a)))=v0 at K1 G ⊢
       rw[rounds_succ]
       (obtain⟨k1,f1,l1,m1⟩:=rl_ K1)
       go_wp2_with fail
       (refine wp_region_later_tail 9 U U ?_;simp only[List.take_succ_cons,List.take_zero,List.drop_succ_cons,List.drop_zero];(repeat(go_big_quiet_step (fail)));refine wpQuiet_nil ?_;intro w' hB)
       clear k1 f1 l1 m1
       replace K1:=Z (K1.out.below hB)
       replace G:=grown_on G hB
       clear hB
       (obtain⟨k1,f1,l1,m1⟩:=rl_ K1)
       go_wp2_with fail
       clear k1 f1 l1 m1
       replace K1:=Z (K1.out.set_ 1 (.int .u32 (vw (v.b+u.b))))
       replace G:=grown_set (i:=1) (u:=.int .u32 (vw (v.b+u.b))) G
       simp only[sB,sC,sD]at K1
       generalize w'.setCell ⟨b,1,none⟩ (.int .u32 (vw (v.b+u.b)))=v1 at K1 G ⊢
       rw[rounds_succ]
       (obtain⟨k1,f1,l1,m1⟩:=rl_ K1)
       go_wp2_with fail
       (refine wp_region_later_tail 9 U U ?_;simp only[List.take_succ_cons,List.take_zero,List.drop_succ_cons,List.drop_zero];(repeat(go_big_quiet_step (fail)));refine wpQuiet_nil ?_;intro w' hB)
       clear k1 f1 l1 m1
       replace K1:=Z (K1.out.below hB)
       replace G:=grown_on G hB
       clear hB
       (obtain⟨k1,f1,l1,m1⟩:=rl_ K1)
       go_wp2_with fail
       clear k1 f1 l1 m1
       replace K1:=Z (K1.out.set_ 2 (.int .u32 (vw (v.c+u.c))))
       replace G:=grown_set (i:=2) (u:=.int .u32 (vw (v.c+u.c))) G
       simp only[sB,sC,sD]at K1
       generalize w'.setCell ⟨b,2,none⟩ (.int .u32 (vw (v.c+u.c)))=v2 at K1 G ⊢
       rw[rounds_succ]
       (obtain⟨k1,f1,l1,m1⟩:=rl_ K1)
       go_wp2_with fail
       (refine wp_region_later_tail 9 U U ?_;simp only[List.take_succ_cons,List.take_zero,List.drop_succ_cons,List.drop_zero];(repeat(go_big_quiet_step (fail)));refine wpQuiet_nil ?_;intro w' hB)
       clear k1 f1 l1 m1
       replace K1:=Z (K1.out.below hB)
       replace G:=grown_on G hB
       clear hB
       (obtain⟨k1,f1,l1,m1⟩:=rl_ K1)
       go_wp2_with fail
       clear k1 f1 l1 m1
       replace K1:=Z (K1.out.set_ 3 (.int .u32 (vw (v.d+u.d))))
       replace G:=grown_set (i:=3) (u:=.int .u32 (vw (v.d+u.d))) G
       simp only[sB,sC,sD]at K1
       generalize w'.setCell ⟨b,3,none⟩ (.int .u32 (vw (v.d+u.d)))=v3 at K1 G ⊢
       rw[rounds_succ]
       (obtain⟨k1,f1,l1,m1⟩:=rl_ K1)
       go_wp2_with fail
       (refine wp_region_later_tail 9 U U ?_;simp only[List.take_succ_cons,List.take_zero,List.drop_succ_cons,List.drop_zero];(repeat(go_big_quiet_step (fail)));refine wpQuiet_nil ?_;intro w' hB)
       clear k1 f1 l1 m1
       replace K1:=Z (K1.out.below hB)
       replace G:=grown_on G hB
       clear hB
       (obtain⟨k1,f1,l1,m1⟩:=rl_ K1)
       go_wp2_with fail
       clear k1 f1 l1 m1
       replace K1:=Z (K1.out.set_ 4 (.int .u32 (vw (v.e+u.e))))
       replace G:=grown_set (i:=4) (u:=.int .u32 (vw (v.e+u.e))) G
       simp only[sB,sC,sD]at K1
       generalize w'.setCell ⟨b,4,none⟩ (.int .u32 (vw (v.e+u.e)))=v4 at K1 G ⊢
       rw[rounds_succ]
       (obtain⟨k1,f1,l1,m1⟩:=rl_ K1)
       go_wp2_with fail
       (refine wp_region_later_tail 9 U U ?_;simp only[List.take_succ_cons,List.take_zero,List.drop_succ_cons,List.drop_zero];(repeat(go_big_quiet_step (fail)));refine wpQuiet_nil ?_;intro w' hB)
       clear k1 f1 l1 m1
       replace K1:=Z (K1.out.below hB)
       replace G:=grown_on G hB
       clear hB
       (obtain⟨k1,f1,l1,m1⟩:=rl_ K1)
       go_wp2_with fail
       clear k1 f1 l1 m1
       replace K1:=Z (K1.out.set_ 5 (.int .u32 (vw (v.f+u.f))))
       replace G:=grown_set (i:=5) (u:=.int .u32 (vw (v.f+u.f))) G
       simp only[sB,sC,sD]at K1
       generalize w'.setCell ⟨b,5,none⟩ (.int .u32 (vw (v.f+u.f)))=v5 at K1 G ⊢
       rw[rounds_succ]
       (obtain⟨k1,f1,l1,m1⟩:=rl_ K1)
       go_wp2_with fail
       (refine wp_region_later_tail 9 U U ?_;simp only[List.take_succ_cons,List.take_zero,List.drop_succ_cons,List.drop_zero];(repeat(go_big_quiet_step (fail)));refine wpQuiet_nil ?_;intro w' hB)
       clear k1 f1 l1 m1
       replace K1:=Z (K1.out.below hB)
       replace G:=grown_on G hB
       clear hB
       (obtain⟨k1,f1,l1,m1⟩:=rl_ K1)
       go_wp2_with fail
       clear k1 f1 l1 m1
       replace K1:=Z (K1.out.set_ 6 (.int .u32 (vw (v.g+u.g))))
       replace G:=grown_set (i:=6) (u:=.int .u32 (vw (v.g+u.g))) G
       simp only[sB,sC,sD]at K1
       generalize w'.setCell ⟨b,6,none⟩ (.int .u32 (vw (v.g+u.g)))=v6 at K1 G ⊢
       rw[rounds_succ]
       (obtain⟨k1,f1,l1,m1⟩:=rl_ K1)
       go_wp2_with fail
       (refine wp_region_later_tail 9 U U ?_;simp only[List.take_succ_cons,List.take_zero,List.drop_succ_cons,List.drop_zero];(repeat(go_big_quiet_step (fail)));refine wpQuiet_nil ?_;intro w' hB)
       clear k1 f1 l1 m1
       replace K1:=Z (K1.out.below hB)
       replace G:=grown_on G hB
       clear hB
       (obtain⟨k1,f1,l1,m1⟩:=rl_ K1)
       go_wp2_with fail
       clear k1 f1 l1 m1
       replace K1:=Z (K1.out.set_ 7 (.int .u32 (vw (v.h+u.h))))
       replace G:=grown_set (i:=7) (u:=.int .u32 (vw (v.h+u.h))) G
       simp only[sB,sC,sD]at K1
       generalize w'.setCell ⟨b,7,none⟩ (.int .u32 (vw (v.h+u.h)))=v7 at K1 G ⊢
       rw[rounds_succ]
       go_wp2_with fail
       refine bodyPost_end (results_none rfl _ _ _) rfl ?_
       exact⟨rfl,G,by rw[←HU.out];exact K1.out⟩
end
end Go.Proofs.YtobgigcdpiikaaaGreatDoor
