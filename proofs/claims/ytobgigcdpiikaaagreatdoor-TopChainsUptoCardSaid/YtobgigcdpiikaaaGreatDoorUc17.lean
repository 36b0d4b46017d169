/- Plain laws and walks, each by its own conditions. -/
import Derived.Test.YtobgigcdpiikaaaGreatDoorUc10
import Derived.Test.YtobgigcdpiikaaaGreatDoorUc16
import Derived.Lib.SmallJoins
set_option linter.unusedSimpArgs false
set_option linter.unusedVariables false
set_option maxRecDepth 100000
set_option maxHeartbeats 16000000
namespace Go.Proofs.YtobgigcdpiikaaaGreatDoor
section
open BigFrame Go.RowKit Go.Phx Go.Shelf
structure Hd where
 slot:Nat
 prop:Nat
 parent:Bytes
 state:Bytes
 body:Bytes
structure Ex where
 acc:Bytes
 rcp:Bytes
 num:Nat
structure Rw where
 addr:Option Addr
 cap:Nat
 l:List Bytes
structure Lt where
 b:Hd
 x:Ex
 br:Rw
structure Cm where
 ks:Rw
 sum:Bytes
structure Bt where
 lt:Lt
 now:Cm
 br:Rw
structure Up where
 seen:Lt
 next:Cm
 nb:Rw
 fin:Lt
 fb:Rw
 bits:Nat
 sig:Bytes
 slot:Nat
structure Sr where
 fin:Lt
 new:Lt
 now:Cm
 next:Cm
 best:Up
 has:Bool
 last:Int
 this:Int
 forced:Bool
def Hd.zero:Hd:=⟨0,0,[],[],[]⟩
def Ex.zero:Ex:=⟨[],[],0⟩
def Rw.zero:Rw:=⟨none,0,[]⟩
def Lt.zero:Lt:=⟨Hd.zero,Ex.zero,Rw.zero⟩
def Cm.zero:Cm:=⟨Rw.zero,[]⟩
def Bt.zero:Bt:=⟨Lt.zero,Cm.zero,Rw.zero⟩
def Up.zero:Up:=⟨Lt.zero,Cm.zero,Rw.zero,Lt.zero,Rw.zero,0,[],0⟩
def Sr.zero:Sr:=⟨Lt.zero,Lt.zero,Cm.zero,Cm.zero,Up.zero,false,0,0,false⟩
def eqHd(a b:Hd):Bool:=a.slot == b.slot && (a.prop == b.prop && (a.parent == b.parent && (a.state == b.state && a.body == b.body)))
def eqEx(a b:Ex):Bool:=a.acc == b.acc && (a.rcp == b.rcp && a.num == b.num)
def sameLt(a b:Lt):Bool:=eqHd a.b b.b && (eqEx a.x b.x && a.br.l == b.br.l)
def sameCm(a b:Cm):Bool:=a.sum == b.sum && a.ks.l == b.ks.l
def sameUp(a b:Up):Bool:=sameLt a.seen b.seen && (sameLt a.fin b.fin && (sameCm a.next b.next && (a.nb.l == b.nb.l && (a.fb.l == b.fb.l && (a.bits == b.bits && (a.sig == b.sig && a.slot == b.slot))))))
def sameSr(a b:Sr):Bool:=sameLt a.fin b.fin && (sameLt a.new b.new && (sameCm a.now b.now && (sameCm a.next b.next && (sameUp a.best b.best && (a.has == b.has && (a.last == b.last && (a.this == b.this && a.forced == b.forced)))))))
theorem eqHd_iff(a b:Hd):eqHd a b=true↔a=b:=by
 cases a;cases b
 simp[eqHd]
theorem eqEx_iff(a b:Ex):eqEx a b=true↔a=b:=by
 cases a;cases b
 simp[eqEx]
theorem eqHd_refl(a:Hd):eqHd a a=true:=(eqHd_iff a a).2 rfl
theorem eqEx_refl(a:Ex):eqEx a a=true:=(eqEx_iff a a).2 rfl
theorem sameLt_refl(a:Lt):sameLt a a=true:=by simp[sameLt,eqHd_refl,eqEx_refl]
theorem sameCm_refl(a:Cm):sameCm a a=true:=by simp[sameCm]
theorem sameUp_refl(a:Up):sameUp a a=true:=by simp[sameUp,sameLt_refl,sameCm_refl]
theorem sameSr_refl(a:Sr):sameSr a a=true:=by simp[sameSr,sameLt_refl,sameCm_refl,sameUp_refl]
def period(n:Nat):Nat:=n / 64
def onesP(bits:Nat):Nat:=((List.range 16).filter fun i=>bits.testBit i).length
def keysP(l:List Bytes) (bits:Nat):List Bytes:=((l.take 16).zipIdx.filter fun p=>bits.testBit p.2).map (·.1)
def knownP(c:Cm):Bool:=decide (0<c.ks.l.length)
def hasNextP(u:Up):Bool:=knownP u.next || decide (0<u.nb.l.length)
def emptyP(l:Lt):Bool:=eqHd l.b Hd.zero && (eqEx l.x Ex.zero && decide (l.br.l.length=0))
def isFinalP(u:Up):Bool:=decide (0<u.fb.l.length) || !emptyP u.fin
def hdL(h:Hd):List Bytes:=[numP h.slot,numP h.prop,h.parent,h.state,h.body]
def exL(x:Ex):List Bytes:=[x.acc,x.rcp,numP x.num]
def hdOk(h:Hd):Bool:=decide (RightP (hdL h) 3)
def exOk(x:Ex):Bool:=decide (RightP (exL x) 2)
def hdRoot(h:Hd):Bytes:=if hdOk h then rootP (hdL h) 3 else []
def exRoot(x:Ex):Bytes:=if exOk x then rootP (exL x) 2 else []
def cmOk(c:Cm):Bool:=decide (c.ks.l.length=16) && (decide (c.sum.length=5) && c.ks.l.all fun k=>k.length == 5)
def cmRoot(c:Cm):Bytes:=if cmOk c then sha (rootP (c.ks.l.map fun k=>chunkP k 0) 4 ++ chunkP c.sum 0) else []
def holdsP(l:Lt):Bool:=hdOk l.b && (exOk l.x && (decide (l.br.l.length=2) && decide (CheckP (exRoot l.x) l.br.l 2 l.b.body)))
def forkP(slot:Nat):Nat:=7+min 2 ((max slot 1 - 1) / 128)
def textP(h:Hd) (slot:Nat):Bytes:=sha (hdRoot h ++ numP (forkP slot))
def underP(root:Bytes) (br:List Bytes) (leaf:Nat) (state:Bytes):Bool:=decide (br.length=3) && decide (CheckP root br leaf state)
def firstP(s:Sr) (u:Up):Bool := !knownP s.next && (hasNextP u && decide (period u.seen.b.slot=period s.fin.b.slot))
def laterP(s:Sr) (u:Up):Bool:=knownP s.next && decide (period u.slot=period s.fin.b.slot+1)
def finSlot(u:Up):Nat:=if isFinalP u then u.fin.b.slot else 0
def slotsE(s:Sr) (u:Up) (now:Nat):Int :=
 if now<u.slot∨u.slot≤u.seen.b.slot∨u.seen.b.slot<finSlot u then 142
 else if period u.slot≠period s.fin.b.slot∧laterP s u=false then 143
 else if u.seen.b.slot≤s.fin.b.slot∧firstP s u=false then 144
 else 0
def finalE(u:Up):Int :=
 if isFinalP u then if holdsP u.fin then if underP (hdRoot u.fin.b) u.fb.l 3 u.seen.b.state then 0 else 145 else 130 else 0
def nextE(s:Sr) (u:Up):Int :=
 if hasNextP u then
  if knownP s.next && (decide (period u.seen.b.slot=period s.fin.b.slot) && !sameCm u.next s.next) then 146
  else if cmOk u.next then if underP (cmRoot u.next) u.nb.l 5 u.seen.b.state then 0 else 145 else 130
 else 0
def commP(s:Sr) (u:Up):Cm:=if period u.slot=period s.fin.b.slot then s.now else s.next
noncomputable def sigE (s:Sr) (u:Up):Int:=if allB (keysP (commP s u).ks.l u.bits) (textP u.seen.b u.slot) u.sig then 0 else 147
noncomputable def checkE (s:Sr) (u:Up) (now:Nat):Int :=
 if onesP u.bits=0 then 141 else if holdsP u.seen then
  if slotsE s u now≠0 then slotsE s u now else if finalE u≠0 then finalE u else if nextE s u≠0 then nextE s u else sigE s u
 else 130
def twoP(u:Up):Bool:=decide (32≤3*onesP u.bits)
def ownNextP(u:Up):Bool:=hasNextP u && decide (period u.seen.b.slot=period u.slot)
def ownFinP(u:Up):Bool:=isFinalP u && decide (period u.fin.b.slot=period u.seen.b.slot)
def numB(b:Bool):Int:=if b then 1 else 0
def marksP(u:Up):List Int :=
 [numB (twoP u),if twoP u then 0 else(onesP u.bits:Int),numB (ownNextP u),numB (isFinalP u),numB (ownFinP u),(onesP u.bits:Int),-(u.seen.b.slot:Int),-(u.slot:Int)]
def lexP:List Int→List Int→Bool
 | x :: r,y :: s=>if x=y then lexP r s else decide (y<x)
 | _,_=>false
def betterP(a b:Up):Bool:=lexP (marksP a) (marksP b)
def takeP1(s:Sr) (u:Up):Sr :=
 if knownP s.next then
  if period s.fin.b.slot+1=period u.fin.b.slot then { s with now:=s.next,next:=u.next,last:=s.this,this:=0 } else s
 else if period s.fin.b.slot=period u.fin.b.slot then { s with next:=u.next } else s
def takeP2(s:Sr) (u:Up):Sr :=
 if s.fin.b.slot<u.fin.b.slot then { s with fin:=u.fin,new:=if s.new.b.slot<u.fin.b.slot then u.fin else s.new } else s
def clearP(s:Sr):Sr:={ s with best:=Up.zero,has:=false }
def takeP(s:Sr) (u:Up):Sr:=takeP2 (takeP1 s u) u
def bestP(s:Sr) (u:Up):Sr:=if !s.has || betterP u s.best then { s with best:=u,has:=true } else s
def thisP(s:Sr) (u:Up):Sr:={ s with this:=max s.this (onesP u.bits:Int) }
def newP(s:Sr) (u:Up):Sr:=if Int.tdiv (max s.last s.this) 2<(onesP u.bits:Int)∧s.new.b.slot<u.seen.b.slot then { s with new:=u.seen } else s
def goesP(s:Sr) (u:Up):Bool:=twoP u && (!knownP s.next && (hasNextP u && ownFinP u) || decide (s.fin.b.slot<u.fin.b.slot))
def applyP(s:Sr) (u:Up):Sr :=
 let t:=newP (thisP (bestP s u) u) u
 if goesP s u then clearP (takeP t u) else t
def beginE(root:Bytes) (b:Bt):Int :=
 if cmOk b.now && holdsP b.lt then if hdRoot b.lt.b=root then if underP (cmRoot b.now) b.br.l 4 b.lt.b.state then 0 else 145 else 140 else 130
def beginP(b:Bt):Sr:={ Sr.zero with fin:=b.lt,new:=b.lt,now:=b.now }
theorem take1_fin(s:Sr) (u:Up):(takeP1 s u).fin=s.fin:=by unfold takeP1;split <;> split <;> rfl
theorem take1_new(s:Sr) (u:Up):(takeP1 s u).new=s.new:=by unfold takeP1;split <;> split <;> rfl
theorem not_final{u:Up} (h:isFinalP u=false):u.fin.b.slot=0:=by
 unfold isFinalP emptyP at h
 simp only[Bool.or_eq_false_iff,Bool.not_eq_false',Bool.and_eq_true]at h
 have:=(eqHd_iff _ _).1 h.2.1
 rw[this]
 rfl
theorem fin_slot{u:Up}:finSlot u=u.fin.b.slot:=by
 unfold finSlot
 cases h:isFinalP u with
 | true=>rfl
 | false=>simp[not_final h]
end
section
open Go.ChangeShapes Go.WideShapes Go.ChangeAt Go.RowKit Go.Joins Go.Phx
set_option maxRecDepth 100000
def rwV(r:Rw):Value:=.slice r.addr r.l.length r.cap
def RwIn(w:World) (r:Rw):Prop:=Txts w r.addr r.l∧r.l.length≤r.cap∧r.l.length≤1048576∧∀ x∈r.l,x.length≤1048576
theorem RwIn.below{w w':World}{r:Rw} (h:RwIn w r) (hB:Below w.heap.size w w'):RwIn w' r:=⟨Txts.below h.1 hB,h.2⟩
theorem RwIn.zero(w:World):RwIn w Rw.zero:=⟨Strs.nil _ _,Nat.le_refl _,Nat.zero_le _,fun x hx=>by cases hx⟩
def hdC(r:Hd):List Value:=[.int .u64 (r.slot:Int)] ++ ([.int .u64 (r.prop:Int)] ++ ([.string (bs r.parent)] ++ ([.string (bs r.state)] ++ ([.string (bs r.body)]))))
def hdA(r:Hd):Array Value:=(hdC r).toArray
abbrev hdV(r:Hd):Value:=.agg (hdA r)
def HdIn(w:World) (r:Hd):Prop:=r.slot<18446744073709551616∧r.prop<18446744073709551616∧r.parent.length≤1048576∧r.state.length≤1048576∧r.body.length≤1048576
theorem HdIn.below{w w':World}{r:Hd} (h:HdIn w r) (hB:Below w.heap.size w w'):HdIn w' r:=by
 obtain⟨h0,h1,h2,h3,h4⟩:=h
 exact⟨h0,h1,h2,h3,h4⟩
theorem HdIn.zero(w:World):HdIn w Hd.zero:=⟨by decide,by decide,by decide,by decide,by decide⟩
def exC(r:Ex):List Value:=[.string (bs r.acc)] ++ ([.string (bs r.rcp)] ++ ([.int .u64 (r.num:Int)]))
def exA(r:Ex):Array Value:=(exC r).toArray
abbrev exV(r:Ex):Value:=.agg (exA r)
def ExIn(w:World) (r:Ex):Prop:=r.acc.length≤1048576∧r.rcp.length≤1048576∧r.num<18446744073709551616
theorem ExIn.below{w w':World}{r:Ex} (h:ExIn w r) (hB:Below w.heap.size w w'):ExIn w' r:=by
 obtain⟨h0,h1,h2⟩:=h
 exact⟨h0,h1,h2⟩
theorem ExIn.zero(w:World):ExIn w Ex.zero:=⟨by decide,by decide,by decide⟩
def ltC(r:Lt):List Value:=hdC r.b ++ (exC r.x ++ ([.slice r.br.addr r.br.l.length r.br.cap]))
def ltA(r:Lt):Array Value:=(ltC r).toArray
abbrev ltV(r:Lt):Value:=.agg (ltA r)
def LtIn(w:World) (r:Lt):Prop:=HdIn w r.b∧ExIn w r.x∧RwIn w r.br
theorem LtIn.below{w w':World}{r:Lt} (h:LtIn w r) (hB:Below w.heap.size w w'):LtIn w' r:=by
 obtain⟨h0,h1,h2⟩:=h
 exact⟨h0.below hB,h1.below hB,h2.below hB⟩
theorem LtIn.zero(w:World):LtIn w Lt.zero:=⟨HdIn.zero w,ExIn.zero w,RwIn.zero w⟩
def cmC(r:Cm):List Value:=[.slice r.ks.addr r.ks.l.length r.ks.cap] ++ ([.string (bs r.sum)])
def cmA(r:Cm):Array Value:=(cmC r).toArray
abbrev cmV(r:Cm):Value:=.agg (cmA r)
def CmIn(w:World) (r:Cm):Prop:=RwIn w r.ks∧r.sum.length≤1048576
theorem CmIn.below{w w':World}{r:Cm} (h:CmIn w r) (hB:Below w.heap.size w w'):CmIn w' r:=by
 obtain⟨h0,h1⟩:=h
 exact⟨h0.below hB,h1⟩
theorem CmIn.zero(w:World):CmIn w Cm.zero:=⟨RwIn.zero w,by decide⟩
def btC(r:Bt):List Value:=ltC r.lt ++ (cmC r.now ++ ([.slice r.br.addr r.br.l.length r.br.cap]))
def btA(r:Bt):Array Value:=(btC r).toArray
abbrev btV(r:Bt):Value:=.agg (btA r)
def BtIn(w:World) (r:Bt):Prop:=LtIn w r.lt∧CmIn w r.now∧RwIn w r.br
theorem BtIn.below{w w':World}{r:Bt} (h:BtIn w r) (hB:Below w.heap.size w w'):BtIn w' r:=by
 obtain⟨h0,h1,h2⟩:=h
 exact⟨h0.below hB,h1.below hB,h2.below hB⟩
theorem BtIn.zero(w:World):BtIn w Bt.zero:=⟨LtIn.zero w,CmIn.zero w,RwIn.zero w⟩
def upC(r:Up):List Value:=ltC r.seen ++ (cmC r.next ++ ([.slice r.nb.addr r.nb.l.length r.nb.cap] ++ (ltC r.fin ++ ([.slice r.fb.addr r.fb.l.length r.fb.cap] ++ ([.int .u64 (r.bits:Int)] ++ ([.string (bs r.sig)] ++ ([.int .u64 (r.slot:Int)])))))))
def upA(r:Up):Array Value:=(upC r).toArray
abbrev upV(r:Up):Value:=.agg (upA r)
def UpIn(w:World) (r:Up):Prop:=LtIn w r.seen∧CmIn w r.next∧RwIn w r.nb∧LtIn w r.fin∧RwIn w r.fb∧r.bits<18446744073709551616∧r.sig.length≤1048576∧r.slot<18446744073709551616
theorem UpIn.below{w w':World}{r:Up} (h:UpIn w r) (hB:Below w.heap.size w w'):UpIn w' r:=by
 obtain⟨h0,h1,h2,h3,h4,h5,h6,h7⟩:=h
 exact⟨h0.below hB,h1.below hB,h2.below hB,h3.below hB,h4.below hB,h5,h6,h7⟩
theorem UpIn.zero(w:World):UpIn w Up.zero:=⟨LtIn.zero w,CmIn.zero w,RwIn.zero w,LtIn.zero w,RwIn.zero w,by decide,by decide,by decide⟩
def srC(r:Sr):List Value:=ltC r.fin ++ (ltC r.new ++ (cmC r.now ++ (cmC r.next ++ (upC r.best ++ ([.bool r.has] ++ ([.int .i64 r.last] ++ ([.int .i64 r.this] ++ ([.bool r.forced]))))))))
def srA(r:Sr):Array Value:=(srC r).toArray
abbrev srV(r:Sr):Value:=.agg (srA r)
def SrIn(w:World) (r:Sr):Prop:=LtIn w r.fin∧LtIn w r.new∧CmIn w r.now∧CmIn w r.next∧UpIn w r.best∧True∧(-9223372036854775808≤r.last∧r.last≤9223372036854775807)∧(-9223372036854775808≤r.this∧r.this≤9223372036854775807)∧True
theorem SrIn.below{w w':World}{r:Sr} (h:SrIn w r) (hB:Below w.heap.size w w'):SrIn w' r:=by
 obtain⟨h0,h1,h2,h3,h4,h5,h6,h7,h8⟩:=h
 exact⟨h0.below hB,h1.below hB,h2.below hB,h3.below hB,h4.below hB,h5,h6,h7,h8⟩
theorem SrIn.zero(w:World):SrIn w Sr.zero:=⟨LtIn.zero w,LtIn.zero w,CmIn.zero w,CmIn.zero w,UpIn.zero w,trivial,by decide,by decide,trivial⟩
open BigFrame Go.Shelf
theorem eqHd_run(a b:Hd) (w:World):(binOp .eql 28 (hdV a) (hdV b)).run Tryz.prog w=.ok (.bool (eqHd a b)) w:=by
 unfold hdV hdA hdC eqHd
 go_simp
 have e:∀ x y:Nat,((x:Int)=y)↔x=y:=fun x y=>by omega
 simp only[e]
 (repeat' split) <;> simp_all
theorem eqEx_run(a b:Ex) (w:World):(binOp .eql 30 (exV a) (exV b)).run Tryz.prog w=.ok (.bool (eqEx a b)) w:=by
 unfold exV exA exC eqEx
 go_simp
 have e:∀ x y:Nat,((x:Int)=y)↔x=y:=fun x y=>by omega
 simp only[e]
 (repeat' split) <;> simp_all
@[go_sem] theorem hdA_size (r:Hd):(hdA r).size=5:=rfl
@[go_sem] theorem hdA_0 (r:Hd):(hdA r)[0]?=some (.int .u64 (r.slot:Int)):=rfl
@[go_sem] theorem hdA_1 (r:Hd):(hdA r)[1]?=some (.int .u64 (r.prop:Int)):=rfl
@[go_sem] theorem hdA_2 (r:Hd):(hdA r)[2]?=some (.string (bs r.parent)):=rfl
@[go_sem] theorem hdA_3 (r:Hd):(hdA r)[3]?=some (.string (bs r.state)):=rfl
@[go_sem] theorem hdA_4 (r:Hd):(hdA r)[4]?=some (.string (bs r.body)):=rfl
@[go_sem] theorem hdV_fold (r:Hd):Value.agg #[.int .u64 (r.slot:Int),.int .u64 (r.prop:Int),.string (bs r.parent),.string (bs r.state),.string (bs r.body)]=hdV r:=rfl
@[go_sem] theorem hdV_zero:Value.agg #[.int .u64 0,.int .u64 0,.string { data := #[] },.string { data := #[] },.string { data := #[] }]=hdV Hd.zero:=rfl
@[go_sem] theorem exA_size (r:Ex):(exA r).size=3:=rfl
@[go_sem] theorem exA_0 (r:Ex):(exA r)[0]?=some (.string (bs r.acc)):=rfl
@[go_sem] theorem exA_1 (r:Ex):(exA r)[1]?=some (.string (bs r.rcp)):=rfl
@[go_sem] theorem exA_2 (r:Ex):(exA r)[2]?=some (.int .u64 (r.num:Int)):=rfl
@[go_sem] theorem exV_fold (r:Ex):Value.agg #[.string (bs r.acc),.string (bs r.rcp),.int .u64 (r.num:Int)]=exV r:=rfl
@[go_sem] theorem exV_zero:Value.agg #[.string { data := #[] },.string { data := #[] },.int .u64 0]=exV Ex.zero:=rfl
@[go_sem] theorem ltA_size (r:Lt):(ltA r).size=9:=rfl
@[go_sem] theorem ltA_0 (r:Lt):(ltA r)[0]?=some (.int .u64 (r.b.slot:Int)):=rfl
@[go_sem] theorem ltA_1 (r:Lt):(ltA r)[1]?=some (.int .u64 (r.b.prop:Int)):=rfl
@[go_sem] theorem ltA_2 (r:Lt):(ltA r)[2]?=some (.string (bs r.b.parent)):=rfl
@[go_sem] theorem ltA_3 (r:Lt):(ltA r)[3]?=some (.string (bs r.b.state)):=rfl
@[go_sem] theorem ltA_4 (r:Lt):(ltA r)[4]?=some (.string (bs r.b.body)):=rfl
@[go_sem] theorem ltA_5 (r:Lt):(ltA r)[5]?=some (.string (bs r.x.acc)):=rfl
@[go_sem] theorem ltA_6 (r:Lt):(ltA r)[6]?=some (.string (bs r.x.rcp)):=rfl
@[go_sem] theorem ltA_7 (r:Lt):(ltA r)[7]?=some (.int .u64 (r.x.num:Int)):=rfl
@[go_sem] theorem ltA_8 (r:Lt):(ltA r)[8]?=some (.slice r.br.addr r.br.l.length r.br.cap):=rfl
@[go_sem] theorem ltV_fold (r:Lt):Value.agg #[.int .u64 (r.b.slot:Int),.int .u64 (r.b.prop:Int),.string (bs r.b.parent),.string (bs r.b.state),.string (bs r.b.body),.string (bs r.x.acc),.string (bs r.x.rcp),.int .u64 (r.x.num:Int),.slice r.br.addr r.br.l.length r.br.cap]=ltV r:=rfl
@[go_sem] theorem ltV_zero:Value.agg #[.int .u64 0,.int .u64 0,.string { data := #[] },.string { data := #[] },.string { data := #[] },.string { data := #[] },.string { data := #[] },.int .u64 0,.slice none 0 0]=ltV Lt.zero:=rfl
@[go_sem] theorem cmA_size (r:Cm):(cmA r).size=2:=rfl
@[go_sem] theorem cmA_0 (r:Cm):(cmA r)[0]?=some (.slice r.ks.addr r.ks.l.length r.ks.cap):=rfl
@[go_sem] theorem cmA_1 (r:Cm):(cmA r)[1]?=some (.string (bs r.sum)):=rfl
@[go_sem] theorem cmV_fold (r:Cm):Value.agg #[.slice r.ks.addr r.ks.l.length r.ks.cap,.string (bs r.sum)]=cmV r:=rfl
@[go_sem] theorem cmV_zero:Value.agg #[.slice none 0 0,.string { data := #[] }]=cmV Cm.zero:=rfl
@[go_sem] theorem btA_size (r:Bt):(btA r).size=12:=rfl
@[go_sem] theorem btA_0 (r:Bt):(btA r)[0]?=some (.int .u64 (r.lt.b.slot:Int)):=rfl
@[go_sem] theorem btA_1 (r:Bt):(btA r)[1]?=some (.int .u64 (r.lt.b.prop:Int)):=rfl
@[go_sem] theorem btA_2 (r:Bt):(btA r)[2]?=some (.string (bs r.lt.b.parent)):=rfl
@[go_sem] theorem btA_3 (r:Bt):(btA r)[3]?=some (.string (bs r.lt.b.state)):=rfl
@[go_sem] theorem btA_4 (r:Bt):(btA r)[4]?=some (.string (bs r.lt.b.body)):=rfl
@[go_sem] theorem btA_5 (r:Bt):(btA r)[5]?=some (.string (bs r.lt.x.acc)):=rfl
@[go_sem] theorem btA_6 (r:Bt):(btA r)[6]?=some (.string (bs r.lt.x.rcp)):=rfl
@[go_sem] theorem btA_7 (r:Bt):(btA r)[7]?=some (.int .u64 (r.lt.x.num:Int)):=rfl
@[go_sem] theorem btA_8 (r:Bt):(btA r)[8]?=some (.slice r.lt.br.addr r.lt.br.l.length r.lt.br.cap):=rfl
@[go_sem] theorem btA_9 (r:Bt):(btA r)[9]?=some (.slice r.now.ks.addr r.now.ks.l.length r.now.ks.cap):=rfl
@[go_sem] theorem btA_10 (r:Bt):(btA r)[10]?=some (.string (bs r.now.sum)):=rfl
@[go_sem] theorem btA_11 (r:Bt):(btA r)[11]?=some (.slice r.br.addr r.br.l.length r.br.cap):=rfl
@[go_sem] theorem btV_fold (r:Bt):Value.agg #[.int .u64 (r.lt.b.slot:Int),.int .u64 (r.lt.b.prop:Int),.string (bs r.lt.b.parent),.string (bs r.lt.b.state),.string (bs r.lt.b.body),.string (bs r.lt.x.acc),.string (bs r.lt.x.rcp),.int .u64 (r.lt.x.num:Int),.slice r.lt.br.addr r.lt.br.l.length r.lt.br.cap,.slice r.now.ks.addr r.now.ks.l.length r.now.ks.cap,.string (bs r.now.sum),.slice r.br.addr r.br.l.length r.br.cap]=btV r:=rfl
@[go_sem] theorem btV_zero:Value.agg #[.int .u64 0,.int .u64 0,.string { data := #[] },.string { data := #[] },.string { data := #[] },.string { data := #[] },.string { data := #[] },.int .u64 0,.slice none 0 0,.slice none 0 0,.string { data := #[] },.slice none 0 0]=btV Bt.zero:=rfl
@[go_sem] theorem upA_size (r:Up):(upA r).size=25:=rfl
@[go_sem] theorem upA_0 (r:Up):(upA r)[0]?=some (.int .u64 (r.seen.b.slot:Int)):=rfl
@[go_sem] theorem upA_1 (r:Up):(upA r)[1]?=some (.int .u64 (r.seen.b.prop:Int)):=rfl
@[go_sem] theorem upA_2 (r:Up):(upA r)[2]?=some (.string (bs r.seen.b.parent)):=rfl
@[go_sem] theorem upA_3 (r:Up):(upA r)[3]?=some (.string (bs r.seen.b.state)):=rfl
@[go_sem] theorem upA_4 (r:Up):(upA r)[4]?=some (.string (bs r.seen.b.body)):=rfl
@[go_sem] theorem upA_5 (r:Up):(upA r)[5]?=some (.string (bs r.seen.x.acc)):=rfl
@[go_sem] theorem upA_6 (r:Up):(upA r)[6]?=some (.string (bs r.seen.x.rcp)):=rfl
@[go_sem] theorem upA_7 (r:Up):(upA r)[7]?=some (.int .u64 (r.seen.x.num:Int)):=rfl
@[go_sem] theorem upA_8 (r:Up):(upA r)[8]?=some (.slice r.seen.br.addr r.seen.br.l.length r.seen.br.cap):=rfl
@[go_sem] theorem upA_9 (r:Up):(upA r)[9]?=some (.slice r.next.ks.addr r.next.ks.l.length r.next.ks.cap):=rfl
@[go_sem] theorem upA_10 (r:Up):(upA r)[10]?=some (.string (bs r.next.sum)):=rfl
@[go_sem] theorem upA_11 (r:Up):(upA r)[11]?=some (.slice r.nb.addr r.nb.l.length r.nb.cap):=rfl
@[go_sem] theorem upA_12 (r:Up):(upA r)[12]?=some (.int .u64 (r.fin.b.slot:Int)):=rfl
@[go_sem] theorem upA_13 (r:Up):(upA r)[13]?=some (.int .u64 (r.fin.b.prop:Int)):=rfl
@[go_sem] theorem upA_14 (r:Up):(upA r)[14]?=some (.string (bs r.fin.b.parent)):=rfl
@[go_sem] theorem upA_15 (r:Up):(upA r)[15]?=some (.string (bs r.fin.b.state)):=rfl
@[go_sem] theorem upA_16 (r:Up):(upA r)[16]?=some (.string (bs r.fin.b.body)):=rfl
@[go_sem] theorem upA_17 (r:Up):(upA r)[17]?=some (.string (bs r.fin.x.acc)):=rfl
@[go_sem] theorem upA_18 (r:Up):(upA r)[18]?=some (.string (bs r.fin.x.rcp)):=rfl
@[go_sem] theorem upA_19 (r:Up):(upA r)[19]?=some (.int .u64 (r.fin.x.num:Int)):=rfl
@[go_sem] theorem upA_20 (r:Up):(upA r)[20]?=some (.slice r.fin.br.addr r.fin.br.l.length r.fin.br.cap):=rfl
@[go_sem] theorem upA_21 (r:Up):(upA r)[21]?=some (.slice r.fb.addr r.fb.l.length r.fb.cap):=rfl
@[go_sem] theorem upA_22 (r:Up):(upA r)[22]?=some (.int .u64 (r.bits:Int)):=rfl
@[go_sem] theorem upA_23 (r:Up):(upA r)[23]?=some (.string (bs r.sig)):=rfl
@[go_sem] theorem upA_24 (r:Up):(upA r)[24]?=some (.int .u64 (r.slot:Int)):=rfl
@[go_sem] theorem upV_fold (r:Up):Value.agg #[.int .u64 (r.seen.b.slot:Int),.int .u64 (r.seen.b.prop:Int),.string (bs r.seen.b.parent),.string (bs r.seen.b.state),.string (bs r.seen.b.body),.string (bs r.seen.x.acc),.string (bs r.seen.x.rcp),.int .u64 (r.seen.x.num:Int),.slice r.seen.br.addr r.seen.br.l.length r.seen.br.cap,.slice r.next.ks.addr r.next.ks.l.length r.next.ks.cap,.string (bs r.next.sum),.slice r.nb.addr r.nb.l.length r.nb.cap,.int .u64 (r.fin.b.slot:Int),.int .u64 (r.fin.b.prop:Int),.string (bs r.fin.b.parent),.string (bs r.fin.b.state),.string (bs r.fin.b.body),.string (bs r.fin.x.acc),.string (bs r.fin.x.rcp),.int .u64 (r.fin.x.num:Int),.slice r.fin.br.addr r.fin.br.l.length r.fin.br.cap,.slice r.fb.addr r.fb.l.length r.fb.cap,.int .u64 (r.bits:Int),.string (bs r.sig),.int .u64 (r.slot:Int)]=upV r:=rfl
@[go_sem] theorem upV_zero:Value.agg #[.int .u64 0,.int .u64 0,.string { data := #[] },.string { data := #[] },.string { data := #[] },.string { data := #[] },.string { data := #[] },.int .u64 0,.slice none 0 0,.slice none 0 0,.string { data := #[] },.slice none 0 0,.int .u64 0,.int .u64 0,.string { data := #[] },.string { data := #[] },.string { data := #[] },.string { data := #[] },.string { data := #[] },.int .u64 0,.slice none 0 0,.slice none 0 0,.int .u64 0,.string { data := #[] },.int .u64 0]=upV Up.zero:=rfl
@[go_sem] theorem srA_size (r:Sr):(srA r).size=51:=rfl
@[go_sem] theorem srA_0 (r:Sr):(srA r)[0]?=some (.int .u64 (r.fin.b.slot:Int)):=rfl
@[go_sem] theorem srA_1 (r:Sr):(srA r)[1]?=some (.int .u64 (r.fin.b.prop:Int)):=rfl
@[go_sem] theorem srA_2 (r:Sr):(srA r)[2]?=some (.string (bs r.fin.b.parent)):=rfl
@[go_sem] theorem srA_3 (r:Sr):(srA r)[3]?=some (.string (bs r.fin.b.state)):=rfl
@[go_sem] theorem srA_4 (r:Sr):(srA r)[4]?=some (.string (bs r.fin.b.body)):=rfl
@[go_sem] theorem srA_5 (r:Sr):(srA r)[5]?=some (.string (bs r.fin.x.acc)):=rfl
@[go_sem] theorem srA_6 (r:Sr):(srA r)[6]?=some (.string (bs r.fin.x.rcp)):=rfl
@[go_sem] theorem srA_7 (r:Sr):(srA r)[7]?=some (.int .u64 (r.fin.x.num:Int)):=rfl
@[go_sem] theorem srA_8 (r:Sr):(srA r)[8]?=some (.slice r.fin.br.addr r.fin.br.l.length r.fin.br.cap):=rfl
@[go_sem] theorem srA_9 (r:Sr):(srA r)[9]?=some (.int .u64 (r.new.b.slot:Int)):=rfl
@[go_sem] theorem srA_10 (r:Sr):(srA r)[10]?=some (.int .u64 (r.new.b.prop:Int)):=rfl
@[go_sem] theorem srA_11 (r:Sr):(srA r)[11]?=some (.string (bs r.new.b.parent)):=rfl
@[go_sem] theorem srA_12 (r:Sr):(srA r)[12]?=some (.string (bs r.new.b.state)):=rfl
@[go_sem] theorem srA_13 (r:Sr):(srA r)[13]?=some (.string (bs r.new.b.body)):=rfl
@[go_sem] theorem srA_14 (r:Sr):(srA r)[14]?=some (.string (bs r.new.x.acc)):=rfl
@[go_sem] theorem srA_15 (r:Sr):(srA r)[15]?=some (.string (bs r.new.x.rcp)):=rfl
@[go_sem] theorem srA_16 (r:Sr):(srA r)[16]?=some (.int .u64 (r.new.x.num:Int)):=rfl
@[go_sem] theorem srA_17 (r:Sr):(srA r)[17]?=some (.slice r.new.br.addr r.new.br.l.length r.new.br.cap):=rfl
@[go_sem] theorem srA_18 (r:Sr):(srA r)[18]?=some (.slice r.now.ks.addr r.now.ks.l.length r.now.ks.cap):=rfl
@[go_sem] theorem srA_19 (r:Sr):(srA r)[19]?=some (.string (bs r.now.sum)):=rfl
@[go_sem] theorem srA_20 (r:Sr):(srA r)[20]?=some (.slice r.next.ks.addr r.next.ks.l.length r.next.ks.cap):=rfl
@[go_sem] theorem srA_21 (r:Sr):(srA r)[21]?=some (.string (bs r.next.sum)):=rfl
@[go_sem] theorem srA_22 (r:Sr):(srA r)[22]?=some (.int .u64 (r.best.seen.b.slot:Int)):=rfl
@[go_sem] theorem srA_23 (r:Sr):(srA r)[23]?=some (.int .u64 (r.best.seen.b.prop:Int)):=rfl
@[go_sem] theorem srA_24 (r:Sr):(srA r)[24]?=some (.string (bs r.best.seen.b.parent)):=rfl
@[go_sem] theorem srA_25 (r:Sr):(srA r)[25]?=some (.string (bs r.best.seen.b.state)):=rfl
@[go_sem] theorem srA_26 (r:Sr):(srA r)[26]?=some (.string (bs r.best.seen.b.body)):=rfl
@[go_sem] theorem srA_27 (r:Sr):(srA r)[27]?=some (.string (bs r.best.seen.x.acc)):=rfl
@[go_sem] theorem srA_28 (r:Sr):(srA r)[28]?=some (.string (bs r.best.seen.x.rcp)):=rfl
@[go_sem] theorem srA_29 (r:Sr):(srA r)[29]?=some (.int .u64 (r.best.seen.x.num:Int)):=rfl
@[go_sem] theorem srA_30 (r:Sr):(srA r)[30]?=some (.slice r.best.seen.br.addr r.best.seen.br.l.length r.best.seen.br.cap):=rfl
@[go_sem] theorem srA_31 (r:Sr):(srA r)[31]?=some (.slice r.best.next.ks.addr r.best.next.ks.l.length r.best.next.ks.cap):=rfl
@[go_sem] theorem srA_32 (r:Sr):(srA r)[32]?=some (.string (bs r.best.next.sum)):=rfl
@[go_sem] theorem srA_33 (r:Sr):(srA r)[33]?=some (.slice r.best.nb.addr r.best.nb.l.length r.best.nb.cap):=rfl
@[go_sem] theorem srA_34 (r:Sr):(srA r)[34]?=some (.int .u64 (r.best.fin.b.slot:Int)):=rfl
@[go_sem] theorem srA_35 (r:Sr):(srA r)[35]?=some (.int .u64 (r.best.fin.b.prop:Int)):=rfl
@[go_sem] theorem srA_36 (r:Sr):(srA r)[36]?=some (.string (bs r.best.fin.b.parent)):=rfl
@[go_sem] theorem srA_37 (r:Sr):(srA r)[37]?=some (.string (bs r.best.fin.b.state)):=rfl
@[go_sem] theorem srA_38 (r:Sr):(srA r)[38]?=some (.string (bs r.best.fin.b.body)):=rfl
@[go_sem] theorem srA_39 (r:Sr):(srA r)[39]?=some (.string (bs r.best.fin.x.acc)):=rfl
@[go_sem] theorem srA_40 (r:Sr):(srA r)[40]?=some (.string (bs r.best.fin.x.rcp)):=rfl
@[go_sem] theorem srA_41 (r:Sr):(srA r)[41]?=some (.int .u64 (r.best.fin.x.num:Int)):=rfl
@[go_sem] theorem srA_42 (r:Sr):(srA r)[42]?=some (.slice r.best.fin.br.addr r.best.fin.br.l.length r.best.fin.br.cap):=rfl
@[go_sem] theorem srA_43 (r:Sr):(srA r)[43]?=some (.slice r.best.fb.addr r.best.fb.l.length r.best.fb.cap):=rfl
@[go_sem] theorem srA_44 (r:Sr):(srA r)[44]?=some (.int .u64 (r.best.bits:Int)):=rfl
@[go_sem] theorem srA_45 (r:Sr):(srA r)[45]?=some (.string (bs r.best.sig)):=rfl
@[go_sem] theorem srA_46 (r:Sr):(srA r)[46]?=some (.int .u64 (r.best.slot:Int)):=rfl
@[go_sem] theorem srA_47 (r:Sr):(srA r)[47]?=some (.bool r.has):=rfl
@[go_sem] theorem srA_48 (r:Sr):(srA r)[48]?=some (.int .i64 r.last):=rfl
@[go_sem] theorem srA_49 (r:Sr):(srA r)[49]?=some (.int .i64 r.this):=rfl
@[go_sem] theorem srA_50 (r:Sr):(srA r)[50]?=some (.bool r.forced):=rfl
@[go_sem] theorem srV_fold (r:Sr):Value.agg #[.int .u64 (r.fin.b.slot:Int),.int .u64 (r.fin.b.prop:Int),.string (bs r.fin.b.parent),.string (bs r.fin.b.state),.string (bs r.fin.b.body),.string (bs r.fin.x.acc),.string (bs r.fin.x.rcp),.int .u64 (r.fin.x.num:Int),.slice r.fin.br.addr r.fin.br.l.length r.fin.br.cap,.int .u64 (r.new.b.slot:Int),.int .u64 (r.new.b.prop:Int),.string (bs r.new.b.parent),.string (bs r.new.b.state),.string (bs r.new.b.body),.string (bs r.new.x.acc),.string (bs r.new.x.rcp),.int .u64 (r.new.x.num:Int),.slice r.new.br.addr r.new.br.l.length r.new.br.cap,.slice r.now.ks.addr r.now.ks.l.length r.now.ks.cap,.string (bs r.now.sum),.slice r.next.ks.addr r.next.ks.l.length r.next.ks.cap,.string (bs r.next.sum),.int .u64 (r.best.seen.b.slot:Int),.int .u64 (r.best.seen.b.prop:Int),.string (bs r.best.seen.b.parent),.string (bs r.best.seen.b.state),.string (bs r.best.seen.b.body),.string (bs r.best.seen.x.acc),.string (bs r.best.seen.x.rcp),.int .u64 (r.best.seen.x.num:Int),.slice r.best.seen.br.addr r.best.seen.br.l.length r.best.seen.br.cap,.slice r.best.next.ks.addr r.best.next.ks.l.length r.best.next.ks.cap,.string (bs r.best.next.sum),.slice r.best.nb.addr r.best.nb.l.length r.best.nb.cap,.int .u64 (r.best.fin.b.slot:Int),.int .u64 (r.best.fin.b.prop:Int),.string (bs r.best.fin.b.parent),.string (bs r.best.fin.b.state),.string (bs r.best.fin.b.body),.string (bs r.best.fin.x.acc),.string (bs r.best.fin.x.rcp),.int .u64 (r.best.fin.x.num:Int),.slice r.best.fin.br.addr r.best.fin.br.l.length r.best.fin.br.cap,.slice r.best.fb.addr r.best.fb.l.length r.best.fb.cap,.int .u64 (r.best.bits:Int),.string (bs r.best.sig),.int .u64 (r.best.slot:Int),.bool r.has,.int .i64 r.last,.int .i64 r.this,.bool r.forced]=srV r:=rfl
@[go_sem] theorem srV_zero:Value.agg #[.int .u64 0,.int .u64 0,.string { data := #[] },.string { data := #[] },.string { data := #[] },.string { data := #[] },.string { data := #[] },.int .u64 0,.slice none 0 0,.int .u64 0,.int .u64 0,.string { data := #[] },.string { data := #[] },.string { data := #[] },.string { data := #[] },.string { data := #[] },.int .u64 0,.slice none 0 0,.slice none 0 0,.string { data := #[] },.slice none 0 0,.string { data := #[] },.int .u64 0,.int .u64 0,.string { data := #[] },.string { data := #[] },.string { data := #[] },.string { data := #[] },.string { data := #[] },.int .u64 0,.slice none 0 0,.slice none 0 0,.string { data := #[] },.slice none 0 0,.int .u64 0,.int .u64 0,.string { data := #[] },.string { data := #[] },.string { data := #[] },.string { data := #[] },.string { data := #[] },.int .u64 0,.slice none 0 0,.slice none 0 0,.int .u64 0,.string { data := #[] },.int .u64 0,.bool false,.int .i64 0,.int .i64 0,.bool false]=srV Sr.zero:=rfl
section
variable {H:Type}{enc:TypeId×Value→H}{w:World}{base:Nat}{spare:Nat→Bool}{held:Bool}{r:Reach}{b0:Nat}{v:Value}{d:DataW H}{p:List MemPlace}{fuel:Nat}{cs:List Value}{x:DataW H×List MemPlace}
theorem agg_part{ds:List (DataW H)} (hb:Rows.uptoBulk (DataW.agg ds)≤1048576) {d:DataW H} (h:d∈ds):Rows.uptoBulk d≤1048576:=by
 simp only[Rows.uptoBulk]at hb
 have:=bulk_part h
 omega
theorem cut_list{α:Type} (cs:List α) (o s e:Nat) (h:e=o+s):cs.drop o=(cs.drop o).take s ++ cs.drop e:=by
 subst h
 rw[←List.drop_drop,List.take_append_drop]
theorem read_u64(h:DataW.trod enc Tryz.prog w base spare held fuel 22 cs=some x):∃ a:Nat,cs=[.int .u64 (a:Int)]∧a<18446744073709551616:=by
 obtain⟨a,e,rfl,wa⟩:=DataW.trod_int (show Tryz.prog.underlying 22 = some (.int .u64) by kernel_rfl) h
 obtain⟨h0,h1⟩:=bounds_u64 wa
 obtain⟨n,rfl⟩:∃ n:Nat,a=n:=⟨a.toNat,(Int.toNat_of_nonneg h0).symm⟩
 exact⟨n,e,by omega⟩
theorem read_str(h:DataW.trod enc Tryz.prog w base spare held fuel 9 cs=some x) (hb:Rows.uptoBulk x.1≤1048576):∃ a:Bytes,cs=[.string (bs a)]∧a.length≤1048576:=by
 obtain⟨s,e,rfl,ws⟩:=DataW.trod_string underString h
 refine⟨s.data.toList,by rw[bs_of];exact e,bulk_string hb⟩
theorem cells_u64:Tryz.prog.cellsOf 22 = 1:=by kernel_rfl
theorem cells_str:Tryz.prog.cellsOf 9 = 1:=by kernel_rfl
end
end
section
open BigFrame Go.RowKit Go.Phx Go.Shelf
set_option maxRecDepth 100000
section
variable {w:World}{g:Nat}{t:TypeId}{cs:Array Value}
@[go_sem] theorem cell_setRow (hg:g<w.heap.size) (i:Nat):(setRow w g t cs).cell? ⟨g,i,none⟩=cs[i]?:=(Blk.row hg).cell i
@[go_sem] theorem cell_setRow_ne {b:Nat} (hn:b≠g) (i:Nat):(setRow w g t cs).cell? ⟨b,i,none⟩=w.cell? ⟨b,i,none⟩:=by
 have:(setRow w g t cs).heap[b]?=w.heap[b]?:=World.putObj_heap_other hn
 simp[World.cell?,this]
@[go_sem] theorem frozen_setRow (hg:g<w.heap.size) (i:Nat):(setRow w g t cs).frozen? ⟨g,i,none⟩=false:=(Blk.row hg).free i
end
section
variable {P:Program}{ops:Array Oper}{rest:List Oper}{o:Oper}{a:Act}{w w':World}{Q:Exit→Act→World→Prop}{ty:TypeId}{p v:Value}
theorem wpList_load_run(hr:(Instr.loadAt ty p).run P w=.ok v w) (hgd:o.guard=none) (x:Operand) (ho:o.op=.load ty x) (hx:a.eval x=p) (h:wpList P ops Q rest (a.put o.dst v) w):wpList P ops Q (o :: rest) a w:=by
 refine wpList_plain hgd fun K hK=>?_
 unfold Oper.wp execOp
 simp only[ho,hx,Sem.run_bind,hr,Result.andThen_ok,Sem.run_pure]
 exact hK _ _ h
theorem run_store_cell{b i:Nat}{t:TypeId}{cs:Array Value} (h:Blk w b t cs) (hi:decide (i<cs.size)=true) (hz:(P.info? ty).map (·.size)=some 1) (hv:(∃ k n,v=.int k n)∨(∃ b,v=.bool b)∨∃ s,v=.string s):(Instr.storeAt ty (.pointer (some ⟨b,i,none⟩)) v).run P w=.ok () (w.setCell ⟨b,i,none⟩ v):=by
 have hi2:i<cs.size:=of_decide_eq_true hi
 have hc:w.cell? ⟨b,i,none⟩=some cs[i]:=by rw[h.cell,Array.getElem?_eq_getElem hi2]
 have hf:=h.free i
 cases hq:P.info? ty with
 | none=>simp[hq]at hz
 | some j =>
  have hs:j.size=1:=by simpa[hq] using hz
  rcases hv with ⟨k,n,rfl⟩|⟨b,rfl⟩|⟨s,rfl⟩
  all_goals simp[Instr.storeAt,Instr.sureAddr,storeVar,sizeOf,typeInfo,hq,hs,storeCells,go_sem,hc,hf]
def Halted(p:Prop):Prop:=p
theorem wpList_store_halt(hr:(Instr.storeAt ty p v).run P w=.ok () w') (hgd:o.guard=none) (x y:Operand) (ho:o.op=.store ty x y) (hx:a.eval x=p) (hy:a.eval y=v) (h:Halted (wpList P ops Q rest (a.put o.dst undef) w')):wpList P ops Q (o :: rest) a w:=by
 refine wpList_plain hgd fun K hK=>?_
 unfold Oper.wp execOp
 simp only[ho,hx,hy,Sem.run_bind,hr,Result.andThen_ok,Sem.run_pure]
 exact hK _ _ h
theorem wpList_store_run(hr:(Instr.storeAt ty p v).run P w=.ok () w') (hgd:o.guard=none) (x y:Operand) (ho:o.op=.store ty x y) (hx:a.eval x=p) (hy:a.eval y=v) (h:wpList P ops Q rest (a.put o.dst undef) w'):wpList P ops Q (o :: rest) a w:=by
 refine wpList_plain hgd fun K hK=>?_
 unfold Oper.wp execOp
 simp only[ho,hx,hy,Sem.run_bind,hr,Result.andThen_ok,Sem.run_pure]
 exact hK _ _ h
theorem exec_load{x:Operand} (ho:o.op=.load ty x) (hx:a.eval x=p) (hr:(Instr.loadAt ty p).run P w=.ok v w):(execOp a.eval o).run P w=.ok (.value v) w:=by
 unfold execOp
 simp only[ho,hx,Sem.run_bind,hr,Result.andThen_ok,Sem.run_pure]
theorem results_cell{fn:Func}{q:Tmp} (h:fn.results = #[.cell q ty]) {tmps:Array Value}{ad:Addr} (hp:tmps.getD q undef=.pointer (some ad)) (hr:(Instr.loadAt ty (.pointer (some ad))).run P w=.ok v w):(results fn tmps).run P w=.ok v w:=by
 have h2:(loadVar ty ad).run P w=.ok v w:=by simpa[Instr.loadAt,Instr.sureAddr] using hr
 have hp2:tmps[q]?.getD undef=.pointer (some ad):=by simpa using hp
 simp only[results,h]
 simp[Sem.run_bind,Result.andThen,hp2,asAddr,h2]
theorem results_cell2{fn:Func}{q u:Tmp} (h:fn.results = #[.cell q ty,.tmp u]) {tmps:Array Value}{ad:Addr} (hp:tmps.getD q undef=.pointer (some ad)) (hr:(Instr.loadAt ty (.pointer (some ad))).run P w=.ok v w):(results fn tmps).run P w=.ok (.tuple #[v,tmps.getD u undef]) w:=by
 have h2:(loadVar ty ad).run P w=.ok v w:=by simpa[Instr.loadAt,Instr.sureAddr] using hr
 have hp2:tmps[q]?.getD undef=.pointer (some ad):=by simpa using hp
 simp only[results,h]
 simp[Sem.run_bind,Result.andThen,hp2,asAddr,h2]
end
theorem sizeHd:(Tryz.prog.info? 28).map (·.size)=some 5:=by kernel_rfl
theorem hdA_one(r:Hd):(hdA r).all (·.oneCell')=true:=by simp[hdA,hdC,exA,exC,ltA,ltC,cmA,cmC,btA,btC,upA,upC,srA,srC,Value.oneCell']
theorem sizeEx:(Tryz.prog.info? 30).map (·.size)=some 3:=by kernel_rfl
theorem exA_one(r:Ex):(exA r).all (·.oneCell')=true:=by simp[hdA,hdC,exA,exC,ltA,ltC,cmA,cmC,btA,btC,upA,upC,srA,srC,Value.oneCell']
theorem sizeLt:(Tryz.prog.info? 33).map (·.size)=some 9:=by kernel_rfl
theorem ltA_one(r:Lt):(ltA r).all (·.oneCell')=true:=by simp[hdA,hdC,exA,exC,ltA,ltC,cmA,cmC,btA,btC,upA,upC,srA,srC,Value.oneCell']
theorem sizeCm:(Tryz.prog.info? 35).map (·.size)=some 2:=by kernel_rfl
theorem cmA_one(r:Cm):(cmA r).all (·.oneCell')=true:=by simp[hdA,hdC,exA,exC,ltA,ltC,cmA,cmC,btA,btC,upA,upC,srA,srC,Value.oneCell']
theorem sizeBt:(Tryz.prog.info? 59).map (·.size)=some 12:=by kernel_rfl
theorem btA_one(r:Bt):(btA r).all (·.oneCell')=true:=by simp[hdA,hdC,exA,exC,ltA,ltC,cmA,cmC,btA,btC,upA,upC,srA,srC,Value.oneCell']
theorem sizeUp:(Tryz.prog.info? 37).map (·.size)=some 25:=by kernel_rfl
theorem upA_one(r:Up):(upA r).all (·.oneCell')=true:=by simp[hdA,hdC,exA,exC,ltA,ltC,cmA,cmC,btA,btC,upA,upC,srA,srC,Value.oneCell']
theorem sizeSr:(Tryz.prog.info? 39).map (·.size)=some 51:=by kernel_rfl
theorem srA_one(r:Sr):(srA r).all (·.oneCell')=true:=by simp[hdA,hdC,exA,exC,ltA,ltC,cmA,cmC,btA,btC,upA,upC,srA,srC,Value.oneCell']
theorem ldHd{W:World}{b:Nat} (r:Hd) (h:Blk W b 28 (hdA r)):(Instr.loadAt 28 (.pointer (some ⟨b,0,none⟩))).run Tryz.prog W=.ok (hdV r) W :=
 run_load_part h [] (hdC r) [] (by simp[hdA]) rfl Tryz.underlying28 rfl sizeHd
theorem stHd{W:World}{b:Nat} (r:Hd) (h:Blk W b 28 (hdA r)) (v:Hd):(Instr.storeAt 28 (.pointer (some ⟨b,0,none⟩)) (hdV v)).run Tryz.prog W=.ok () (setRow W b 28 (hdA v)):=by
 have:=run_store_part h [] (hdC r) [] (by simp[hdA]) rfl (hdA v) rfl sizeHd (hdA_one v)
 simpa[hdA,hdV] using this
theorem stEx{W:World}{b:Nat} (r:Ex) (h:Blk W b 30 (exA r)) (v:Ex):(Instr.storeAt 30 (.pointer (some ⟨b,0,none⟩)) (exV v)).run Tryz.prog W=.ok () (setRow W b 30 (exA v)):=by
 have:=run_store_part h [] (exC r) [] (by simp[exA]) rfl (exA v) rfl sizeEx (exA_one v)
 simpa[exA,exV] using this
theorem ldLt{W:World}{b:Nat} (r:Lt) (h:Blk W b 33 (ltA r)):(Instr.loadAt 33 (.pointer (some ⟨b,0,none⟩))).run Tryz.prog W=.ok (ltV r) W :=
 run_load_part h [] (ltC r) [] (by simp[ltA]) rfl Tryz.underlying33 rfl sizeLt
theorem stLt{W:World}{b:Nat} (r:Lt) (h:Blk W b 33 (ltA r)) (v:Lt):(Instr.storeAt 33 (.pointer (some ⟨b,0,none⟩)) (ltV v)).run Tryz.prog W=.ok () (setRow W b 33 (ltA v)):=by
 have:=run_store_part h [] (ltC r) [] (by simp[ltA]) rfl (ltA v) rfl sizeLt (ltA_one v)
 simpa[ltA,ltV] using this
theorem ldLt_b{W:World}{b:Nat} (r:Lt) (h:Blk W b 33 (ltA r)):(Instr.loadAt 28 (.pointer (some ⟨b,0,none⟩))).run Tryz.prog W=.ok (hdV r.b) W :=
 run_load_part h (([]:List Value)) (hdC r.b) ((exC r.x) ++ (([.slice r.br.addr r.br.l.length r.br.cap]:List Value))) U U Tryz.underlying28 rfl sizeHd
theorem stLt_b{W:World}{b:Nat} (r:Lt) (h:Blk W b 33 (ltA r)) (v:Hd):(Instr.storeAt 28 (.pointer (some ⟨b,0,none⟩)) (hdV v)).run Tryz.prog W=.ok () (setRow W b 33 (ltA { r with b:=v })) :=
 (run_store_part (o:=0) h (([]:List Value)) (hdC r.b) ((exC r.x) ++ (([.slice r.br.addr r.br.l.length r.br.cap]:List Value))) U U (hdA v) U sizeHd (hdA_one v)).trans (by rw[show((([]:List Value)) ++ ((hdA v).toList ++ ((exC r.x) ++ (([.slice r.br.addr r.br.l.length r.br.cap]:List Value))))).toArray=ltA { r with b:=v } from U])
theorem ldLt_x{W:World}{b:Nat} (r:Lt) (h:Blk W b 33 (ltA r)):(Instr.loadAt 30 (.pointer (some ⟨b,5,none⟩))).run Tryz.prog W=.ok (exV r.x) W :=
 run_load_part h ((hdC r.b)) (exC r.x) ((([.slice r.br.addr r.br.l.length r.br.cap]:List Value))) U U Tryz.underlying30 rfl sizeEx
theorem ldCm{W:World}{b:Nat} (r:Cm) (h:Blk W b 35 (cmA r)):(Instr.loadAt 35 (.pointer (some ⟨b,0,none⟩))).run Tryz.prog W=.ok (cmV r) W :=
 run_load_part h [] (cmC r) [] (by simp[cmA]) rfl Tryz.underlying35 rfl sizeCm
theorem stCm{W:World}{b:Nat} (r:Cm) (h:Blk W b 35 (cmA r)) (v:Cm):(Instr.storeAt 35 (.pointer (some ⟨b,0,none⟩)) (cmV v)).run Tryz.prog W=.ok () (setRow W b 35 (cmA v)):=by
 have:=run_store_part h [] (cmC r) [] (by simp[cmA]) rfl (cmA v) rfl sizeCm (cmA_one v)
 simpa[cmA,cmV] using this
theorem stcCm_sum{W:World}{b:Nat} (r:Cm) (h:Blk W b 35 (cmA r)) (v:Bytes):(Instr.storeAt 9 (.pointer (some ⟨b,1,none⟩)) (.string (bs v))).run Tryz.prog W=.ok () (setRow W b 35 (cmA { r with sum:=v })):=by
 rw[←show W.setCell ⟨b,1,none⟩ (.string (bs v))=setRow W b 35 (cmA { r with sum:=v }) from set_row h _ _]
 exact run_store_cell h U U (by first|exact .inl ⟨_,_,rfl⟩|exact .inr (.inl ⟨_,rfl⟩)|exact .inr (.inr ⟨_,rfl⟩))
theorem ldBt{W:World}{b:Nat} (r:Bt) (h:Blk W b 59 (btA r)):(Instr.loadAt 59 (.pointer (some ⟨b,0,none⟩))).run Tryz.prog W=.ok (btV r) W :=
 run_load_part h [] (btC r) [] (by simp[btA]) rfl Tryz.underlying59 rfl sizeBt
theorem stBt{W:World}{b:Nat} (r:Bt) (h:Blk W b 59 (btA r)) (v:Bt):(Instr.storeAt 59 (.pointer (some ⟨b,0,none⟩)) (btV v)).run Tryz.prog W=.ok () (setRow W b 59 (btA v)):=by
 have:=run_store_part h [] (btC r) [] (by simp[btA]) rfl (btA v) rfl sizeBt (btA_one v)
 simpa[btA,btV] using this
theorem ldBt_lt{W:World}{b:Nat} (r:Bt) (h:Blk W b 59 (btA r)):(Instr.loadAt 33 (.pointer (some ⟨b,0,none⟩))).run Tryz.prog W=.ok (ltV r.lt) W :=
 run_load_part h (([]:List Value)) (ltC r.lt) ((cmC r.now) ++ (([.slice r.br.addr r.br.l.length r.br.cap]:List Value))) U U Tryz.underlying33 rfl sizeLt
theorem stBt_lt{W:World}{b:Nat} (r:Bt) (h:Blk W b 59 (btA r)) (v:Lt):(Instr.storeAt 33 (.pointer (some ⟨b,0,none⟩)) (ltV v)).run Tryz.prog W=.ok () (setRow W b 59 (btA { r with lt:=v })) :=
 (run_store_part (o:=0) h (([]:List Value)) (ltC r.lt) ((cmC r.now) ++ (([.slice r.br.addr r.br.l.length r.br.cap]:List Value))) U U (ltA v) U sizeLt (ltA_one v)).trans (by rw[show((([]:List Value)) ++ ((ltA v).toList ++ ((cmC r.now) ++ (([.slice r.br.addr r.br.l.length r.br.cap]:List Value))))).toArray=btA { r with lt:=v } from U])
theorem ldBt_now{W:World}{b:Nat} (r:Bt) (h:Blk W b 59 (btA r)):(Instr.loadAt 35 (.pointer (some ⟨b,9,none⟩))).run Tryz.prog W=.ok (cmV r.now) W :=
 run_load_part h ((ltC r.lt)) (cmC r.now) ((([.slice r.br.addr r.br.l.length r.br.cap]:List Value))) U U Tryz.underlying35 rfl sizeCm
theorem stBt_now{W:World}{b:Nat} (r:Bt) (h:Blk W b 59 (btA r)) (v:Cm):(Instr.storeAt 35 (.pointer (some ⟨b,9,none⟩)) (cmV v)).run Tryz.prog W=.ok () (setRow W b 59 (btA { r with now:=v })) :=
 (run_store_part (o:=9) h ((ltC r.lt)) (cmC r.now) ((([.slice r.br.addr r.br.l.length r.br.cap]:List Value))) U U (cmA v) U sizeCm (cmA_one v)).trans (by rw[show(((ltC r.lt)) ++ ((cmA v).toList ++ ((([.slice r.br.addr r.br.l.length r.br.cap]:List Value))))).toArray=btA { r with now:=v } from U])
theorem ldUp{W:World}{b:Nat} (r:Up) (h:Blk W b 37 (upA r)):(Instr.loadAt 37 (.pointer (some ⟨b,0,none⟩))).run Tryz.prog W=.ok (upV r) W :=
 run_load_part h [] (upC r) [] (by simp[upA]) rfl Tryz.underlying37 rfl sizeUp
theorem stUp{W:World}{b:Nat} (r:Up) (h:Blk W b 37 (upA r)) (v:Up):(Instr.storeAt 37 (.pointer (some ⟨b,0,none⟩)) (upV v)).run Tryz.prog W=.ok () (setRow W b 37 (upA v)):=by
 have:=run_store_part h [] (upC r) [] (by simp[upA]) rfl (upA v) rfl sizeUp (upA_one v)
 simpa[upA,upV] using this
theorem ldUp_seen{W:World}{b:Nat} (r:Up) (h:Blk W b 37 (upA r)):(Instr.loadAt 33 (.pointer (some ⟨b,0,none⟩))).run Tryz.prog W=.ok (ltV r.seen) W :=
 run_load_part h (([]:List Value)) (ltC r.seen) ((cmC r.next) ++ (([.slice r.nb.addr r.nb.l.length r.nb.cap]:List Value)) ++ (ltC r.fin) ++ (([.slice r.fb.addr r.fb.l.length r.fb.cap]:List Value)) ++ (([.int .u64 (r.bits:Int)]:List Value)) ++ (([.string (bs r.sig)]:List Value)) ++ (([.int .u64 (r.slot:Int)]:List Value))) U U Tryz.underlying33 rfl sizeLt
theorem stUp_seen{W:World}{b:Nat} (r:Up) (h:Blk W b 37 (upA r)) (v:Lt):(Instr.storeAt 33 (.pointer (some ⟨b,0,none⟩)) (ltV v)).run Tryz.prog W=.ok () (setRow W b 37 (upA { r with seen:=v })) :=
 (run_store_part (o:=0) h (([]:List Value)) (ltC r.seen) ((cmC r.next) ++ (([.slice r.nb.addr r.nb.l.length r.nb.cap]:List Value)) ++ (ltC r.fin) ++ (([.slice r.fb.addr r.fb.l.length r.fb.cap]:List Value)) ++ (([.int .u64 (r.bits:Int)]:List Value)) ++ (([.string (bs r.sig)]:List Value)) ++ (([.int .u64 (r.slot:Int)]:List Value))) U U (ltA v) U sizeLt (ltA_one v)).trans (by rw[show((([]:List Value)) ++ ((ltA v).toList ++ ((cmC r.next) ++ (([.slice r.nb.addr r.nb.l.length r.nb.cap]:List Value)) ++ (ltC r.fin) ++ (([.slice r.fb.addr r.fb.l.length r.fb.cap]:List Value)) ++ (([.int .u64 (r.bits:Int)]:List Value)) ++ (([.string (bs r.sig)]:List Value)) ++ (([.int .u64 (r.slot:Int)]:List Value))))).toArray=upA { r with seen:=v } from U])
theorem ldUp_seen_b{W:World}{b:Nat} (r:Up) (h:Blk W b 37 (upA r)):(Instr.loadAt 28 (.pointer (some ⟨b,0,none⟩))).run Tryz.prog W=.ok (hdV r.seen.b) W :=
 run_load_part h (([]:List Value)) (hdC r.seen.b) ((exC r.seen.x) ++ (([.slice r.seen.br.addr r.seen.br.l.length r.seen.br.cap]:List Value)) ++ (cmC r.next) ++ (([.slice r.nb.addr r.nb.l.length r.nb.cap]:List Value)) ++ (ltC r.fin) ++ (([.slice r.fb.addr r.fb.l.length r.fb.cap]:List Value)) ++ (([.int .u64 (r.bits:Int)]:List Value)) ++ (([.string (bs r.sig)]:List Value)) ++ (([.int .u64 (r.slot:Int)]:List Value))) U U Tryz.underlying28 rfl sizeHd
theorem ldUp_next{W:World}{b:Nat} (r:Up) (h:Blk W b 37 (upA r)):(Instr.loadAt 35 (.pointer (some ⟨b,9,none⟩))).run Tryz.prog W=.ok (cmV r.next) W :=
 run_load_part h ((ltC r.seen)) (cmC r.next) ((([.slice r.nb.addr r.nb.l.length r.nb.cap]:List Value)) ++ (ltC r.fin) ++ (([.slice r.fb.addr r.fb.l.length r.fb.cap]:List Value)) ++ (([.int .u64 (r.bits:Int)]:List Value)) ++ (([.string (bs r.sig)]:List Value)) ++ (([.int .u64 (r.slot:Int)]:List Value))) U U Tryz.underlying35 rfl sizeCm
theorem stUp_next{W:World}{b:Nat} (r:Up) (h:Blk W b 37 (upA r)) (v:Cm):(Instr.storeAt 35 (.pointer (some ⟨b,9,none⟩)) (cmV v)).run Tryz.prog W=.ok () (setRow W b 37 (upA { r with next:=v })) :=
 (run_store_part (o:=9) h ((ltC r.seen)) (cmC r.next) ((([.slice r.nb.addr r.nb.l.length r.nb.cap]:List Value)) ++ (ltC r.fin) ++ (([.slice r.fb.addr r.fb.l.length r.fb.cap]:List Value)) ++ (([.int .u64 (r.bits:Int)]:List Value)) ++ (([.string (bs r.sig)]:List Value)) ++ (([.int .u64 (r.slot:Int)]:List Value))) U U (cmA v) U sizeCm (cmA_one v)).trans (by rw[show(((ltC r.seen)) ++ ((cmA v).toList ++ ((([.slice r.nb.addr r.nb.l.length r.nb.cap]:List Value)) ++ (ltC r.fin) ++ (([.slice r.fb.addr r.fb.l.length r.fb.cap]:List Value)) ++ (([.int .u64 (r.bits:Int)]:List Value)) ++ (([.string (bs r.sig)]:List Value)) ++ (([.int .u64 (r.slot:Int)]:List Value))))).toArray=upA { r with next:=v } from U])
theorem ldUp_fin{W:World}{b:Nat} (r:Up) (h:Blk W b 37 (upA r)):(Instr.loadAt 33 (.pointer (some ⟨b,12,none⟩))).run Tryz.prog W=.ok (ltV r.fin) W :=
 run_load_part h ((ltC r.seen) ++ (cmC r.next) ++ (([.slice r.nb.addr r.nb.l.length r.nb.cap]:List Value))) (ltC r.fin) ((([.slice r.fb.addr r.fb.l.length r.fb.cap]:List Value)) ++ (([.int .u64 (r.bits:Int)]:List Value)) ++ (([.string (bs r.sig)]:List Value)) ++ (([.int .u64 (r.slot:Int)]:List Value))) U U Tryz.underlying33 rfl sizeLt
theorem stUp_fin{W:World}{b:Nat} (r:Up) (h:Blk W b 37 (upA r)) (v:Lt):(Instr.storeAt 33 (.pointer (some ⟨b,12,none⟩)) (ltV v)).run Tryz.prog W=.ok () (setRow W b 37 (upA { r with fin:=v })) :=
 (run_store_part (o:=12) h ((ltC r.seen) ++ (cmC r.next) ++ (([.slice r.nb.addr r.nb.l.length r.nb.cap]:List Value))) (ltC r.fin) ((([.slice r.fb.addr r.fb.l.length r.fb.cap]:List Value)) ++ (([.int .u64 (r.bits:Int)]:List Value)) ++ (([.string (bs r.sig)]:List Value)) ++ (([.int .u64 (r.slot:Int)]:List Value))) U U (ltA v) U sizeLt (ltA_one v)).trans (by rw[show(((ltC r.seen) ++ (cmC r.next) ++ (([.slice r.nb.addr r.nb.l.length r.nb.cap]:List Value))) ++ ((ltA v).toList ++ ((([.slice r.fb.addr r.fb.l.length r.fb.cap]:List Value)) ++ (([.int .u64 (r.bits:Int)]:List Value)) ++ (([.string (bs r.sig)]:List Value)) ++ (([.int .u64 (r.slot:Int)]:List Value))))).toArray=upA { r with fin:=v } from U])
theorem ldUp_fin_b{W:World}{b:Nat} (r:Up) (h:Blk W b 37 (upA r)):(Instr.loadAt 28 (.pointer (some ⟨b,12,none⟩))).run Tryz.prog W=.ok (hdV r.fin.b) W :=
 run_load_part h ((ltC r.seen) ++ (cmC r.next) ++ (([.slice r.nb.addr r.nb.l.length r.nb.cap]:List Value))) (hdC r.fin.b) ((exC r.fin.x) ++ (([.slice r.fin.br.addr r.fin.br.l.length r.fin.br.cap]:List Value)) ++ (([.slice r.fb.addr r.fb.l.length r.fb.cap]:List Value)) ++ (([.int .u64 (r.bits:Int)]:List Value)) ++ (([.string (bs r.sig)]:List Value)) ++ (([.int .u64 (r.slot:Int)]:List Value))) U U Tryz.underlying28 rfl sizeHd
theorem stcUp_sig{W:World}{b:Nat} (r:Up) (h:Blk W b 37 (upA r)) (v:Bytes):(Instr.storeAt 9 (.pointer (some ⟨b,23,none⟩)) (.string (bs v))).run Tryz.prog W=.ok () (setRow W b 37 (upA { r with sig:=v })):=by
 rw[←show W.setCell ⟨b,23,none⟩ (.string (bs v))=setRow W b 37 (upA { r with sig:=v }) from set_row h _ _]
 exact run_store_cell h U U (by first|exact .inl ⟨_,_,rfl⟩|exact .inr (.inl ⟨_,rfl⟩)|exact .inr (.inr ⟨_,rfl⟩))
theorem ldSr{W:World}{b:Nat} (r:Sr) (h:Blk W b 39 (srA r)):(Instr.loadAt 39 (.pointer (some ⟨b,0,none⟩))).run Tryz.prog W=.ok (srV r) W :=
 run_load_part h [] (srC r) [] (by simp[srA]) rfl Tryz.underlying39 rfl sizeSr
theorem stSr{W:World}{b:Nat} (r:Sr) (h:Blk W b 39 (srA r)) (v:Sr):(Instr.storeAt 39 (.pointer (some ⟨b,0,none⟩)) (srV v)).run Tryz.prog W=.ok () (setRow W b 39 (srA v)):=by
 have:=run_store_part h [] (srC r) [] (by simp[srA]) rfl (srA v) rfl sizeSr (srA_one v)
 simpa[srA,srV] using this
theorem stSr_fin{W:World}{b:Nat} (r:Sr) (h:Blk W b 39 (srA r)) (v:Lt):(Instr.storeAt 33 (.pointer (some ⟨b,0,none⟩)) (ltV v)).run Tryz.prog W=.ok () (setRow W b 39 (srA { r with fin:=v })) :=
 (run_store_part (o:=0) h (([]:List Value)) (ltC r.fin) ((ltC r.new) ++ (cmC r.now) ++ (cmC r.next) ++ (upC r.best) ++ (([.bool r.has]:List Value)) ++ (([.int .i64 r.last]:List Value)) ++ (([.int .i64 r.this]:List Value)) ++ (([.bool r.forced]:List Value))) U U (ltA v) U sizeLt (ltA_one v)).trans (by rw[show((([]:List Value)) ++ ((ltA v).toList ++ ((ltC r.new) ++ (cmC r.now) ++ (cmC r.next) ++ (upC r.best) ++ (([.bool r.has]:List Value)) ++ (([.int .i64 r.last]:List Value)) ++ (([.int .i64 r.this]:List Value)) ++ (([.bool r.forced]:List Value))))).toArray=srA { r with fin:=v } from U])
theorem ldSr_fin_x{W:World}{b:Nat} (r:Sr) (h:Blk W b 39 (srA r)):(Instr.loadAt 30 (.pointer (some ⟨b,5,none⟩))).run Tryz.prog W=.ok (exV r.fin.x) W :=
 run_load_part h ((hdC r.fin.b)) (exC r.fin.x) ((([.slice r.fin.br.addr r.fin.br.l.length r.fin.br.cap]:List Value)) ++ (ltC r.new) ++ (cmC r.now) ++ (cmC r.next) ++ (upC r.best) ++ (([.bool r.has]:List Value)) ++ (([.int .i64 r.last]:List Value)) ++ (([.int .i64 r.this]:List Value)) ++ (([.bool r.forced]:List Value))) U U Tryz.underlying30 rfl sizeEx
theorem stSr_new{W:World}{b:Nat} (r:Sr) (h:Blk W b 39 (srA r)) (v:Lt):(Instr.storeAt 33 (.pointer (some ⟨b,9,none⟩)) (ltV v)).run Tryz.prog W=.ok () (setRow W b 39 (srA { r with new:=v })) :=
 (run_store_part (o:=9) h ((ltC r.fin)) (ltC r.new) ((cmC r.now) ++ (cmC r.next) ++ (upC r.best) ++ (([.bool r.has]:List Value)) ++ (([.int .i64 r.last]:List Value)) ++ (([.int .i64 r.this]:List Value)) ++ (([.bool r.forced]:List Value))) U U (ltA v) U sizeLt (ltA_one v)).trans (by rw[show(((ltC r.fin)) ++ ((ltA v).toList ++ ((cmC r.now) ++ (cmC r.next) ++ (upC r.best) ++ (([.bool r.has]:List Value)) ++ (([.int .i64 r.last]:List Value)) ++ (([.int .i64 r.this]:List Value)) ++ (([.bool r.forced]:List Value))))).toArray=srA { r with new:=v } from U])
theorem ldSr_now{W:World}{b:Nat} (r:Sr) (h:Blk W b 39 (srA r)):(Instr.loadAt 35 (.pointer (some ⟨b,18,none⟩))).run Tryz.prog W=.ok (cmV r.now) W :=
 run_load_part h ((ltC r.fin) ++ (ltC r.new)) (cmC r.now) ((cmC r.next) ++ (upC r.best) ++ (([.bool r.has]:List Value)) ++ (([.int .i64 r.last]:List Value)) ++ (([.int .i64 r.this]:List Value)) ++ (([.bool r.forced]:List Value))) U U Tryz.underlying35 rfl sizeCm
theorem stSr_now{W:World}{b:Nat} (r:Sr) (h:Blk W b 39 (srA r)) (v:Cm):(Instr.storeAt 35 (.pointer (some ⟨b,18,none⟩)) (cmV v)).run Tryz.prog W=.ok () (setRow W b 39 (srA { r with now:=v })) :=
 (run_store_part (o:=18) h ((ltC r.fin) ++ (ltC r.new)) (cmC r.now) ((cmC r.next) ++ (upC r.best) ++ (([.bool r.has]:List Value)) ++ (([.int .i64 r.last]:List Value)) ++ (([.int .i64 r.this]:List Value)) ++ (([.bool r.forced]:List Value))) U U (cmA v) U sizeCm (cmA_one v)).trans (by rw[show(((ltC r.fin) ++ (ltC r.new)) ++ ((cmA v).toList ++ ((cmC r.next) ++ (upC r.best) ++ (([.bool r.has]:List Value)) ++ (([.int .i64 r.last]:List Value)) ++ (([.int .i64 r.this]:List Value)) ++ (([.bool r.forced]:List Value))))).toArray=srA { r with now:=v } from U])
theorem ldSr_next{W:World}{b:Nat} (r:Sr) (h:Blk W b 39 (srA r)):(Instr.loadAt 35 (.pointer (some ⟨b,20,none⟩))).run Tryz.prog W=.ok (cmV r.next) W :=
 run_load_part h ((ltC r.fin) ++ (ltC r.new) ++ (cmC r.now)) (cmC r.next) ((upC r.best) ++ (([.bool r.has]:List Value)) ++ (([.int .i64 r.last]:List Value)) ++ (([.int .i64 r.this]:List Value)) ++ (([.bool r.forced]:List Value))) U U Tryz.underlying35 rfl sizeCm
theorem stSr_next{W:World}{b:Nat} (r:Sr) (h:Blk W b 39 (srA r)) (v:Cm):(Instr.storeAt 35 (.pointer (some ⟨b,20,none⟩)) (cmV v)).run Tryz.prog W=.ok () (setRow W b 39 (srA { r with next:=v })) :=
 (run_store_part (o:=20) h ((ltC r.fin) ++ (ltC r.new) ++ (cmC r.now)) (cmC r.next) ((upC r.best) ++ (([.bool r.has]:List Value)) ++ (([.int .i64 r.last]:List Value)) ++ (([.int .i64 r.this]:List Value)) ++ (([.bool r.forced]:List Value))) U U (cmA v) U sizeCm (cmA_one v)).trans (by rw[show(((ltC r.fin) ++ (ltC r.new) ++ (cmC r.now)) ++ ((cmA v).toList ++ ((upC r.best) ++ (([.bool r.has]:List Value)) ++ (([.int .i64 r.last]:List Value)) ++ (([.int .i64 r.this]:List Value)) ++ (([.bool r.forced]:List Value))))).toArray=srA { r with next:=v } from U])
theorem ldSr_best{W:World}{b:Nat} (r:Sr) (h:Blk W b 39 (srA r)):(Instr.loadAt 37 (.pointer (some ⟨b,22,none⟩))).run Tryz.prog W=.ok (upV r.best) W :=
 run_load_part h ((ltC r.fin) ++ (ltC r.new) ++ (cmC r.now) ++ (cmC r.next)) (upC r.best) ((([.bool r.has]:List Value)) ++ (([.int .i64 r.last]:List Value)) ++ (([.int .i64 r.this]:List Value)) ++ (([.bool r.forced]:List Value))) U U Tryz.underlying37 rfl sizeUp
theorem stSr_best{W:World}{b:Nat} (r:Sr) (h:Blk W b 39 (srA r)) (v:Up):(Instr.storeAt 37 (.pointer (some ⟨b,22,none⟩)) (upV v)).run Tryz.prog W=.ok () (setRow W b 39 (srA { r with best:=v })) :=
 (run_store_part (o:=22) h ((ltC r.fin) ++ (ltC r.new) ++ (cmC r.now) ++ (cmC r.next)) (upC r.best) ((([.bool r.has]:List Value)) ++ (([.int .i64 r.last]:List Value)) ++ (([.int .i64 r.this]:List Value)) ++ (([.bool r.forced]:List Value))) U U (upA v) U sizeUp (upA_one v)).trans (by rw[show(((ltC r.fin) ++ (ltC r.new) ++ (cmC r.now) ++ (cmC r.next)) ++ ((upA v).toList ++ ((([.bool r.has]:List Value)) ++ (([.int .i64 r.last]:List Value)) ++ (([.int .i64 r.this]:List Value)) ++ (([.bool r.forced]:List Value))))).toArray=srA { r with best:=v } from U])
theorem stcSr_has{W:World}{b:Nat} (r:Sr) (h:Blk W b 39 (srA r)) (v:Bool):(Instr.storeAt 4 (.pointer (some ⟨b,47,none⟩)) (.bool v)).run Tryz.prog W=.ok () (setRow W b 39 (srA { r with has:=v })):=by
 rw[←show W.setCell ⟨b,47,none⟩ (.bool v)=setRow W b 39 (srA { r with has:=v }) from set_row h _ _]
 exact run_store_cell h U U (by first|exact .inl ⟨_,_,rfl⟩|exact .inr (.inl ⟨_,rfl⟩)|exact .inr (.inr ⟨_,rfl⟩))
theorem stcSr_last{W:World}{b:Nat} (r:Sr) (h:Blk W b 39 (srA r)) (v:Int):(Instr.storeAt 3 (.pointer (some ⟨b,48,none⟩)) (.int .i64 v)).run Tryz.prog W=.ok () (setRow W b 39 (srA { r with last:=v })):=by
 rw[←show W.setCell ⟨b,48,none⟩ (.int .i64 v)=setRow W b 39 (srA { r with last:=v }) from set_row h _ _]
 exact run_store_cell h U U (by first|exact .inl ⟨_,_,rfl⟩|exact .inr (.inl ⟨_,rfl⟩)|exact .inr (.inr ⟨_,rfl⟩))
theorem stcSr_this{W:World}{b:Nat} (r:Sr) (h:Blk W b 39 (srA r)) (v:Int):(Instr.storeAt 3 (.pointer (some ⟨b,49,none⟩)) (.int .i64 v)).run Tryz.prog W=.ok () (setRow W b 39 (srA { r with this:=v })):=by
 rw[←show W.setCell ⟨b,49,none⟩ (.int .i64 v)=setRow W b 39 (srA { r with this:=v }) from set_row h _ _]
 exact run_store_cell h U U (by first|exact .inl ⟨_,_,rfl⟩|exact .inr (.inl ⟨_,rfl⟩)|exact .inr (.inr ⟨_,rfl⟩))
theorem wlr{P:Program}{ops:Array Oper}{Q:Exit→Act→World→Prop}{rest:List Oper}{d:Option Tmp}{x:Operand}{y:TypeId}{pos:String}{af:Array Edge}{a:Act}{w:World}{ty:TypeId}{p v:Value} (hr:(Instr.loadAt ty p).run P w=.ok v w) (hx:a.eval x=p) (h:wpList P ops Q rest (a.put d v) w):wpList P ops Q (⟨d,.load ty x,y,pos,af,none⟩ :: rest) a w :=
 wpList_load_run hr rfl x rfl hx h
theorem wsh{P:Program}{ops:Array Oper}{Q:Exit→Act→World→Prop}{rest:List Oper}{d:Option Tmp}{x z:Operand}{y:TypeId}{pos:String}{af:Array Edge}{a:Act}{w w':World}{ty:TypeId}{p v:Value} (hr:(Instr.storeAt ty p v).run P w=.ok () w') (hx:a.eval x=p) (hy:a.eval z=v) (h:Halted (wpList P ops Q rest (a.put d undef) w')):wpList P ops Q (⟨d,.store ty x z,y,pos,af,none⟩ :: rest) a w :=
 wpList_store_halt hr rfl x z rfl hx hy h
end
section
open BigFrame Go.RowKit Go.Phx Go.Shelf
attribute [local go_sem] Oper.semAt_some
theorem wrap_period(n:Nat) (hn:n<18446744073709551616):IntKind.u64.wrap ((n:Int) / 64)=((period n:Nat):Int):=by
 unfold period
 rw[show((n:Int) / 64)=((n / 64:Nat):Int) by omega]
 exact IntWalk.u64_in _ (by omega)
theorem period_calls(n:Nat) (hn:n<18446744073709551616) (w:World):Calls Tryz.prog 36 #[.int .u64 n] w (fun e w'=>e=.returned (.int .u64 (period n:Nat))∧w'=w):=by
 have p:=wrap_period n hn
 go_enter Tryz.func36, Tryz.ntmps36
 go_wp2_with fail
 go_ret
 exact⟨rfl,rfl⟩
theorem known_calls(c:Cm) (w:World):Calls Tryz.prog 33 #[cmV c] w (Ret w (.bool (knownP c))):=by
 go_enter Tryz.func33, Tryz.ntmps33
 go_wp2_with fail
 go_ret
 exact⟨rfl,bel⟩
theorem empty_calls(l:Lt) (w:World):Calls Tryz.prog 71 #[ltV l] w (Ret w (.bool (emptyP l))):=by
 have e1:=eqHd_run l.b Hd.zero
 have e2:=eqEx_run l.x Ex.zero
 have e3:((l.br.l.length:Int) == 0)=decide (l.br.l.length=0):=by
  rw[Bool.eq_iff_iff]
  simp
 unfold emptyP
 generalize eqHd l.b Hd.zero=r1 at *
 generalize eqEx l.x Ex.zero=r2 at *
 generalize decide (l.br.l.length=0)=r3 at *
 cases r1 <;> cases r2
 all_goals
  go_enter Tryz.func71, Tryz.ntmps71
  go_wp2_with fail
  go_ret
  exact⟨rfl,bel⟩
theorem hasNext_calls(u:Up) (w:World):Calls Tryz.prog 34 #[upV u] w (Ret w (.bool (hasNextP u))):=by
 have n1:=fun W=>known_calls u.next W
 unfold hasNextP
 generalize knownP u.next=r at *
 replace n1:=Z n1
 have K0:=Z (Blk.new0 w 37 (upA u))
 have hz:=size_alloc w (.cells (upA u) 37)
 go_enter Tryz.func34, Tryz.ntmps34
 go_wp2_with fail
 refine(n1.out _).mono ?_
 rintro e w1 ⟨rfl,h1⟩
 have K1:=Z (K0.out.below h1)
 have hB:Below w.heap.size w w1:=Below.on h1 bel
 clear h1
 (obtain⟨k1,f1,l1,m1⟩:=rl_ K1)
 cases r
 all_goals
  go_wp2_with fail
  go_ret
  exact⟨rfl,hB⟩
theorem isFinal_calls(u:Up) (w:World):Calls Tryz.prog 35 #[upV u] w (Ret w (.bool (isFinalP u))):=by
 have n1:=fun W=>empty_calls u.fin W
 have l1:=fun W h=>ldUp_fin (W:=W) (b:=w.heap.size) u h
 unfold isFinalP
 generalize emptyP u.fin=r at *
 replace n1:=Z n1
 have K0:=Blk.new0 w 37 (upA u)
 by_cases h0:0<u.fb.l.length
 ·go_enter Tryz.func35, Tryz.ntmps35
  go_wp2_with fail
  go_ret
  exact⟨by simp[h0],bel⟩
 ·go_enter Tryz.func35, Tryz.ntmps35
  go_wp2_with fail
  refine(n1.out _).mono ?_
  rintro e w1 ⟨rfl,h1⟩
  go_wp2_with fail
  go_ret
  exact⟨by simp[h0],Below.on h1 bel⟩
def ones8(n:Nat):Nat:=((List.range 8).filter fun i=>n.testBit i).length
def tabOk(T:ByteArray):Bool:=decide (T.size=256) && (List.range 256).all fun k=>decide ((T.data[k]?).map (·.toNat)=some (ones8 k))
theorem ones8_le(n:Nat):ones8 n≤8:=Nat.le_trans (List.length_filter_le _ _) (by simp)
theorem ones_parts(n:Nat):onesP n=ones8 (n / 256)+ones8 (n % 256):=by
 unfold onesP ones8
 rw[show List.range 16=List.range 8 ++ (List.range 8).map (· + 8) by decide,List.filter_append,List.length_append,List.filter_map,List.length_map,Nat.add_comm]
 congr 2
 ·apply List.filter_congr
  intro i _
  simp only[Function.comp]
  rw[show(256:Nat)=2 ^ 8 by decide,Nat.testBit_div_two_pow]
 ·apply List.filter_congr
  intro i hi
  rw[show(256:Nat)=2 ^ 8 by decide,Nat.testBit_mod_two_pow]
  simp[List.mem_range.1 hi]
theorem ones_mod(n:Nat):onesP (n % 65536)=onesP n:=by
 unfold onesP
 congr 1
 apply List.filter_congr
 intro i hi
 rw[show(65536:Nat)=2 ^ 16 by decide,Nat.testBit_mod_two_pow]
 simp[List.mem_range.1 hi]
theorem ones_le(n:Nat):onesP n≤16:=Nat.le_trans (List.length_filter_le _ _) (by simp)
theorem index_tab(T:ByteArray) (hT:tabOk T=true) (kk:IntKind) (k:Nat) (hk:k<256) (w:World):(Instr.index 9 (.string T) (.int kk (k:Int))).run Tryz.prog w=.ok (.int .u8 ((ones8 k:Nat):Int)) w:=by
 unfold tabOk at hT
 rw[Bool.and_eq_true,decide_eq_true_eq]at hT
 have h:=List.all_eq_true.1 hT.2 k (List.mem_range.2 hk)
 rw[decide_eq_true_eq]at h
 have hs:k<T.data.size:=by have:=hT.1;rw[←ByteArray.size_data]at this;omega
 rw[Array.getElem?_eq_getElem hs]at h
 have h2:(T.data[k]'hs).toNat=ones8 k:=by simpa using h
 have hs2:k<T.size:=by rw[hT.1];exact hk
 rw[run_index_string _ _ _ _ _ underString,dif_pos ⟨by omega,by omega⟩]
 have h3:(T[(k:Int).toNat]'(by rw[Int.toNat_natCast];exact hs2)).toNat=ones8 k:=by
  show(T.data[(k:Int).toNat]'_).toNat=_
  simp only[Int.toNat_natCast]
  exact h2
 rw[h3]
theorem and255(n:Nat) (hn:n<65536):bits .and .u16 (n:Int) 255=((n % 256:Nat):Int):=by
 have e:(BitVec.ofInt 16 (n:Int) &&& BitVec.ofInt 16 255).toNat=n % 256:=by
  rw[BitVec.toNat_and]
  have h1:(BitVec.ofInt 16 (n:Int)).toNat=n:=by simp;omega
  have h2:(BitVec.ofInt 16 255).toNat=2 ^ 8 - 1:=by decide
  rw[h1,h2,Nat.and_two_pow_sub_one_eq_mod]
 show IntKind.u16.wrap ((BitVec.ofInt 16 (n:Int) &&& BitVec.ofInt 16 255).toNat:Int)=_
 rw[e]
 exact IntWalk.u16_in _ (by omega)
theorem exec_index{P:Program}{o:Oper}{a:Act}{w:World}{t:TypeId}{x y:Operand}{u v r:Value} (ho:o.op=.index t x y) (hx:a.eval x=u) (hy:a.eval y=v) (hr:(Instr.index t u v).run P w=.ok r w) :
  (execOp a.eval o).run P w=.ok (.value r) w:=by
 unfold execOp
 simp only[ho,hx,hy,Sem.run_bind,hr,Result.andThen_ok,Sem.run_pure]
theorem shr8(n:Nat) (hn:n<65536):IntKind.u16.wrap ((n:Int) / 256)=((n / 256:Nat):Int):=by
 rw[show((n:Int) / 256)=((n / 256:Nat):Int) by omega]
 exact IntWalk.u16_in _ (by omega)
theorem ones_calls(n:Nat) (hn:n<65536) (w:World):Calls Tryz.prog 75 #[.int .u16 n] w (Ret w (.int .i64 (onesP n:Nat))):=by
 have q1:=shr8 n hn
 rw[ones_parts]
 have a1:=ones8_le (n / 256)
 have a2:=ones8_le (n % 256)
 have b1:n / 256<256:=by omega
 have b2:n % 256<256:=by omega
 have t1:=fun(T:ByteArray) (hT:tabOk T=true) (w:World)=>index_tab T hT .u16 (n / 256) b1 w
 have t2:=fun(T:ByteArray) (hT:tabOk T=true) (w:World)=>index_tab T hT .u16 (n % 256) b2 w
 have s1:IntKind.u8.wrap (((ones8 (n / 256):Nat):Int)+((ones8 (n % 256):Nat):Int))=((ones8 (n / 256):Nat):Int)+((ones8 (n % 256):Nat):Int):=IntWalk.u8_in _ (by omega)
 have s2:IntKind.i64.wrap (((ones8 (n / 256):Nat):Int)+((ones8 (n % 256):Nat):Int))=((ones8 (n / 256):Nat):Int)+((ones8 (n % 256):Nat):Int):=IntWalk.i64_in _ (by omega)
 have q2:=and255 n hn
 rw[Int.natCast_add]
 generalize ones8 (n / 256)=x at *
 generalize ones8 (n % 256)=y at *
 go_enter Tryz.func75, Tryz.ntmps75
 go_wp2_with fail
 have hwf:∀ f,Fence.wide.fn f:=fun _=>trivial
 refine(wpIn_wide (n:=9)).1 ?_
 refine wpIn_round_held (fun _=>True) (fun j=>decide (j<8)) U ?_
 have hS0:True:=trivial
 refine S_tk 0 (.int .u16 n) rfl hS0 (fun w' _=>by go_simp) ?_
 refine S_tk 1 (.int .u16 ((n / 256:Nat):Int)) rfl hS0 (fun w' _=>by go_simp) ?_
 refine S_tk 2 (.int .u8 x) rfl hS0 (fun w' _=>exec_index rfl rfl U (t1 _ (by decide +kernel) w')) ?_
 refine S_tk 3 (.int .u16 n) rfl hS0 (fun w' _=>by go_simp) ?_
 refine S_tk 4 (.int .u16 ((n % 256:Nat):Int)) rfl hS0 (fun w' _=>by go_simp) ?_
 refine S_tk 5 (.int .u8 y) rfl hS0 (fun w' _=>exec_index rfl rfl U (t2 _ (by decide +kernel) w')) ?_
 refine S_tk 6 (.int .u8 ((x:Int)+(y:Int))) rfl hS0 (fun w' _=>by go_simp) ?_
 refine S_tk 7 (.int .i64 ((x:Int)+(y:Int))) rfl hS0 (fun w' _=>by go_simp) ?_
 refine S_end 8 (ls:=[_]) rfl (fun j hj=>by simp;omega) U ?_
 gi_wp2_with fail
 refine⟨rfl,?_⟩
 go_wp2_with fail
 go_ret
 exact⟨rfl,bel⟩
theorem conv_bits(n:Nat):IntKind.u16.wrap (n:Int)=((n % 65536:Nat):Int):=by
 simp[IntKind.wrap,IntKind.signed,IntKind.bits]
theorem signers_calls(u:Up) (w:World):Calls Tryz.prog 38 #[upV u] w (Ret w (.int .i64 (onesP u.bits:Nat))):=by
 have n1:=fun W=>ones_calls (u.bits % 65536) (by omega) W
 rw[ones_mod]at n1
 have q:=conv_bits u.bits
 replace n1:=Z n1
 go_enter Tryz.func38, Tryz.ntmps38
 go_wp2_with fail
 refine(n1.out _).mono ?_
 rintro e w1 ⟨rfl,h1⟩
 go_wp2_with fail
 go_ret
 exact⟨rfl,Below.on h1 bel⟩
theorem mul3(n:Nat):IntKind.i64.wrap (3*((onesP n:Nat):Int))=3*((onesP n:Nat):Int):=by
 have:=ones_le n
 exact IntWalk.i64_in _ (by omega)
theorem two_dec(u:Up):decide ((32:Int)≤3*((onesP u.bits:Nat):Int))=twoP u:=by
 unfold twoP
 rw[Bool.eq_iff_iff,decide_eq_true_iff,decide_eq_true_iff]
 omega
theorem two_calls(u:Up) (w:World):Calls Tryz.prog 39 #[upV u] w (Ret w (.bool (twoP u))):=by
 have n1:=fun W=>signers_calls u W
 have K0:=Blk.new0 w 37 (upA u)
 have q:=mul3 u.bits
 have q2:=two_dec u
 replace n1:=Z n1
 replace K0:=Z K0
 go_enter Tryz.func39, Tryz.ntmps39
 go_wp2_with(with_reducible refine wlr (ldUp u K0.out) rfl ?_)
 trace_state
 refine(n1.out _).mono ?_
 rintro e w1 ⟨rfl,h1⟩
 go_wp2_with fail
 go_ret
 exact⟨by simp[←q2],Below.on h1 bel⟩
theorem pick_calls(b:Bool) (x y:Int) (w:World):Calls Tryz.prog 153 #[.bool b,.int .i64 x,.int .i64 y] w (fun e w'=>e=.returned (.int .i64 (if b then x else y))∧w'=w):=by
 cases b
 all_goals
  go_enter Tryz.func153, Tryz.ntmps153
  go_wp2_with fail
  go_ret
  exact⟨rfl,rfl⟩
theorem number_of(b:Bool) (w:World):Calls Tryz.prog 116 #[.bool b] w (fun e w'=>e=.returned (.int .i64 (numB b))∧w'=w):=by
 have n1:=fun W=>pick_calls b 1 0 W
 rw[show(if b=true then(1:Int) else 0)=numB b from rfl]at n1
 generalize numB b=r at *
 replace n1:=Z n1
 go_enter Tryz.func116, Tryz.ntmps116
 go_wp2_with fail
 refine(n1.out _).mono ?_
 rintro e w1 ⟨rfl,rfl⟩
 go_wp2_with fail
 go_ret
 exact⟨rfl,rfl⟩
theorem pickC_calls(b:Bool) (x y:Cm) (w:World):Calls Tryz.prog 111 #[.bool b,cmV x,cmV y] w (Ret w (cmV (if b then x else y))):=by
 cases b
 all_goals
  have K2:=Z (Blk.new2 w (.cells (cmA x) 35) (.cells (cmA y) 35) 35 (cmA Cm.zero))
  go_enter Tryz.func111, Tryz.ntmps111
  go_wp2_with(with_reducible refine wpList_store_run (o:=⟨_,.store 35 _ _,_,_,_,none⟩) (stCm Cm.zero K2.out _) rfl _ _ rfl rfl rfl ?_)
  refine bodyPost_ret (results_cell rfl rfl (ldCm _ (Blk.row K2.out.lt))) rfl ⟨rfl,?_⟩
  exact Below.row bel (by omega) (by simp;omega)
def cmpP(a b:Int):Int:=if a<b then -1 else if b<a then 1 else 0
theorem cmpI_calls(a b:Int) (w:World):Calls Tryz.prog 73 #[.int .i64 a,.int .i64 b] w (fun e w'=>e=.returned (.int .i64 (cmpP a b))∧w'=w):=by
 have n1:∀ (x:Int) (W:World),Calls Tryz.prog 117 #[.int .i64 x] W (fun e w'=>e=.returned (.bool false)∧w'=W):=fun x W=>by
  go_enter Tryz.func117, Tryz.ntmps117
  go_wp2_with fail
  go_ret
  exact⟨by simp,rfl⟩
 unfold cmpP
 have key:∀ r1 r2:Bool,decide (a<b)=r1→decide (b<a)=r2→Calls Tryz.prog 73 #[.int .i64 a,.int .i64 b] w (fun e w'=>e=.returned (.int .i64 (if r1 then -1 else if r2 then 1 else 0))∧w'=w):=fun r1 r2 e1 e2=>by
  replace n1:=Z n1
  cases r1 <;> cases r2
  all_goals
   go_enter Tryz.func73, Tryz.ntmps73
   go_wp2_with fail
   refine(n1.out _ _).mono ?_
   rintro e w1 ⟨rfl,rfl⟩
   go_wp2_with fail
   refine(n1.out _ _).mono ?_
   rintro e w1 ⟨rfl,rfl⟩
   go_wp2_with fail
   go_ret
   exact⟨rfl,rfl⟩
 have:=key _ _ rfl rfl
 simpa using this
theorem cmpU_calls(a b:Int) (w:World):Calls Tryz.prog 74 #[.int .u64 a,.int .u64 b] w (fun e w'=>e=.returned (.int .i64 (cmpP a b))∧w'=w):=by
 have n1:∀ (x:Int) (W:World),Calls Tryz.prog 118 #[.int .u64 x] W (fun e w'=>e=.returned (.bool false)∧w'=W):=fun x W=>by
  go_enter Tryz.func118, Tryz.ntmps118
  go_wp2_with fail
  go_ret
  exact⟨by simp,rfl⟩
 unfold cmpP
 have key:∀ r1 r2:Bool,decide (a<b)=r1→decide (b<a)=r2→Calls Tryz.prog 74 #[.int .u64 a,.int .u64 b] w (fun e w'=>e=.returned (.int .i64 (if r1 then -1 else if r2 then 1 else 0))∧w'=w):=fun r1 r2 e1 e2=>by
  replace n1:=Z n1
  cases r1 <;> cases r2
  all_goals
   go_enter Tryz.func74, Tryz.ntmps74
   go_wp2_with fail
   refine(n1.out _ _).mono ?_
   rintro e w1 ⟨rfl,rfl⟩
   go_wp2_with fail
   refine(n1.out _ _).mono ?_
   rintro e w1 ⟨rfl,rfl⟩
   go_wp2_with fail
   go_ret
   exact⟨rfl,rfl⟩
 have:=key _ _ rfl rfl
 simpa using this
end
end Go.Proofs.YtobgigcdpiikaaaGreatDoor
