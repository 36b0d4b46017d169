/- Plain laws and walks, each by its own conditions. -/
import Derived.Test.YtobgigcdpiikaaaGreatDoorUc20
import Derived.Deep.MidRow
set_option linter.unusedSimpArgs false
set_option linter.unusedVariables false
set_option maxRecDepth 100000
set_option maxHeartbeats 16000000
namespace Go.Proofs.YtobgigcdpiikaaaGreatDoor
section
open BigFrame Go.RowKit Go.Phx Go.Shelf
def Sr.bare(s:Sr):Sr:=⟨s.fin.bare,s.new.bare,s.now.bare,s.next.bare,s.best.bare,s.has,s.last,s.this,s.forced⟩
theorem sameSr_bare{u v:Sr} (h:u.bare=v.bare):sameSr u v=true:=by
 have h2:sameSr u v=sameSr u.bare v.bare:=rfl
 rw[h2,h]
 exact sameSr_refl _
theorem checkE_bare(s:Sr) (u:Up) (now:Nat):checkE s u now=checkE s.bare u.bare now:=by
 have e1:slotsE s u now=slotsE s.bare u.bare now:=rfl
 have e2:finalE u=finalE u.bare:=rfl
 have e3:nextE s u=nextE s.bare u.bare:=rfl
 have e4:sigE s u=sigE s.bare u.bare:=by
  unfold sigE commP
  have h:(if period u.slot=period s.fin.b.slot then s.now else s.next).ks.l=(if period u.bare.slot=period s.bare.fin.b.slot then s.bare.now else s.bare.next).ks.l:=by
   show _=(if period u.slot=period s.fin.b.slot then s.bare.now else s.bare.next).ks.l
   split <;> rfl
  rw[h]
  rfl
 unfold checkE
 rw[e1,e2,e3,e4]
 rfl
theorem better_bare(a b:Up):betterP a b=betterP a.bare b.bare:=rfl
theorem takeP1_bare(s:Sr) (u:Up):(takeP1 s u).bare=takeP1 s.bare u.bare:=by
 unfold takeP1
 show _=if knownP s.next=true then if period s.fin.b.slot+1=period u.fin.b.slot then _ else _ else if period s.fin.b.slot=period u.fin.b.slot then _ else _
 split <;> split <;> rfl
theorem takeP2_bare(s:Sr) (u:Up):(takeP2 s u).bare=takeP2 s.bare u.bare:=by
 unfold takeP2
 show _=if s.fin.b.slot<u.fin.b.slot then({ s.bare with fin:=u.bare.fin,new:=if s.new.b.slot<u.fin.b.slot then u.bare.fin else s.bare.new }:Sr) else s.bare
 by_cases h:s.fin.b.slot<u.fin.b.slot
 ·rw[if_pos h,if_pos h]
  by_cases k:s.new.b.slot<u.fin.b.slot
  ·rw[if_pos k,if_pos k];rfl
  ·rw[if_neg k,if_neg k];rfl
 ·rw[if_neg h,if_neg h]
theorem takeP_bare(s:Sr) (u:Up):(takeP s u).bare=takeP s.bare u.bare:=by
 unfold takeP
 rw[takeP2_bare,takeP1_bare]
theorem bestP_bare(s:Sr) (u:Up):(bestP s u).bare=bestP s.bare u.bare:=by
 unfold bestP
 rw[better_bare]
 show _=if(!s.has || betterP u.bare s.best.bare)=true then _ else _
 split <;> rfl
theorem newP_bare(s:Sr) (u:Up):(newP s u).bare=newP s.bare u.bare:=by
 unfold newP
 show _=if Int.tdiv (max s.last s.this) 2<(onesP u.bits:Int)∧s.new.b.slot<u.seen.b.slot then _ else _
 split <;> rfl
theorem applyP_bare(s:Sr) (u:Up):(applyP s u).bare=applyP s.bare u.bare:=by
 have h1:(newP (thisP (bestP s u) u) u).bare=newP (thisP (bestP s.bare u.bare) u.bare) u.bare:=by
  rw[newP_bare]
  have:(thisP (bestP s u) u).bare=thisP (bestP s.bare u.bare) u.bare:=by
   rw[←bestP_bare]
   rfl
  rw[this]
 have h2:goesP s u=goesP s.bare u.bare:=rfl
 unfold applyP
 rw[←h2]
 dsimp only
 split
 ·rw[←h1,←takeP_bare]
  rfl
 ·exact h1
theorem applyS_bare(s:Sr) (u:Up) (now:Nat):(applyS s u now).bare=applyS s.bare u.bare now:=by
 unfold applyS
 rw[checkE_bare]
 split
 ·exact applyP_bare s u
 ·rfl
end
section
open BigFrame Go.RowKit Go.Phx Go.Shelf
attribute [local go_sem] Oper.semAt_some
theorem rsameUp_calls(a b:Up) (w:World) (ha:UpIn w a) (hb:UpIn w b):Calls Tryz.prog 46 #[upV a,upV b] w (Ret w (.bool (sameUp a b))):=by
 have n1:=fun W (hB:Below w.heap.size w W)=>rsameLt_calls a.seen b.seen W (ha.1.below hB) (hb.1.below hB)
 have n2:=fun W (hB:Below w.heap.size w W)=>rsameLt_calls a.fin b.fin W (ha.2.2.2.1.below hB) (hb.2.2.2.1.below hB)
 have n3:=fun W (hB:Below w.heap.size w W)=>rsameCm_calls a.next b.next W (ha.2.1.below hB) (hb.2.1.below hB)
 have n4:=fun W (hB:Below w.heap.size w W)=>lrowsame a.nb.addr b.nb.addr a.nb.cap b.nb.cap a.nb.l b.nb.l ha.2.2.1.2.2.1 hb.2.2.1.2.2.1 W (Txts.below ha.2.2.1.1 hB) (Txts.below hb.2.2.1.1 hB)
 have n5:=fun W (hB:Below w.heap.size w W)=>lrowsame a.fb.addr b.fb.addr a.fb.cap b.fb.cap a.fb.l b.fb.l ha.2.2.2.2.1.2.2.1 hb.2.2.2.2.1.2.2.1 W (Txts.below ha.2.2.2.2.1.1 hB) (Txts.below hb.2.2.2.2.1.1 hB)
 have hE:sameUp a b=(sameLt a.seen b.seen && (sameLt a.fin b.fin && (sameCm a.next b.next && (a.nb.l == b.nb.l && (a.fb.l == b.fb.l && (a.bits == b.bits && (a.sig == b.sig && a.slot == b.slot))))))):=rfl
 rw[hE]
 clear hE
 have e6:((a.bits:Int) == (b.bits:Int))=(a.bits == b.bits):=by rw[Bool.eq_iff_iff];simp;omega
 have e8:((a.slot:Int) == (b.slot:Int))=(a.slot == b.slot):=by rw[Bool.eq_iff_iff];simp;omega
 generalize sameLt a.seen b.seen=r1 at *
 generalize sameLt a.fin b.fin=r2 at *
 generalize sameCm a.next b.next=r3 at *
 generalize(a.nb.l == b.nb.l)=r4 at *
 generalize(a.fb.l == b.fb.l)=r5 at *
 generalize(a.bits == b.bits)=r6 at *
 obtain⟨r7,e7⟩:∃ r7,(a.sig == b.sig)=r7:=⟨_,rfl⟩
 rw[e7]
 generalize(a.slot == b.slot)=r8 at *
 replace n1:=Z n1
 replace n2:=Z n2
 replace n3:=Z n3
 replace n4:=Z n4
 replace n5:=Z n5
 clear ha hb
 go_enter Tryz.func46, Tryz.ntmps46
 go_upto_region 1 with fail
 have HB:Below w.heap.size w ((w.alloc (.cells (upA a) 37)).alloc (.cells (upA b) 37)):=bel
 have K0:=(Blk.new0 w 37 (upA a)).alloc (.cells (upA b) 37)
 have K1:=Blk.new1 w (.cells (upA a) 37) 37 (upA b)
 obtain⟨W,hW⟩:∃ W,((w.alloc (.cells (upA a) 37)).alloc (.cells (upA b) 37))=W:=⟨_,rfl⟩
 rw[hW]at HB K0 K1 ⊢
 clear hW
 have hgl:w.heap.size≤w.heap.size:=Nat.le_refl _
 obtain⟨g,hg⟩:∃ g,w.heap.size=g:=⟨_,rfl⟩
 rw[hg]at K0 K1 ⊢
 replace hgl:w.heap.size≤g:=by omega
 replace K0:=Z K0
 replace K1:=Z K1
 clear hg
 (obtain⟨k0,f0,l0,m0⟩:=rl_ K0;obtain⟨k1,f1,l1,m1⟩:=rl_ K1)
 go_wp2_with fail
 (refine(n1.out _ HB).mono ?_;rintro e w1 ⟨rfl,hN⟩;replace K0:=hn_ K0 hN;replace K1:=hn_ K1 hN;replace HB:Below w.heap.size w w1:=Below.on hN HB;clear hN k0 f0 l0 m0 k1 f1 l1 m1;obtain⟨k0,f0,l0,m0⟩:=rl_ K0;obtain⟨k1,f1,l1,m1⟩:=rl_ K1)
 go_wp2_with fail
 (refine(n2.out _ HB).mono ?_;rintro e w2 ⟨rfl,hN⟩;replace K0:=hn_ K0 hN;replace K1:=hn_ K1 hN;replace HB:Below w.heap.size w w2:=Below.on hN HB;clear hN k0 f0 l0 m0 k1 f1 l1 m1;obtain⟨k0,f0,l0,m0⟩:=rl_ K0;obtain⟨k1,f1,l1,m1⟩:=rl_ K1)
 go_wp2_with fail
 (refine(n3.out _ HB).mono ?_;rintro e w3 ⟨rfl,hN⟩;replace K0:=hn_ K0 hN;replace K1:=hn_ K1 hN;replace HB:Below w.heap.size w w3:=Below.on hN HB;clear hN k0 f0 l0 m0 k1 f1 l1 m1;obtain⟨k0,f0,l0,m0⟩:=rl_ K0;obtain⟨k1,f1,l1,m1⟩:=rl_ K1)
 cases r1 with
 | false =>
  go_wp2_with fail
  go_ret
  exact⟨rfl,HB⟩
 | true =>
  cases r2 with
  | false =>
   go_wp2_with fail
   go_ret
   exact⟨rfl,HB⟩
  | true =>
   cases r3 with
   | false =>
    go_wp2_with fail
    go_ret
    exact⟨rfl,HB⟩
   | true =>
    go_wp2_with fail
    (refine(n4.out _ HB).mono ?_;rintro e w4 ⟨rfl,hN⟩;replace K0:=hn_ K0 hN;replace K1:=hn_ K1 hN;replace HB:Below w.heap.size w w4:=Below.on hN HB;clear hN k0 f0 l0 m0 k1 f1 l1 m1;obtain⟨k0,f0,l0,m0⟩:=rl_ K0;obtain⟨k1,f1,l1,m1⟩:=rl_ K1)
    cases r4 with
    | false =>
     go_wp2_with fail
     go_ret
     exact⟨rfl,HB⟩
    | true =>
     go_wp2_with fail
     (refine(n5.out _ HB).mono ?_;rintro e w5 ⟨rfl,hN⟩;replace K0:=hn_ K0 hN;replace K1:=hn_ K1 hN;replace HB:Below w.heap.size w w5:=Below.on hN HB;clear hN k0 f0 l0 m0 k1 f1 l1 m1;obtain⟨k0,f0,l0,m0⟩:=rl_ K0;obtain⟨k1,f1,l1,m1⟩:=rl_ K1)
     cases r5 with
     | false =>
      go_wp2_with fail
      go_ret
      exact⟨rfl,HB⟩
     | true =>
      cases r6 with
      | false =>
       go_wp2_with fail
       go_ret
       exact⟨rfl,HB⟩
      | true =>
       cases r7 with
       | false =>
        go_wp2_with fail
        go_ret
        exact⟨rfl,HB⟩
       | true =>
        go_wp2_with fail
        go_ret
        exact⟨rfl,HB⟩
theorem rsameSr_calls(a b:Sr) (w:World) (ha:SrIn w a) (hb:SrIn w b):Calls Tryz.prog 11 #[srV a,srV b] w (Ret w (.bool (sameSr a b))):=by
 have n1:=fun W (hB:Below w.heap.size w W)=>rsameLt_calls a.fin b.fin W (ha.1.below hB) (hb.1.below hB)
 have n2:=fun W (hB:Below w.heap.size w W)=>rsameLt_calls a.new b.new W (ha.2.1.below hB) (hb.2.1.below hB)
 have n3:=fun W (hB:Below w.heap.size w W)=>rsameCm_calls a.now b.now W (ha.2.2.1.below hB) (hb.2.2.1.below hB)
 have n4:=fun W (hB:Below w.heap.size w W)=>rsameCm_calls a.next b.next W (ha.2.2.2.1.below hB) (hb.2.2.2.1.below hB)
 have n5:=fun W (hB:Below w.heap.size w W)=>rsameUp_calls a.best b.best W (ha.2.2.2.2.1.below hB) (hb.2.2.2.2.1.below hB)
 have hE:sameSr a b=(sameLt a.fin b.fin && (sameLt a.new b.new && (sameCm a.now b.now && (sameCm a.next b.next && (sameUp a.best b.best && (a.has == b.has && (a.last == b.last && (a.this == b.this && a.forced == b.forced)))))))):=rfl
 rw[hE]
 clear hE
 generalize sameLt a.fin b.fin=r1 at *
 generalize sameLt a.new b.new=r2 at *
 generalize sameCm a.now b.now=r3 at *
 generalize sameCm a.next b.next=r4 at *
 generalize sameUp a.best b.best=r5 at *
 obtain⟨r6,e6⟩:∃ r,(a.has == b.has)=r:=⟨_,rfl⟩
 obtain⟨r7,e7⟩:∃ r,(a.last == b.last)=r:=⟨_,rfl⟩
 obtain⟨r8,e8⟩:∃ r,(a.this == b.this)=r:=⟨_,rfl⟩
 obtain⟨r9,e9⟩:∃ r,(a.forced == b.forced)=r:=⟨_,rfl⟩
 rw[e6,e7,e8,e9]
 replace n1:=Z n1
 replace n2:=Z n2
 replace n3:=Z n3
 replace n4:=Z n4
 replace n5:=Z n5
 clear ha hb
 go_enter Tryz.func11, Tryz.ntmps11
 go_upto_region 1 with fail
 have HB:Below w.heap.size w ((w.alloc (.cells (srA a) 39)).alloc (.cells (srA b) 39)):=bel
 have K0:=(Blk.new0 w 39 (srA a)).alloc (.cells (srA b) 39)
 have K1:=Blk.new1 w (.cells (srA a) 39) 39 (srA b)
 obtain⟨W,hW⟩:∃ W,((w.alloc (.cells (srA a) 39)).alloc (.cells (srA b) 39))=W:=⟨_,rfl⟩
 rw[hW]at HB K0 K1 ⊢
 clear hW
 have hgl:w.heap.size≤w.heap.size:=Nat.le_refl _
 obtain⟨g,hg⟩:∃ g,w.heap.size=g:=⟨_,rfl⟩
 rw[hg]at K0 K1 ⊢
 replace hgl:w.heap.size≤g:=by omega
 replace K0:=Z K0
 replace K1:=Z K1
 clear hg
 (obtain⟨k0,f0,l0,m0⟩:=rl_ K0;obtain⟨k1,f1,l1,m1⟩:=rl_ K1)
 go_wp2_with fail
 (refine(n1.out _ HB).mono ?_;rintro e w1 ⟨rfl,hN⟩;replace K0:=hn_ K0 hN;replace K1:=hn_ K1 hN;replace HB:Below w.heap.size w w1:=Below.on hN HB;clear hN k0 f0 l0 m0 k1 f1 l1 m1;obtain⟨k0,f0,l0,m0⟩:=rl_ K0;obtain⟨k1,f1,l1,m1⟩:=rl_ K1)
 go_wp2_with fail
 (refine(n2.out _ HB).mono ?_;rintro e w2 ⟨rfl,hN⟩;replace K0:=hn_ K0 hN;replace K1:=hn_ K1 hN;replace HB:Below w.heap.size w w2:=Below.on hN HB;clear hN k0 f0 l0 m0 k1 f1 l1 m1;obtain⟨k0,f0,l0,m0⟩:=rl_ K0;obtain⟨k1,f1,l1,m1⟩:=rl_ K1)
 go_wp2_with fail
 (refine(n3.out _ HB).mono ?_;rintro e w3 ⟨rfl,hN⟩;replace K0:=hn_ K0 hN;replace K1:=hn_ K1 hN;replace HB:Below w.heap.size w w3:=Below.on hN HB;clear hN k0 f0 l0 m0 k1 f1 l1 m1;obtain⟨k0,f0,l0,m0⟩:=rl_ K0;obtain⟨k1,f1,l1,m1⟩:=rl_ K1)
 go_wp2_with fail
 (refine(n4.out _ HB).mono ?_;rintro e w4 ⟨rfl,hN⟩;replace K0:=hn_ K0 hN;replace K1:=hn_ K1 hN;replace HB:Below w.heap.size w w4:=Below.on hN HB;clear hN k0 f0 l0 m0 k1 f1 l1 m1;obtain⟨k0,f0,l0,m0⟩:=rl_ K0;obtain⟨k1,f1,l1,m1⟩:=rl_ K1)
 go_wp2_with(first|(with_reducible refine wlr (ldSr_best _ K0.out) rfl ?_)|(with_reducible refine wlg (ldSr_best _ K0.out) (by with_unfolding_all rfl) rfl ?_)|(with_reducible refine wlr (ldSr_best _ K1.out) rfl ?_)|(with_reducible refine wlg (ldSr_best _ K1.out) (by with_unfolding_all rfl) rfl ?_))
 (refine(n5.out _ HB).mono ?_;rintro e w5 ⟨rfl,hN⟩;replace K0:=hn_ K0 hN;replace K1:=hn_ K1 hN;replace HB:Below w.heap.size w w5:=Below.on hN HB;clear hN k0 f0 l0 m0 k1 f1 l1 m1;obtain⟨k0,f0,l0,m0⟩:=rl_ K0;obtain⟨k1,f1,l1,m1⟩:=rl_ K1)
 cases r1 with
 | false =>
  go_wp2_with fail
  go_ret
  exact⟨rfl,HB⟩
 | true =>
  cases r2 with
  | false =>
   go_wp2_with fail
   go_ret
   exact⟨rfl,HB⟩
  | true =>
   cases r3 with
   | false =>
    go_wp2_with fail
    go_ret
    exact⟨rfl,HB⟩
   | true =>
    cases r4 with
    | false =>
     go_wp2_with fail
     go_ret
     exact⟨rfl,HB⟩
    | true =>
     cases r5 with
     | false =>
      go_wp2_with fail
      go_ret
      exact⟨rfl,HB⟩
     | true =>
      cases r6 with
      | false =>
       go_wp2_with fail
       go_ret
       exact⟨rfl,HB⟩
      | true =>
       cases r7 with
       | false =>
        go_wp2_with fail
        go_ret
        exact⟨rfl,HB⟩
       | true =>
        cases r8 with
        | false =>
         go_wp2_with fail
         go_ret
         exact⟨rfl,HB⟩
        | true =>
         go_wp2_with fail
         go_ret
         exact⟨rfl,HB⟩
theorem take1_in{w:World}{s:Sr}{u:Up} (hs:SrIn w s) (hu:UpIn w u):SrIn w (takeP1 s u):=by
 obtain⟨a,b,c,d,e,f,g,h,i⟩:=hs
 unfold takeP1
 split
 ·split
  ·exact⟨a,b,d,hu.2.1,e,f,h,(show(-9223372036854775808:Int)≤0∧(0:Int)≤9223372036854775807 by decide),i⟩
  ·exact⟨a,b,c,d,e,f,g,h,i⟩
 ·split
  ·exact⟨a,b,c,hu.2.1,e,f,g,h,i⟩
  ·exact⟨a,b,c,d,e,f,g,h,i⟩
theorem take_in{w:World}{s:Sr}{u:Up} (hs:SrIn w s) (hu:UpIn w u):SrIn w (takeP s u):=by
 have hs:=take1_in hs hu
 unfold takeP takeP2
 generalize takeP1 s u=s at *
 obtain⟨a,b,c,d,e,f,g,h,i⟩:=hs
 split
 ·refine⟨hu.2.2.2.1,?_,c,d,e,f,g,h,i⟩
  show LtIn w (if _ then _ else _)
  split
  ·exact hu.2.2.2.1
  ·exact b
 ·exact⟨a,b,c,d,e,f,g,h,i⟩
theorem clear_in{w:World}{s:Sr} (hs:SrIn w s):SrIn w (clearP s):=by
 obtain⟨a,b,c,d,e,f,g,h,i⟩:=hs
 exact⟨a,b,c,d,UpIn.zero w,f,g,h,i⟩
end
section
open BigFrame Go.RowKit Go.Phx Go.Shelf
theorem best_in{w:World}{s:Sr}{u:Up} (hs:SrIn w s) (hu:UpIn w u):SrIn w (bestP s u):=by
 obtain⟨a,b,c,d,e,f,g,h,i⟩:=hs
 unfold bestP
 split
 ·exact⟨a,b,c,d,hu,f,g,h,i⟩
 ·exact⟨a,b,c,d,e,f,g,h,i⟩
theorem this_in{w:World}{s:Sr} (u:Up) (hs:SrIn w s):SrIn w (thisP s u):=by
 obtain⟨a,b,c,d,e,f,g,h,i⟩:=hs
 have:=ones_le u.bits
 exact⟨a,b,c,d,e,f,g,(show(-9223372036854775808:Int)≤max s.this (onesP u.bits:Int)∧max s.this (onesP u.bits:Int)≤9223372036854775807 by omega),i⟩
theorem newP_in{w:World}{s:Sr}{u:Up} (hs:SrIn w s) (hu:UpIn w u):SrIn w (newP s u):=by
 obtain⟨a,b,c,d,e,f,g,h,i⟩:=hs
 unfold newP
 split
 ·exact⟨a,hu.1,c,d,e,f,g,h,i⟩
 ·exact⟨a,b,c,d,e,f,g,h,i⟩
theorem applyP_in{w:World}{s:Sr}{u:Up} (hs:SrIn w s) (hu:UpIn w u):SrIn w (applyP s u):=by
 have h3:=newP_in (this_in u (best_in hs hu)) hu
 unfold applyP
 dsimp only
 split
 ·exact clear_in (take_in h3 hu)
 ·exact h3
theorem applyS_in{w:World}{s:Sr}{u:Up} (now:Nat) (hs:SrIn w s) (hu:UpIn w u):SrIn w (applyS s u now):=by
 unfold applyS
 split
 ·exact applyP_in hs hu
 ·exact hs
end
section
open BigFrame Go.RowKit Go.Phx Go.Shelf
def wipe(n:Nat) (gs:List Nat) (W:World):World:={ W with heap:=W.heap.mapIdx fun i o=>if i<n∨i∈gs then .deferred none else o }
def Rds(w w':World):Prop:=w.heap.size≤w'.heap.size∧∀ b o v,w.cell? ⟨b,o,none⟩=some v→w'.cell? ⟨b,o,none⟩=some v
section
variable {w w' W:World}{n g:Nat}{gs:List Nat}{A:Option Addr}{L:List Bytes}
theorem wipe_size(n:Nat) (gs:List Nat) (W:World):(wipe n gs W).heap.size=W.heap.size:=by simp[wipe]
theorem wipe_block{b:Nat} (h1:n≤b) (h2:b∉gs):(wipe n gs W).heap[b]?=W.heap[b]?:=by
 have h3:¬ (b<n∨b∈gs):=fun h=>by rcases h with h|h;omega;exact h2 h
 simp only[wipe,Array.getElem?_mapIdx]
 cases W.heap[b]? with
 | none=>rfl
 | some o=>simp[h3]
theorem wipe_cell{b o:Nat} (h1:n≤b) (h2:b∉gs):(wipe n gs W).cell? ⟨b,o,none⟩=W.cell? ⟨b,o,none⟩:=World.cell?_of_block (w:=W) (wipe_block h1 h2)
theorem wipe_ne{b o:Nat}{v:Value} (h:(wipe n gs W).cell? ⟨b,o,none⟩=some v):n≤b∧b∉gs:=by
 by_cases h3:b<n∨b∈gs
 ·exfalso
  have:∀ cs t fz,(wipe n gs W).heap[b]?≠some (.cells cs t fz):=fun cs t fz=>by
   simp only[wipe,Array.getElem?_mapIdx]
   cases W.heap[b]? with
   | none=>simp
   | some o=>simp[h3]
  obtain⟨cs,t,fz,hb⟩:=cell_cells h
  exact this cs t fz hb
 ·exact⟨by omega,fun hm=>h3 (.inr hm)⟩
theorem cell_lt{b o:Nat}{v:Value} (h:W.cell? ⟨b,o,none⟩=some v):b<W.heap.size:=by
 obtain⟨cs,t,fz,hb⟩:=cell_cells h
 exact(Array.getElem?_eq_some_iff.1 hb).1
theorem Rds.wiped(n:Nat) (gs:List Nat) (W:World):Rds (wipe n gs W) W:=⟨Nat.le_of_eq (wipe_size n gs W),fun b o v h=>by
 have hn:=wipe_ne h
 rwa [wipe_cell hn.1 hn.2]at h⟩
theorem Rds.kp{bs:List Nat} (k:KpL bs w w') (hb:∀ b∈bs,b<n∨b∈gs∨w.heap.size≤b):Rds (wipe n gs w) (wipe n gs w'):=by
 refine⟨by rw[wipe_size,wipe_size];exact k.size,fun b o v h=>?_⟩
 have hn:=wipe_ne h
 rw[wipe_cell hn.1 hn.2]at h ⊢
 have hl:=cell_lt h
 exact(World.cell?_of_block (w:=w) (k.block b hl fun hm=>by
  rcases hb b hm with e|e|e
  ·omega
  ·exact hn.2 e
  ·omega)).trans h
theorem Rds.fresh(k:Below w.heap.size w w') (hg:w.heap.size≤g):Rds (wipe n gs w) (wipe n (g :: gs) w'):=by
 refine⟨by rw[wipe_size,wipe_size];exact k.size,fun b o v h=>?_⟩
 have hn:=wipe_ne h
 rw[wipe_cell hn.1 hn.2]at h
 have hl:=cell_lt h
 rw[wipe_cell hn.1 (by simp only[List.mem_cons,not_or];exact⟨by omega,hn.2⟩)]
 exact(k.cell (p:=⟨b,o,none⟩) hl).trans h
theorem Txts.to(h:Txts w A L) (k:Rds w w'):Txts w' A L:=fun h0=>by
 obtain⟨b,o,ha,hb,hc⟩:=h h0
 exact⟨b,o,ha,Nat.lt_of_lt_of_le hb k.1,fun i x hx=>k.2 _ _ _ (hc i x hx)⟩
theorem RwIn.to{r:Rw} (h:RwIn w r) (k:Rds w w'):RwIn w' r:=⟨h.1.to k,h.2⟩
theorem LtIn.to{r:Lt} (h:LtIn w r) (k:Rds w w'):LtIn w' r:=⟨h.1,h.2.1,h.2.2.to k⟩
theorem CmIn.to{r:Cm} (h:CmIn w r) (k:Rds w w'):CmIn w' r:=⟨h.1.to k,h.2⟩
theorem BtIn.to{r:Bt} (h:BtIn w r) (k:Rds w w'):BtIn w' r:=⟨h.1.to k,h.2.1.to k,h.2.2.to k⟩
theorem UpIn.to{r:Up} (h:UpIn w r) (k:Rds w w'):UpIn w' r:=by
 obtain⟨h0,h1,h2,h3,h4,h5,h6,h7⟩:=h
 exact⟨h0.to k,h1.to k,h2.to k,h3.to k,h4.to k,h5,h6,h7⟩
theorem SrIn.to{r:Sr} (h:SrIn w r) (k:Rds w w'):SrIn w' r:=by
 obtain⟨h0,h1,h2,h3,h4,h5,h6,h7,h8⟩:=h
 exact⟨h0.to k,h1.to k,h2.to k,h3.to k,h4.to k,h5,h6,h7,h8⟩
theorem Txts.new{m:Nat} (h:Txts w A L) (hn:∀ b o,A=some ⟨b,o,none⟩→m≤b) (hm:n≤m) (hg:∀ g∈gs,g<m):Txts (wipe n gs w) A L:=fun h0=>by
 obtain⟨b,o,ha,hb,hc⟩:=h h0
 have:=hn b o ha
 exact⟨b,o,ha,by rw[wipe_size];exact hb,fun i x hx=>by rw[wipe_cell (by omega) (fun hm=>by have:=hg b hm;omega)];exact hc i x hx⟩
theorem RwIn.new{m:Nat}{r:Rw} (h:RwIn w r) (hn:RwNew m r) (hm:n≤m) (hg:∀ g∈gs,g<m):RwIn (wipe n gs w) r:=⟨h.1.new hn hm hg,h.2⟩
theorem UpIn.new{m:Nat}{r:Up} (h:UpIn w r) (hn:UpNew m r) (hm:n≤m) (hg:∀ g∈gs,g<m):UpIn (wipe n gs w) r:=by
 obtain⟨h0,h1,h2,h3,h4,h5,h6,h7⟩:=h
 obtain⟨n0,n1,n2,n3,n4⟩:=hn
 exact⟨⟨h0.1,h0.2.1,h0.2.2.new n0 hm hg⟩,⟨h1.1.new n1 hm hg,h1.2⟩,h2.new n2 hm hg,⟨h3.1,h3.2.1,h3.2.2.new n3 hm hg⟩,h4.new n4 hm hg,h5,h6,h7⟩
end
end
section
open BigFrame Go.RowKit Go.Phx Go.Shelf
attribute [local go_sem] Oper.semAt_some
set_option maxRecDepth 100000
structure Wn where
 addr:Option Addr
 len:Nat
 cap:Nat
structure Hl where
 s:Sr
 w:Wn
def hlC(r:Hl):List Value:=srC r.s ++ [.slice r.w.addr r.w.len r.w.cap]
def hlA(r:Hl):Array Value:=(hlC r).toArray
abbrev hlV(r:Hl):Value:=.agg (hlA r)
@[go_sem] theorem hlA_size (r:Hl):(hlA r).size=52:=rfl
@[go_sem] theorem hlA_win (r:Hl):(hlA r)[51]?=some (.slice r.w.addr r.w.len r.w.cap):=rfl
theorem szHp:(Tryz.prog.info? 98).map (·.size)=some 1:=by kernel_rfl
theorem nrHp:(Tryz.prog.underlying 98).map (·.isRow)=some false:=by kernel_rfl
section
variable {W:World}{b:Nat}
theorem ldHl_s(r:Hl) (h:Blk W b 97 (hlA r)):(Instr.loadAt 39 (.pointer (some ⟨b,0,none⟩))).run Tryz.prog W=.ok (srV r.s) W :=
 run_load_part h [] (srC r.s) [.slice r.w.addr r.w.len r.w.cap] (by simp[hlA,hlC]) rfl Tryz.underlying39 rfl sizeSr
theorem ldHl_s_fin_b(r:Hl) (h:Blk W b 97 (hlA r)):(Instr.loadAt 28 (.pointer (some ⟨b,0,none⟩))).run Tryz.prog W=.ok (hdV r.s.fin.b) W :=
 run_load_part h [] (hdC r.s.fin.b) ((hlC r).drop 5) U U Tryz.underlying28 rfl sizeHd
theorem stHl_s(r:Hl) (h:Blk W b 97 (hlA r)) (v:Sr):(Instr.storeAt 39 (.pointer (some ⟨b,0,none⟩)) (srV v)).run Tryz.prog W=.ok () (setRow W b 97 (hlA ⟨v,r.w⟩)):=by
 have:=run_store_part h [] (srC r.s) [.slice r.w.addr r.w.len r.w.cap] (by simp[hlA,hlC]) rfl (srA v) rfl sizeSr (srA_one v)
 simpa[srA,srV,hlA,hlC] using this
theorem build_hl(s:Sr) (w:World):(Instr.build 97 #[(0,srV s)]).run Tryz.prog w=.ok (hlV ⟨s,⟨none,0,0⟩⟩) w :=
 run_build w _ _ (hlA ⟨s,⟨none,0,0⟩⟩) U
end
def ExL(xs:List Ex):List Value:=xs.flatMap exC
theorem ExL_cons(x:Ex) (xs:List Ex):ExL (x :: xs)=.string (bs x.acc) :: .string (bs x.rcp) :: .int .u64 (x.num:Int) :: ExL xs:=rfl
theorem ExL_len(xs:List Ex):(ExL xs).length=3*xs.length:=by
 induction xs with
 | nil=>rfl
 | cons v vs ih=>rw[ExL_cons];simp only[List.length_cons,ih];omega
theorem ExL_app(a b:List Ex):ExL (a ++ b)=ExL a ++ ExL b:=by simp[ExL]
theorem ExL_at:∀ (vs:List Ex) (i:Nat) (v:Ex),vs[i]?=some v→(ExL vs)[3*i]?=some (.string (bs v.acc))∧(ExL vs)[3*i+1]?=some (.string (bs v.rcp))∧(ExL vs)[3*i+2]?=some (.int .u64 (v.num:Int))
 | [],i,v,h=>by simp at h
 | u :: vs,0,v,h=>by
  simp at h
  subst h
  rw[ExL_cons]
  simp
 | u :: vs,i+1,v,h=>by
  have ih:=ExL_at vs i v (by simpa using h)
  rw[ExL_cons,show 3*(i+1)=3*i+1+1+1 by omega,show 3*i+1+1+1+1=3*i+1+1+1+1 from rfl]
  simp only[List.getElem?_cons_succ]
  exact ih
theorem infoExec:(Tryz.prog.info? 30).map (fun i=>(i.zero,i.size,i.bytes))=some (some (.agg #[.string ByteArray.empty,.string ByteArray.empty,.int .u64 0]),3,40):=by kernel_rfl
def ERow(base:Nat) (W:World) (v:Value) (vs:List Ex):Prop:=W.ownsRow base 30 3 v vs.length (ExL vs)
theorem ERow.shape{base:Nat}{W:World}{v:Value}{vs:List Ex} (h:ERow base W v vs):∃ A c,v=.slice A vs.length c∧vs.length≤c∧c≤maxLen∧CsS (fun b=>base≤b∧v.ownBlock=some b) W A (ExL vs):=by
 rcases h.2 with ⟨rfl,h0⟩|⟨g,cap,cur,rfl,hb,hg,hn,hm,hs,ht⟩
 ·rw[h0]
  obtain rfl:=List.eq_nil_of_length_eq_zero h0
  exact⟨none,0,rfl,Nat.le_refl _,Nat.zero_le _,CsS.nil _ _ _⟩
 ·refine⟨some ⟨g,0,none⟩,cap,rfl,hn,hm,fun _=>⟨g,0,rfl,⟨hb,rfl⟩,(Array.getElem?_eq_some_iff.1 hg).1,fun i u hu=>?_⟩⟩
  rw[Nat.zero_add,cell_of_row W g i cur _ (0,0) hg]
  rw[←ht,List.getElem?_take]at hu
  split at hu
  ·simpa using hu
  ·cases hu
theorem ERow.lt{base:Nat}{W:World}{v:Value}{vs:List Ex} (h:ERow base W v vs):∀ j,v.ownBlock=some j→base≤j∧j<W.heap.size:=fun j hj=>World.ownsRow.lt h j hj
theorem ERow.keep{base:Nat}{w w':World}{v:Value}{vs:List Ex}{r:Option Nat} (h:ERow base w v vs) (hg:w.grownBy w' r) (hn:∀ j,v.ownBlock=some j→r≠some j):ERow base w' v vs :=
 World.ownsRow.kept h hg (by
  cases hv:v.ownBlock with
  | none=>exact .inl rfl
  | some g=>exact .inr fun e=>hn g hv e.symm)
theorem ERow.cells{base:Nat}{w:World}{v:Value}{vs:List Ex} (h:ERow base w v vs):∀ j,v.ownBlock=some j→∃ cs t fz,w.heap[j]?=some (.cells cs t fz):=fun j hj=>by
 rcases h.2 with ⟨rfl,h0⟩|⟨g,cap,cur,rfl,hb,hg,_⟩
 ·cases hj
 ·cases hj
  exact⟨cur,_,_,hg⟩
theorem wpListIn_append_exec{F:Fence}{nF:Nat}{ops:Array Oper}{rest:List Oper}{o:Oper}{a:Act}{w:World}{Q:Exit→Act→World→Prop} (hgd:o.guard=none) (s x:Operand)
  (ho:o.op=.call { callee:=.builtin .append,args := #[s,x],argTypes := #[56, 56] }) (base:Nat) (v:Value) (L:List Ex) (hs:a.eval s=v) (R:ERow base w v L)
  (u:Ex) (ad:Addr) (hx:a.eval x=.slice (some ad) 1 1) (hc:∀ j y,(exC u)[j]?=some y→w.cell? (ad.add j)=some y) (hl:L.length≤1000000000) (hb:base≤w.heap.size)
  (h:∀ v' w',ERow base w' v' (L ++ [u])→w.grownBy w' v.ownBlock→(v'.ownBlock=v.ownBlock∨v'.ownBlock=some w.heap.size)→wpListIn F nF Tryz.prog ops Q rest (a.put o.dst v') w'):wpListIn F nF Tryz.prog ops Q (o :: rest) a w:=by
 obtain⟨i0,hi,hz0,hz1,hz2⟩:=info_parts infoExec
 refine wpListIn_append_own_at w hgd s x 56 ho base 30 i0 (.agg #[.string ByteArray.empty,.string ByteArray.empty,.int .u64 0]) 3 40 Tryz.underlying56 hi hz0 hz1 hz2 rfl (by decide) v L.length (ExL L) hs R ad 1 1 (exC u) hx rfl hc (by simp[Value.oneCell',exC]) (by unfold maxLen;omega) (by omega) hb ?_
 intro v' w' h2 h3 _ h5
 refine h v' w' ?_ h3 h5
 unfold ERow
 rw[List.length_append,ExL_app]
 exact h2
theorem cnew_calls(root:Bytes) (w:World):Calls Tryz.prog 16 #[.string (bs root)] w (fun e w'=>e=.returned (.pointer (some ⟨w.heap.size,0,none⟩))∧w'=w.alloc (.cells #[.string (bs root),.pointer none] 100)):=by
 go_enter Tryz.func16, Tryz.ntmps16
 go_wp2_with fail
 go_ret
 exact⟨rfl,rfl⟩
def readyP(p:Option Addr):Int:=if p.isSome then 0 else 220
theorem ready_calls(g:Nat) (root:Bytes) (p:Option Addr) (w:World) (K:Blk w g 100 #[.string (bs root),.pointer p]):Calls Tryz.prog 41 #[.pointer (some ⟨g,0,none⟩)] w (fun e w'=>e=.returned (.int .i64 (readyP p))∧w'=w):=by
 have K0:=Z K
 clear K
 (obtain⟨k0,f0,l0,m0⟩:=rl_ K0)
 go_enter Tryz.func41, Tryz.ntmps41
 cases p with
 | none =>
  go_wp2_with fail
  go_ret
  exact⟨rfl,rfl⟩
 | some a =>
  go_wp2_with fail
  go_ret
  exact⟨rfl,rfl⟩
theorem cstore_calls(g:Nat) (root:Bytes) (hb:Nat) (H:Hl) (w:World) (K:Blk w g 100 #[.string (bs root),.pointer (some ⟨hb,0,none⟩)]) (KH:Blk w hb 97 (hlA H)) :
  Calls Tryz.prog 10 #[.pointer (some ⟨g,0,none⟩)] w (Ret w (.tuple #[srV H.s,.int .i64 0])):=by
 have n1:=Z (fun W k=>ready_calls g root (some ⟨hb,0,none⟩) W k)
 have K0:=Z (K.alloc (.cells (srA Sr.zero) 39))
 have K1:=Z (KH.alloc (.cells (srA Sr.zero) 39))
 have K2:=Z (Blk.new0 w 39 (srA Sr.zero))
 have HB:Below w.heap.size w (w.alloc (.cells (srA Sr.zero) 39)):=bel
 clear K KH
 (obtain⟨k0,f0,l0,m0⟩:=rl_ K0;obtain⟨k1,f1,l1,m1⟩:=rl_ K1;obtain⟨k2,f2,l2,m2⟩:=rl_ K2)
 go_enter Tryz.func10, Tryz.ntmps10
 go_wp2_with fail
 refine(n1.out _ K0.out).mono ?_
 rintro e w' ⟨rfl,rfl⟩
 simp only[readyP,Option.isSome_some,if_true]
 go_wp2_with(first|(with_reducible refine wlr (ldHl_s _ K1.out) rfl ?_)|(with_reducible refine wsh (stSr _ K2.out H.s) rfl rfl ?_))
 generalize hWN:setRow _ _ _ _=WN
 have N2:=Z (show Blk WN _ _ _ by rw[←hWN];exact Blk.row K2.out.lt)
 have HBn:Below w.heap.size w WN:=(by rw[←hWN];exact Below.row HB (Nat.le_refl _) HB.size)
 unfold Halted
 clear hWN K0 k0 f0 l0 m0 K1 k1 f1 l1 m1 K2 k2 f2 l2 m2 n1
 go_wp2_with fail
 exact bodyPost_ret (results_cell2 rfl rfl (ldSr _ N2.out)) rfl ⟨rfl,HBn⟩
theorem cstore_none(g:Nat) (root:Bytes) (w:World) (K:Blk w g 100 #[.string (bs root),.pointer none]) :
  Calls Tryz.prog 10 #[.pointer (some ⟨g,0,none⟩)] w (Ret w (.tuple #[srV Sr.zero,.int .i64 220])):=by
 have n1:=Z (fun W k=>ready_calls g root none W k)
 have K0:=Z (K.alloc (.cells (srA Sr.zero) 39))
 have K2:=Z (Blk.new0 w 39 (srA Sr.zero))
 have HB:Below w.heap.size w (w.alloc (.cells (srA Sr.zero) 39)):=bel
 clear K
 (obtain⟨k0,f0,l0,m0⟩:=rl_ K0;obtain⟨k2,f2,l2,m2⟩:=rl_ K2)
 go_enter Tryz.func10, Tryz.ntmps10
 go_wp2_with fail
 refine(n1.out _ K0.out).mono ?_
 rintro e w' ⟨rfl,rfl⟩
 simp only[readyP,Option.isSome_none,if_false]
 go_wp2_with(first|(with_reducible refine wsh (stSr _ K2.out Sr.zero) rfl rfl ?_))
 generalize hWN:setRow _ _ _ _=WN
 have N2:=Z (show Blk WN _ _ _ by rw[←hWN];exact Blk.row K2.out.lt)
 have HBn:Below w.heap.size w WN:=(by rw[←hWN];exact Below.row HB (Nat.le_refl _) HB.size)
 unfold Halted
 clear hWN K0 k0 f0 l0 m0 K2 k2 f2 l2 m2 n1
 go_wp2_with fail
 exact bodyPost_ret (results_cell2 rfl rfl (ldSr _ N2.out)) rfl ⟨rfl,HBn⟩
end
section
open BigFrame Go.RowKit Go.Phx Go.Shelf
attribute [local go_sem] Oper.semAt_some
theorem text_calls(s:Bytes) (w:World):Calls Tryz.prog 31 #[.string (bs s)] w (Ret w (itV false s none 0 0)):=by
 go_enter Tryz.func31, Tryz.ntmps31
 go_wp2_with fail
 exact bodyPost_ret (v:=itV false s none 0 0) (by simp (maxDischargeDepth:=9) [results,Tryz.results31, go_sem, *]) rfl ⟨rfl,bel⟩
theorem list_calls(A:Option Addr) (n c:Nat) (w:World):Calls Tryz.prog 26 #[.slice A n c] w (Ret w (itV true [] A n c)):=by
 go_enter Tryz.func26, Tryz.ntmps26
 go_wp2_with fail
 exact bodyPost_ret (v:=.agg #[.bool true,.string ⟨#[]⟩,.slice A n c]) (by simp (maxDischargeDepth:=9) [results,Tryz.results26, go_sem, *]) rfl ⟨rfl,bel⟩
set_option maxRecDepth 100000
theorem windex(P:It→Bool) (A:Option Addr) (c:Nat) (L:List It) (hL:L.length≤c) (hm:c≤maxLen) (w:World) (hs:RepL w L A)
  (hP:∀ x∈L,∀ v w',Below w.heap.size w w'→Rep w' x v→Calls Tryz.prog 62 #[v.val] w' (Ret w' (.bool (P x)))) :
  Calls Tryz.prog 143 #[.slice A L.length c,.func (.func 62) #[] #[]] w (fun e w'=>(∃ i:Int,e=.returned (.int .i64 i)∧(0≤i↔∃ x∈L,P x=true))∧Below w.heap.size w w'):=by
 have hL63:L.length≤9223372036854775807:=by unfold maxLen at hm;omega
 replace hP:=Z hP
 replace hs:=Z hs
 clear hL hm
 go_enter Tryz.func143, Tryz.ntmps143
 go_wp2_with fail
 go_loopw [8] (fun i wr=>∃ k:Nat,k≤L.length∧i=.int .i64 k∧(∀ x∈L.take k,P x=false)∧Below w.heap.size w wr) (fun i _=>(L.length - intOf i).toNat)
 case atStart=>exact⟨0,by omega,rfl,by simp,Below.refl _ _⟩
 case round =>
  obtain⟨k,hk,rfl,hall,HB⟩:=hrel
  by_cases hlt:k<L.length
  ·obtain⟨b,o,v,rfl,hb,c0,c1,c2,R⟩:=(hs.out.below HB).at k L[k] (List.getElem?_eq_getElem hlt)
   have hPk:=hP.out L[k] (List.getElem_mem hlt) v
   have hm:=List.getElem_mem hlt
   have ht:L.take (k+1)=L.take k ++ [L[k]]:=by rw[List.take_add_one,List.getElem?_eq_getElem hlt];rfl
   generalize L[k]=x at *
   obtain⟨f,t,vA,vn,vc⟩:=v
   have HT:=Z ht
   have HA:=Z hall
   replace hPk:=Z hPk
   replace R:=Z R
   simp only at c0 c1 c2
   clear ht hall hP hs
   go_wp2_with fail
   refine(hPk.out _ HB R.out).mono ?_
   rintro e w1 ⟨rfl,h1⟩
   have HB1:=HB.trans (h1.mono HB.size)
   clear HB h1 hPk R c0 c1 c2
   cases hx:P x with
   | false =>
    go_wp2_with fail
    go_roundw
    case rel=>exact⟨k+1,by omega,by go_num,by rw[HT.out];intro y hy;rcases List.mem_append.1 hy with hy|hy;exact HA.out y hy;rw[List.mem_singleton.1 hy];exact hx,HB1⟩
    case measure=>simp[intOf];omega
   | true =>
    go_wp2_with fail
    go_ret
    exact⟨⟨_,rfl,fun _=>⟨x,hm,hx⟩,fun _=>by omega⟩,HB1⟩
  ·obtain rfl:k=L.length:=by omega
   rw[List.take_of_length_le (Nat.le_refl _)]at hall
   have HA:=Z hall
   clear hall hP hs
   go_wp2_with fail
   go_ret
   exact⟨⟨_,rfl,fun h=>by omega,fun⟨x,h1,h2⟩=>by rw[HA.out x h1]at h2;cases h2⟩,HB⟩
theorem wcontains(P:It→Bool) (A:Option Addr) (c:Nat) (L:List It) (hL:L.length≤c) (hm:c≤maxLen) (w:World) (hs:RepL w L A)
  (hP:∀ x∈L,∀ v w',Below w.heap.size w w'→Rep w' x v→Calls Tryz.prog 62 #[v.val] w' (Ret w' (.bool (P x)))) :
  Calls Tryz.prog 105 #[.slice A L.length c,.func (.func 62) #[] #[]] w (Ret w (.bool (L.any P))):=by
 have n1:=Z (windex P A c L hL hm w hs   hP)
 clear hL hm hs hP
 go_enter Tryz.func105, Tryz.ntmps105
 go_wp2_with fail
 refine n1.out.mono ?_
 rintro e w1 ⟨⟨i,rfl,hi⟩,h1⟩
 have he:decide (0≤i)=L.any P:=by
  rw[Bool.eq_iff_iff,decide_eq_true_iff,hi,List.any_eq_true]
 replace he:=Z he
 clear hi n1
 go_wp2_with fail
 go_ret
 exact⟨by rw[he.out];rfl,h1⟩
theorem dindex(P:It→Bool) (A:Option Addr) (c:Nat) (L:List It) (hL:L.length≤c) (hm:c≤maxLen) (w:World) (hs:RepL w L A) (cb:Nat)
  (hP:∀ x∈L,∀ v w',Below w.heap.size w w'→Rep w' x v→Calls Tryz.prog 106 #[v.val,.pointer (some ⟨cb,0,none⟩)] w' (Ret w' (.bool (P x)))) :
  Calls Tryz.prog 143 #[.slice A L.length c,.func (.func 106) #[] #[.pointer (some ⟨cb,0,none⟩)]] w (fun e w'=>(∃ i:Int,e=.returned (.int .i64 i)∧(0≤i↔∃ x∈L,P x=true))∧Below w.heap.size w w'):=by
 have hL63:L.length≤9223372036854775807:=by unfold maxLen at hm;omega
 replace hP:=Z hP
 replace hs:=Z hs
 clear hL hm
 go_enter Tryz.func143, Tryz.ntmps143
 go_wp2_with fail
 go_loopw [8] (fun i wr=>∃ k:Nat,k≤L.length∧i=.int .i64 k∧(∀ x∈L.take k,P x=false)∧Below w.heap.size w wr) (fun i _=>(L.length - intOf i).toNat)
 case atStart=>exact⟨0,by omega,rfl,by simp,Below.refl _ _⟩
 case round =>
  obtain⟨k,hk,rfl,hall,HB⟩:=hrel
  by_cases hlt:k<L.length
  ·obtain⟨b,o,v,rfl,hb,c0,c1,c2,R⟩:=(hs.out.below HB).at k L[k] (List.getElem?_eq_getElem hlt)
   have hPk:=hP.out L[k] (List.getElem_mem hlt) v
   have hm:=List.getElem_mem hlt
   have ht:L.take (k+1)=L.take k ++ [L[k]]:=by rw[List.take_add_one,List.getElem?_eq_getElem hlt];rfl
   generalize L[k]=x at *
   obtain⟨f,t,vA,vn,vc⟩:=v
   have HT:=Z ht
   have HA:=Z hall
   replace hPk:=Z hPk
   replace R:=Z R
   simp only at c0 c1 c2
   clear ht hall hP hs
   go_wp2_with fail
   refine(hPk.out _ HB R.out).mono ?_
   rintro e w1 ⟨rfl,h1⟩
   have HB1:=HB.trans (h1.mono HB.size)
   clear HB h1 hPk R c0 c1 c2
   cases hx:P x with
   | false =>
    go_wp2_with fail
    go_roundw
    case rel=>exact⟨k+1,by omega,by go_num,by rw[HT.out];intro y hy;rcases List.mem_append.1 hy with hy|hy;exact HA.out y hy;rw[List.mem_singleton.1 hy];exact hx,HB1⟩
    case measure=>simp[intOf];omega
   | true =>
    go_wp2_with fail
    go_ret
    exact⟨⟨_,rfl,fun _=>⟨x,hm,hx⟩,fun _=>by omega⟩,HB1⟩
  ·obtain rfl:k=L.length:=by omega
   rw[List.take_of_length_le (Nat.le_refl _)]at hall
   have HA:=Z hall
   clear hall hP hs
   go_wp2_with fail
   go_ret
   exact⟨⟨_,rfl,fun h=>by omega,fun⟨x,h1,h2⟩=>by rw[HA.out x h1]at h2;cases h2⟩,HB⟩
theorem dcontains(P:It→Bool) (A:Option Addr) (c:Nat) (L:List It) (hL:L.length≤c) (hm:c≤maxLen) (w:World) (hs:RepL w L A) (cb:Nat)
  (hP:∀ x∈L,∀ v w',Below w.heap.size w w'→Rep w' x v→Calls Tryz.prog 106 #[v.val,.pointer (some ⟨cb,0,none⟩)] w' (Ret w' (.bool (P x)))) :
  Calls Tryz.prog 105 #[.slice A L.length c,.func (.func 106) #[] #[.pointer (some ⟨cb,0,none⟩)]] w (Ret w (.bool (L.any P))):=by
 have n1:=Z (dindex P A c L hL hm w hs cb hP)
 clear hL hm hs hP
 go_enter Tryz.func105, Tryz.ntmps105
 go_wp2_with fail
 refine n1.out.mono ?_
 rintro e w1 ⟨⟨i,rfl,hi⟩,h1⟩
 have he:decide (0≤i)=L.any P:=by
  rw[Bool.eq_iff_iff,decide_eq_true_iff,hi,List.any_eq_true]
 replace he:=Z he
 clear hi n1
 go_wp2_with fail
 go_ret
 exact⟨by rw[he.out];rfl,h1⟩
theorem wrong_calls:∀ (k:Nat) (x:It),deepI x≤k→∀ (v:Iv) (w:World),Rep w x v→Calls Tryz.prog 62 #[v.val] w (Ret w (.bool false)):=by
 intro k
 induction k with
 | zero=>intro x hx;cases x <;> simp[deepI]at hx
 | succ k ih =>
  intro x hx v w R
  cases x with
  | text b =>
   obtain rfl:=R.txt
   clear R
   go_enter Tryz.func62, Tryz.ntmps62
   go_wp2_with fail
   go_ret
   exact⟨rfl,bel⟩
  | list l =>
   obtain⟨f,t,A,n,c⟩:=v
   obtain⟨h1,h2,h3,hc,hm,hr⟩:=R.row
   simp only at h1 h2 h3 hc hm hr
   subst h1 h2 h3
   have hany:l.any (fun _=>false)=false:=by simp
   have n1:=fun w' (hB:Below w.heap.size w w')=>wcontains (fun _=>false) A c l hc hm w' (hr.below hB) (fun y hy v w2 hB2 R2=>ih y (by rw[deepI]at hx;have:=deepL_mem hy;omega) v w2 R2)
   simp only[hany]at n1
   replace n1:=Z n1
   clear ih R hr hany hc hm
   go_enter Tryz.func62, Tryz.ntmps62
   go_wp2_with fail
   refine(n1.out _ bel).mono ?_
   rintro e w1 ⟨rfl,hB⟩
   go_wp2_with fail
   go_ret
   exact⟨rfl,bel⟩
theorem any_deep(m:Nat) (l:List It):(l.any fun y=>decide (m<deepI y))=decide (m<deepL l):=by
 rw[Bool.eq_iff_iff,decide_eq_true_iff,List.any_eq_true]
 constructor
 ·rintro⟨y,hy,h⟩
  have:=deepL_mem hy
  have:=of_decide_eq_true h
  omega
 ·intro h
  obtain⟨y,hy,h⟩:=deepL_ex h
  exact⟨y,hy,decide_eq_true h⟩
theorem deep_calls:∀ (k:Nat) (x:It),deepI x≤k→∀ (m:Nat) (hm:m≤1000000) (v:Iv) (w:World),Rep w x v→Calls Tryz.prog 61 #[v.val,.int .i64 (m:Int)] w (Ret w (.bool (decide (m<deepI x)))):=by
 intro k
 induction k with
 | zero=>intro x hx;cases x <;> simp[deepI]at hx
 | succ k ih =>
  intro x hx m hm v w R
  by_cases h0:m=0
  ·subst h0
   have hpos:decide (0<deepI x)=true:=decide_eq_true (by cases x <;> simp[deepI])
   rw[hpos]
   obtain⟨f,t,A,n,c⟩:=v
   clear R
   go_enter Tryz.func61, Tryz.ntmps61
   go_wp2_with fail
   go_ret
   exact⟨rfl,bel⟩
  obtain⟨q,rfl⟩:∃ q,m=q+1:=⟨m - 1,by omega⟩
  have hq1:¬ (((q+1:Nat):Int)<1):=by omega
  have hq2:decide (((q+1:Nat):Int)<1)=false:=decide_eq_false hq1
  have hq3:(((q+1:Nat):Int) - 1)=(q:Int):=by omega
  have hq4:(0:Int)≤(q:Int):=by omega
  have hq5:(q:Int)≤1000000:=by omega
  have cl:∀ (x:It),deepI x≤k→∀ (v:Iv) (b:Nat) (w:World),w.cell? ⟨b,0,none⟩=some (.int .i64 ((q+1:Nat):Int))→b<w.heap.size→Rep w x v→Calls Tryz.prog 106 #[v.val,.pointer (some ⟨b,0,none⟩)] w (Ret w (.bool (decide (q<deepI x)))):=by
   intro x hx v b w hb hbl R
   have n1:=fun w' (hB:Below w.heap.size w w')=>ih x hx q (by omega) v w' (R.on hB)
   obtain⟨f,t,A,n,c⟩:=v
   replace n1:=Z n1
   clear ih R
   go_enter Tryz.func106, Tryz.ntmps106
   go_wp2_with fail
   refine(n1.out _ bel).mono ?_
   rintro e w1 ⟨rfl,hB⟩
   go_wp2_with fail
   go_ret
   exact⟨rfl,bel⟩
  cases x with
  | text b =>
   obtain rfl:=R.txt
   have hn:∀ w',RepL w' [] none:=fun w'=>⟨[],rfl,Cs.nil _ _,by simp⟩
   have n1:=fun w' cb=>dcontains (fun y=>decide (q<deepI y)) none 0 [] (by simp) (by simp) w' (hn w') cb (by simp)
   have hfin:decide (q+1<deepI (.text b))=false:=decide_eq_false (by simp[deepI])
   simp only[List.length_nil,List.any_nil]at n1
   rw[hfin]
   replace n1:=Z n1
   clear ih R cl hn
   go_enter Tryz.func61, Tryz.ntmps61
   go_wp2_with fail
   refine(n1.out _ _).mono ?_
   rintro e w1 ⟨rfl,hB⟩
   go_wp2_with fail
   go_ret
   exact⟨rfl,bel⟩
  | list l =>
   obtain⟨f,t,A,n,c⟩:=v
   obtain⟨h1,h2,h3,hc,hm2,hr⟩:=R.row
   simp only at h1 h2 h3 hc hm2 hr
   subst h1 h2 h3
   have n1:=fun w' (hB:Below w.heap.size w w') (cb:Nat) (h1:w'.cell? ⟨cb,0,none⟩=some (.int .i64 ((q+1:Nat):Int))) (h2:cb<w'.heap.size)=>dcontains (fun y=>decide (q<deepI y)) A c l hc hm2 w' (hr.below hB) cb
    (fun y hy v w2 hB2 R2=>cl y (by rw[deepI]at hx;have:=deepL_mem hy;omega) v cb w2 ((hB2.cell (p:=⟨cb,0,none⟩) h2).trans h1) (Nat.lt_of_lt_of_le h2 hB2.size) R2)
   have hfin:(l.any fun y=>decide (q<deepI y))=decide (q+1<deepI (.list l)):=by rw[any_deep,deepI];simp
   simp only[hfin]at n1
   replace n1:=Z n1
   clear ih R hr hc hm2 cl hfin
   go_enter Tryz.func61, Tryz.ntmps61
   go_wp2_with fail
   refine(n1.out _ bel _ (by simp) (by simp)).mono ?_
   rintro e w1 ⟨rfl,hB⟩
   go_wp2_with fail
   go_ret
   exact⟨rfl,bel⟩
theorem strCells_bs(t:List UInt8):Lib.strCells (bs t)=Lib.byteCells t:=by
 simp[Lib.strCells,Lib.byteCells,bs]
theorem byteCells_app(a b:List UInt8):Lib.byteCells (a ++ b)=Lib.byteCells a ++ Lib.byteCells b:=by simp[Lib.byteCells]
theorem write_str(B b:Nat) (l t:List UInt8) (w:World) (h:BldAt B b l w) (hlen:l.length+t.length≤140737488355328) (hBw:B≤w.heap.size) :
  Calls Tryz.prog 92 #[.pointer (some ⟨b,0,none⟩),.string (bs t)] w fun e w'=>e=.returned (.tuple #[.int .i64 (t.length:Int),.nilIface])∧BldAt B b (l ++ t) w'∧Below B w w':=by
 obtain⟨i0,hi,hz0,hz1,hz2⟩:=info_parts infoU8b
 have hl:(Lib.byteCells l).length=l.length:=by simp[Lib.byteCells]
 have hts:(bs t).size=t.length:=bs_size t
 have hsc:=strCells_bs t
 have hap:=byteCells_app l t
 generalize hxs:Lib.byteCells l=xs at *
 obtain⟨s,hs⟩:∃ s,bs t=s:=⟨_,rfl⟩
 rw[hs]at hts hsc ⊢
 unfold BldAt at h ⊢
 rw[hxs]at h
 rw[hap,←hsc]
 have hlen2:xs.length+s.size≤140737488355328:=by omega
 rw[←hts]
 clear hap hsc hxs hl hlen hs hts
 go_enter Tryz.func92, Tryz.ntmps92
 go_wp2_with(go_at_call 132; refine(check_any B b xs _ h).mono ?_)
 rintro e w1 ⟨rfl,h1,hb1⟩
 obtain⟨hB,v,hbk,hown,hne⟩:=h1
 have c0:w1.cell? ⟨b,0,none⟩=some (.pointer (some ⟨b,0,none⟩)):=by rw[Lib.cell_of_heap hbk];rfl
 have c1:w1.cell? ⟨b,1,none⟩=some v:=by rw[Lib.cell_of_heap hbk];rfl
 go_wp2_with(at_builtin;refine Lib.wpList_append_own_string _ rfl _ _ 55 9 rfl B 5 i0 Tryz.underlying55 Tryz.underlying9 hi hz0 hz1 hz2 _ _ _ rfl hown s rfl (by unfold maxLen;omega) (by omega) (by have:=hb1.size;omega) ?_)
 intro v' w2 hown' hgrow _
 have hlt:b<w1.heap.size:=(Array.getElem?_eq_some_iff.1 hbk).1
 have hb2:w2.heap[b]?=some (.cells #[.pointer (some ⟨b,0,none⟩),v] 163 (0,0)):=by
  rw[hgrow.block b hlt (fun e=>hne e.symm)]
  exact hbk
 have d0:w2.cell? ⟨b,0,none⟩=some (.pointer (some ⟨b,0,none⟩)):=by rw[Lib.cell_of_heap hb2];rfl
 have d1:w2.cell? ⟨b,1,none⟩=some v:=by rw[Lib.cell_of_heap hb2];rfl
 have f1:w2.frozen? ⟨b,1,none⟩=false:=Lib.frozen_of_heap hb2 1
 obtain⟨ao,n',cap,rfl⟩:∃ ao n' cap,v'=.slice ao n' cap:=by
  rcases hown'.2 with ⟨hv,_⟩|⟨g,cap,cur,hv,_⟩
  ·exact⟨_,_,_,hv⟩
  ·exact⟨_,_,_,hv⟩
 go_wp2_with fail
 go_ret2
 refine⟨rfl,.inr ?_,?_⟩
 ·exact Lib.BuilderAt.put hB hb2 (bs':=xs ++ Lib.strCells s) (by simpa[Lib.strCells_length] using hown') (by decide)
 ·exact(hb1.grown hgrow (by have:=hb1.size;omega) (fun k hk=>(hown.lt k hk).1)).setCell (p:=⟨b,1,none⟩) hB _
theorem bld_newB(B:Nat) (w:World) (hB:B≤w.heap.size):BldAt B w.heap.size [] (w.alloc (.cells #[.pointer none,.slice none 0 0] 163)) :=
 .inl ⟨hB,.slice none 0 0,heap_alloc_new w _,World.ownsRow_nil _ _ _ _,by simp[Value.ownBlock]⟩
theorem bld_new1(w:World) (o:Obj):BldAt w.heap.size (w.heap.size+1) [] ((w.alloc o).alloc (.cells #[.pointer none,.slice none 0 0] 163)):=by
 have h:=bld_newB w.heap.size (w.alloc o) (by simp)
 rw[size_alloc]at h
 exact h
theorem bldAt_below{T e:TypeId}{B b:Nat}{p:Value}{xs:List Value}{w w':World} (h:Lib.BuilderAt T e B b p xs w) (hB:Below w.heap.size w w'):Lib.BuilderAt T e B b p xs w':=by
 obtain⟨h1,v,h2,h3,h4⟩:=h
 refine⟨h1,v,(hB.block b (Array.getElem?_eq_some_iff.1 h2).1).trans h2,h3.kept (row:=none) ⟨hB.os,hB.tape,hB.output,hB.size,fun k hk _=>hB.block k hk⟩ ?_,h4⟩
 cases hv:v.ownBlock with
 | none=>exact .inl rfl
 | some g=>exact .inr (by simp)
theorem bld_below{B b:Nat}{l:List UInt8}{w w':World} (h:BldAt B b l w) (hB:Below w.heap.size w w'):BldAt B b l w':=h.imp (fun h=>bldAt_below h hB) fun h=>bldAt_below h hB
theorem grown_far{w W:World}{b g i:Nat}{u:Value} (G:w.grownBy W (some b)) (hg:w.heap.size≤g):w.grownBy (W.setCell ⟨g,i,none⟩ u) (some b) :=
 ⟨G.os,G.tape,G.output,by rw[size_set];exact G.size,fun k hk hn=>(Below.heap_setCell _ _ _ _ (fun e=>by simp at e;omega)).trans (G.block k hk hn)⟩
theorem index_ix(l:List UInt8) (k:Nat) (hk:k<l.length) (h63:l.length≤9223372036854775807) (w:World):(Instr.index 9 (.string (bs l)) (.int .i64 (k:Int))).run Tryz.prog w=.ok (.int .u8 ((l.getD k 0).toNat:Int)) w:=by
 have:=index_at (bs l) k (by rw[bs_size];exact hk) (by rw[bs_size];exact h63) w
 rw[vw_bw]at this
 exact this
end
end Go.Proofs.YtobgigcdpiikaaaGreatDoor
namespace Go.Phx
section
def twoP:Bytes→Bytes
 | a :: b :: r=>UInt8.ofNat (16*a.toNat+b.toNat) :: twoP r
 | _=>[]
end
section
section
variable (K:Bytes→Bytes)
end
theorem put_pos(x:It):1≤(putI x).length:=List.length_pos_iff.2 (put_ne x)
theorem putL_ge:∀ l:List It,l.length≤(putL l).length
 | []=>by simp[putL]
 | x :: r=>by
  rw[putL_cons,List.length_append,List.length_cons]
  have:=put_pos x
  have:=putL_ge r
  omega
theorem put_list_ge(l:List It):1+(putL l).length≤(putI (.list l)).length:=by
 rw[putI]
 unfold frameF
 rw[List.length_append]
 have:1≤(headF 192 (putL l).length).length:=by unfold headF;split <;> simp
 omega
section
variable (K:Bytes→Bytes)
end
end
end Go.Phx
namespace Go.Proofs.YtobgigcdpiikaaaGreatDoor
section
open BigFrame Go.RowKit Go.Phx Go.Shelf
attribute [local go_sem] Oper.semAt_some
theorem be8_len(n:Nat):(be8 n).length=8:=rfl
theorem be8_at(n k:Nat) (hk:k<8):(((be8 n).getD k 0).toNat:Int)=(n:Int) / 2 ^ (56 - 8*k) % 256:=by
 have e:∀ m:Nat,((UInt8.ofNat (n / m)).toNat:Int)=(n:Int) / (m:Int) % 256:=fun m=>by
  rw[UInt8.toNat_ofNat',←Int.natCast_ediv]
  omega
 match k,hk with
 | 0,_=>exact e 72057594037927936
 | 1,_=>exact e 281474976710656
 | 2,_=>exact e 1099511627776
 | 3,_=>exact e 4294967296
 | 4,_=>exact e 16777216
 | 5,_=>exact e 65536
 | 6,_=>exact e 256
 | 7,_ =>
  have:=e 1
  rw[Nat.div_one]at this
  simp[be8,List.getD]
theorem number_calls'(n:Nat) (hn:n<18446744073709551616) (w:World):Calls Tryz.prog 64 #[.int .u64 (n:Int)] w (Ret w (.string (bs (rlpN n)))):=by
 have hDl:=be8_len n
 have hDk:=be8_at n
 have hTL:Calls Tryz.prog 108 #[.string (bs (be8 n)),.string ⟨#[0]⟩]=Calls Tryz.prog 108 #[.string (bs (be8 n)),.string ⟨#[0]⟩]:=rfl
 have n1:=fun w=>Tryz.strings_TrimLeft_one (bs (be8 n)) 0 (by decide) w
 have hr:bs (rlpN n)=⟨(Lib.trimLeftB (bs (be8 n)).data.toList 0).toArray⟩:=rfl
 rw[hr]
 clear hTL hr
 generalize(⟨(Lib.trimLeftB (bs (be8 n)).data.toList 0).toArray⟩:ByteArray)=R at *
 generalize be8 n=D at *
 replace hDk:=Z hDk
 replace n1:=Z n1
 go_enter Tryz.func64, Tryz.ntmps64
 go_wp2_with fail
 have HB0:Below w.heap.size w (w.alloc (.cells (bcells 8 D 0) 189)):=bel
 have KQ:=Blk.new0 w 189 (bcells 8 D 0)
 go_loopw [5] (fun i wr=>∃ k:Nat,k≤8∧i=.int .i64 k∧Blk wr w.heap.size 189 (bcells 8 D k)∧Below w.heap.size w wr) (fun i _=>(8 - intOf i).toNat)
 case atStart=>exact⟨0,Nat.zero_le _,rfl,KQ,HB0⟩
 case round =>
  clear KQ HB0
  obtain⟨k,hk,rfl,K0,HB⟩:=hrel
  by_cases hkt:k<8
  ·have hd:=hDk.out k hkt
   have g1:=bcells_at 8 D k hkt hDl
   have hset:=bcells_set 8 D k hkt hDl _ hd.symm
   have e1:(56 - 8*(k:Int)).toNat=56 - 8*k:=by omega
   have e2:(0:Int)≤56 - 8*(k:Int):=by omega
   replace hset:=Z hset
   replace hd:=Z hd
   replace K0:=Z K0
   replace HB:=Z HB
   (obtain⟨k0,f0,l0,m0⟩:=rl_ K0)
   go_wp2_with fail
   go_roundw
   case rel=>exact⟨k+1,by omega,by go_num,by rw[←hset.out];exact K0.out.set_ _ _,HB.out.setCell (by simp) _⟩
   case measure=>simp[intOf];omega
  ·obtain rfl:k=8:=by omega
   rw[bcells_all 8 D hDl]at K0
   have hcv:=fun c=>conv_row _ w.heap.size _ D 8 c K0 hDl
   replace K0:=Z K0
   replace HB:=Z HB
   clear hDk
   simp only[show((8:Nat):Int)=8 from rfl]
   go_wp2_with fail
   refine(n1.out _).mono ?_
   rintro e w' ⟨rfl,rfl⟩
   go_wp2_with fail
   go_ret
   exact⟨rfl,HB.out⟩
theorem u8_of(x:Int) (m:Nat) (h:x % 256=(m:Int) % 256):UInt8.ofNat (IntKind.u8.wrap x).toNat=UInt8.ofNat m:=by
 apply UInt8.toNat_inj.1
 rw[UInt8.toNat_ofNat',UInt8.toNat_ofNat',IntKind.wrap_u8]
 omega
theorem framed_calls(s:Bytes) (hs:s.length≤1000000000) (f:Nat) (hf:f≤192) (w:World):Calls Tryz.prog 107 #[.string (bs s),.int .u8 (f:Int)] w (Ret w (.string (bs (frameF f s)))):=by
 obtain⟨n,hn⟩:∃ n,s.length=n:=⟨_,rfl⟩
 by_cases h56:n<56
 ·have e:frameF f s=[UInt8.ofNat (f+n)] ++ s:=by unfold frameF headF;rw[hn,if_pos h56]
  have h1:(n:Int)<56:=by omega
  rw[e]
  clear e
  have hc:=fun W=>conv1 W 5 (IntKind.u8.wrap ((f:Int)+IntKind.u8.wrap (n:Int)))
  rw[u8_of _ (f+n) (by rw[IntKind.wrap_u8];omega)]at hc
  have hsz:(bs s).size=n:=by rw[bs_size,hn]
  clear hn hs h56
  go_enter Tryz.func107, Tryz.ntmps107
  go_wp2_with fail
  go_ret
  exact⟨by simp[UInt8.ofNat_add],bel⟩
 ·have e:frameF f s=[UInt8.ofNat (f+55+(rlpN n).length)] ++ rlpN n ++ s:=by unfold frameF headF;rw[hn,if_neg h56];simp
  have h1:¬ (n:Int)<56:=by omega
  have h64:IntKind.u64.wrap (n:Int)=(n:Int):=by rw[IntKind.wrap_u64];omega
  have hk8:=rlpN_len n
  rw[e]
  clear e
  have nn:=fun W=>number_calls' n (by omega) W
  have hsz:(bs s).size=n:=by rw[bs_size,hn]
  generalize rlpN n=R at *
  have hc:=fun W=>conv1 W 5 (IntKind.u8.wrap (IntKind.u8.wrap ((f:Int)+55)+IntKind.u8.wrap (R.length:Int)))
  rw[u8_of _ (f+55+R.length) (by rw[IntKind.wrap_u8,IntKind.wrap_u8];omega)]at hc
  replace nn:=Z nn
  have hb:¬ 9223372036854775807<R.length+1+n:=by omega
  clear hn hs h56
  go_enter Tryz.func107, Tryz.ntmps107
  go_wp2_with fail
  refine(nn.out _).mono ?_
  rintro e w' ⟨rfl,hB⟩
  go_wp2_with fail
  go_ret
  exact⟨by simp[UInt8.ofNat_add],hB.alloc hB.size _⟩
theorem put_calls:∀ (k:Nat) (x:It),deepI x≤k→(putI x).length≤1000000000→∀ (v:Iv) (w:World),Rep w x v→Calls Tryz.prog 63 #[v.val] w (Ret w (.string (bs (putI x)))):=by
 intro k
 induction k with
 | zero=>intro x hx;cases x <;> simp[deepI]at hx
 | succ k ih =>
  intro x hx hp v w R
  cases x with
  | text b =>
   obtain rfl:=R.txt
   clear R ih
   have hbl:b.length≤1000000000:=Nat.le_trans (ins_le (.text b)) hp
   by_cases h1:b.length=1
   ·obtain⟨c,rfl⟩:∃ c,b=[c]:=by
     match b,h1 with
     | [c],_=>exact⟨c,rfl⟩
    have hix:∀ h,(bs [c])[0]'h=c:=fun _=>rfl
    by_cases hc:c.toNat<128
    ·have e:putI (.text [c])=[c]:=by rw[putI,if_pos (by simp[isOne,hc])]
     have hc2:(c.toNat:Int)<128:=by omega
     rw[e]
     go_enter Tryz.func63, Tryz.ntmps63
     go_wp2_with fail
     go_ret
     exact⟨rfl,bel⟩
    ·have e:putI (.text [c])=frameF 128 [c]:=by rw[putI,if_neg (by simp[isOne,hc])]
     have hc2:¬ (c.toNat:Int)<128:=by omega
     have n1:=Z (fun w=>framed_calls [c] (by simp) 128 (by omega) w)
     rw[e]
     clear hp hbl
     go_enter Tryz.func63, Tryz.ntmps63
     go_wp2_with fail
     refine(n1.out _).mono ?_
     rintro e w1 ⟨rfl,hB⟩
     go_wp2_with fail
     go_ret
     exact⟨rfl,bel⟩
   ·have e:putI (.text b)=frameF 128 b:=by
     rw[putI,if_neg]
     intro h
     obtain⟨x,rfl,_⟩:=one_is h
     exact h1 rfl
    have h2:¬ (b.length:Int)=1:=by omega
    have h3:((b.length:Int) == 1)=false:=by rw[beq_eq_false_iff_ne];exact h2
    have n1:=Z (fun w=>framed_calls b hbl 128 (by omega) w)
    rw[e]
    clear hp h1
    go_enter Tryz.func63, Tryz.ntmps63
    go_wp2_with fail
    refine(n1.out _).mono ?_
    rintro e w1 ⟨rfl,hB⟩
    go_wp2_with fail
    go_ret
    exact⟨rfl,bel⟩
  | list l =>
   obtain⟨f,t,A,n,c⟩:=v
   obtain⟨h1,h2,h3,hc,hm2,hr⟩:=R.row
   simp only at h1 h2 h3 hc hm2 hr
   subst h1 h2 h3
   have hpl:(putL l).length≤1000000000:=Nat.le_trans (ins_le (.list l)) hp
   have e:putI (.list l)=frameF 192 (putL l):=by rw[putI]
   have n1:=Z (fun w=>framed_calls (putL l) hpl 192 (by omega) w)
   have hlen:l.length≤1000000000:=Nat.le_trans (putL_ge l) hpl
   have hel:∀ (i:Nat) (y:It),l[i]?=some y→∀ (v:Iv) (w':World),Rep w' y v→Calls Tryz.prog 63 #[v.val] w' (Ret w' (.string (bs (putI y)))):=fun i y hy v w' R'=>by
    have hm:=List.mem_of_getElem? hy
    exact ih y (by rw[deepI]at hx;have:=deepL_mem hm;omega) (Nat.le_trans (putL_mem_le hm) hpl) v w' R'
   have hpre:∀ k,(putL (l.take k)).length≤(putL l).length:=fun k=>by
    conv=>rhs;rw[←List.take_append_drop k l,putL_append,List.length_append]
    omega
   rw[e]
   replace hel:=Z hel
   replace hr:=Z hr
   replace hpre:=Z hpre
   clear R ih e hp hc hm2 hx
   go_enter Tryz.func63, Tryz.ntmps63
   go_wp2_with fail
   have HB0:Below w.heap.size w ((w.alloc (Obj.cells #[.bool true,.string (bs []),.slice A l.length c] 79)).alloc (Obj.cells #[.pointer none,.slice none 0 0] 163)):=bel
   have hb0:BldAt w.heap.size (w.heap.size+1) [] ((w.alloc (Obj.cells #[.bool true,.string (bs []),.slice A l.length c] 79)).alloc (Obj.cells #[.pointer none,.slice none 0 0] 163)):=bld_new1 _ _
   go_loopw [11] (fun i wr=>∃ k:Nat,k≤l.length∧i=.int .i64 k∧BldAt w.heap.size (w.heap.size+1) (putL (l.take k)) wr∧Below w.heap.size w wr) (fun i _=>(l.length - intOf i).toNat)
   case atStart=>exact⟨0,by omega,rfl,by simpa[putL] using hb0,HB0⟩
   case round =>
    clear hb0 HB0
    obtain⟨k,hk,rfl,hb,HB⟩:=hrel
    by_cases hlt:k<l.length
    ·obtain⟨bb,o,v,rfl,hbb,c0,c1,c2,R⟩:=(hr.out.below HB).at k l[k] (List.getElem?_eq_getElem hlt)
     have hE:=hel.out k l[k] (List.getElem?_eq_getElem hlt) v
     have hT:putL (l.take (k+1))=putL (l.take k) ++ putI l[k]:=by rw[List.take_add_one,List.getElem?_eq_getElem hlt,putL_append];simp[putL]
     have hp1:=hpre.out (k+1)
     rw[hT,List.length_append]at hp1
     generalize l[k]=y at *
     generalize putL (l.take k)=q at *
     obtain⟨f,t,vA,vn,vc⟩:=v
     simp only at c0 c1 c2
     replace hT:=Z hT
     have hE2:=Z (fun w' (hB:Below wr.heap.size wr w')=>hE w' (R.on hB))
     replace hb:=Z hb
     replace HB:=Z HB
     have hqy:q.length+(putI y).length≤140737488355328:=by omega
     clear hel hr R hE
     go_wp2_with fail
     refine(hE2.out _ bel).mono ?_
     rintro e w1 ⟨rfl,hB1⟩
     have hz1:=hB1.size
     simp at hz1
     have hWn:∀ o,Below wr.heap.size wr (wr.alloc o):=fun o=>(Below.refl _ _).alloc (Nat.le_refl _) _
     have hb1:=Z (bld_below (bld_below hb.out (hWn _)) hB1)
     have HB1:=Z ((HB.out.trans (Below.mono (hWn _) HB.out.size)).trans (Below.mono hB1 (by have:=HB.out.size;simp;omega)))
     clear hWn
     clear hB1 hE2 c0 c1 c2 hb HB
     go_wp2_with fail
     refine(write_str _ _ q (putI y) _ hb1.out hqy HB1.out.size).mono ?_
     rintro e w2 ⟨rfl,hb2,hB2⟩
     have HB2:=Z (HB1.out.trans hB2)
     replace hb2:=Z hb2
     clear hb1 HB1 hB2
     go_wp2_with fail
     go_roundw
     case rel=>exact⟨k+1,by omega,by go_num,by rw[hT.out];exact hb2.out,HB2.out⟩
     case measure=>simp[intOf];omega
    ·obtain rfl:k=l.length:=by omega
     rw[List.take_of_length_le (Nat.le_refl _)]at hb
     replace hb:=Z hb
     replace HB:=Z HB
     clear hel hr
     go_wp2_with fail
     refine(bld_string _ _ _ _ hb.out HB.out.size).mono ?_
     rintro e w2 ⟨rfl,hB2⟩
     have HB2:=Z (HB.out.trans hB2)
     clear hb HB hB2
     go_wp2_with fail
     refine(n1.out _).mono ?_
     rintro e w3 ⟨rfl,hB3⟩
     go_wp2_with fail
     go_ret
     exact⟨rfl,HB2.out.trans (hB3.mono HB2.out.size)⟩
theorem encode_calls(x:It) (hd:deepI x≤12) (hp:(putI x).length≤65536) (v:Iv) (w:World) (R:Rep w x v):Calls Tryz.prog 25 #[v.val] w (Ret w (.tuple #[.string (bs (putI x)),.int .i64 0])):=by
 have n1:=fun w' (hB:Below w.heap.size w w')=>deep_calls (deepI x) x (Nat.le_refl _) 12 (by omega) v w' (R.on hB)
 have n2:=fun w' (hB:Below w.heap.size w w')=>wrong_calls (deepI x) x (Nat.le_refl _) v w' (R.on hB)
 have n3:=fun w' (hB:Below w.heap.size w w')=>put_calls (deepI x) x (Nat.le_refl _) (by omega) v w' (R.on hB)
 have hdf:decide (12<deepI x)=false:=decide_eq_false (by omega)
 simp only[hdf]at n1
 simp only[show((12:Nat):Int)=12 from rfl]at n1
 have hpl:((putI x).length:Int)≤65536:=by omega
 have hpn:¬ 65536<((putI x).length:Int):=by omega
 generalize putI x=q at *
 obtain⟨f,t,A,n,c⟩:=v
 replace n1:=Z n1
 replace n2:=Z n2
 replace n3:=Z n3
 clear R hd hp hdf
 go_enter Tryz.func25, Tryz.ntmps25
 go_wp2_with fail
 have HB0:Below w.heap.size w (w.alloc (.cells #[.bool f,.string (bs t),.slice A n c] 79)):=bel
 refine(n1.out _ HB0).mono ?_
 rintro e w1 ⟨rfl,hB1⟩
 have HB1:=Z (HB0.trans (hB1.mono (by simp)))
 have hcell:∀ i,i<3→w1.cell? ⟨w.heap.size,i,none⟩=(#[.bool f,.string (bs t),.slice A n c]:Array Value)[i]?:=fun i _=>((Blk.new0 w 79 #[.bool f,.string (bs t),.slice A n c]).below hB1).cell i
 have K0:=Z ((Blk.new0 w 79 #[.bool f,.string (bs t),.slice A n c]).below hB1)
 clear hB1 HB0 n1 hcell
 (obtain⟨k0,f0,l0,m0⟩:=rl_ K0)
 go_wp2_with fail
 refine(n2.out _ HB1.out).mono ?_
 rintro e w2 ⟨rfl,hB2⟩
 have HB2:=Z (HB1.out.trans (hB2.mono HB1.out.size))
 clear k0 f0 l0 m0
 replace K0:=Z (K0.out.below hB2)
 clear hB2 HB1 n2
 (obtain⟨k0,f0,l0,m0⟩:=rl_ K0)
 go_wp2_with fail
 refine(n3.out _ HB2.out).mono ?_
 rintro e w3 ⟨rfl,hB3⟩
 have HB3:=Z (HB2.out.trans (hB3.mono HB2.out.size))
 clear hB3 HB2 n3 k0 f0 l0 m0 K0
 go_wp2_with fail
 go_ret2
 exact⟨rfl,HB3.out⟩
theorem rlpV_snoc(s:Bytes) (c:UInt8):rlpV (s ++ [c])=rlpV s*256+c.toNat:=by unfold rlpV;rw[List.foldl_append];rfl
theorem rlpV_lt:∀ (k:Nat) (s:Bytes),s.length≤k→rlpV s<256 ^ k
 | 0,s,h=>by
  obtain rfl:s=[]:=List.eq_nil_of_length_eq_zero (by omega)
  simp[rlpV]
 | k+1,s,h=>by
  rcases List.eq_nil_or_concat s with rfl|⟨r,c,rfl⟩
  ·exact Nat.pos_of_ne_zero (by simp)
  ·rw[List.concat_eq_append,rlpV_snoc]
   have h1:=rlpV_lt k r (by simpa using h)
   have h2:=c.toNat_lt
   rw[Nat.pow_succ]
   omega
theorem value_calls(s:Bytes) (hs:s.length≤8) (h0:∀ r,s≠0 :: r) (w:World):Calls Tryz.prog 123 #[.string (bs s)] w (fun e w'=>e=.returned (.tuple #[.int .u64 (rlpV s:Int),.int .i64 0])∧w'=w):=by
 have n1:=fun w=>Tryz.strings_HasPrefix (bs s) ⟨#[0]⟩ w
 have hp:Lib.hasPrefix (bs s).data.toList (ByteArray.mk #[0]).data.toList=false:=by
  match s,h0 with
  | [],_=>rfl
  | c :: r,h0 =>
   have:c≠0:=fun e=>h0 r (by rw[e])
   simp[Lib.hasPrefix,bs,List.isPrefixOf]
   exact fun h=>this h.symm
 rw[hp]at n1
 replace n1:=Z n1
 have hs2:¬ (8:Int)<(s.length:Int):=by omega
 clear h0 hp
 go_enter Tryz.func123, Tryz.ntmps123
 go_wp2_with fail
 refine(n1.out _).mono ?_
 rintro e w' ⟨rfl,rfl⟩
 go_wp2_with fail
 go_loopw [4,15] (fun v i wr=>∃ k:Nat,k≤s.length∧v=.int .u64 (rlpV (s.take k):Nat)∧i=.int .i64 k∧wr=w') (fun _ i _=>(s.length - intOf i).toNat)
 case atStart=>exact⟨0,Nat.zero_le _,rfl,rfl,rfl⟩
 case round =>
  obtain⟨k,hk,rfl,rfl,rfl⟩:=hrel
  by_cases hlt:k<s.length
  ·have hix:=fun W=>index_ix s k hlt (by omega) W
   have hT:rlpV (s.take (k+1))=rlpV (s.take k)*256+(s.getD k 0).toNat:=by
    rw[List.take_add_one,List.getElem?_eq_getElem hlt,Option.toList_some,rlpV_snoc,List.getD,List.getElem?_eq_getElem hlt]
    rfl
   have hx:=rlpV_lt 7 (s.take k) (by rw[List.length_take];omega)
   have hc:=(s.getD k 0).toNat_lt
   generalize(s.getD k 0).toNat=c at *
   generalize rlpV (s.take k)=x at *
   have e1:IntKind.u64.wrap ((x:Int)*256)=(x:Int)*256:=by rw[IntKind.wrap_u64];omega
   have e2:IntKind.u64.wrap (c:Int)=(c:Int):=by rw[IntKind.wrap_u64];omega
   have e3:bits .or .u64 ((x:Int)*256) (c:Int)=((x*256+c:Nat):Int):=by
    rw[show(x:Int)*256=((x*256:Nat):Int) by omega,u64_or_nat _ _ (by omega) (by omega)]
    have:=Nat.two_pow_add_eq_or_of_lt (i:=8) (b:=c) hc x
    rw[Nat.mul_comm x 256,this]
   rw[←hT]at e3
   replace hT:=Z hT
   clear n1
   go_wp2_with fail
   go_roundw
   case rel=>exact⟨k+1,by omega,by first|rfl|rw[e3],by go_num,by trivial⟩
   case measure=>simp[intOf];omega
  ·obtain rfl:k=s.length:=by omega
   rw[List.take_of_length_le (Nat.le_refl _)]
   clear n1
   go_wp2_with fail
   go_ret2
   exact⟨rfl,rfl⟩
theorem cut_small(c:UInt8) (hc:c.toNat<128) (r:Bytes) (hr:r.length≤1000000000) (w:World):Calls Tryz.prog 184 #[.string (bs (c :: r))] w (Ret w (.tuple #[.string (bs [c]),.bool false,.string (bs r),.bool true])):=by
 have hg:∀ h,(bs (c :: r))[0]'h=c:=fun _=>rfl
 have hd:(bs (c :: r)).extract 1 (r.length+1)=bs r:=bs_drop (c :: r) 1
 have hc2:(c.toNat:Int)<128:=by omega
 have hsz:(bs (c :: r)).size=r.length+1:=by rw[bs_size];rfl
 go_enter Tryz.func184, Tryz.ntmps184
 go_wp2_with fail
 (refine wp_region_later U U ?_;(repeat(go_big_quiet_step (fail)));refine wpQuiet_nil ?_;intro w' hB)
 go_wp2_with fail
 exact bodyPost_ret (by simp[results,Tryz.results184, go_sem]) rfl ⟨rfl,hB⟩
def fromB(L:Bool):Nat:=if L then 192 else 128
theorem cut_short(L:Bool) (s r:Bytes) (n:Nat) (hn:s.length=n) (h56:n<56) (ho:L=true∨n≠1∨∃ d:UInt8,s=[d]∧128≤d.toNat) (hr:r.length≤1000000000) (w:World) :
  Calls Tryz.prog 184 #[.string (bs (UInt8.ofNat (fromB L+n) :: (s ++ r)))] w (Ret w (.tuple #[.string (bs s),.bool L,.string (bs r),.bool true])):=by
 obtain⟨c,hc⟩:∃ c,UInt8.ofNat (fromB L+n)=c:=⟨_,rfl⟩
 have hcn:c.toNat=fromB L+n:=by rw[←hc,UInt8.toNat_ofNat'];unfold fromB;split <;> omega
 rw[hc]
 have hg:∀ h,(bs (c :: (s ++ r)))[0]'h=c:=fun _=>rfl
 have hd:(bs (c :: (s ++ r))).extract 1 (s.length+r.length+1)=bs (s ++ r):=by have:=bs_drop (c :: (s ++ r)) 1;simpa[Nat.add_comm] using this
 have hsz:(bs (c :: (s ++ r))).size=n+r.length+1:=by rw[bs_size];simp;omega
 have hsz2:(bs (s ++ r)).size=n+r.length:=by rw[bs_size];simp;omega
 rw[hn]at hd
 have h1:¬ (c.toNat:Int)<128:=by rw[hcn];unfold fromB;split <;> omega
 have h2:decide ((192:Int)≤(c.toNat:Int))=L:=by rw[hcn];unfold fromB;cases L <;> simp <;> omega
 have h3:IntKind.u8.wrap ((c.toNat:Int) - 128)=(c.toNat:Int) - 128:=by rw[IntKind.wrap_u8];unfold fromB at hcn;split at hcn <;> omega
 have h4:IntKind.u64.wrap ((c.toNat:Int) - 128)=(c.toNat:Int) - 128:=by rw[IntKind.wrap_u64];unfold fromB at hcn;split at hcn <;> omega
 have h5:((c.toNat:Int) - 128) % 64=(n:Int):=by unfold fromB at hcn;split at hcn <;> omega
 have h6:¬ (55:Int)<(n:Int):=by omega
 have h7:IntKind.u64.wrap ((n:Int)+(r.length:Int))=(n:Int)+(r.length:Int):=by rw[IntKind.wrap_u64];omega
 have h8:¬ (n:Int)+(r.length:Int)<(n:Int):=by omega
 have ht:(bs (s ++ r)).extract 0 n=bs s:=by rw[bs_take];congr 1;rw[←hn];simp
 have hdr:(bs (s ++ r)).extract n (n+r.length)=bs r:=by have:=bs_drop (s ++ r) n;rw[List.length_append,hn]at this;rw[this,←hn];simp
 have hnn:s.length=n:=hn
 replace hn:=Z hn
 clear hc hcn
 go_enter Tryz.func184, Tryz.ntmps184
 go_wp2_with fail
 clear hd hg h1 h3 h4 h5 h6 h2
 (refine wp_region_later U U ?_;(repeat(go_big_quiet_step (fail)));refine wpQuiet_nil ?_;intro w' hB)
 replace hB:=Z hB
 go_wp2_with fail
 have hor:L=true∨L=false:=by cases L <;> simp
 rcases hor with rfl|rfl
 ·(refine wp_region_later U U ?_;(repeat(go_big_quiet_step (fail)));refine wpQuiet_nil ?_;intro w2 hB2)
  go_wp2_with fail
  exact bodyPost_ret (by simp[results,Tryz.results184, go_sem]) rfl ⟨rfl,hB.out.trans (hB2.mono hB.out.size)⟩
 ·rcases ho with ho|ho|⟨d,rfl,hd⟩
  ·cases ho
  ·have hne:((n:Int) != 1)=true:=by rw[bne_iff_ne];omega
   (refine wp_region_later U U ?_;(repeat(go_big_quiet_step (fail)));refine wpQuiet_nil ?_;intro w2 hB2)
   go_wp2_with fail
   exact bodyPost_ret (by simp[results,Tryz.results184, go_sem]) rfl ⟨rfl,hB.out.trans (hB2.mono hB.out.size)⟩
  ·have hgd:∀ h,(bs [d])[0]'h=d:=fun _=>rfl
   have hd2:(128:Int)≤(d.toNat:Int):=by omega
   simp only[List.length_cons,List.length_nil,Nat.zero_add]at hnn
   subst hnn
   (refine wp_region_later U U ?_;(repeat(go_big_quiet_step (fail)));refine wpQuiet_nil ?_;intro w2 hB2)
   go_wp2_with fail
   exact bodyPost_ret (by simp[results,Tryz.results184, go_sem]) rfl ⟨rfl,hB.out.trans (hB2.mono hB.out.size)⟩
theorem cut_long(L:Bool) (s r:Bytes) (n:Nat) (hn:s.length=n) (h56:56≤n) (hr:n+r.length≤1000000000) (w:World) :
  Calls Tryz.prog 184 #[.string (bs (UInt8.ofNat (fromB L+55+(rlpN n).length) :: (rlpN n ++ (s ++ r))))] w (Ret w (.tuple #[.string (bs s),.bool L,.string (bs r),.bool true])):=by
 have ho:L=true∨n≠1∨∃ d:UInt8,s=[d]∧128≤d.toNat:=.inr (.inl (by omega))
 have hk1:=rlpN_pos (n:=n) (by omega) (by omega)
 have hk8:=rlpN_len n
 have nv:=fun w=>value_calls (rlpN n) hk8 (rlpN_head n) w
 rw[rlpV_rlpN (by omega)]at nv
 generalize rlpN n=R at *
 obtain⟨k,hk⟩:∃ k,R.length=k:=⟨_,rfl⟩
 rw[hk]at hk1 hk8 ⊢
 obtain⟨c,hc⟩:∃ c,UInt8.ofNat (fromB L+55+k)=c:=⟨_,rfl⟩
 have hcn:c.toNat=fromB L+55+k:=by rw[←hc,UInt8.toNat_ofNat'];unfold fromB;split <;> omega
 rw[hc]
 obtain⟨q,hq⟩:∃ q,R ++ (s ++ r)=q:=⟨_,rfl⟩
 rw[hq]
 have hql:q.length=k+(n+r.length):=by rw[←hq];simp;omega
 have hg:∀ h,(bs (c :: q))[0]'h=c:=fun _=>rfl
 have hd:(bs (c :: q)).extract 1 (k+(n+r.length)+1)=bs q:=by have:=bs_drop (c :: q) 1;simpa[hql] using this
 have hsz:(bs (c :: q)).size=k+(n+r.length)+1:=by rw[bs_size];simp[hql]
 have hszq:(bs q).size=k+(n+r.length):=by rw[bs_size,hql]
 have hsz2:(bs (s ++ r)).size=n+r.length:=by rw[bs_size];simp;omega
 have h1:¬ (c.toNat:Int)<128:=by rw[hcn];unfold fromB;split <;> omega
 have h2:decide ((192:Int)≤(c.toNat:Int))=L:=by rw[hcn];unfold fromB;cases L <;> simp <;> omega
 have h3:IntKind.u8.wrap ((c.toNat:Int) - 128)=(c.toNat:Int) - 128:=by rw[IntKind.wrap_u8];unfold fromB at hcn;split at hcn <;> omega
 have h4:IntKind.u64.wrap ((c.toNat:Int) - 128)=(c.toNat:Int) - 128:=by rw[IntKind.wrap_u64];unfold fromB at hcn;split at hcn <;> omega
 have h5:((c.toNat:Int) - 128) % 64=(k:Int)+55:=by unfold fromB at hcn;split at hcn <;> omega
 have h6:(55:Int)<(k:Int)+55:=by omega
 have h61:(k:Int)+55 - 55=(k:Int):=by omega
 have h62:IntKind.u64.wrap (k:Int)=(k:Int):=by rw[IntKind.wrap_u64];omega
 have h63:¬ (k:Int)+((n:Int)+(r.length:Int))<(k:Int):=by omega
 have h64:(0:Int)≤(k:Int):=by omega
 have htk:(bs q).extract 0 k=bs R:=by rw[bs_take,←hq,←hk];congr 1;simp
 have hdk:(bs q).extract k (k+(n+r.length))=bs (s ++ r):=by have:=bs_drop q k;rw[hql]at this;rw[this,←hq,←hk];simp
 have h7:IntKind.u64.wrap ((n:Int)+(r.length:Int))=(n:Int)+(r.length:Int):=by rw[IntKind.wrap_u64];omega
 have h8:¬ (n:Int)+(r.length:Int)<(n:Int):=by omega
 have h9:¬ (n:Int)<56:=by omega
 have ht:(bs (s ++ r)).extract 0 n=bs s:=by rw[bs_take];congr 1;rw[←hn];simp
 have hdr:(bs (s ++ r)).extract n (n+r.length)=bs r:=by have:=bs_drop (s ++ r) n;rw[List.length_append,hn]at this;rw[this,←hn];simp
 have hnn:s.length=n:=hn
 replace hn:=Z hn
 replace nv:=Z nv
 replace hq:=Z hq
 clear hc hcn hk hql
 go_enter Tryz.func184, Tryz.ntmps184
 go_wp2_with fail
 refine(nv.out _).mono ?_
 rintro e w' ⟨rfl,rfl⟩
 go_wp2_with fail
 (refine wp_region_later U U ?_;(repeat(go_big_quiet_step (fail)));refine wpQuiet_nil ?_;intro w' hB)
 have hBB:=Z hB
 clear hB hd hg h1 h3 h4 h5 h6 h2 h61 h62 h63 h64 htk hdk nv h9
 go_wp2_with fail
 (refine wp_region_later U U ?_;(repeat(go_big_quiet_step (fail)));refine wpQuiet_nil ?_;intro w' hB)
 replace hB:=Z hB
 go_wp2_with fail
 have hor:L=true∨L=false:=by cases L <;> simp
 rcases hor with rfl|rfl
 ·(refine wp_region_later U U ?_;(repeat(go_big_quiet_step (fail)));refine wpQuiet_nil ?_;intro w2 hB2)
  go_wp2_with fail
  exact bodyPost_ret (by simp[results,Tryz.results184, go_sem]) rfl ⟨rfl,hBB.out.trans ((hB.out.trans (hB2.mono hB.out.size)).mono hBB.out.size)⟩
 ·rcases ho with ho|ho|⟨d,rfl,hd⟩
  ·cases ho
  ·have hne:((n:Int) != 1)=true:=by rw[bne_iff_ne];omega
   (refine wp_region_later U U ?_;(repeat(go_big_quiet_step (fail)));refine wpQuiet_nil ?_;intro w2 hB2)
   go_wp2_with fail
   exact bodyPost_ret (by simp[results,Tryz.results184, go_sem]) rfl ⟨rfl,hBB.out.trans ((hB.out.trans (hB2.mono hB.out.size)).mono hBB.out.size)⟩
  ·have hgd:∀ h,(bs [d])[0]'h=d:=fun _=>rfl
   have hd2:(128:Int)≤(d.toNat:Int):=by omega
   simp only[List.length_cons,List.length_nil,Nat.zero_add]at hnn
   subst hnn
   (refine wp_region_later U U ?_;(repeat(go_big_quiet_step (fail)));refine wpQuiet_nil ?_;intro w2 hB2)
   go_wp2_with fail
   exact bodyPost_ret (by simp[results,Tryz.results184, go_sem]) rfl ⟨rfl,hBB.out.trans ((hB.out.trans (hB2.mono hB.out.size)).mono hBB.out.size)⟩
end
section
open BigFrame Go.RowKit Go.Phx Go.Shelf
def numI(n:Nat):It:=.text (rlpN n)
def textsI(l:List Bytes):It:=.list (l.map It.text)
def hdI(h:Hd):It:=.list [numI h.slot,numI h.prop,.text h.parent,.text h.state,.text h.body]
def exI(x:Ex):It:=.list [.text x.acc,.text x.rcp,numI x.num]
def ltI(l:Lt):It:=.list [hdI l.b,exI l.x,textsI l.br.l]
def cmI(c:Cm):It:=.list [textsI c.ks.l,.text c.sum]
def btI(b:Bt):It:=.list [ltI b.lt,cmI b.now,textsI b.br.l]
def upI(u:Up):It:=.list [ltI u.seen,cmI u.next,textsI u.nb.l,ltI u.fin,textsI u.fb.l,numI u.bits,.text u.sig,numI u.slot]
theorem text_size(b:Bytes):(putI (.text b)).length≤b.length+9:=by
 rw[putI]
 split
 ·omega
 ·unfold frameF
  rw[List.length_append]
  have:=headF_len 128 b.length
  omega
theorem list_size(l:List It):(putI (.list l)).length≤(putL l).length+9:=by
 rw[putI]
 unfold frameF
 rw[List.length_append]
 have:=headF_len 192 (putL l).length
 omega
theorem num_size(n:Nat):(putI (numI n)).length≤17:=by
 have:=text_size (rlpN n)
 have:=rlpN_len n
 unfold numI
 omega
theorem putL_size(N:Nat):∀ (l:List It),(∀ x∈l,(putI x).length≤N)→(putL l).length≤N*l.length
 | [],_=>by simp[putL]
 | x :: r,h=>by
  rw[putL_cons,List.length_append,List.length_cons,Nat.mul_succ]
  have h1:=h x List.mem_cons_self
  have h2:=putL_size N r fun y hy=>h y (List.mem_cons_of_mem _ hy)
  omega
theorem texts_size{N:Nat}{l:List Bytes} (h:∀ x∈l,x.length≤N):(putI (textsI l)).length≤(N+9)*l.length+9:=by
 have h1:=list_size (l.map It.text)
 have h2:=putL_size (N+9) (l.map It.text) (fun x hx=>by
  obtain⟨b,hb,rfl⟩:=List.mem_map.1 hx
  have:=text_size b
  have:=h b hb
  omega)
 rw[List.length_map]at h2
 unfold textsI
 omega
def HdSm(h:Hd):Prop:=h.parent.length≤32∧h.state.length≤32∧h.body.length≤32
def ExSm(x:Ex):Prop:=x.acc.length≤32∧x.rcp.length≤32
def RwSm(l:List Bytes):Prop:=l.length≤20∧∀ x∈l,x.length≤32
def LtSm(l:Lt):Prop:=HdSm l.b∧ExSm l.x∧RwSm l.br.l
def CmSm(c:Cm):Prop:=RwSm c.ks.l∧c.sum.length≤32
def BtSm(b:Bt):Prop:=LtSm b.lt∧CmSm b.now∧RwSm b.br.l
def UpSm(u:Up):Prop:=LtSm u.seen∧CmSm u.next∧RwSm u.nb.l∧LtSm u.fin∧RwSm u.fb.l∧u.sig.length≤32
theorem rw_sm{l:List Bytes} (h:RwSm l):(putI (textsI l)).length≤829:=by
 have h1:=texts_size h.2
 have h2:(32+9)*l.length≤(32+9)*20:=Nat.mul_le_mul_left _ h.1
 omega
theorem text_sm{b:Bytes} (h:b.length≤32):(putI (.text b)).length≤41:=by
 have:=text_size b
 omega
theorem hd_sm{h:Hd} (k:HdSm h):(putI (hdI h)).length≤166:=by
 have h0:=list_size [numI h.slot,numI h.prop,.text h.parent,.text h.state,.text h.body]
 simp only[putL,List.length_append,List.length_nil]at h0
 have h1:=num_size h.slot
 have h2:=num_size h.prop
 have h3:=text_sm k.1
 have h4:=text_sm k.2.1
 have h5:=text_sm k.2.2
 unfold hdI
 omega
theorem ex_sm{x:Ex} (k:ExSm x):(putI (exI x)).length≤108:=by
 have h0:=list_size [.text x.acc,.text x.rcp,numI x.num]
 simp only[putL,List.length_append,List.length_nil]at h0
 have h1:=num_size x.num
 have h3:=text_sm k.1
 have h4:=text_sm k.2
 unfold exI
 omega
theorem lt_sm{l:Lt} (k:LtSm l):(putI (ltI l)).length≤1112:=by
 have h0:=list_size [hdI l.b,exI l.x,textsI l.br.l]
 simp only[putL,List.length_append,List.length_nil]at h0
 have h1:=hd_sm k.1
 have h2:=ex_sm k.2.1
 have h3:=rw_sm k.2.2
 unfold ltI
 omega
theorem cm_sm{c:Cm} (k:CmSm c):(putI (cmI c)).length≤879:=by
 have h0:=list_size [textsI c.ks.l,.text c.sum]
 simp only[putL,List.length_append,List.length_nil]at h0
 have h1:=rw_sm k.1
 have h2:=text_sm k.2
 unfold cmI
 omega
theorem bt_sm{b:Bt} (k:BtSm b):(putI (btI b)).length≤2829:=by
 have h0:=list_size [ltI b.lt,cmI b.now,textsI b.br.l]
 simp only[putL,List.length_append,List.length_nil]at h0
 have h1:=lt_sm k.1
 have h2:=cm_sm k.2.1
 have h3:=rw_sm k.2.2
 unfold btI
 omega
theorem up_sm{u:Up} (k:UpSm u):(putI (upI u)).length≤4845:=by
 have h0:=list_size [ltI u.seen,cmI u.next,textsI u.nb.l,ltI u.fin,textsI u.fb.l,numI u.bits,.text u.sig,numI u.slot]
 simp only[putL,List.length_append,List.length_nil]at h0
 have h1:=lt_sm k.1
 have h2:=cm_sm k.2.1
 have h3:=rw_sm k.2.2.1
 have h4:=lt_sm k.2.2.2.1
 have h5:=rw_sm k.2.2.2.2.1
 have h6:=num_size u.bits
 have h7:=text_sm k.2.2.2.2.2
 have h8:=num_size u.slot
 unfold upI
 omega
theorem deep_texts(l:List Bytes):deepL (l.map It.text)≤1:=by
 induction l with
 | nil=>simp[deepL]
 | cons x r ih=>rw[List.map_cons,deepL,deepI];omega
theorem deep_lt(l:Lt):deepI (ltI l)≤3:=by
 have:=deep_texts l.br.l
 simp only[ltI,hdI,exI,textsI,numI,deepI,deepL]
 omega
theorem deep_cm(c:Cm):deepI (cmI c)≤3:=by
 have:=deep_texts c.ks.l
 simp only[cmI,textsI,deepI,deepL]
 omega
theorem deep_up(u:Up):deepI (upI u)≤4:=by
 have h1:=deep_lt u.seen
 have h2:=deep_cm u.next
 have h3:=deep_texts u.nb.l
 have h4:=deep_lt u.fin
 have h5:=deep_texts u.fb.l
 simp only[upI,textsI,numI,deepI,deepL]
 omega
theorem deep_bt(b:Bt):deepI (btI b)≤4:=by
 have h1:=deep_lt b.lt
 have h2:=deep_cm b.now
 have h3:=deep_texts b.br.l
 simp only[btI,textsI,deepI,deepL]
 omega
end
section
open BigFrame Go.RowKit Go.Phx Go.Shelf
attribute [local go_sem] Oper.semAt_some
theorem cut_item(x:It) (r:Bytes) (hp:(putI x).length+r.length≤1000000000) (w:World):Calls Tryz.prog 184 #[.string (bs (putI x ++ r))] w (Ret w (.tuple #[.string (bs (insI x)),.bool (isL x),.string (bs r),.bool true])):=by
 rcases put_is x with ⟨c,h1,h2,rfl⟩|⟨h1,h2⟩
 ·rw[h1]
  exact cut_small c h2 r (by omega) w
 ·have hle:=ins_le x
  rcases frame_is (f:=fromI x) (s:=insI x) (by omega) with ⟨h56,e⟩|⟨h56,_,_,e⟩
  ·rw[h1,e]
   exact cut_short (isL x) (insI x) r _ rfl h56 h2 (by omega) w
  ·rw[h1,e]
   have:=cut_long (isL x) (insI x) r _ rfl h56 (by omega) w
   rw[List.cons_append,List.append_assoc]
   exact this
def AllP(w:World) (l:List It) (e:Ending) (w':World):Prop:=∃ A c,e=.returned (.tuple #[.slice A l.length c,.bool true])∧l.length≤c∧c≤maxLen∧RepLS (fun b=>w.heap.size≤b) w' l A∧Below w.heap.size w w'
def txtLen(q:Nat) (w:World):Nat:=match w.cell? ⟨q,0,none⟩ with
 | some (.string s)=>s.size
 | _=>0
theorem txtLen_blk{q:Nat}{w:World}{t:TypeId}{s:ByteArray} (h:Blk w q t #[.string s]):txtLen q w=s.size:=by
 have:=h.cell 0
 unfold txtLen
 rw[this]
 rfl
def KpQ(q:Nat) (A B:World):Prop:=A.heap.size≤B.heap.size∧(q<A.heap.size→B.heap[q]?=A.heap[q]?)
theorem putL_drop(l:List It) (k:Nat) (hk:k<l.length):putL (l.drop k)=putI l[k] ++ putL (l.drop (k+1)):=by rw[List.drop_eq_getElem_cons hk,putL_cons]
theorem putL_split(l:List It) (k:Nat):(putL (l.drop k)).length≤(putL l).length:=by
 conv=>rhs;rw[←List.take_append_drop k l,putL_append,List.length_append]
 omega
abbrev Hst:Type:=World×Nat
def AbQ(q:Nat) (_:Hst) (A:World) (y:Hst) (B:World):Prop:=A.grownBy B (some q)∧y.1=A
def AtQ(l:List It) (pre:List (It×Iv)) (y:It×Iv) (x:Hst) (A:World):Prop:=pre.length=x.2∧l[pre.length]?=some y.1∧RepS (fun b=>x.1.heap.size≤b) A y.1 y.2
theorem items1_in(n:Nat) (hn:1≤n) (lp q:Nat) (l:List It) (hl:(putL l).length≤1000000000)
  (hall:∀ x∈l,∀ l',x=.list l'→∀ w',Calls Tryz.prog 154 #[.string (bs (putL l'))] w' (AllP w' l'))
  (J Jx:List (It×Iv)→Hst→World→Prop) (hJ:∀ s x A y B,J s x A→AbQ q x A y B→J s y B)
  (hY:∀ pre y x A,J pre x A→AtQ l pre y x A→YieldAt Fence.wide (n - 1) Tryz.prog lp #[y.2.val,.bool true] A fun e B =>
   (e=.returned (.bool true)∧J (pre ++ [y]) x B∧KpQ q A B)∨(e=.returned (.bool false)∧Jx (pre ++ [y]) x B))
  (W:World) (K0:Blk W q 9 #[.string (bs (putL l))]) (x0:Hst) (h0:J [] x0 W) :
  CallsIn Fence.wide n Tryz.prog 183 #[.func (.yield lp) #[] #[],.pointer (some ⟨q,0,none⟩)] W fun e B=>(∃ v,e=.returned v) ∧
   ((∃ xs x,xs.map Prod.fst=l∧J xs x B)∨(∃ pre x,True∧Jx pre x B)):=by
 have hwf:∀ f,Fence.wide.fn f:=fun _=>trivial
 replace hY:=Z hY
 replace hJ:=Z hJ
 replace hall:=Z hall
 refine callsIn_of_wp Tryz.func183 rfl trivial ?_ rfl
 simp only[Tryz.ntmps183, List.size_toArray,List.length_cons,List.length_nil,Nat.reduceAdd,Nat.reduceSub,Array.replicate_succ,Array.replicate_zero,List.push_toArray,List.append_toArray,List.nil_append,List.cons_append]
 gi_wp2_with fail
 gi_loopw [8] (fun _ wr=>∃ k pre x,k≤l.length∧pre.map Prod.fst=l.take k∧Blk wr q 9 #[.string (bs (putL (l.drop k)))]∧J pre x wr) (fun _ wr=>txtLen q wr)
 case atStart=>exact⟨0,[],x0,by omega,rfl,K0,h0⟩
 case round =>
  clear K0 h0
  obtain⟨k,pre,hst,hk,hpre,K0,hj⟩:=hrel
  have hm0:=txtLen_blk K0
  rw[bs_size]at hm0
  by_cases hlt:k<l.length
  ·have hd:=putL_drop l k hlt
   have hsp:=putL_split l k
   rw[hd]at K0 hm0 hsp
   have hal:=hall.out l[k] (List.getElem_mem hlt)
   have hpl:pre.length=k:=by have:=congrArg List.length hpre;rw[List.length_map,List.length_take]at this;omega
   have hyk:l[pre.length]?=some l[k]:=by rw[hpl,List.getElem?_eq_getElem hlt]
   have htk:l.take (k+1)=l.take k ++ [l[k]]:=by rw[List.take_add_one,List.getElem?_eq_getElem hlt];rfl
   generalize l[k]=x at *
   obtain⟨r,hr⟩:∃ r,putL (l.drop (k+1))=r:=⟨_,rfl⟩
   rw[hr]at K0 hm0 hsp hd
   replace hr:=Z hr
   rw[List.length_append]at hsp hm0
   have hsum:(putI x).length+r.length≤1000000000:=by omega
   have ncut:=fun w=>cut_item x r hsum w
   have hpos:=put_pos x
   have hne:(putI x ++ r).isEmpty=false:=by
    cases h:putI x ++ r with
    | nil=>exact absurd (List.append_eq_nil_iff.1 h).1 (put_ne x)
    | cons _ _=>rfl
   generalize putI x ++ r=s at *
   replace hpre:=Z hpre
   replace htk:=Z htk
   replace hj:=Z hj
   replace K0:=Z K0
   replace ncut:=Z ncut
   replace hm0:=Z hm0
   replace hd:=Z hd
   replace hyk:=Z hyk
   replace hal:=Z hal
   replace hpl:=Z hpl
   clear hall hsp
   (obtain⟨k0,f0,l0,m0⟩:=rl_ K0)
   gi_wp2_with(gi_at_call 184; refine(callsIn_wide.2 (ncut.out _)).mono ?_)
   rintro e w1 ⟨rfl,hB1⟩
   have K1:=Z (K0.out.below hB1)
   have G1:wr.grownBy w1 (some q):=grown_of hB1
   have hq1:q<w1.heap.size:=K1.out.lt
   have hz1:=hB1.size
   clear k0 f0 l0 m0 K0 hB1 ncut
   have K0:=K1
   clear K1
   have hY2:∀ (y:Iv) (A:World),RepS (fun b=>wr.heap.size≤b) A x y→wr.grownBy A (some q)→YieldAt Fence.wide (n - 1) Tryz.prog lp #[y.val,.bool true] A fun e B =>
     (e=.returned (.bool true)∧J (pre ++ [(x,y)]) (wr,k) B∧KpQ q A B)∨(e=.returned (.bool false)∧Jx (pre ++ [(x,y)]) (wr,k) B):=fun y A hR hG=>hY.out pre (x,y) (wr,k) A (hJ.out _ _ _ (wr,k) _ hj.out ⟨hG,rfl⟩) ⟨hpl.out,hyk.out,hR⟩
   replace hY2:=Z hY2
   cases x with
   | text b =>
    have hR:=fun A=>hY2.out ⟨false,b,none,0,0⟩ A (.text b)
    simp only[insI,isL]
    replace hR:=Z hR
    clear hY hY2 hyk hal
    obtain⟨A,hA⟩:∃ A,(w1.setCell ⟨q,0,none⟩ (.string (bs r))).alloc (Obj.cells #[.bool false,.string (bs b),.slice none 0 0] 79)=A:=⟨_,rfl⟩
    have GA:wr.grownBy A (some q):=by rw[←hA];exact grown_on (grown_set G1) ((Below.refl _ _).alloc (Nat.le_refl _) _)
    have KA:Blk A q 9 #[.string (bs r)]:=by rw[←hA];exact(Blk.to (Blk.set_ K0.out 0 _) rfl:Blk _ q _ #[.string (bs r)]).alloc _
    have KP:Blk A w1.heap.size 79 #[.bool false,.string (bs b),.slice none 0 0]:=by rw[←hA];exact Blk.newAt (size_set _ _ _)
    obtain⟨fn,tmps,assign,body,hy,hYR⟩:=hR.out A GA
    replace hA:=Z hA
    have K1:=Z KA
    have K2:=Z KP
    clear hR KA KP
    (obtain⟨k0,f0,l0,m0⟩:=rl_ K0;obtain⟨k1,f1,l1,m1⟩:=rl_ K1;obtain⟨k2,f2,l2,m2⟩:=rl_ K2)
    gi_wp2_with(rw[hA.out])
    refine hYR.mono ?_
    rintro e W3 (⟨rfl,hJ3,hk3⟩|⟨rfl,hJx3⟩)
    ·have K3:Blk W3 q 9 #[.string (bs r)]:=(hk3.2 K1.out.lt).trans K1.out
     have hm3:=txtLen_blk K3
     rw[bs_size]at hm3
     replace K3:=Z K3
     replace hJ3:=Z hJ3
     replace hm3:=Z hm3
     clear k0 f0 l0 m0 K0 k1 f1 l1 m1 K1 k2 f2 l2 m2 K2 hk3 hy hYR
     gi_wp2_with fail
     go_roundw
     case rel=>exact⟨k+1,_,_,by omega,by rw[List.map_append,hpre.out,htk.out];rfl,by rw[hr.out];exact K3.out,hJ3.out⟩
     case measure=>rw[hm3.out,hm0.out];omega
    ·replace hJx3:=Z hJx3
     clear k0 f0 l0 m0 K0 k1 f1 l1 m1 K1 k2 f2 l2 m2 K2 hy hYR
     gi_wp2_with fail
     refine bodyPost_ret (results_none rfl _ _ _) rfl ?_
     exact⟨⟨_,rfl⟩,.inr ⟨_,_,trivial,hJx3.out⟩⟩
   | list l' =>
    have hR:=fun A v=>hY2.out v A
    simp only[insI,isL]
    have nall:=hal.out l' rfl
    replace hR:=Z hR
    replace nall:=Z nall
    clear hY hY2 hyk hal
    (obtain⟨k0,f0,l0,m0⟩:=rl_ K0)
    gi_wp2_with(gi_at_call 154; refine(callsIn_wide.2 (nall.out _)).mono ?_)
    rintro e w3 ⟨A',c',rfl,hlc,hcm,hrl,hB3⟩
    have K3:=(K0.out.alloc (Obj.cells #[.bool true,.string ⟨#[]⟩,.slice none 0 0] 79)).below hB3
    have P3:=(Blk.new0 w1 79 #[.bool true,.string ⟨#[]⟩,.slice none 0 0]).below hB3
    have G3:wr.grownBy w3 (some q):=grown_on (grown_on G1 ((Below.refl _ _).alloc (Nat.le_refl _) (Obj.cells #[.bool true,.string ⟨#[]⟩,.slice none 0 0] 79))) hB3
    have hz3:=hB3.size
    simp only[size_alloc]at hrl hz3
    obtain⟨p,hp⟩:∃ p,w1.heap.size=p:=⟨_,rfl⟩
    rw[hp]at P3 hrl hz3 hq1 hz1 ⊢
    obtain⟨A,hA⟩:∃ A,(w3.setCell ⟨p,2,none⟩ (.slice A' l'.length c')).setCell ⟨q,0,none⟩ (.string (bs r))=A:=⟨_,rfl⟩
    have GA:wr.grownBy A (some q):=by rw[←hA];exact grown_set (grown_far G3 hz1)
    have KA:Blk A q 9 #[.string (bs r)]:=by rw[←hA];exact Blk.to (Blk.set_ (K3.over2 (by omega)) 0 _) rfl
    have KP:Blk A p 79 #[.bool true,.string ⟨#[]⟩,.slice A' l'.length c']:=by rw[←hA];exact Blk.to ((Blk.set_ P3 2 _).over2 (by omega)) rfl
    have hRA:RepS (fun b=>wr.heap.size≤b) A (.list l') ⟨true,[],A',l'.length,c'⟩:=RepLS.of (hrl.keep (by rw[←hA,size_set,size_set];exact Nat.le_refl _) fun b hb _=>⟨by omega,by rw[←hA,Below.heap_setCell _ _ _ _ (by simp;omega),Below.heap_setCell _ _ _ _ (by simp;omega)]⟩) hlc hcm
    obtain⟨fn,tmps,assign,body,hy,hYR⟩:=hR.out A _ hRA GA
    replace hy:(Instr.yield lp #[.agg #[.bool true,.string ⟨#[]⟩,.slice A' l'.length c'],.bool true]).run Tryz.prog A=_:=hy
    replace hA:=Z hA
    have K1:=Z KA
    have K2:=Z KP
    have K0x:=K0
    clear hR KA KP hRA k0 f0 l0 m0 K0x K0 nall hB3 hrl hp
    have K0:=Z K3
    have K4:=Z P3
    clear K3 P3
    (obtain⟨k0,f0,l0,m0⟩:=rl_ K0;obtain⟨k1,f1,l1,m1⟩:=rl_ K1;obtain⟨k2,f2,l2,m2⟩:=rl_ K2;obtain⟨k4,f4,l4,m4⟩:=rl_ K4)
    gi_wp2_with(rw[hA.out])
    clear k4 f4 l4 m4 K4
    refine hYR.mono ?_
    rintro e W3 (⟨rfl,hJ3,hk3⟩|⟨rfl,hJx3⟩)
    ·have K3:Blk W3 q 9 #[.string (bs r)]:=(hk3.2 K1.out.lt).trans K1.out
     have hm3:=txtLen_blk K3
     rw[bs_size]at hm3
     replace K3:=Z K3
     replace hJ3:=Z hJ3
     replace hm3:=Z hm3
     clear k0 f0 l0 m0 K0 k1 f1 l1 m1 K1 k2 f2 l2 m2 K2 hk3 hy hYR
     gi_wp2_with fail
     go_roundw
     case rel=>exact⟨k+1,_,_,by omega,by rw[List.map_append,hpre.out,htk.out];rfl,by rw[hr.out];exact K3.out,hJ3.out⟩
     case measure=>rw[hm3.out,hm0.out];omega
    ·replace hJx3:=Z hJx3
     clear k0 f0 l0 m0 K0 k1 f1 l1 m1 K1 k2 f2 l2 m2 K2 hy hYR
     gi_wp2_with fail
     refine bodyPost_ret (results_none rfl _ _ _) rfl ?_
     exact⟨⟨_,rfl⟩,.inr ⟨_,_,trivial,hJx3.out⟩⟩
  ·obtain rfl:k=l.length:=by omega
   rw[List.take_of_length_le (Nat.le_refl _)]at hpre
   rw[List.drop_of_length_le (Nat.le_refl _)]at K0
   have hnil:(bs (putL ([]:List It)))=⟨#[]⟩:=rfl
   rw[hnil]at K0
   replace hj:=Z hj
   replace K0:=Z K0
   replace hpre:=Z hpre
   clear hm0 hnil
   (obtain⟨k0,f0,l0,m0⟩:=rl_ K0)
   gi_wp2_with fail
   go_end0
   exact⟨⟨_,rfl⟩,.inl ⟨pre,hst,hpre.out,hj.out⟩⟩
end
section
open BigFrame Go.RowKit Go.Phx Go.Shelf
attribute [local go_sem] Oper.semAt_some
theorem row_cells3(w:World) (g:Nat) (t:TypeId) (hg:g<w.heap.size):∀ (vs pre olds post:List Value),olds.length=vs.length→(setRow w g t (pre ++ olds ++ post).toArray).setCells g pre.length vs=setRow w g t (pre ++ vs ++ post).toArray
 | [],pre,olds,post,h=>by
  obtain rfl:=List.eq_nil_of_length_eq_zero h
  rfl
 | v :: vs,pre,[],post,h=>by simp at h
 | v :: vs,pre,u :: olds,post,h=>by
  have e:pre ++ u :: olds ++ post=pre ++ (u :: (olds ++ post)):=by simp
  rw[World.setCells,row_set w g t _ _ _ hg,e,jB,List.set_append_right _ _ (Nat.le_refl _),Nat.sub_self,jD]
  have:=row_cells3 w g t hg vs (pre ++ [v]) olds post (by simpa using h)
  simp only[List.length_append,List.length_cons,List.length_nil,List.append_assoc,List.cons_append,List.nil_append]at this ⊢
  exact this
theorem own_put{base:Nat}{e:TypeId}{k n cap g:Nat}{W:World}{xs:List Value} (own:W.ownsRow base e k (.slice (some ⟨g,0,none⟩) n cap) n xs) (pre olds post vs:List Value) (hx:xs=pre ++ olds ++ post) (hl:olds.length=vs.length) :
  (W.setCells g pre.length vs).ownsRow base e k (.slice (some ⟨g,0,none⟩) n cap) n (pre ++ vs ++ post)∧W.grownBy (W.setCells g pre.length vs) (some g):=by
 obtain⟨h1,⟨h2,_⟩|⟨g',cap',cur,hv,hb,hg,hn,hm,hs,ht⟩⟩:=own
 ·simp at h2
 ·injection hv with h3 h4 h5
  injection h3 with h3
  injection h3 with h3
  subst h3 h5
  have hgl:g<W.heap.size:=(Array.getElem?_eq_some_iff.1 hg).1
  have hW:setRow W g e cur=W:=row_of W g e cur hg
  have hcur:cur=(pre ++ olds ++ (post ++ cur.toList.drop (n*k))).toArray:=by
   apply Array.toList_inj.1
   show cur.toList=pre ++ olds ++ (post ++ cur.toList.drop (n*k))
   rw[←List.append_assoc,←hx,←ht,List.take_append_drop]
  have h6:=row_cells3 W g e hgl vs pre olds (post ++ cur.toList.drop (n*k)) hl
  rw[←hcur,hW]at h6
  rw[h6]
  have hlen:(pre ++ vs ++ post).length=n*k:=by rw[←h1,hx];simp;omega
  refine⟨⟨hlen,.inr ⟨g,cap,_,rfl,hb,Blk.row hgl,hn,hm,?_,?_⟩⟩,grown_row W g e _⟩
  ·have h7:=congrArg Array.size hcur
   simp only[List.size_toArray,List.length_append]at h7 ⊢
   omega
  ·show(pre ++ vs ++ (post ++ cur.toList.drop (n*k))).take (n*k)=_
   rw[←List.append_assoc]
   exact List.take_left' hlen
theorem wpListIn_store_mid{F:Fence}{nF:Nat}{P:Program}{ops:Array Oper}{rest:List Oper}{o:Oper}{a:Act}{w:World}{Q:Exit→Act→World→Prop} (hgd:o.guard=none) (ty:TypeId) (x y:Operand) (ho:o.op=.store ty x y)
  (b i:Nat) (cells:Array Value) (hx:a.eval x=.pointer (some ⟨b,i,none⟩)) (hy:a.eval y=.agg cells) (ht:w.there b i cells.size) (hi:(P.info? ty).map (·.size)=some cells.size) (h1:cells.all (·.oneCell')=true)
  (h:wpListIn F nF P ops Q rest (a.put o.dst undef) (w.setCells b i cells.toList)):wpListIn F nF P ops Q (o :: rest) a w:=by
 refine wpListIn_plain hgd fun K hK=>?_
 unfold Oper.wpIn
 refine⟨by simp[Oper.about,ho],?_⟩
 have hr:(execOp a.eval o).run P w=.ok .skip (w.setCells b i cells.toList):=by
  unfold execOp
  simp only[ho,hx,hy,Instr.storeAt,Instr.sureAddr,Sem.run_bind,Sem.run_pure,Result.andThen_ok,run_storeVar_mid w b i ty cells ht hi h1]
 rw[Oper.semAt_plain F _ _ (by rw[ho];intro c hc';cases hc'),hr]
 exact hK _ _ h
section
variable {P:Program}{ops:Array Oper}{md:Region.Mode}{S:World→Prop}{nd:Nat→Bool}{F:Fence}{m:Nat}{Q:Exit→Act→World→Prop}
theorem S_twoL(i j:Nat) {oi oj:Oper}{fuel:Nat}{listed:Array Bool}{a:Act}{w:World} (hr:Region.ready md ops listed=[i,j]) (hi:ops[i]?=some oi) (hj:ops[j]?=some oj)
  (h1:wpListIn F m P ops (oneQ Q fun a w=>(nd i=true→S w)∧anyS F m P md ops Q S nd fuel (listed.setIfInBounds i true) a w) [oi] a w)
  (h2:wpListIn F m P ops (oneQ Q fun a w=>(nd j=true→S w)∧anyS F m P md ops Q S nd fuel (listed.setIfInBounds j true) a w) [oj] a w) :
  anyS F m P md ops Q S nd (fuel+1) listed a w:=by
 have go:∀ (k:Nat) (o:Oper),ops[k]?=some o→wpListIn F m P ops (oneQ Q fun a w=>(nd k=true→S w)∧anyS F m P md ops Q S nd fuel (listed.setIfInBounds k true) a w) [o] a w →
   wpOpIn F m P ops Q k (fun a' w'=>(nd k=true→S w')∧anyS F m P md ops Q S nd fuel (listed.setIfInBounds k true) a' w') a w:=fun k o hk h=>wpOpIn_step hk fun K' hK=>by
  have h':if Region.wanted o (yielded ops a.tmps)=true then Oper.wpIn F m P o a w (fun a w=>(nd k=true→S w)∧anyS F m P md ops Q S nd fuel (listed.setIfInBounds k true) a w) (oneQ Q fun a w=>(nd k=true→S w)∧anyS F m P md ops Q S nd fuel (listed.setIfInBounds k true) a w)
   else(∀ f,o.about P w a.eval=some f→F.fn f)∧((nd k=true→S (w))∧anyS F m P md ops Q S nd fuel (listed.setIfInBounds k true) (a.put o.dst undef) w):=h
  split
  ·rename_i hw
   rw[if_pos hw]at h'
   exact Oper.wpIn_mono hK (oper_oneQ h')
  ·rename_i hw
   rw[if_neg hw]at h'
   exact⟨h'.1,hK _ _ h'.2⟩
 refine⟨fun h0=>(by rw[hr]at h0;cases h0),fun k hk=>?_⟩
 rw[hr]at hk
 simp only[List.mem_cons,List.not_mem_nil,or_false]at hk
 rcases hk with rfl|rfl
 ·exact go _ _ hi h1
 ·exact go _ _ hj h2
end
theorem setCell_comm(w:World) (a b:Addr) (u v:Value) (h:a.block≠b.block):(w.setCell a u).setCell b v=(w.setCell b v).setCell a u:=by
 unfold World.setCell
 congr 1
 apply Array.ext_getElem?
 intro k
 simp only[Array.getElem?_modify]
 by_cases h1:a.block=k
 ·by_cases h2:b.block=k
  ·exact absurd (h1.trans h2.symm) h
  ·simp[h1,h2]
 ·simp[h1]
theorem setCells_comm(g:Nat) (a:Addr) (u:Value) (h:a.block≠g):∀ (vs:List Value) (o:Nat) (w:World),(w.setCell a u).setCells g o vs=(w.setCells g o vs).setCell a u
 | [],o,w=>rfl
 | v :: vs,o,w=>by
  rw[World.setCells,World.setCells,setCell_comm w a ⟨g,o,none⟩ u v h,setCells_comm g a u h vs]
end
section
open Go.RowKit Go.Shelf
theorem wpIn_rangeFunc_stc{α σ:Type}{F:Fence}{n:Nat}{P:Program}{g:Operand}{ps:Array Tmp}{assign body:Code}{Q:Exit→Act→World→Prop}{a:Act}{w:World}
  (hro:F.round=none) (h1:1≤n) {gf:Nat}{lb:Array Value} (hg:a.eval g=.func (.func gf) #[] lb) (hFg:F.fn gf) (eg:∀ args w,(callFunc gf args).run P w=.ok (.enter gf args) w)
  {encs:α→Array Value}{At:List α→α→σ→World→Prop}{Kp:σ→World→World→Prop}{Ab:σ→World→σ→World→Prop}{x0:σ}{S Sp:List α→Prop}
  (hseq:SeqSt F (n - 1) P gf lb encs At Kp Ab x0 S Sp w) (hps:∀ y,(encs y).size=ps.size)
  (hKt:∀ x A B C,Kp x A B→Kp x B C→Kp x A C) (hKb:∀ x (W:World) (l:Nat) (o o':Obj),w.heap.size≤l→W.heap[l]?=some o→o.isCells=false→o.isWalk=false→Kp x W (W.putObj l o'))
  (hAb:∀ x (A:World) y (B:World) (k:Nat) (o:Obj),Ab x A y B→w.heap.size≤k→A.heap[k]?=some o→o.isCells=false→o.isWalk=false→B.heap[k]?=some o)
  (hAt:∀ pre y x (W:World) (l:Nat) (o o':Obj),At pre y x W→w.heap.size≤l→W.heap[l]?=some o→o.isCells=false→At pre y x (W.putObj l o'))
  (I:List α→σ→World→Prop) (Ix:Code→List α→σ→World→Prop) (hI:∀ x,OwnFrom w.heap.size fun s W=>I s x W) (hIx:∀ c x,OwnFrom w.heap.size fun s W=>Ix c s x W)
  (hIA:∀ s x A y B,I s x A→Ab x A y B→I s y B) (hIxA:∀ c s x A y B,Ix c s x A→Ab x A y B→Ix c s y B)
  (h0:I [] x0 w) (a₁:α→Nat→Act) (box:α→Obj)
  (hKa:∀ x (W:World) (o:Obj),Kp x W (W.alloc o)) (hAta:∀ pre y x (W:World) (o:Obj),At pre y x W→At pre y x (W.alloc o))
  (hassign:∀ (l:Nat) (y:α) (W:World) (K:Act→World→Prop),K (a₁ y W.heap.size) (W.alloc (box y)) →
   assign.wpIn (F.inRound l) (n - 1 - 1) P (Exit.then K (fun _ _ _=>False)) { tmps:=(ps.zip (encs y)).foldl (fun t (p,v)=>t.setIfInBounds p v) a.tmps,defers:=[] } W)
  (hbody:∀ (l:Nat) (pre:List α) (y:α) (x:σ) (W:World) (c:Nat),I pre x W→At pre y x W→w.heap.size≤c→W.heap[c]?=some (box y)→(∃ A0:World,I pre x A0∧A0.heap.size=c∧∀ b,b<c→b≠w.heap.size+1→W.heap[b]?=A0.heap[b]?) →
   body.wpIn (F.inRound l) (n - 1 - 1) P (ownPostK (Kp x) (fun s W=>I s x W) (fun c s W=>Ix c s x W) (pre ++ [y]) W) (a₁ y c) W)
  (hdone:∀ (D:Nat) (xs:List α) (x:σ) (W:World),w.heap.size≤D→S xs→I xs x W→W.heap[D]?=some (.deferred (some []))→Q .normal { a with defers:={ target:=.collected D,args := #[] } :: a.defers } W)
  (hstop:∀ (D:Nat) (c:Code) (pre:List α) (x:σ) (W:World),w.heap.size≤D→Sp pre→Ix c pre x W→W.heap[D]?=some (.deferred (some []))→c.wpIn F n P Q { a with defers:={ target:=.collected D,args := #[] } :: a.defers } W) :
  (Code.rangeFunc g ps assign body).wpIn F n P Q a w:=by
 refine wpIn_rangeFunc fun fn hfn=>?_
 rw[hro]
 obtain⟨rec,hrec⟩:∃ rec:LoopState→Option Code→Loop,rec=fun st pe=>{ state:=st,pending:=pe,fn,tmps:=a.tmps,params:=ps,assign,body,defers:=w.heap.size }:=⟨_,rfl⟩
 obtain⟨V,hV⟩:∃ V,(w.alloc (.deferred (some []))).alloc (.loop (rec .ready none))=V:=⟨_,rfl⟩
 have hLV:V.heap[w.heap.size+1]?=some (.loop (rec .ready none)):=by
  rw[←hV]
  have:=World.alloc_heap_new (w.alloc (.deferred (some []))) (.loop (rec .ready none))
  rwa [World.size_alloc]at this
 have hDV:V.heap[w.heap.size]?=some (.deferred (some [])):=by
  rw[←hV]
  exact(Below.heap_alloc _ _ _ (by simp)).trans (World.alloc_heap_new w _)
 have hIV:I [] x0 V:=by rw[←hV];exact(hI x0).alloc _ ((hI x0).alloc _ h0)
 have hBV:Below w.heap.size w V:=by rw[←hV];exact((Below.refl _ w).alloc (Nat.le_refl _) _).alloc (by simp) _
 let J:List α→σ→World→Prop:=fun s x W=>I s x W∧W.heap[w.heap.size+1]?=some (.loop (rec .ready none))∧W.heap[w.heap.size]?=some (.deferred (some []))
 let Jx:List α→σ→World→Prop:=fun s x W=>∃ c,Ix c s x W∧W.heap[w.heap.size+1]?=some (.loop (rec .done (some c)))∧W.heap[w.heap.size]?=some (.deferred (some []))
 have hJ:∀ s x A y B,J s x A→Ab x A y B→J s y B:=fun s x A y B h hab=>⟨hIA _ _ _ _ _ h.1 hab,hAb _ _ _ _ _ _ hab (by omega) h.2.1 rfl rfl,hAb _ _ _ _ _ _ hab (Nat.le_refl _) h.2.2 rfl rfl⟩
 have hJx:∀ s x A y B,Jx s x A→Ab x A y B→Jx s y B:=fun s x A y B h hab=>by
  obtain⟨c,h1,h2,h3⟩:=h
  exact⟨c,hIxA _ _ _ _ _ _ h1 hab,hAb _ _ _ _ _ _ hab (by omega) h2 rfl rfl,hAb _ _ _ _ _ _ hab (Nat.le_refl _) h3 rfl rfl⟩
 have round:∀ pre y x A,J pre x A→At pre y x A→YieldAt F (n - 1 - 1) P (w.heap.size+1) (encs y) A fun e B =>
   (e=.returned (.bool true)∧J (pre ++ [y]) x B∧Kp x A B)∨(e=.returned (.bool false)∧Jx (pre ++ [y]) x B):=by
  rintro pre y x W ⟨hi,hl,hk⟩ hat
  have hlt:w.heap.size+1<W.heap.size:=(Array.getElem?_eq_some_iff.1 hl).1
  have hy:=run_yield (P:=P) (args:=encs y) hl (by rw[hrec];exact hps y)
  rw[hrec]at hy
  have hal:(W.alloc (box y)).heap[w.heap.size+1]?=some (.loop (rec .ready none)):=(Below.heap_alloc W _ _ hlt).trans hl
  have hak:(W.alloc (box y)).heap[w.heap.size]?=some (.deferred (some [])):=(Below.heap_alloc W _ _ (by omega)).trans hk
  have hia:I pre x (W.alloc (box y)):=(hI x).alloc _ hi
  have hata:=hAta _ _ _ _ (box y) hat
  have hba:(W.alloc (box y)).heap[W.heap.size]?=some (box y):=World.alloc_heap_new W _
  have hwl:w.heap.size≤W.heap.size:=by omega
  have hne:W.heap.size≠w.heap.size+1:=by omega
  have hka:=hKa x W (box y)
  refine⟨fn,_,assign,body,hy,roundIn_of_wpIn hfn (hassign _ y W _ ⟨_,run_beginRound hal (by rw[hrec]),?_⟩)⟩
  obtain⟨V2,hV2⟩:∃ V2,W.alloc (box y)=V2:=⟨_,rfl⟩
  rw[hV2]at hal hak hia hata hba hka ⊢
  have hl2:(V2.putObj (w.heap.size+1) (.loop { rec .ready none with state:=.busy })).heap[w.heap.size+1]?=some (.loop { rec .ready none with state:=.busy }):=World.putObj_heap_same (Array.getElem?_eq_some_iff.1 hal).1
  have hk2:(V2.putObj (w.heap.size+1) (.loop { rec .ready none with state:=.busy })).heap[w.heap.size]?=some (.deferred (some [])):=(World.putObj_heap_other (by omega)).trans hak
  have hw2:Kp x W (V2.putObj (w.heap.size+1) (.loop { rec .ready none with state:=.busy })):=hKt _ _ _ _ hka (hKb _ _ _ _ _ (by omega) hal rfl rfl)
  have hA0:∀ b,b<W.heap.size→b≠w.heap.size+1→(V2.putObj (w.heap.size+1) (.loop { rec .ready none with state:=.busy })).heap[b]?=W.heap[b]?:=fun b hb hnb=>by
   rw[World.putObj_heap_other (by omega),←hV2]
   exact Below.heap_alloc W _ b hb
  refine wpIn_mono (hbody _ pre y x _ W.heap.size ((hI x).putObj _ hia (by omega) hal rfl) (hAt _ _ _ _ _ _ _ hata (by omega) hal rfl) hwl ((World.putObj_heap_other hne).trans hba) ⟨W,hi,rfl,hA0⟩) ?_
  have fin:∀ (jump:Option Code) (W3:World),KeepsOthers (V2.putObj (w.heap.size+1) (.loop { rec .ready none with state:=.busy })) W3 →
    (Instr.endRound (w.heap.size+1) jump).run P W3=.ok (.bool jump.isNone) (W3.putObj (w.heap.size+1) (.loop (rec (if jump.isNone then .ready else .done) jump))) ∧
    W3.heap[w.heap.size+1]?=some (.loop { rec .ready none with state:=.busy }) ∧
    (W3.putObj (w.heap.size+1) (.loop (rec (if jump.isNone then .ready else .done) jump))).heap[w.heap.size+1]?=some (.loop (rec (if jump.isNone then .ready else .done) jump)) ∧
    (W3.putObj (w.heap.size+1) (.loop (rec (if jump.isNone then .ready else .done) jump))).heap[w.heap.size]?=some (.deferred (some [])):=fun jump W3 hk3=>by
   have hl3:=hk3.same _ _ hl2 rfl
   have h4:=run_endRound (P:=P) jump hl3
   rw[hrec]at h4 ⊢
   exact⟨h4,by rw[hrec]at hl3;exact hl3,World.putObj_heap_same (Array.getElem?_eq_some_iff.1 hl3).1,(World.putObj_heap_other (by omega)).trans (hk3.same _ _ hk2 rfl)⟩
  rintro e a3 W3 hp
  cases e with
  | normal =>
   obtain⟨hk3,hkp3,hi3⟩:=hp
   obtain⟨hr,hl3,hl4,hk4⟩:=fin none W3 hk3
   exact⟨_,_,hr,.inl ⟨rfl,⟨(hI x).putObj _ hi3 (by omega) hl3 rfl,hl4,hk4⟩,hKt _ _ _ _ (hKt _ _ _ _ hw2 hkp3) (hKb _ _ _ _ _ (by omega) hl3 rfl rfl)⟩⟩
  | ret =>
   obtain⟨hr,hl3,hl4,hk4⟩:=fin (some .ret) W3 hp.1
   exact⟨_,_,hr,.inr ⟨rfl,.ret,(hIx _ x).putObj _ hp.2 (by omega) hl3 rfl,hl4,hk4⟩⟩
  | exit id =>
   obtain⟨hr,hl3,hl4,hk4⟩:=fin (some (.exit id)) W3 hp.1
   exact⟨_,_,hr,.inr ⟨rfl,.exit id,(hIx _ x).putObj _ hp.2 (by omega) hl3 rfl,hl4,hk4⟩⟩
  | goto t =>
   obtain⟨hr,hl3,hl4,hk4⟩:=fin (some (.goto t)) W3 hp.1
   exact⟨_,_,hr,.inr ⟨rfl,.goto t,(hIx _ x).putObj _ hp.2 (by omega) hl3 rfl,hl4,hk4⟩⟩
  | panic ch=>exact hp.elim
  | outgrown=>exact hp.elim
 refine⟨w.heap.size+1,[{ target:=.collected w.heap.size,args := #[] }],V,{ target:=.fn (.func gf) lb,args := #[.func (.yield (w.heap.size+1)) #[] #[]] },V,gf,
  #[.func (.yield (w.heap.size+1)) #[] #[]] ++ lb,V,?_,?_,?_,?_,fun _=>h1,?_⟩
 ·rw[←hV,hrec];exact run_enterLoop_outer _ _ _ _ _
 ·simp only[resolve,hg]
  simp[go_sem]
 ·intro f' hf'
  simp[Target.leads]at hf'
  subst hf'
  exact hFg
 ·simp[invoke,go_sem,eg]
 refine(hseq (w.heap.size+1) J Jx V hBV hJ hJx round ⟨hIV,hLV,hDV⟩).mono ?_
 rintro e W2 ⟨⟨v,rfl⟩,(⟨xs,x,hS,hi,hl,hk⟩|⟨pre,x,hSp,c,hi,hl,hk⟩)⟩
 ·exact⟨none,_,by have:=run_endLoop (P:=P) hl (by rw[hrec];simp);rw[hrec]at this;exact this,hdone _ xs x _ (Nat.le_refl _) hS ((hI x).putObj _ hi (by omega) hl rfl) ((World.putObj_heap_other (by omega)).trans hk)⟩
 ·exact⟨some c,_,by have:=run_endLoop (P:=P) hl (by rw[hrec];simp);rw[hrec]at this;exact this,hstop _ c pre x _ (Nat.le_refl _) hSp ((hIx c x).putObj _ hi (by omega) hl rfl) ((World.putObj_heap_other (by omega)).trans hk)⟩
end
end Go.Proofs.YtobgigcdpiikaaaGreatDoor
