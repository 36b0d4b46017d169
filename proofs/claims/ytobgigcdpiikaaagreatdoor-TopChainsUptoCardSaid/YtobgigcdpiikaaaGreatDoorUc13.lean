/- Plain laws and walks, each by its own conditions. -/
import Derived.Test.YtobgigcdpiikaaaGreatDoorUc12
set_option linter.unusedSimpArgs false
set_option linter.unusedVariables false
set_option maxRecDepth 100000
set_option maxHeartbeats 16000000
namespace Go.Proofs.YtobgigcdpiikaaaGreatDoor
section
open BigFrame Go.RowKit Go.Phx Go.Shelf
attribute [local go_sem] Oper.semAt_some fldInf
theorem pair_bad1(x y:Int) (i:Bool) (x' y':Int) (i':Bool) (hx:0≤x) (hy:0≤y) (h:inR x y i=false) (w:World) :
  Calls Tryz.prog 182 #[.agg #[.int .u64 x,.int .u64 y,.bool i],.agg #[.int .u64 x',.int .u64 y',.bool i']] w (Ret w (.tuple #[.agg #[.int .u64 0,.int .u64 0],.int .i64 100])):=by
 have n1:=in_of x y i hx hy
 rw[h]at n1
 clear h
 go_enter Tryz.func182, Tryz.ntmps182
 go_wp2_with fail
 refine wp_scope_straight ?_
 go_wp2_with fail
 refine(n1 _).mono ?_
 rintro e w1 ⟨rfl,hB⟩
 (replace HB:Below w.heap.size w w1:=Below.on hB bel;replace K0:=hb_ (g:=w.heap.size) blJ hB;replace K1:=hb_ (g:=w.heap.size+1) blJ hB;replace K2:=hb_ (g:=w.heap.size+1+1) blJ hB;(try simp only[sB,sC,sD]at K0 K1 K2);clear hB;have HZw1:=HB.size;obtain⟨k0,f0,l0,m0⟩:=rl_ K0;obtain⟨k1,f1,l1,m1⟩:=rl_ K1;obtain⟨k2,f2,l2,m2⟩:=rl_ K2)
 go_wp2_with fail
 rw[Exit.noGoto_ret]
 exact bodyPost_ret (v:=.tuple #[.agg #[.int .u64 0,.int .u64 0],.int .i64 100]) (by simp (maxDischargeDepth:=9) [results,Tryz.results182, go_sem,vp,v2, *]) rfl ⟨rfl,bel⟩
theorem pair_bad2(p:E) (x' y':Int) (i':Bool) (hp:inG p=true) (hx':0≤x') (hy':0≤y') (h:inR x' y' i'=false) (w:World) :
  Calls Tryz.prog 182 #[.agg #[.int .u64 (px p),.int .u64 (py p),.bool (pf p)],.agg #[.int .u64 x',.int .u64 y',.bool i']] w (Ret w (.tuple #[.agg #[.int .u64 0,.int .u64 0],.int .i64 100])):=by
 have n1:=in_good p (inG_on hp)
 rw[hp]at n1
 have n2:=in_of x' y' i' hx' hy'
 rw[h]at n2
 clear h hp
 go_enter Tryz.func182, Tryz.ntmps182
 go_wp2_with fail
 refine wp_scope_straight ?_
 go_wp2_with fail
 refine(n1 _).mono ?_
 rintro e w1 ⟨rfl,hB⟩
 (replace HB:Below w.heap.size w w1:=Below.on hB bel;replace K0:=hb_ (g:=w.heap.size) blJ hB;replace K1:=hb_ (g:=w.heap.size+1) blJ hB;replace K2:=hb_ (g:=w.heap.size+1+1) blJ hB;(try simp only[sB,sC,sD]at K0 K1 K2);clear hB;have HZw1:=HB.size;obtain⟨k0,f0,l0,m0⟩:=rl_ K0;obtain⟨k1,f1,l1,m1⟩:=rl_ K1;obtain⟨k2,f2,l2,m2⟩:=rl_ K2)
 go_wp2_with fail
 refine(n2 _).mono ?_
 rintro e w2 ⟨rfl,hB⟩
 (replace HB:Below w.heap.size w w2:=Below.on hB bel;replace K0:=hkJ K0.out hB;replace K1:=hkJ K1.out hB;replace K2:=hkJ K2.out hB;(try simp only[sB,sC,sD]at K0 K1 K2);clear k0 f0 l0 m0 k1 f1 l1 m1 k2 f2 l2 m2 hB;have HZw2:=HB.size;obtain⟨k0,f0,l0,m0⟩:=rl_ K0;obtain⟨k1,f1,l1,m1⟩:=rl_ K1;obtain⟨k2,f2,l2,m2⟩:=rl_ K2)
 go_wp2_with fail
 rw[Exit.noGoto_ret]
 exact bodyPost_ret (v:=.tuple #[.agg #[.int .u64 0,.int .u64 0],.int .i64 100]) (by simp (maxDischargeDepth:=9) [results,Tryz.results182, go_sem,vp,v2, *]) rfl ⟨rfl,bel⟩
theorem pair_none(q:E) (hq:inG q=true) (w:World):Calls Tryz.prog 182 #[.agg #[.int .u64 0,.int .u64 0,.bool true],.agg #[.int .u64 (px q),.int .u64 (py q),.bool (pf q)]] w (Ret w (.tuple #[.agg #[.int .u64 1,.int .u64 0],.int .i64 0])):=by
 have n1:=in_good none rfl
 rw[inG_none]at n1
 simp only[show px none=0 from rfl,show py none=0 from rfl,show pf none=true from rfl]at n1
 have n2:=in_good q (inG_on hq)
 rw[hq]at n2
 clear hq
 go_enter Tryz.func182, Tryz.ntmps182
 go_wp2_with fail
 refine wp_scope_straight ?_
 go_wp2_with fail
 refine(n1 _).mono ?_
 rintro e w1 ⟨rfl,hB⟩
 (replace HB:Below w.heap.size w w1:=Below.on hB bel;replace K0:=hb_ (g:=w.heap.size) blJ hB;replace K1:=hb_ (g:=w.heap.size+1) blJ hB;replace K2:=hb_ (g:=w.heap.size+1+1) blJ hB;(try simp only[sB,sC,sD]at K0 K1 K2);clear hB;have HZw1:=HB.size;obtain⟨k0,f0,l0,m0⟩:=rl_ K0;obtain⟨k1,f1,l1,m1⟩:=rl_ K1;obtain⟨k2,f2,l2,m2⟩:=rl_ K2)
 go_wp2_with fail
 refine(n2 _).mono ?_
 rintro e w2 ⟨rfl,hB⟩
 (replace HB:Below w.heap.size w w2:=Below.on hB bel;replace K0:=hkJ K0.out hB;replace K1:=hkJ K1.out hB;replace K2:=hkJ K2.out hB;(try simp only[sB,sC,sD]at K0 K1 K2);clear k0 f0 l0 m0 k1 f1 l1 m1 k2 f2 l2 m2 hB;have HZw2:=HB.size;obtain⟨k0,f0,l0,m0⟩:=rl_ K0;obtain⟨k1,f1,l1,m1⟩:=rl_ K1;obtain⟨k2,f2,l2,m2⟩:=rl_ K2)
 go_wp2_with fail
 refine(one_x _).mono ?_
 rintro e w3 ⟨rfl,hB⟩
 (replace HB:Below w.heap.size w w3:=Below.on hB bel;replace K0:=hkJ K0.out hB;replace K1:=hkJ K1.out hB;replace K2:=hkJ K2.out hB;(try simp only[sB,sC,sD]at K0 K1 K2);clear k0 f0 l0 m0 k1 f1 l1 m1 k2 f2 l2 m2 hB;have HZw3:=HB.size;obtain⟨k0,f0,l0,m0⟩:=rl_ K0;obtain⟨k1,f1,l1,m1⟩:=rl_ K1;obtain⟨k2,f2,l2,m2⟩:=rl_ K2)
 go_wp2_with fail
 rw[Exit.noGoto_ret]
 exact bodyPost_ret (v:=.tuple #[.agg #[.int .u64 1,.int .u64 0],.int .i64 0]) (by simp (maxDischargeDepth:=9) [results,Tryz.results182, go_sem,vp,v2, *]) rfl ⟨rfl,bel⟩
theorem pair_other(p:F×F) (hp:inG (some p)=true) (w:World):Calls Tryz.prog 182 #[.agg #[.int .u64 (vz p.1),.int .u64 (vz p.2),.bool false],.agg #[.int .u64 0,.int .u64 0,.bool true]] w (Ret w (.tuple #[.agg #[.int .u64 1,.int .u64 0],.int .i64 0])):=by
 have n2:=in_good none rfl
 rw[inG_none]at n2
 simp only[show px none=0 from rfl,show py none=0 from rfl,show pf none=true from rfl]at n2
 have n1:=in_good (some p) (inG_on hp)
 rw[hp]at n1
 simp only[show px (some p)=vz p.1 from rfl,show py (some p)=vz p.2 from rfl,show pf (some p)=false from rfl]at n1
 clear hp
 go_enter Tryz.func182, Tryz.ntmps182
 go_wp2_with fail
 refine wp_scope_straight ?_
 go_wp2_with fail
 refine(n1 _).mono ?_
 rintro e w1 ⟨rfl,hB⟩
 (replace HB:Below w.heap.size w w1:=Below.on hB bel;replace K0:=hb_ (g:=w.heap.size) blJ hB;replace K1:=hb_ (g:=w.heap.size+1) blJ hB;replace K2:=hb_ (g:=w.heap.size+1+1) blJ hB;(try simp only[sB,sC,sD]at K0 K1 K2);clear hB;have HZw1:=HB.size;obtain⟨k0,f0,l0,m0⟩:=rl_ K0;obtain⟨k1,f1,l1,m1⟩:=rl_ K1;obtain⟨k2,f2,l2,m2⟩:=rl_ K2)
 go_wp2_with fail
 refine(n2 _).mono ?_
 rintro e w2 ⟨rfl,hB⟩
 (replace HB:Below w.heap.size w w2:=Below.on hB bel;replace K0:=hkJ K0.out hB;replace K1:=hkJ K1.out hB;replace K2:=hkJ K2.out hB;(try simp only[sB,sC,sD]at K0 K1 K2);clear k0 f0 l0 m0 k1 f1 l1 m1 k2 f2 l2 m2 hB;have HZw2:=HB.size;obtain⟨k0,f0,l0,m0⟩:=rl_ K0;obtain⟨k1,f1,l1,m1⟩:=rl_ K1;obtain⟨k2,f2,l2,m2⟩:=rl_ K2)
 go_wp2_with fail
 refine(one_x _).mono ?_
 rintro e w3 ⟨rfl,hB⟩
 (replace HB:Below w.heap.size w w3:=Below.on hB bel;replace K0:=hkJ K0.out hB;replace K1:=hkJ K1.out hB;replace K2:=hkJ K2.out hB;(try simp only[sB,sC,sD]at K0 K1 K2);clear k0 f0 l0 m0 k1 f1 l1 m1 k2 f2 l2 m2 hB;have HZw3:=HB.size;obtain⟨k0,f0,l0,m0⟩:=rl_ K0;obtain⟨k1,f1,l1,m1⟩:=rl_ K1;obtain⟨k2,f2,l2,m2⟩:=rl_ K2)
 go_wp2_with fail
 rw[Exit.noGoto_ret]
 exact bodyPost_ret (v:=.tuple #[.agg #[.int .u64 1,.int .u64 0],.int .i64 0]) (by simp (maxDischargeDepth:=9) [results,Tryz.results182, go_sem,vp,v2, *]) rfl ⟨rfl,bel⟩
noncomputable def pairR (x y:Int) (i:Bool) (x' y':Int) (i':Bool):Option F2:=if inR x y i && inR x' y' i' then some (pairE (ptOf x y i) (ptOf x' y' i')) else none
theorem pair_calls(p q:E) (hp:inG p=true) (hq:inG q=true) (w:World):Calls Tryz.prog 182 #[.agg #[.int .u64 (px p),.int .u64 (py p),.bool (pf p)],.agg #[.int .u64 (px q),.int .u64 (py q),.bool (pf q)]] w (Ret w (.tuple #[v2' (pairE p q),.int .i64 0])):=by
 rcases p with _|p
 ·exact pair_none q hq w
 ·rcases q with _|q
  ·exact pair_other p hp w
  ·exact pair_good p q hp hq w
theorem pair_of(x y:Int) (i:Bool) (x' y':Int) (i':Bool) (hx:0≤x) (hy:0≤y) (hx':0≤x') (hy':0≤y') (w:World) :
  Calls Tryz.prog 182 #[.agg #[.int .u64 x,.int .u64 y,.bool i],.agg #[.int .u64 x',.int .u64 y',.bool i']] w (Ret w (outL (pairR x y i x' y' i'))):=by
 unfold pairR
 cases h:inR x y i
 ·exact pair_bad1 x y i x' y' i' hx hy h w
 ·obtain⟨p,hp,e,rfl,rfl,rfl⟩:=inR_some hx hy h
  rw[e]
  cases h':inR x' y' i'
  ·exact pair_bad2 p x' y' i' hp hx' hy' h' w
  ·obtain⟨q,hq,e',rfl,rfl,rfl⟩:=inR_some hx' hy' h'
   rw[e']
   exact pair_calls p q hp hq w
def sameF(x y:F2):Bool:=vz x.1 == vz y.1 && vz x.2 == vz y.2
def sameV:Option F2→Option F2→Bool
 | some x,some y=>sameF x y
 | _,_=>false
def sameE:Option F2→Option F2→Int
 | some _,some _=>0
 | _,_=>100
abbrev outS(x y:Option F2):Value:=.tuple #[.bool (sameV x y),.int .i64 (sameE x y)]
theorem same_n1(x1 y1:Int) (i1:Bool) (x2 y2:Int) (i2:Bool) (x3 y3:Int) (i3:Bool) (x4 y4:Int) (i4:Bool) (L2:Option F2)
  (n1:∀ w,Calls Tryz.prog 182 #[.agg #[.int .u64 x1,.int .u64 y1,.bool i1],.agg #[.int .u64 x2,.int .u64 y2,.bool i2]] w (Ret w (outL none))) (n2:∀ w,Calls Tryz.prog 182 #[.agg #[.int .u64 x3,.int .u64 y3,.bool i3],.agg #[.int .u64 x4,.int .u64 y4,.bool i4]] w (Ret w (outL L2))) (w:World) :
  Calls Tryz.prog 174 #[.agg #[.int .u64 x1,.int .u64 y1,.bool i1],.agg #[.int .u64 x2,.int .u64 y2,.bool i2],.agg #[.int .u64 x3,.int .u64 y3,.bool i3],.agg #[.int .u64 x4,.int .u64 y4,.bool i4]] w (Ret w (outS none L2)):=by
 go_enter Tryz.func174, Tryz.ntmps174
 go_wp2_with fail
 refine(n1 _).mono ?_
 rintro e w1 ⟨rfl,hB⟩
 (replace HB:Below w.heap.size w w1:=Below.on hB bel;replace K0:=hb_ (g:=w.heap.size) blI hB;replace K1:=hb_ (g:=w.heap.size+1) blI hB;replace K2:=hb_ (g:=w.heap.size+1+1) blI hB;replace K3:=hb_ (g:=w.heap.size+1+1+1) blI hB;(try simp only[sB,sC,sD]at K0 K1 K2 K3);clear hB;have HZw1:=HB.size;obtain⟨k0,f0,l0,m0⟩:=rl_ K0;obtain⟨k1,f1,l1,m1⟩:=rl_ K1;obtain⟨k2,f2,l2,m2⟩:=rl_ K2;obtain⟨k3,f3,l3,m3⟩:=rl_ K3)
 go_wp2_with fail
 refine(n2 _).mono ?_
 rintro e w2 ⟨rfl,hB⟩
 (replace HB:Below w.heap.size w w2:=Below.on hB bel;replace K0:=hkI K0.out hB;replace K1:=hkI K1.out hB;replace K2:=hkI K2.out hB;replace K3:=hkI K3.out hB;replace K4:=hb_ (g:=w1.heap.size) blI hB;(try simp only[sB,sC,sD]at K0 K1 K2 K3 K4);clear k0 f0 l0 m0 k1 f1 l1 m1 k2 f2 l2 m2 k3 f3 l3 m3 hB;have HZw2:=HB.size;obtain⟨k0,f0,l0,m0⟩:=rl_ K0;obtain⟨k1,f1,l1,m1⟩:=rl_ K1;obtain⟨k2,f2,l2,m2⟩:=rl_ K2;obtain⟨k3,f3,l3,m3⟩:=rl_ K3;obtain⟨k4,f4,l4,m4⟩:=rl_ K4)
 go_wp2_with fail
 go_ret2
 exact⟨rfl,bel⟩
theorem same_n2(x1 y1:Int) (i1:Bool) (x2 y2:Int) (i2:Bool) (x3 y3:Int) (i3:Bool) (x4 y4:Int) (i4:Bool) (L1:F2)
  (n1:∀ w,Calls Tryz.prog 182 #[.agg #[.int .u64 x1,.int .u64 y1,.bool i1],.agg #[.int .u64 x2,.int .u64 y2,.bool i2]] w (Ret w (outL (some L1)))) (n2:∀ w,Calls Tryz.prog 182 #[.agg #[.int .u64 x3,.int .u64 y3,.bool i3],.agg #[.int .u64 x4,.int .u64 y4,.bool i4]] w (Ret w (outL none))) (w:World) :
  Calls Tryz.prog 174 #[.agg #[.int .u64 x1,.int .u64 y1,.bool i1],.agg #[.int .u64 x2,.int .u64 y2,.bool i2],.agg #[.int .u64 x3,.int .u64 y3,.bool i3],.agg #[.int .u64 x4,.int .u64 y4,.bool i4]] w (Ret w (outS (some L1) none)):=by
 go_enter Tryz.func174, Tryz.ntmps174
 go_wp2_with fail
 refine(n1 _).mono ?_
 rintro e w1 ⟨rfl,hB⟩
 (replace HB:Below w.heap.size w w1:=Below.on hB bel;replace K0:=hb_ (g:=w.heap.size) blI hB;replace K1:=hb_ (g:=w.heap.size+1) blI hB;replace K2:=hb_ (g:=w.heap.size+1+1) blI hB;replace K3:=hb_ (g:=w.heap.size+1+1+1) blI hB;(try simp only[sB,sC,sD]at K0 K1 K2 K3);clear hB;have HZw1:=HB.size;obtain⟨k0,f0,l0,m0⟩:=rl_ K0;obtain⟨k1,f1,l1,m1⟩:=rl_ K1;obtain⟨k2,f2,l2,m2⟩:=rl_ K2;obtain⟨k3,f3,l3,m3⟩:=rl_ K3)
 go_wp2_with fail
 refine(n2 _).mono ?_
 rintro e w2 ⟨rfl,hB⟩
 (replace HB:Below w.heap.size w w2:=Below.on hB bel;replace K0:=hkI K0.out hB;replace K1:=hkI K1.out hB;replace K2:=hkI K2.out hB;replace K3:=hkI K3.out hB;replace K4:=hb_ (g:=w1.heap.size) blI hB;(try simp only[sB,sC,sD]at K0 K1 K2 K3 K4);clear k0 f0 l0 m0 k1 f1 l1 m1 k2 f2 l2 m2 k3 f3 l3 m3 hB;have HZw2:=HB.size;obtain⟨k0,f0,l0,m0⟩:=rl_ K0;obtain⟨k1,f1,l1,m1⟩:=rl_ K1;obtain⟨k2,f2,l2,m2⟩:=rl_ K2;obtain⟨k3,f3,l3,m3⟩:=rl_ K3;obtain⟨k4,f4,l4,m4⟩:=rl_ K4)
 go_wp2_with fail
 go_ret2
 exact⟨rfl,bel⟩
theorem same_tt(x1 y1:Int) (i1:Bool) (x2 y2:Int) (i2:Bool) (x3 y3:Int) (i3:Bool) (x4 y4:Int) (i4:Bool) (L1 L2:F2) (e1:(vz L1.1 == vz L2.1)=true) (e2:(vz L1.2 == vz L2.2)=true)
  (n1:∀ w,Calls Tryz.prog 182 #[.agg #[.int .u64 x1,.int .u64 y1,.bool i1],.agg #[.int .u64 x2,.int .u64 y2,.bool i2]] w (Ret w (.tuple #[v2' L1,.int .i64 0]))) (n2:∀ w,Calls Tryz.prog 182 #[.agg #[.int .u64 x3,.int .u64 y3,.bool i3],.agg #[.int .u64 x4,.int .u64 y4,.bool i4]] w (Ret w (.tuple #[v2' L2,.int .i64 0]))) (w:World) :
  Calls Tryz.prog 174 #[.agg #[.int .u64 x1,.int .u64 y1,.bool i1],.agg #[.int .u64 x2,.int .u64 y2,.bool i2],.agg #[.int .u64 x3,.int .u64 y3,.bool i3],.agg #[.int .u64 x4,.int .u64 y4,.bool i4]] w (Ret w (.tuple #[.bool true,.int .i64 0])):=by
 go_enter Tryz.func174, Tryz.ntmps174
 go_wp2_with fail
 refine(n1 _).mono ?_
 rintro e w1 ⟨rfl,hB⟩
 (replace HB:Below w.heap.size w w1:=Below.on hB bel;replace K0:=hb_ (g:=w.heap.size) blI hB;replace K1:=hb_ (g:=w.heap.size+1) blI hB;replace K2:=hb_ (g:=w.heap.size+1+1) blI hB;replace K3:=hb_ (g:=w.heap.size+1+1+1) blI hB;(try simp only[sB,sC,sD]at K0 K1 K2 K3);clear hB;have HZw1:=HB.size;obtain⟨k0,f0,l0,m0⟩:=rl_ K0;obtain⟨k1,f1,l1,m1⟩:=rl_ K1;obtain⟨k2,f2,l2,m2⟩:=rl_ K2;obtain⟨k3,f3,l3,m3⟩:=rl_ K3)
 go_wp2_with fail
 refine(n2 _).mono ?_
 rintro e w2 ⟨rfl,hB⟩
 (replace HB:Below w.heap.size w w2:=Below.on hB bel;replace K0:=hkI K0.out hB;replace K1:=hkI K1.out hB;replace K2:=hkI K2.out hB;replace K3:=hkI K3.out hB;replace K4:=hb_ (g:=w1.heap.size) blI hB;(try simp only[sB,sC,sD]at K0 K1 K2 K3 K4);clear k0 f0 l0 m0 k1 f1 l1 m1 k2 f2 l2 m2 k3 f3 l3 m3 hB;have HZw2:=HB.size;obtain⟨k0,f0,l0,m0⟩:=rl_ K0;obtain⟨k1,f1,l1,m1⟩:=rl_ K1;obtain⟨k2,f2,l2,m2⟩:=rl_ K2;obtain⟨k3,f3,l3,m3⟩:=rl_ K3;obtain⟨k4,f4,l4,m4⟩:=rl_ K4)
 go_wp2_with fail
 go_ret2
 exact⟨rfl,bel⟩
theorem same_tf(x1 y1:Int) (i1:Bool) (x2 y2:Int) (i2:Bool) (x3 y3:Int) (i3:Bool) (x4 y4:Int) (i4:Bool) (L1 L2:F2) (e1:(vz L1.1 == vz L2.1)=true) (e2:(vz L1.2 == vz L2.2)=false)
  (n1:∀ w,Calls Tryz.prog 182 #[.agg #[.int .u64 x1,.int .u64 y1,.bool i1],.agg #[.int .u64 x2,.int .u64 y2,.bool i2]] w (Ret w (.tuple #[v2' L1,.int .i64 0]))) (n2:∀ w,Calls Tryz.prog 182 #[.agg #[.int .u64 x3,.int .u64 y3,.bool i3],.agg #[.int .u64 x4,.int .u64 y4,.bool i4]] w (Ret w (.tuple #[v2' L2,.int .i64 0]))) (w:World) :
  Calls Tryz.prog 174 #[.agg #[.int .u64 x1,.int .u64 y1,.bool i1],.agg #[.int .u64 x2,.int .u64 y2,.bool i2],.agg #[.int .u64 x3,.int .u64 y3,.bool i3],.agg #[.int .u64 x4,.int .u64 y4,.bool i4]] w (Ret w (.tuple #[.bool false,.int .i64 0])):=by
 go_enter Tryz.func174, Tryz.ntmps174
 go_wp2_with fail
 refine(n1 _).mono ?_
 rintro e w1 ⟨rfl,hB⟩
 (replace HB:Below w.heap.size w w1:=Below.on hB bel;replace K0:=hb_ (g:=w.heap.size) blI hB;replace K1:=hb_ (g:=w.heap.size+1) blI hB;replace K2:=hb_ (g:=w.heap.size+1+1) blI hB;replace K3:=hb_ (g:=w.heap.size+1+1+1) blI hB;(try simp only[sB,sC,sD]at K0 K1 K2 K3);clear hB;have HZw1:=HB.size;obtain⟨k0,f0,l0,m0⟩:=rl_ K0;obtain⟨k1,f1,l1,m1⟩:=rl_ K1;obtain⟨k2,f2,l2,m2⟩:=rl_ K2;obtain⟨k3,f3,l3,m3⟩:=rl_ K3)
 go_wp2_with fail
 refine(n2 _).mono ?_
 rintro e w2 ⟨rfl,hB⟩
 (replace HB:Below w.heap.size w w2:=Below.on hB bel;replace K0:=hkI K0.out hB;replace K1:=hkI K1.out hB;replace K2:=hkI K2.out hB;replace K3:=hkI K3.out hB;replace K4:=hb_ (g:=w1.heap.size) blI hB;(try simp only[sB,sC,sD]at K0 K1 K2 K3 K4);clear k0 f0 l0 m0 k1 f1 l1 m1 k2 f2 l2 m2 k3 f3 l3 m3 hB;have HZw2:=HB.size;obtain⟨k0,f0,l0,m0⟩:=rl_ K0;obtain⟨k1,f1,l1,m1⟩:=rl_ K1;obtain⟨k2,f2,l2,m2⟩:=rl_ K2;obtain⟨k3,f3,l3,m3⟩:=rl_ K3;obtain⟨k4,f4,l4,m4⟩:=rl_ K4)
 go_wp2_with fail
 go_ret2
 exact⟨rfl,bel⟩
theorem same_f(x1 y1:Int) (i1:Bool) (x2 y2:Int) (i2:Bool) (x3 y3:Int) (i3:Bool) (x4 y4:Int) (i4:Bool) (L1 L2:F2) (e1:(vz L1.1 == vz L2.1)=false)
  (n1:∀ w,Calls Tryz.prog 182 #[.agg #[.int .u64 x1,.int .u64 y1,.bool i1],.agg #[.int .u64 x2,.int .u64 y2,.bool i2]] w (Ret w (.tuple #[v2' L1,.int .i64 0]))) (n2:∀ w,Calls Tryz.prog 182 #[.agg #[.int .u64 x3,.int .u64 y3,.bool i3],.agg #[.int .u64 x4,.int .u64 y4,.bool i4]] w (Ret w (.tuple #[v2' L2,.int .i64 0]))) (w:World) :
  Calls Tryz.prog 174 #[.agg #[.int .u64 x1,.int .u64 y1,.bool i1],.agg #[.int .u64 x2,.int .u64 y2,.bool i2],.agg #[.int .u64 x3,.int .u64 y3,.bool i3],.agg #[.int .u64 x4,.int .u64 y4,.bool i4]] w (Ret w (.tuple #[.bool false,.int .i64 0])):=by
 go_enter Tryz.func174, Tryz.ntmps174
 go_wp2_with fail
 refine(n1 _).mono ?_
 rintro e w1 ⟨rfl,hB⟩
 (replace HB:Below w.heap.size w w1:=Below.on hB bel;replace K0:=hb_ (g:=w.heap.size) blI hB;replace K1:=hb_ (g:=w.heap.size+1) blI hB;replace K2:=hb_ (g:=w.heap.size+1+1) blI hB;replace K3:=hb_ (g:=w.heap.size+1+1+1) blI hB;(try simp only[sB,sC,sD]at K0 K1 K2 K3);clear hB;have HZw1:=HB.size;obtain⟨k0,f0,l0,m0⟩:=rl_ K0;obtain⟨k1,f1,l1,m1⟩:=rl_ K1;obtain⟨k2,f2,l2,m2⟩:=rl_ K2;obtain⟨k3,f3,l3,m3⟩:=rl_ K3)
 go_wp2_with fail
 refine(n2 _).mono ?_
 rintro e w2 ⟨rfl,hB⟩
 (replace HB:Below w.heap.size w w2:=Below.on hB bel;replace K0:=hkI K0.out hB;replace K1:=hkI K1.out hB;replace K2:=hkI K2.out hB;replace K3:=hkI K3.out hB;replace K4:=hb_ (g:=w1.heap.size) blI hB;(try simp only[sB,sC,sD]at K0 K1 K2 K3 K4);clear k0 f0 l0 m0 k1 f1 l1 m1 k2 f2 l2 m2 k3 f3 l3 m3 hB;have HZw2:=HB.size;obtain⟨k0,f0,l0,m0⟩:=rl_ K0;obtain⟨k1,f1,l1,m1⟩:=rl_ K1;obtain⟨k2,f2,l2,m2⟩:=rl_ K2;obtain⟨k3,f3,l3,m3⟩:=rl_ K3;obtain⟨k4,f4,l4,m4⟩:=rl_ K4)
 go_wp2_with fail
 go_ret2
 exact⟨rfl,bel⟩
theorem same_gd(x1 y1:Int) (i1:Bool) (x2 y2:Int) (i2:Bool) (x3 y3:Int) (i3:Bool) (x4 y4:Int) (i4:Bool) (L1 L2:F2)
  (n1:∀ w,Calls Tryz.prog 182 #[.agg #[.int .u64 x1,.int .u64 y1,.bool i1],.agg #[.int .u64 x2,.int .u64 y2,.bool i2]] w (Ret w (outL (some L1)))) (n2:∀ w,Calls Tryz.prog 182 #[.agg #[.int .u64 x3,.int .u64 y3,.bool i3],.agg #[.int .u64 x4,.int .u64 y4,.bool i4]] w (Ret w (outL (some L2)))) (w:World) :
  Calls Tryz.prog 174 #[.agg #[.int .u64 x1,.int .u64 y1,.bool i1],.agg #[.int .u64 x2,.int .u64 y2,.bool i2],.agg #[.int .u64 x3,.int .u64 y3,.bool i3],.agg #[.int .u64 x4,.int .u64 y4,.bool i4]] w (Ret w (outS (some L1) (some L2))):=by
 cases e1:(vz L1.1 == vz L2.1)
 ·rw[outS,show sameV (some L1) (some L2)=false from by show(vz L1.1 == vz L2.1 && vz L1.2 == vz L2.2)=_;rw[e1];rfl]
  exact same_f _ _ _ _ _ _ _ _ _ _ _ _ L1 L2 e1 n1 n2 w
 ·cases e2:(vz L1.2 == vz L2.2)
  ·rw[outS,show sameV (some L1) (some L2)=false from by show(vz L1.1 == vz L2.1 && vz L1.2 == vz L2.2)=_;rw[e1,e2];rfl]
   exact same_tf _ _ _ _ _ _ _ _ _ _ _ _ L1 L2 e1 e2 n1 n2 w
  ·rw[outS,show sameV (some L1) (some L2)=true from by show(vz L1.1 == vz L2.1 && vz L1.2 == vz L2.2)=_;rw[e1,e2];rfl]
   exact same_tt _ _ _ _ _ _ _ _ _ _ _ _ L1 L2 e1 e2 n1 n2 w
theorem same_of(x1 y1:Int) (i1:Bool) (x2 y2:Int) (i2:Bool) (x3 y3:Int) (i3:Bool) (x4 y4:Int) (i4:Bool) (hx1:0≤x1) (hy1:0≤y1) (hx2:0≤x2) (hy2:0≤y2) (hx3:0≤x3) (hy3:0≤y3) (hx4:0≤x4) (hy4:0≤y4) (w:World):Calls Tryz.prog 174 #[.agg #[.int .u64 x1,.int .u64 y1,.bool i1],.agg #[.int .u64 x2,.int .u64 y2,.bool i2],.agg #[.int .u64 x3,.int .u64 y3,.bool i3],.agg #[.int .u64 x4,.int .u64 y4,.bool i4]] w (Ret w (outS (pairR x1 y1 i1 x2 y2 i2) (pairR x3 y3 i3 x4 y4 i4))):=by
 have n1:=pair_of x1 y1 i1 x2 y2 i2 hx1 hy1 hx2 hy2
 have n2:=pair_of x3 y3 i3 x4 y4 i4 hx3 hy3 hx4 hy4
 cases h:pairR x1 y1 i1 x2 y2 i2 with
 | none =>
  rw[h]at n1
  exact same_n1 _ _ _ _ _ _ _ _ _ _ _ _ _ n1 n2 w
 | some L1 =>
  rw[h]at n1
  cases h':pairR x3 y3 i3 x4 y4 i4 with
  | none =>
   rw[h']at n2
   exact same_n2 _ _ _ _ _ _ _ _ _ _ _ _ _ n1 n2 w
  | some L2 =>
   rw[h']at n2
   exact same_gd _ _ _ _ _ _ _ _ _ _ _ _ _ _ n1 n2 w
theorem pairR_in(p q:E) (hp:inG p=true) (hq:inG q=true):pairR (px p) (py p) (pf p) (px q) (py q) (pf q)=some (pairE p q):=by
 have h1:=inR_parts hp
 have h2:=inR_parts hq
 obtain⟨p',hp',e1,a1,a2,a3⟩:=inR_some (px_nonneg p) (py_nonneg p) h1
 obtain⟨q',hq',e2,b1,b2,b3⟩:=inR_some (px_nonneg q) (py_nonneg q) h2
 have parts:∀ p p':E,px p=px p'→py p=py p'→pf p=pf p'→p=p':=by
  rintro(_|⟨x,y⟩) (_|⟨x',y'⟩) h1 h2 h3
  ·rfl
  ·cases h3
  ·cases h3
  ·rw[vz_inj (h1:vz x=vz x'),vz_inj (h2:vz y=vz y')]
 unfold pairR
 rw[h1,h2,e1,e2,←parts p p' a1 a2 a3,←parts q q' b1 b2 b3]
 rfl
end
end Go.Proofs.YtobgigcdpiikaaaGreatDoor
