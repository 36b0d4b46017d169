/- Plain laws and walks, each by its own conditions. -/
import Derived.Test.YtobgigcdpiikaaaGreatDoorUc7
set_option linter.unusedSimpArgs false
set_option linter.unusedVariables false
set_option maxRecDepth 100000
set_option maxHeartbeats 16000000
namespace Go.Proofs.YtobgigcdpiikaaaGreatDoor
section
open BigFrame Go.RowKit Go.Phx Go.Shelf
attribute [local go_sem] Oper.semAt_some fldInf
abbrev v2'(z:F2):Value:=.agg #[.int .u64 (vz z.1),.int .u64 (vz z.2)]
theorem one_x(w:World):Calls Tryz.prog 191 #[] w (Ret w (.agg #[.int .u64 1,.int .u64 0])):=by
 go_enter Tryz.func191, Tryz.ntmps191
 go_wp2_with fail
 exact bodyPost_ret (v:=.agg #[.int .u64 1,.int .u64 0]) (by simp (maxDischargeDepth:=9) [results,Tryz.results191, go_sem,vp,v2, *]) rfl ⟨rfl,bel⟩
noncomputable def lineE:E→E→F×F→F2
 | none,_,_=>(1,0)
 | some _,none,_=>(1,0)
 | some s,some t,q=>if t=(s.1,-s.2) then(1,0) else(slopeE s t*(s.1+q.1) - s.2,q.2)
theorem slope_same_calls(x1 y1:F) (w:World):Calls Tryz.prog 201 #[.agg #[.int .u64 (vz x1),.int .u64 (vz y1),.bool false],.agg #[.int .u64 (vz x1),.int .u64 (vz y1),.bool false]] w (Ret w (.int .u64 (vz (slopeE (x1,y1) (x1,y1))))):=by
 have r1:(zf 3*(x1*x1)+zf 1)*inv (zf 2*y1)=slopeE (x1,y1) (x1,y1):=by
  unfold slopeE
  rw[if_pos rfl]
  rfl
 have r2:=True.intro
 have r3:=True.intro
 go_enter Tryz.func201, Tryz.ntmps201
 go_wp2_with fail
 (refine wp_region_later U U ?_;(repeat(go_big_quiet_step ((first
  | (go_at_call 169; exact lw (mul_calls _ _ (by first|with_reducible exact vz_nonneg _|with_reducible assumption|decide) (by first|with_reducible exact vz_nonneg _|with_reducible assumption|decide) _))
  | (go_at_call 177; exact lw (sub_calls _ _ (by first|with_reducible exact vz_nonneg _|with_reducible assumption|decide) (by first|with_reducible exact vz_nonneg _|with_reducible assumption|decide) _))
  | (go_at_call 168; exact lw (add_calls _ _ (by first|with_reducible exact vz_nonneg _|with_reducible assumption|decide) (by first|with_reducible exact vz_nonneg _|with_reducible assumption|decide) _))
  | (go_at_call 178; exact lq (inv_calls _ (by first|with_reducible exact vz_nonneg _|with_reducible assumption|decide) _))))));refine wpQuiet_nil ?_;intro w' hB)
 go_wp2_with fail
 simp only[zf_vz,r1,r2,r3]
 go_ret
 exact⟨rfl,bel⟩
theorem slope_over(x1 y1 x2 y2:F) (h1:x1≠x2) (w:World):Calls Tryz.prog 201 #[.agg #[.int .u64 (vz x1),.int .u64 (vz y1),.bool false],.agg #[.int .u64 (vz x2),.int .u64 (vz y2),.bool false]] w (Ret w (.int .u64 (vz (slopeE (x1,y1) (x2,y2))))):=by
 have r1:=slope_else (fun h=>h1 (Prod.mk.inj h).1:¬ (x1,y1)=(x2,y2))
 have r2:=True.intro
 have r3:=True.intro
 have e1:(vz x1 == vz x2)=false:=by
  rw[beq_eq_false_iff_ne]
  intro h
  exact h1 (vz_inj h)
 clear h1
 go_enter Tryz.func201, Tryz.ntmps201
 go_wp2_with fail
 (refine wp_region_later U U ?_;(repeat(go_big_quiet_step ((first
  | (go_at_call 169; exact lw (mul_calls _ _ (by first|with_reducible exact vz_nonneg _|with_reducible assumption|decide) (by first|with_reducible exact vz_nonneg _|with_reducible assumption|decide) _))
  | (go_at_call 177; exact lw (sub_calls _ _ (by first|with_reducible exact vz_nonneg _|with_reducible assumption|decide) (by first|with_reducible exact vz_nonneg _|with_reducible assumption|decide) _))
  | (go_at_call 168; exact lw (add_calls _ _ (by first|with_reducible exact vz_nonneg _|with_reducible assumption|decide) (by first|with_reducible exact vz_nonneg _|with_reducible assumption|decide) _))
  | (go_at_call 178; exact lq (inv_calls _ (by first|with_reducible exact vz_nonneg _|with_reducible assumption|decide) _))))));refine wpQuiet_nil ?_;intro w' hB)
 go_wp2_with fail
 simp only[zf_vz,r1,r2,r3]
 go_ret
 exact⟨rfl,bel⟩
theorem slope_above(x2 y1 y2:F) (h1:y1≠y2) (w:World):Calls Tryz.prog 201 #[.agg #[.int .u64 (vz x2),.int .u64 (vz y1),.bool false],.agg #[.int .u64 (vz x2),.int .u64 (vz y2),.bool false]] w (Ret w (.int .u64 (vz (slopeE (x2,y1) (x2,y2))))):=by
 have r1:=slope_else (fun h=>h1 (Prod.mk.inj h).2:¬ (x2,y1)=(x2,y2))
 have r2:x2 - x2=0:=by grind -lia -linarith
 have r3:(y2 - y1)*inv 0=slopeE (x2,y1) (x2,y2):=by rw[←r1,r2]
 have e1:(vz y1 == vz y2)=false:=by
  rw[beq_eq_false_iff_ne]
  intro h
  exact h1 (vz_inj h)
 clear h1
 go_enter Tryz.func201, Tryz.ntmps201
 go_wp2_with fail
 (refine wp_region_later U U ?_;(repeat(go_big_quiet_step ((first
  | (go_at_call 169; exact lw (mul_calls _ _ (by first|with_reducible exact vz_nonneg _|with_reducible assumption|decide) (by first|with_reducible exact vz_nonneg _|with_reducible assumption|decide) _))
  | (go_at_call 177; exact lw (sub_calls _ _ (by first|with_reducible exact vz_nonneg _|with_reducible assumption|decide) (by first|with_reducible exact vz_nonneg _|with_reducible assumption|decide) _))
  | (go_at_call 168; exact lw (add_calls _ _ (by first|with_reducible exact vz_nonneg _|with_reducible assumption|decide) (by first|with_reducible exact vz_nonneg _|with_reducible assumption|decide) _))
  | (go_at_call 178; exact lq (inv_calls _ (by first|with_reducible exact vz_nonneg _|with_reducible assumption|decide) _))))));refine wpQuiet_nil ?_;intro w' hB)
 go_wp2_with fail
 simp only[zf_vz,r1,r2,r3]
 go_ret
 exact⟨rfl,bel⟩
theorem slope_calls(p q:F×F) (w:World):Calls Tryz.prog 201 #[.agg #[.int .u64 (vz p.1),.int .u64 (vz p.2),.bool false],.agg #[.int .u64 (vz q.1),.int .u64 (vz q.2),.bool false]] w (Ret w (.int .u64 (vz (slopeE p q)))):=by
 obtain⟨x1,y1⟩:=p
 obtain⟨x2,y2⟩:=q
 by_cases h1:x1=x2
 ·subst h1
  by_cases h2:y1=y2
  ·subst h2
   exact slope_same_calls x1 y1 w
  ·exact slope_above x1 y1 y2 h2 w
 ·exact slope_over x1 y1 x2 y2 h1 w
theorem line_none(x y:Int) (i:Bool) (q:F×F) (w:World):Calls Tryz.prog 194 #[.agg #[.int .u64 0,.int .u64 0,.bool true],.agg #[.int .u64 x,.int .u64 y,.bool i],.agg #[.int .u64 (vz q.1),.int .u64 (vz q.2),.bool false]] w (Ret w (.agg #[.int .u64 1,.int .u64 0])):=by
 have ng:=neg_good none rfl
 simp only[show px none=0 from rfl,show py none=0 from rfl,show pf none=true from rfl]at ng
 go_enter Tryz.func194, Tryz.ntmps194
 go_wp2_with fail
 refine(ng _).mono ?_
 rintro e w1 ⟨rfl,hB⟩
 (replace HB:Below w.heap.size w w1:=Below.on hB bel;replace K0:=hb_ (g:=w.heap.size) blI hB;replace K1:=hb_ (g:=w.heap.size+1) blI hB;replace K2:=hb_ (g:=w.heap.size+1+1) blI hB;replace K3:=hb_ (g:=w.heap.size+1+1+1) blI hB;(try simp only[sB,sC,sD]at K0 K1 K2 K3);clear hB;have HZw1:=HB.size;obtain⟨k0,f0,l0,m0⟩:=rl_ K0;obtain⟨k1,f1,l1,m1⟩:=rl_ K1;obtain⟨k2,f2,l2,m2⟩:=rl_ K2;obtain⟨k3,f3,l3,m3⟩:=rl_ K3)
 go_wp2_with fail
 refine(one_x _).mono ?_
 rintro e w2 ⟨rfl,hB⟩
 (replace HB:Below w.heap.size w w2:=Below.on hB bel;replace K0:=hkI K0.out hB;replace K1:=hkI K1.out hB;replace K2:=hkI K2.out hB;replace K3:=hkI K3.out hB;replace K4:=hb_ (g:=w1.heap.size) blI hB;(try simp only[sB,sC,sD]at K0 K1 K2 K3 K4);clear k0 f0 l0 m0 k1 f1 l1 m1 k2 f2 l2 m2 k3 f3 l3 m3 hB;have HZw2:=HB.size;obtain⟨k0,f0,l0,m0⟩:=rl_ K0;obtain⟨k1,f1,l1,m1⟩:=rl_ K1;obtain⟨k2,f2,l2,m2⟩:=rl_ K2;obtain⟨k3,f3,l3,m3⟩:=rl_ K3;obtain⟨k4,f4,l4,m4⟩:=rl_ K4)
 go_wp2_with fail
 exact bodyPost_ret (v:=.agg #[.int .u64 1,.int .u64 0]) (by simp (maxDischargeDepth:=9) [results,Tryz.results194, go_sem,vp,v2, *]) rfl ⟨rfl,bel⟩
theorem line_other(s q:F×F) (hs:onE (some s)=true) (w:World):Calls Tryz.prog 194 #[.agg #[.int .u64 (vz s.1),.int .u64 (vz s.2),.bool false],.agg #[.int .u64 0,.int .u64 0,.bool true],.agg #[.int .u64 (vz q.1),.int .u64 (vz q.2),.bool false]] w (Ret w (.agg #[.int .u64 1,.int .u64 0])):=by
 have ng:=neg_good (some s) hs
 simp only[show px (some s)=vz s.1 from rfl,show py (some s)=vz s.2 from rfl,show pf (some s)=false from rfl]at ng
 clear hs
 go_enter Tryz.func194, Tryz.ntmps194
 go_wp2_with fail
 refine(ng _).mono ?_
 rintro e w1 ⟨rfl,hB⟩
 (replace HB:Below w.heap.size w w1:=Below.on hB bel;replace K0:=hb_ (g:=w.heap.size) blI hB;replace K1:=hb_ (g:=w.heap.size+1) blI hB;replace K2:=hb_ (g:=w.heap.size+1+1) blI hB;replace K3:=hb_ (g:=w.heap.size+1+1+1) blI hB;(try simp only[sB,sC,sD]at K0 K1 K2 K3);clear hB;have HZw1:=HB.size;obtain⟨k0,f0,l0,m0⟩:=rl_ K0;obtain⟨k1,f1,l1,m1⟩:=rl_ K1;obtain⟨k2,f2,l2,m2⟩:=rl_ K2;obtain⟨k3,f3,l3,m3⟩:=rl_ K3)
 go_wp2_with fail
 refine(one_x _).mono ?_
 rintro e w2 ⟨rfl,hB⟩
 (replace HB:Below w.heap.size w w2:=Below.on hB bel;replace K0:=hkI K0.out hB;replace K1:=hkI K1.out hB;replace K2:=hkI K2.out hB;replace K3:=hkI K3.out hB;replace K4:=hb_ (g:=w1.heap.size) blI hB;(try simp only[sB,sC,sD]at K0 K1 K2 K3 K4);clear k0 f0 l0 m0 k1 f1 l1 m1 k2 f2 l2 m2 k3 f3 l3 m3 hB;have HZw2:=HB.size;obtain⟨k0,f0,l0,m0⟩:=rl_ K0;obtain⟨k1,f1,l1,m1⟩:=rl_ K1;obtain⟨k2,f2,l2,m2⟩:=rl_ K2;obtain⟨k3,f3,l3,m3⟩:=rl_ K3;obtain⟨k4,f4,l4,m4⟩:=rl_ K4)
 go_wp2_with fail
 exact bodyPost_ret (v:=.agg #[.int .u64 1,.int .u64 0]) (by simp (maxDischargeDepth:=9) [results,Tryz.results194, go_sem,vp,v2, *]) rfl ⟨rfl,bel⟩
theorem line_neg(s q:F×F) (hs:onE (some s)=true) (w:World):Calls Tryz.prog 194 #[.agg #[.int .u64 (vz s.1),.int .u64 (vz s.2),.bool false],.agg #[.int .u64 (vz s.1),.int .u64 (vz (-s.2)),.bool false],.agg #[.int .u64 (vz q.1),.int .u64 (vz q.2),.bool false]] w (Ret w (.agg #[.int .u64 1,.int .u64 0])):=by
 have ng:=neg_good (some s) hs
 change ∀ w,Calls _ _ #[.agg #[.int .u64 (vz s.1),.int .u64 (vz s.2),.bool false]] w (Ret w (.tuple #[.agg #[.int .u64 (vz s.1),.int .u64 (vz (-s.2)),.bool false],.int .i64 0])) at ng
 clear hs
 go_enter Tryz.func194, Tryz.ntmps194
 go_wp2_with fail
 refine(ng _).mono ?_
 rintro e w1 ⟨rfl,hB⟩
 (replace HB:Below w.heap.size w w1:=Below.on hB bel;replace K0:=hb_ (g:=w.heap.size) blI hB;replace K1:=hb_ (g:=w.heap.size+1) blI hB;replace K2:=hb_ (g:=w.heap.size+1+1) blI hB;replace K3:=hb_ (g:=w.heap.size+1+1+1) blI hB;(try simp only[sB,sC,sD]at K0 K1 K2 K3);clear hB;have HZw1:=HB.size;obtain⟨k0,f0,l0,m0⟩:=rl_ K0;obtain⟨k1,f1,l1,m1⟩:=rl_ K1;obtain⟨k2,f2,l2,m2⟩:=rl_ K2;obtain⟨k3,f3,l3,m3⟩:=rl_ K3)
 go_wp2_with fail
 refine(one_x _).mono ?_
 rintro e w2 ⟨rfl,hB⟩
 (replace HB:Below w.heap.size w w2:=Below.on hB bel;replace K0:=hkI K0.out hB;replace K1:=hkI K1.out hB;replace K2:=hkI K2.out hB;replace K3:=hkI K3.out hB;replace K4:=hb_ (g:=w1.heap.size) blI hB;(try simp only[sB,sC,sD]at K0 K1 K2 K3 K4);clear k0 f0 l0 m0 k1 f1 l1 m1 k2 f2 l2 m2 k3 f3 l3 m3 hB;have HZw2:=HB.size;obtain⟨k0,f0,l0,m0⟩:=rl_ K0;obtain⟨k1,f1,l1,m1⟩:=rl_ K1;obtain⟨k2,f2,l2,m2⟩:=rl_ K2;obtain⟨k3,f3,l3,m3⟩:=rl_ K3;obtain⟨k4,f4,l4,m4⟩:=rl_ K4)
 go_wp2_with fail
 exact bodyPost_ret (v:=.agg #[.int .u64 1,.int .u64 0]) (by simp (maxDischargeDepth:=9) [results,Tryz.results194, go_sem,vp,v2, *]) rfl ⟨rfl,bel⟩
theorem line_over(s t q:F×F) (hs:onE (some s)=true) (e1:(vz t.1 == vz s.1)=false) (w:World):Calls Tryz.prog 194 #[.agg #[.int .u64 (vz s.1),.int .u64 (vz s.2),.bool false],.agg #[.int .u64 (vz t.1),.int .u64 (vz t.2),.bool false],.agg #[.int .u64 (vz q.1),.int .u64 (vz q.2),.bool false]] w (Ret w (v2' (slopeE s t*(s.1+q.1) - s.2,q.2))):=by
 have ng:=neg_good (some s) hs
 change ∀ w,Calls _ _ #[.agg #[.int .u64 (vz s.1),.int .u64 (vz s.2),.bool false]] w (Ret w (.tuple #[.agg #[.int .u64 (vz s.1),.int .u64 (vz (-s.2)),.bool false],.int .i64 0])) at ng
 have sl:=slope_calls s t
 clear hs
 go_enter Tryz.func194, Tryz.ntmps194
 go_wp2_with fail
 refine(ng _).mono ?_
 rintro e w1 ⟨rfl,hB⟩
 (replace HB:Below w.heap.size w w1:=Below.on hB bel;replace K0:=hb_ (g:=w.heap.size) blI hB;replace K1:=hb_ (g:=w.heap.size+1) blI hB;replace K2:=hb_ (g:=w.heap.size+1+1) blI hB;replace K3:=hb_ (g:=w.heap.size+1+1+1) blI hB;(try simp only[sB,sC,sD]at K0 K1 K2 K3);clear hB;have HZw1:=HB.size;obtain⟨k0,f0,l0,m0⟩:=rl_ K0;obtain⟨k1,f1,l1,m1⟩:=rl_ K1;obtain⟨k2,f2,l2,m2⟩:=rl_ K2;obtain⟨k3,f3,l3,m3⟩:=rl_ K3)
 go_wp2_with fail
 (refine wp_region_later_tail 15 U U ?_;simp only[List.take_succ_cons,List.take_zero,List.drop_succ_cons,List.drop_zero];(repeat(go_big_quiet_step ((first
  | (go_at_call 201; exact lq (sl _))
  | (go_at_call 169; exact lw (mul_calls _ _ (by first|with_reducible exact vz_nonneg _|with_reducible assumption|decide) (by first|with_reducible exact vz_nonneg _|with_reducible assumption|decide) _))
  | (go_at_call 177; exact lw (sub_calls _ _ (by first|with_reducible exact vz_nonneg _|with_reducible assumption|decide) (by first|with_reducible exact vz_nonneg _|with_reducible assumption|decide) _))
  | (go_at_call 168; exact lw (add_calls _ _ (by first|with_reducible exact vz_nonneg _|with_reducible assumption|decide) (by first|with_reducible exact vz_nonneg _|with_reducible assumption|decide) _))))));refine wpQuiet_nil ?_;intro w' hB)
 (replace HB:Below w.heap.size w w':=Below.on hB bel;replace K0:=hkI K0.out hB;replace K1:=hkI K1.out hB;replace K2:=hkI K2.out hB;replace K3:=hkI K3.out hB;replace K4:=hb_ (g:=w1.heap.size) blI hB;(try simp only[sB,sC,sD]at K0 K1 K2 K3 K4);clear k0 f0 l0 m0 k1 f1 l1 m1 k2 f2 l2 m2 k3 f3 l3 m3 hB;have HZw':=HB.size;obtain⟨k0,f0,l0,m0⟩:=rl_ K0;obtain⟨k1,f1,l1,m1⟩:=rl_ K1;obtain⟨k2,f2,l2,m2⟩:=rl_ K2;obtain⟨k3,f3,l3,m3⟩:=rl_ K3;obtain⟨k4,f4,l4,m4⟩:=rl_ K4)
 simp only[zf_vz]
 go_wp2_with fail
 exact bodyPost_ret (v:=v2' (slopeE s t*(s.1+q.1) - s.2,q.2)) (by simp (maxDischargeDepth:=9) [results,Tryz.results194, go_sem,vp,v2, *]) rfl ⟨rfl,bel⟩
theorem line_above(s t q:F×F) (hs:onE (some s)=true) (e0:(vz t.1 == vz s.1)=true) (e1:(vz t.2 == vz (-s.2))=false) (w:World):Calls Tryz.prog 194 #[.agg #[.int .u64 (vz s.1),.int .u64 (vz s.2),.bool false],.agg #[.int .u64 (vz t.1),.int .u64 (vz t.2),.bool false],.agg #[.int .u64 (vz q.1),.int .u64 (vz q.2),.bool false]] w (Ret w (v2' (slopeE s t*(s.1+q.1) - s.2,q.2))):=by
 have ng:=neg_good (some s) hs
 change ∀ w,Calls _ _ #[.agg #[.int .u64 (vz s.1),.int .u64 (vz s.2),.bool false]] w (Ret w (.tuple #[.agg #[.int .u64 (vz s.1),.int .u64 (vz (-s.2)),.bool false],.int .i64 0])) at ng
 have sl:=slope_calls s t
 clear hs
 go_enter Tryz.func194, Tryz.ntmps194
 go_wp2_with fail
 refine(ng _).mono ?_
 rintro e w1 ⟨rfl,hB⟩
 (replace HB:Below w.heap.size w w1:=Below.on hB bel;replace K0:=hb_ (g:=w.heap.size) blI hB;replace K1:=hb_ (g:=w.heap.size+1) blI hB;replace K2:=hb_ (g:=w.heap.size+1+1) blI hB;replace K3:=hb_ (g:=w.heap.size+1+1+1) blI hB;(try simp only[sB,sC,sD]at K0 K1 K2 K3);clear hB;have HZw1:=HB.size;obtain⟨k0,f0,l0,m0⟩:=rl_ K0;obtain⟨k1,f1,l1,m1⟩:=rl_ K1;obtain⟨k2,f2,l2,m2⟩:=rl_ K2;obtain⟨k3,f3,l3,m3⟩:=rl_ K3)
 go_wp2_with fail
 (refine wp_region_later_tail 15 U U ?_;simp only[List.take_succ_cons,List.take_zero,List.drop_succ_cons,List.drop_zero];(repeat(go_big_quiet_step ((first
  | (go_at_call 201; exact lq (sl _))
  | (go_at_call 169; exact lw (mul_calls _ _ (by first|with_reducible exact vz_nonneg _|with_reducible assumption|decide) (by first|with_reducible exact vz_nonneg _|with_reducible assumption|decide) _))
  | (go_at_call 177; exact lw (sub_calls _ _ (by first|with_reducible exact vz_nonneg _|with_reducible assumption|decide) (by first|with_reducible exact vz_nonneg _|with_reducible assumption|decide) _))
  | (go_at_call 168; exact lw (add_calls _ _ (by first|with_reducible exact vz_nonneg _|with_reducible assumption|decide) (by first|with_reducible exact vz_nonneg _|with_reducible assumption|decide) _))))));refine wpQuiet_nil ?_;intro w' hB)
 (replace HB:Below w.heap.size w w':=Below.on hB bel;replace K0:=hkI K0.out hB;replace K1:=hkI K1.out hB;replace K2:=hkI K2.out hB;replace K3:=hkI K3.out hB;replace K4:=hb_ (g:=w1.heap.size) blI hB;(try simp only[sB,sC,sD]at K0 K1 K2 K3 K4);clear k0 f0 l0 m0 k1 f1 l1 m1 k2 f2 l2 m2 k3 f3 l3 m3 hB;have HZw':=HB.size;obtain⟨k0,f0,l0,m0⟩:=rl_ K0;obtain⟨k1,f1,l1,m1⟩:=rl_ K1;obtain⟨k2,f2,l2,m2⟩:=rl_ K2;obtain⟨k3,f3,l3,m3⟩:=rl_ K3;obtain⟨k4,f4,l4,m4⟩:=rl_ K4)
 simp only[zf_vz]
 go_wp2_with fail
 exact bodyPost_ret (v:=v2' (slopeE s t*(s.1+q.1) - s.2,q.2)) (by simp (maxDischargeDepth:=9) [results,Tryz.results194, go_sem,vp,v2, *]) rfl ⟨rfl,bel⟩
theorem line_calls(s t:E) (q:F×F) (hs:onE s=true) (w:World):Calls Tryz.prog 194 #[.agg #[.int .u64 (px s),.int .u64 (py s),.bool (pf s)],.agg #[.int .u64 (px t),.int .u64 (py t),.bool (pf t)],.agg #[.int .u64 (vz q.1),.int .u64 (vz q.2),.bool false]] w (Ret w (v2' (lineE s t q))):=by
 rcases s with _|s
 ·exact line_none _ _ _ q w
 ·rcases t with _|t
  ·exact line_other s q hs w
  ·by_cases h:t=(s.1,-s.2)
   ·subst h
    rw[show lineE (some s) (some (s.1,-s.2)) q=(1,0) from if_pos rfl]
    exact line_neg s q hs w
   ·rw[show lineE (some s) (some t) q=(slopeE s t*(s.1+q.1) - s.2,q.2) from if_neg h]
    by_cases h1:t.1=s.1
    ·exact line_above s t q hs (by rw[h1];exact beq_self_eq_true _) (beq_eq_false_iff_ne.2 fun e=>h (Prod.ext h1 (vz_inj e))) w
    ·exact line_over s t q hs (beq_eq_false_iff_ne.2 fun e=>h1 (vz_inj e)) w
def lx:Option F2→Int|none=>0|some z=>vz z.1
def ly:Option F2→Int|none=>0|some z=>vz z.2
def le:Option F2→Int|none=>100|some _=>0
abbrev outL(r:Option F2):Value:=.tuple #[.agg #[.int .u64 (lx r),.int .u64 (ly r)],.int .i64 (le r)]
def obits(k:Nat):List Bool:=(List.range k).map fun j=>bitAt 536870717 (27 - j)
theorem obits_succ(k:Nat):obits (k+1)=obits k ++ [bitAt 536870717 (27 - k)]:=by simp[obits,List.range_succ]
theorem obits_length(k:Nat):(obits k).length=k:=by simp[obits]
theorem obits_prefix(k:Nat) (hk:k≤28):obits k <+: obits 28:=by
 have h:∀ m,obits k <+: obits (k+m):=by
  intro m
  induction m with
  | zero=>exact List.prefix_rfl
  | succ m ih =>
   rw[show k+(m+1)=(k+m)+1 from rfl,obits_succ]
   exact ih.trans (List.prefix_append _ _)
 have:=h (28 - k)
 rwa [show k+(28 - k)=28 by omega]at this
theorem and_one_i64(y:Nat) (hy:y<9223372036854775808):bits .and .i64 (y:Int) 1=((y % 2:Nat):Int):=by
 have e:(BitVec.ofInt 64 (y:Int)).toNat=y:=by
  rw[BitVec.ofInt_natCast,BitVec.toNat_ofNat]
  exact Nat.mod_eq_of_lt (by omega)
 show IntKind.i64.wrap ((BitVec.ofInt 64 (y:Int) &&& BitVec.ofInt 64 ((1:Nat):Int)).toNat:Int)=_
 rw[BitVec.toNat_and,e,show(BitVec.ofInt 64 ((1:Nat):Int)).toNat=1 from by decide,nat_mask1,IntKind.wrap_i64]
 omega
theorem obit_and(i:Nat):(bits BinOp.and IntKind.i64 (536870717 / 2 ^ i) 1 == 1)=bitAt 536870717 i:=by
 have h1:(536870717:Int) / 2 ^ i=((536870717 / 2 ^ i:Nat):Int):=by rw[Int.natCast_ediv,Int.natCast_pow];rfl
 have h2:536870717 / 2 ^ i≤536870717:=Nat.div_le_self _ _
 unfold bitAt
 rw[h1,and_one_i64 _ (by omega)]
 generalize 536870717 / 2 ^ i=y
 by_cases h:y % 2=1
 ·rw[h,decide_eq_true (by omega)]
  rfl
 ·rw[decide_eq_false (by omega),beq_eq_false_iff_ne]
  omega
theorem len64_order(w:World):Calls Tryz.prog 199 #[.int .u64 536870717] w fun e w'=>e=.returned (.int .i64 29)∧w=w':=by
 go_enter Tryz.func199, Tryz.ntmps199
 go_wp2_with fail
 go_ret
 refine⟨?_,rfl⟩
 kernel_rfl
theorem pdigits1_in(n:Nat) (hn:1≤n) (l:Nat) (J Jx:List Bool→World→Prop)
  (hY:∀ pre x W,J pre W→pre.length<28→YieldAt Fence.wide (n - 1) Tryz.prog l #[.bool x] W fun e W' =>
   (e=.returned (.bool true)∧J (pre ++ [x]) W'∧True)∨(e=.returned (.bool false)∧Jx (pre ++ [x]) W'))
  (W:World) (h0:J [] W) :
  CallsIn Fence.wide n Tryz.prog 198 #[.func (.yield l) #[] #[]] W fun e W'=>(∃ v,e=.returned v) ∧
   ((∃ ys,ys=obits 28∧J ys W')∨(∃ pre,(∃ k,k≤28∧pre=obits k)∧Jx pre W')):=by
 have hbit:=obit_and
 have hro:Fence.wide.round=none:=rfl
 have h7:∀ f,Fence.wide.fn f:=fun _=>trivial
 refine callsIn_of_wp Tryz.func198 rfl trivial ?_ rfl
 simp only[Tryz.ntmps198, List.size_toArray,List.length_cons,List.length_nil,Nat.reduceAdd,Nat.reduceSub,Array.replicate_succ,Array.replicate_zero,List.push_toArray,List.append_toArray,List.nil_append,List.cons_append]
 gi_wp2_with fail
 refine(callsIn_wide.2 (len64_order _)).mono ?_
 rintro e w' ⟨rfl,rfl⟩
 gi_wp2
 gi_loopw [2] (fun i wr=>∃ k:Nat,k≤28∧i=.int .i64 (27 - k)∧J (obits k) wr)
  (fun i _=>(intOf i+1).toNat)
 case atStart=>exact⟨0,Nat.zero_le _,by simp,h0⟩
 case round =>
  obtain⟨k,hk,rfl,hJs⟩:=hrel
  by_cases hlt:k<28
  ·have HT:=Z (obits_succ k)
   obtain⟨fn,tmps,assign,body,hy,hR⟩:=hY _ (bitAt 536870717 (27 - k)) wr hJs (by rw[obits_length];exact hlt)
   gi_wp2
   refine hR.mono ?_
   rintro e W3 (⟨rfl,hJ3,_⟩|⟨rfl,hJx3⟩)
   ·gi_wp2
    go_roundw
    case rel=>exact⟨k+1,by omega,by congr 1;omega,by rw[HT.out];exact hJ3⟩
    case measure=>simp[intOf];omega
   ·gi_wp2
    refine bodyPost_ret (results_none rfl _ _ _) rfl ?_
    exact⟨⟨_,rfl⟩,.inr ⟨_,⟨k+1,by omega,HT.out.symm⟩,hJx3⟩⟩
  ·obtain rfl:k=28:=by omega
   gi_wp2
   go_end0
   exact⟨⟨_,rfl⟩,.inl ⟨_,rfl,hJs⟩⟩
theorem pdigits_stops(n:Nat) (hn:1≤n) (w:World) :
  SeqStopsK Fence.wide n Tryz.prog 198 #[] (fun b:Bool => #[Value.bool b]) (fun _ _=>True) (fun ys=>ys=obits 28) (fun pre=>pre <+: obits 28) 28 w:=fun l J Jx W hW _ _ hY h0=>by
 refine(pdigits1_in n hn l J Jx hY W h0).mono ?_
 rintro e W' ⟨he,⟨ys,rfl,hj⟩|⟨pre,⟨k,hk,rfl⟩,hj⟩⟩
 ·exact⟨he,.inl ⟨_,rfl,hj⟩⟩
 ·exact⟨he,.inr ⟨_,obits_prefix k hk,hj⟩⟩
theorem pdigits_in(n:Nat) (w:World):CallsIn Fence.wide n Tryz.prog 192 #[] w fun e w'=>e=.returned (.func (.func 198) #[] #[])∧w'=w:=by
 refine callsIn_of_wp Tryz.func192 rfl trivial ?_ rfl
 simp only[Tryz.ntmps192, List.size_toArray,List.length_cons,List.length_nil,Nat.reduceAdd,Nat.reduceSub,Array.replicate_succ,Array.replicate_zero,List.push_toArray,List.append_toArray,List.nil_append,List.cons_append]
 gi_wp2
 go_ret
 exact⟨rfl,rfl⟩
end
end Go.Proofs.YtobgigcdpiikaaaGreatDoor
