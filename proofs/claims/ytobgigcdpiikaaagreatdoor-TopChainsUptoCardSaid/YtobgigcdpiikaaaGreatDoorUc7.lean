/- Plain laws and walks, each by its own conditions. -/
import Derived.Test.YtobgigcdpiikaaaGreatDoorUc5
set_option linter.unusedSimpArgs false
set_option linter.unusedVariables false
set_option maxRecDepth 100000
set_option maxHeartbeats 16000000
namespace Go.Proofs.YtobgigcdpiikaaaGreatDoor
section
open Go.RowKit Go.Phx Go.Shelf
attribute [local go_sem] Oper.semAt_some
def vp:E→Value
 | none=>.agg #[.int .u64 0,.int .u64 0,.bool true]
 | some (x,y)=>.agg #[.int .u64 (vz x),.int .u64 (vz y),.bool false]
noncomputable def isOn (x y:Int) (i:Bool):Bool :=
 if i then decide (x=0∧y=0) else decide (x<2147482867∧y<2147482867∧zf y*zf y=zf x*zf x*zf x+zf x)
noncomputable def ptOf (x y:Int) (i:Bool):E:=if i then none else some (zf x,zf y)
theorem isOn_pt{x y:Int}{i:Bool} (hx:0≤x) (hy:0≤y) (h:isOn x y i=true):Value.agg #[.int .u64 x,.int .u64 y,.bool i]=vp (ptOf x y i)∧onE (ptOf x y i)=true:=by
 unfold isOn at h
 cases i
 ·simp only[Bool.false_eq_true,if_false,decide_eq_true_eq]at h
  obtain⟨h1,h2,h3⟩:=h
  refine⟨?_,?_⟩
  ·show _=Value.agg #[.int .u64 (vz (zf x)),.int .u64 (vz (zf y)),.bool false]
   rw[vz_zf,vz_zf,Int.emod_eq_of_lt hx h1,Int.emod_eq_of_lt hy h2]
  ·exact(onE_some _ _).2 h3
 ·simp only[if_true,decide_eq_true_eq]at h
  obtain⟨h1,h2⟩:=h
  exact⟨by rw[h1,h2];rfl,rfl⟩
theorem isOn_vp(x y:F):isOn (vz x) (vz y) false=onE (some (x,y)):=by
 have h1:=vz_lt x
 have h2:=vz_lt y
 unfold isOn onE
 simp only[Bool.false_eq_true,if_false,zf_vz]
 rw[decide_eq_decide]
 exact⟨fun h=>h.2.2,fun h=>⟨h1,h2,h⟩⟩
theorem none_calls(w:World):Calls Tryz.prog 156 #[] w (Ret w (vp none)):=by
 go_enter Tryz.func156, Tryz.ntmps156
 go_wp2_with fail
 exact bodyPost_ret (v:=vp none) (by simp (maxDischargeDepth:=9) [results,Tryz.results156, go_sem,vp,v2, *]) rfl ⟨rfl,bel⟩
theorem side_calls(x:Int) (hx:0≤x) (w:World):Calls Tryz.prog 158 #[.int .u64 x] w fun e w'=>e=.returned (.int .u64 (vz (zf x*zf x*zf x+zf x)))∧w=w':=by
 have t:zf x*(zf x*zf x+1)=zf x*zf x*zf x+zf x:=by generalize zf x=a;grind -lia -linarith
 have z1:zf 1=1:=rfl
 go_enter Tryz.func158, Tryz.ntmps158
 go_wp2_with fail
 refine(mul_calls _ _ hx hx _).mono ?_
 rintro e w' ⟨rfl,rfl⟩
 go_wp2_with fail
 refine(add_calls _ _ (vz_nonneg _) (by decide) _).mono ?_
 rintro e w' ⟨rfl,rfl⟩
 go_wp2_with fail
 refine(mul_calls _ _ hx (vz_nonneg _) _).mono ?_
 rintro e w' ⟨rfl,rfl⟩
 rw[zf_vz,t]
 go_wp2_with fail
 go_ret
 exact⟨rfl,rfl⟩
theorem minus_calls(x y:Int) (i:Bool) (hx:0≤x) (hy:0≤y) (w:World):Calls Tryz.prog 159 #[.agg #[.int .u64 x,.int .u64 y,.bool i]] w (Ret w (.agg #[.int .u64 x,.int .u64 (vz (-zf y)),.bool i])):=by
 have t:zf 0 - zf y = -zf y:=by rw[show zf 0=0 from rfl];generalize zf y=a;grind -lia -linarith
 go_enter Tryz.func159, Tryz.ntmps159
 go_wp2_with fail
 refine(sub_calls _ _ (by decide) hy _).mono ?_
 rintro e w' ⟨rfl,rfl⟩
 rw[t]
 go_wp2_with fail
 exact bodyPost_ret (v:=.agg #[.int .u64 x,.int .u64 (vz (-zf y)),.bool i]) (by simp (maxDischargeDepth:=9) [results,Tryz.results159, go_sem,vp,v2, *]) rfl ⟨rfl,bel⟩
theorem minus_vp(p:E) (w:World):Calls Tryz.prog 159 #[vp p] w (Ret w (vp (negE p))):=by
 rcases p with _|⟨x,y⟩
 ·exact minus_calls 0 0 true (by decide) (by decide) w
 ·have h:=minus_calls (vz x) (vz y) false (vz_nonneg _) (vz_nonneg _) w
  rw[zf_vz]at h
  exact h
end
section
open BigFrame Go.RowKit Go.Phx Go.Shelf
attribute [local go_sem] Oper.semAt_some
theorem none_x(w:World):Calls Tryz.prog 156 #[] w (Ret w (.agg #[.int .u64 0,.int .u64 0,.bool true])):=none_calls w
theorem on_calls(x y:Int) (i:Bool) (hx:0≤x) (hy:0≤y) (w:World):Calls Tryz.prog 160 #[.agg #[.int .u64 x,.int .u64 y,.bool i]] w (Ret w (.bool (isOn x y i))):=by
 cases i
 ·by_cases h1:x<2147482867
  ·by_cases h2:y<2147482867
   ·have d1:decide (x<2147482867)=true:=decide_eq_true h1
    have d2:decide (y<2147482867)=true:=decide_eq_true h2
    have hv:isOn x y false=(vz (zf y*zf y) == vz (zf x*zf x*zf x+zf x)):=by
     unfold isOn
     simp only[Bool.false_eq_true,if_false,h1,h2,true_and]
     by_cases h3:zf y*zf y=zf x*zf x*zf x+zf x
     ·rw[h3];simp
     ·have h4:vz (zf y*zf y)≠vz (zf x*zf x*zf x+zf x):=fun h=>h3 (vz_inj h)
      simp[h3,h4]
    rw[hv]
    clear h1 h2 hv
    go_enter Tryz.func160, Tryz.ntmps160
    go_wp2_with fail
    (refine wp_region_later U U ?_;(repeat(go_big_quiet_step ((first
     | (go_at_call 169; exact lw (mul_calls _ _ hy hy _))
     | (go_at_call 158; exact lw (side_calls _ hx _))))));refine wpQuiet_nil ?_;intro w' hB)
    go_wp2_with fail
    go_ret
    exact⟨rfl,bel⟩
   ·have d1:decide (x<2147482867)=true:=decide_eq_true h1
    have d2:decide (y<2147482867)=false:=decide_eq_false h2
    have hv:isOn x y false=false:=by unfold isOn;simp[h2]
    rw[hv]
    clear h1 h2 hv
    go_enter Tryz.func160, Tryz.ntmps160
    go_wp2_with fail
    (refine wp_region_later U U ?_;(repeat(go_big_quiet_step (fail)));refine wpQuiet_nil ?_;intro w' hB)
    go_wp2_with fail
    go_ret
    exact⟨rfl,bel⟩
  ·have d1:decide (x<2147482867)=false:=decide_eq_false h1
   have hv:isOn x y false=false:=by unfold isOn;simp[h1]
   rw[hv]
   clear h1 hv
   go_enter Tryz.func160, Tryz.ntmps160
   go_wp2_with fail
   (refine wp_region_later U U ?_;(repeat(go_big_quiet_step (fail)));refine wpQuiet_nil ?_;intro w' hB)
   go_wp2_with fail
   go_ret
   exact⟨rfl,bel⟩
 ·by_cases h1:x=0
  ·by_cases h2:y=0
   ·subst h1 h2
    rw[show isOn 0 0 true=true from by unfold isOn;simp]
    go_enter Tryz.func160, Tryz.ntmps160
    go_wp2_with fail
    (refine wp_region_later U U ?_;(repeat(go_big_quiet_step ((go_at_call 156; exact lq (none_x _)))));refine wpQuiet_nil ?_;intro w' hB)
    go_wp2_with fail
    go_ret
    exact⟨rfl,bel⟩
   ·subst h1
    rw[show isOn 0 y true=false from by unfold isOn;simp[h2]]
    have e:(y == 0)=false:=by simp[h2]
    clear h2
    go_enter Tryz.func160, Tryz.ntmps160
    go_wp2_with fail
    (refine wp_region_later U U ?_;(repeat(go_big_quiet_step ((go_at_call 156; exact lq (none_x _)))));refine wpQuiet_nil ?_;intro w' hB)
    go_wp2_with fail
    go_ret
    exact⟨rfl,bel⟩
  ·rw[show isOn x y true=false from by unfold isOn;simp[h1]]
   have e:(x == 0)=false:=by simp[h1]
   clear h1
   go_enter Tryz.func160, Tryz.ntmps160
   go_wp2_with fail
   (refine wp_region_later U U ?_;(repeat(go_big_quiet_step ((go_at_call 156; exact lq (none_x _)))));refine wpQuiet_nil ?_;intro w' hB)
   go_wp2_with fail
   go_ret
   exact⟨rfl,bel⟩
theorem plus_val(x1 y1 x2 y2 L:F) (h:L=slopeE (x1,y1) (x2,y2)) :
  (some (slopeE (x1,y1) (x2,y2)*slopeE (x1,y1) (x2,y2) - x1 - x2,slopeE (x1,y1) (x2,y2)*(x1 - (slopeE (x1,y1) (x2,y2)*slopeE (x1,y1) (x2,y2) - x1 - x2)) - y1):E)=some (L*L - (x1+x2),L*(x1 - (L*L - (x1+x2))) - y1):=by
 rw[←h]
 have e:L*L - x1 - x2=L*L - (x1+x2):=by clear h;grind -lia -linarith
 rw[e]
theorem slope_same(x y:F):(zf 3*(x*x)+zf 1)*inv (y+y)=slopeE (x,y) (x,y):=by
 unfold slopeE
 rw[if_pos rfl,show zf 3=3 from rfl,show zf 1=1 from rfl,show y+y=2*y from by grind -lia -linarith]
theorem slope_else{x1 y1 x2 y2:F} (h:¬ (x1,y1)=(x2,y2)):(y2 - y1)*inv (x2 - x1)=slopeE (x1,y1) (x2,y2):=by
 unfold slopeE
 rw[if_neg h]
theorem minus_of(x y:F):∀ w,Calls Tryz.prog 159 #[.agg #[.int .u64 (vz x),.int .u64 (vz y),.bool false]] w (Ret w (.agg #[.int .u64 (vz x),.int .u64 (vz (-y)),.bool false])):=fun w=>by
 have h:=minus_calls (vz x) (vz y) false (vz_nonneg _) (vz_nonneg _) w
 rw[zf_vz]at h
 exact h
theorem plus_neg(x2 y1:F) (w:World):Calls Tryz.prog 161 #[.agg #[.int .u64 (vz x2),.int .u64 (vz y1),.bool false],.agg #[.int .u64 (vz x2),.int .u64 (vz (-y1)),.bool false]] w (Ret w (vp none)):=by
 have t : - -y1=y1:=by grind -lia -linarith
 have m:=minus_of x2 (-y1)
 rw[t]at m
 clear t
 go_enter Tryz.func161, Tryz.ntmps161
 go_wp2_with fail
 (refine wp_region_later U U ?_;(repeat(go_big_quiet_step ((go_at_call 159; exact lq (m _)))));refine wpQuiet_nil ?_;intro w' hB)
 (obtain⟨hc,hf⟩:=bcell hB;have hz:=hB.size;(try simp at hz);(try simp at hc);(try simp at hf))
 go_wp2_with fail
 refine(none_x _).mono ?_
 rintro e w2 ⟨rfl,hB2⟩;obtain⟨hc2,hf2⟩:=bcell hB2;have hz2:=hB2.size;(try simp at hz2);(try simp at hc2);(try simp at hf2)
 have g1:w.heap.size<w2.heap.size:=by omega
 have g2:w.heap.size+1<w2.heap.size:=by omega
 have g3:w.heap.size+1+1<w2.heap.size:=by omega
 have g4:w.heap.size<w'.heap.size:=by omega
 have g5:w.heap.size+1<w'.heap.size:=by omega
 have g6:w.heap.size+1+1<w'.heap.size:=by omega
 go_wp2_with fail
 exact bodyPost_ret (v:=vp none) (by simp (maxDischargeDepth:=9) [results,Tryz.results161, go_sem,vp,v2, *]) rfl ⟨rfl,bel⟩
theorem boxes3{x1 y1 x2 y2 x3 y3:Int}{i1 i2 i3:Bool}{t:TypeId}{w w':World}
  (hB:Below (((w.alloc (.cells #[.int .u64 x1,.int .u64 y1,.bool i1] t)).alloc (.cells #[.int .u64 x2,.int .u64 y2,.bool i2] t)).alloc (.cells #[.int .u64 x3,.int .u64 y3,.bool i3] t)).heap.size
   (((w.alloc (.cells #[.int .u64 x1,.int .u64 y1,.bool i1] t)).alloc (.cells #[.int .u64 x2,.int .u64 y2,.bool i2] t)).alloc (.cells #[.int .u64 x3,.int .u64 y3,.bool i3] t)) w') :
  (w'.cell? ⟨w.heap.size,0,none⟩=some (.int .u64 x1)∧w'.cell? ⟨w.heap.size,1,none⟩=some (.int .u64 y1)∧w'.cell? ⟨w.heap.size,2,none⟩=some (.bool i1)) ∧
  (w'.cell? ⟨w.heap.size+1,0,none⟩=some (.int .u64 x2)∧w'.cell? ⟨w.heap.size+1,1,none⟩=some (.int .u64 y2)∧w'.cell? ⟨w.heap.size+1,2,none⟩=some (.bool i2)) ∧
  (w'.cell? ⟨w.heap.size+1+1,0,none⟩=some (.int .u64 x3)∧w'.cell? ⟨w.heap.size+1+1,1,none⟩=some (.int .u64 y3)∧w'.cell? ⟨w.heap.size+1+1,2,none⟩=some (.bool i3)) ∧
  (w'.frozen? ⟨w.heap.size+1+1,0,none⟩=false∧w'.frozen? ⟨w.heap.size+1+1,1,none⟩=false∧w'.frozen? ⟨w.heap.size+1+1,2,none⟩=false) ∧
  w.heap.size+1+1<w'.heap.size∧Below w.heap.size w w':=by
 obtain⟨hc,hf⟩:=bcell hB
 have hz:=hB.size
 have hB0:Below w.heap.size w w':=bel
 refine⟨⟨?_,?_,?_⟩,⟨?_,?_,?_⟩,⟨?_,?_,?_⟩,⟨?_,?_,?_⟩,?_,hB0⟩
 all_goals first|(rw[hc _ _ (by first|(simp;done)|(simp;omega))];simp[go_sem];done)|(rw[hf _ _ (by first|(simp;done)|(simp;omega))];simp[go_sem];done)|(simp at hz;omega)
def Three(n:Nat) (x1 y1 x2 y2:Int) (W:World):Prop :=
 (W.cell? ⟨n,0,none⟩=some (.int .u64 x1)∧W.cell? ⟨n,1,none⟩=some (.int .u64 y1)∧W.cell? ⟨n,2,none⟩=some (.bool false)) ∧
 (W.cell? ⟨n+1,0,none⟩=some (.int .u64 x2)∧W.cell? ⟨n+1,1,none⟩=some (.int .u64 y2)∧W.cell? ⟨n+1,2,none⟩=some (.bool false)) ∧
 (W.cell? ⟨n+1+1,0,none⟩=some (.int .u64 0)∧W.cell? ⟨n+1+1,1,none⟩=some (.int .u64 0)∧W.cell? ⟨n+1+1,2,none⟩=some (.bool false)) ∧
 (W.frozen? ⟨n+1+1,0,none⟩=false∧W.frozen? ⟨n+1+1,1,none⟩=false∧W.frozen? ⟨n+1+1,2,none⟩=false) ∧
 n+1+1<W.heap.size
theorem Three.on{n:Nat}{x1 y1 x2 y2:Int}{W W2:World} (h:Three n x1 y1 x2 y2 W) (hB:Below W.heap.size W W2):Three n x1 y1 x2 y2 W2:=by
 obtain⟨⟨c0,c1,c2⟩,⟨d0,d1,d2⟩,⟨r0,r1,r2⟩,⟨f0,f1,f2⟩,hz⟩:=h
 obtain⟨hc,hf⟩:=bcell hB
 have hz2:=hB.size
 refine⟨⟨?_,?_,?_⟩,⟨?_,?_,?_⟩,⟨?_,?_,?_⟩,⟨?_,?_,?_⟩,?_⟩
 all_goals first|(rw[hc _ _ (by omega)];assumption)|(rw[hf _ _ (by omega)];assumption)|omega
theorem Three.drew{n:Nat}{x1 y1 x2 y2:Int}{W:World} (h:Three n x1 y1 x2 y2 W) (k:Nat):Three n x1 y1 x2 y2 (W.drewN k):=by
 obtain⟨⟨c0,c1,c2⟩,⟨d0,d1,d2⟩,⟨r0,r1,r2⟩,⟨f0,f1,f2⟩,hz⟩:=h
 refine⟨⟨?_,?_,?_⟩,⟨?_,?_,?_⟩,⟨?_,?_,?_⟩,⟨?_,?_,?_⟩,?_⟩
 all_goals(simp[go_sem];assumption)
theorem plus_same(x1 y1:F) (hn:y1 ≠ -y1) (w:World):Calls Tryz.prog 161 #[.agg #[.int .u64 (vz x1),.int .u64 (vz y1),.bool false],.agg #[.int .u64 (vz x1),.int .u64 (vz y1),.bool false]] w (Ret w (vp (addE (some (x1,y1)) (some (x1,y1))))):=by
 rw[addE_some,if_neg (fun h=>hn (Prod.mk.inj h).2)]
 have m:=minus_of x1 y1
 have e1:(vz y1 == vz (-y1))=false:=by
  rw[beq_eq_false_iff_ne]
  intro h
  exact hn (vz_inj h)
 clear hn
 rw[plus_val x1 y1 x1 y1 _ (slope_same x1 y1)]
 obtain⟨L,hL⟩:∃ L,L=(zf 3*(x1*x1)+zf 1)*inv (y1+y1):=⟨_,rfl⟩
 rw[←hL]
 obtain⟨X,hX⟩:∃ X,X=L*L - (x1+x1):=⟨_,rfl⟩
 rw[←hX]
 go_enter Tryz.func161, Tryz.ntmps161
 go_wp2_with fail
 (refine wp_region_later U U ?_;(repeat(go_big_quiet_step ((go_at_call 159; exact lq (m _)))));refine wpQuiet_nil ?_;intro w' hB)
 obtain⟨⟨c0,c1,c2⟩,⟨d0,d1,d2⟩,⟨r0,r1,r2⟩,⟨f0,f1,f2⟩,hz,hB0⟩:=boxes3 hB
 clear hB m
 go_wp2_with fail
 go_quiet ((go_at_call 177; exact qs (sub_calls _ _ (vz_nonneg _) (vz_nonneg _) _)))
 go_wp2_with fail
 go_quiet ((first
  | (go_at_call 169; exact qa (mul_calls _ _ (by first|with_reducible exact vz_nonneg _|with_reducible assumption|decide) (by first|with_reducible exact vz_nonneg _|with_reducible assumption|decide) _))
  | (go_at_call 168; exact qa (add_calls _ _ (by first|with_reducible exact vz_nonneg _|with_reducible assumption|decide) (by first|with_reducible exact vz_nonneg _|with_reducible assumption|decide) _))))
 go_wp2_with fail
 refine(inv_calls _ (vz_nonneg _) _).mono ?_
 rintro e w2 ⟨rfl,hB2⟩
 have hB3:Below w.heap.size w w2:=by clear c0 c1 c2 d0 d1 d2 r0 r1 r2 f0 f1 f2;exact bel
 obtain⟨⟨a0,a1,a2⟩,⟨b0,b1,b2⟩,⟨s0,s1,s2⟩,⟨g0,g1,g2⟩,hz2⟩:=(Three.drew (n:=w.heap.size) ⟨⟨c0,c1,c2⟩,⟨d0,d1,d2⟩,⟨r0,r1,r2⟩,⟨f0,f1,f2⟩,hz⟩ _).on hB2
 clear hB2 c0 c1 c2 d0 d1 d2 r0 r1 r2 f0 f1 f2 hB0 hz
 go_wp2_with fail
 refine(mul_calls _ _ (by first|with_reducible exact vz_nonneg _|with_reducible assumption|decide) (by first|with_reducible exact vz_nonneg _|with_reducible assumption|decide) _).mono ?_
 rintro e w' ⟨rfl,rfl⟩
 go_wp2_with fail
 go_quiet ((first
  | (go_at_call 169; exact qs (mul_calls _ _ (by first|with_reducible exact vz_nonneg _|with_reducible assumption|decide) (by first|with_reducible exact vz_nonneg _|with_reducible assumption|decide) _))
  | (go_at_call 168; exact qs (add_calls _ _ (by first|with_reducible exact vz_nonneg _|with_reducible assumption|decide) (by first|with_reducible exact vz_nonneg _|with_reducible assumption|decide) _))
  | (go_at_call 177; exact qs (sub_calls _ _ (by first|with_reducible exact vz_nonneg _|with_reducible assumption|decide) (by first|with_reducible exact vz_nonneg _|with_reducible assumption|decide) _))))
 go_wp2_with fail
 simp only[zf_vz]
 rw[←hL,←hX]
 go_region_held3 (fun W=>W.cell? ⟨w.heap.size,0,none⟩=some (.int .u64 (vz x1))∧W.cell? ⟨w.heap.size,1,none⟩=some (.int .u64 (vz y1))) (simp[go_sem,a0,a1]) ((first
  | (go_at_call 169; refine(mul_calls _ _ (by first|with_reducible exact vz_nonneg _|with_reducible assumption|decide) (by first|with_reducible exact vz_nonneg _|with_reducible assumption|decide) _).mono ?_;rintro e w' ⟨rfl,rfl⟩;simp only[zf_vz])
  | (go_at_call 177; refine(sub_calls _ _ (by first|with_reducible exact vz_nonneg _|with_reducible assumption|decide) (by first|with_reducible exact vz_nonneg _|with_reducible assumption|decide) _).mono ?_;rintro e w' ⟨rfl,rfl⟩;simp only[zf_vz])))
 all_goals go_wp2_with fail
 subst hX hL
 exact bodyPost_ret (v:=vp (some _)) (by simp (maxDischargeDepth:=9) [results,Tryz.results161, go_sem,vp,v2, *]) rfl ⟨rfl,bel⟩
theorem plus_over(x1 y1 x2 y2:F) (h1:x1≠x2) (w:World):Calls Tryz.prog 161 #[.agg #[.int .u64 (vz x1),.int .u64 (vz y1),.bool false],.agg #[.int .u64 (vz x2),.int .u64 (vz y2),.bool false]] w (Ret w (vp (addE (some (x1,y1)) (some (x2,y2))))):=by
 rw[addE_some,if_neg (fun h=>h1 (Prod.mk.inj h).1.symm),plus_val x1 y1 x2 y2 _ (slope_else (fun h=>h1 (Prod.mk.inj h).1))]
 have m:=minus_of x2 y2
 have e1:(vz x1 == vz x2)=false:=by
  rw[beq_eq_false_iff_ne]
  intro h
  exact h1 (vz_inj h)
 clear h1
 obtain⟨L,hL⟩:∃ L,L=(y2 - y1)*inv (x2 - x1):=⟨_,rfl⟩
 rw[←hL]
 obtain⟨X,hX⟩:∃ X,X=L*L - (x1+x2):=⟨_,rfl⟩
 rw[←hX]
 go_enter Tryz.func161, Tryz.ntmps161
 go_wp2_with fail
 (refine wp_region_later U U ?_;(repeat(go_big_quiet_step ((go_at_call 159; exact lq (m _)))));refine wpQuiet_nil ?_;intro w' hB)
 obtain⟨⟨c0,c1,c2⟩,⟨d0,d1,d2⟩,⟨r0,r1,r2⟩,⟨f0,f1,f2⟩,hz,hB0⟩:=boxes3 hB
 clear hB m
 go_wp2_with fail
 go_quiet ((go_at_call 177; exact qs (sub_calls _ _ (vz_nonneg _) (vz_nonneg _) _)))
 go_wp2_with fail
 refine(inv_calls _ (vz_nonneg _) _).mono ?_
 rintro e w2 ⟨rfl,hB2⟩
 have hB3:Below w.heap.size w w2:=by clear c0 c1 c2 d0 d1 d2 r0 r1 r2 f0 f1 f2;exact bel
 obtain⟨⟨a0,a1,a2⟩,⟨b0,b1,b2⟩,⟨s0,s1,s2⟩,⟨g0,g1,g2⟩,hz2⟩:=(Three.drew (n:=w.heap.size) ⟨⟨c0,c1,c2⟩,⟨d0,d1,d2⟩,⟨r0,r1,r2⟩,⟨f0,f1,f2⟩,hz⟩ _).on hB2
 clear hB2 c0 c1 c2 d0 d1 d2 r0 r1 r2 f0 f1 f2 hB0 hz
 go_wp2_with fail
 refine(mul_calls _ _ (by first|with_reducible exact vz_nonneg _|with_reducible assumption|decide) (by first|with_reducible exact vz_nonneg _|with_reducible assumption|decide) _).mono ?_
 rintro e w' ⟨rfl,rfl⟩
 go_wp2_with fail
 go_quiet ((first
  | (go_at_call 169; exact qs (mul_calls _ _ (by first|with_reducible exact vz_nonneg _|with_reducible assumption|decide) (by first|with_reducible exact vz_nonneg _|with_reducible assumption|decide) _))
  | (go_at_call 168; exact qs (add_calls _ _ (by first|with_reducible exact vz_nonneg _|with_reducible assumption|decide) (by first|with_reducible exact vz_nonneg _|with_reducible assumption|decide) _))
  | (go_at_call 177; exact qs (sub_calls _ _ (by first|with_reducible exact vz_nonneg _|with_reducible assumption|decide) (by first|with_reducible exact vz_nonneg _|with_reducible assumption|decide) _))))
 go_wp2_with fail
 simp only[zf_vz]
 rw[←hL,←hX]
 go_region_held3 (fun W=>W.cell? ⟨w.heap.size,0,none⟩=some (.int .u64 (vz x1))∧W.cell? ⟨w.heap.size,1,none⟩=some (.int .u64 (vz y1))) (simp[go_sem,a0,a1]) ((first
  | (go_at_call 169; refine(mul_calls _ _ (by first|with_reducible exact vz_nonneg _|with_reducible assumption|decide) (by first|with_reducible exact vz_nonneg _|with_reducible assumption|decide) _).mono ?_;rintro e w' ⟨rfl,rfl⟩;simp only[zf_vz])
  | (go_at_call 177; refine(sub_calls _ _ (by first|with_reducible exact vz_nonneg _|with_reducible assumption|decide) (by first|with_reducible exact vz_nonneg _|with_reducible assumption|decide) _).mono ?_;rintro e w' ⟨rfl,rfl⟩;simp only[zf_vz])))
 all_goals go_wp2_with fail
 subst hX hL
 exact bodyPost_ret (v:=vp (some _)) (by simp (maxDischargeDepth:=9) [results,Tryz.results161, go_sem,vp,v2, *]) rfl ⟨rfl,bel⟩
theorem plus_above(x2 y1 y2:F) (h1:y1 ≠ -y2) (h2:y1≠y2) (w:World):Calls Tryz.prog 161 #[.agg #[.int .u64 (vz x2),.int .u64 (vz y1),.bool false],.agg #[.int .u64 (vz x2),.int .u64 (vz y2),.bool false]] w (Ret w (vp (addE (some (x2,y1)) (some (x2,y2))))):=by
 have h3:y2 ≠ -y1:=fun h=>h1 (by rw[h];clear h h1 h2;grind -lia -linarith)
 rw[addE_some,if_neg (fun h=>h3 (Prod.mk.inj h).2),plus_val x2 y1 x2 y2 _ (slope_else (fun h=>h2 (Prod.mk.inj h).2))]
 have m:=minus_of x2 y2
 have e1:(vz y1 == vz (-y2))=false:=by
  rw[beq_eq_false_iff_ne]
  intro h
  exact h1 (vz_inj h)
 have e2:(vz y1 == vz y2)=false:=by
  rw[beq_eq_false_iff_ne]
  intro h
  exact h2 (vz_inj h)
 clear h1 h2 h3
 rw[show x2 - x2=0 from by grind -lia -linarith]
 obtain⟨L,hL⟩:∃ L,L=(y2 - y1)*inv 0:=⟨_,rfl⟩
 rw[←hL]
 obtain⟨X,hX⟩:∃ X,X=L*L - (x2+x2):=⟨_,rfl⟩
 rw[←hX]
 go_enter Tryz.func161, Tryz.ntmps161
 go_wp2_with fail
 (refine wp_region_later U U ?_;(repeat(go_big_quiet_step ((go_at_call 159; exact lq (m _)))));refine wpQuiet_nil ?_;intro w' hB)
 obtain⟨⟨c0,c1,c2⟩,⟨d0,d1,d2⟩,⟨r0,r1,r2⟩,⟨f0,f1,f2⟩,hz,hB0⟩:=boxes3 hB
 clear hB m
 go_wp2_with fail
 go_quiet ((go_at_call 177; exact qs (sub_calls _ _ (vz_nonneg _) (vz_nonneg _) _)))
 go_wp2_with fail
 refine(inv_calls _ (vz_nonneg _) _).mono ?_
 rintro e w2 ⟨rfl,hB2⟩
 have hB3:Below w.heap.size w w2:=by clear c0 c1 c2 d0 d1 d2 r0 r1 r2 f0 f1 f2;exact bel
 obtain⟨⟨a0,a1,a2⟩,⟨b0,b1,b2⟩,⟨s0,s1,s2⟩,⟨g0,g1,g2⟩,hz2⟩:=(Three.drew (n:=w.heap.size) ⟨⟨c0,c1,c2⟩,⟨d0,d1,d2⟩,⟨r0,r1,r2⟩,⟨f0,f1,f2⟩,hz⟩ _).on hB2
 clear hB2 c0 c1 c2 d0 d1 d2 r0 r1 r2 f0 f1 f2 hB0 hz
 go_wp2_with fail
 refine(mul_calls _ _ (by first|with_reducible exact vz_nonneg _|with_reducible assumption|decide) (by first|with_reducible exact vz_nonneg _|with_reducible assumption|decide) _).mono ?_
 rintro e w' ⟨rfl,rfl⟩
 go_wp2_with fail
 go_quiet ((first
  | (go_at_call 169; exact qs (mul_calls _ _ (by first|with_reducible exact vz_nonneg _|with_reducible assumption|decide) (by first|with_reducible exact vz_nonneg _|with_reducible assumption|decide) _))
  | (go_at_call 168; exact qs (add_calls _ _ (by first|with_reducible exact vz_nonneg _|with_reducible assumption|decide) (by first|with_reducible exact vz_nonneg _|with_reducible assumption|decide) _))
  | (go_at_call 177; exact qs (sub_calls _ _ (by first|with_reducible exact vz_nonneg _|with_reducible assumption|decide) (by first|with_reducible exact vz_nonneg _|with_reducible assumption|decide) _))))
 go_wp2_with fail
 simp only[zf_vz]
 rw[←hL,←hX]
 go_region_held3 (fun W=>W.cell? ⟨w.heap.size,0,none⟩=some (.int .u64 (vz x2))∧W.cell? ⟨w.heap.size,1,none⟩=some (.int .u64 (vz y1))) (simp[go_sem,a0,a1]) ((first
  | (go_at_call 169; refine(mul_calls _ _ (by first|with_reducible exact vz_nonneg _|with_reducible assumption|decide) (by first|with_reducible exact vz_nonneg _|with_reducible assumption|decide) _).mono ?_;rintro e w' ⟨rfl,rfl⟩;simp only[zf_vz])
  | (go_at_call 177; refine(sub_calls _ _ (by first|with_reducible exact vz_nonneg _|with_reducible assumption|decide) (by first|with_reducible exact vz_nonneg _|with_reducible assumption|decide) _).mono ?_;rintro e w' ⟨rfl,rfl⟩;simp only[zf_vz])))
 all_goals go_wp2_with fail
 subst hX hL
 exact bodyPost_ret (v:=vp (some _)) (by simp (maxDischargeDepth:=9) [results,Tryz.results161, go_sem,vp,v2, *]) rfl ⟨rfl,bel⟩
theorem plus_none(x y:Int) (i:Bool) (w:World):Calls Tryz.prog 161 #[.agg #[.int .u64 0,.int .u64 0,.bool true],.agg #[.int .u64 x,.int .u64 y,.bool i]] w (Ret w (.agg #[.int .u64 x,.int .u64 y,.bool i])):=by
 go_enter Tryz.func161, Tryz.ntmps161
 go_wp2_with fail
 exact bodyPost_ret (v:=.agg #[.int .u64 x,.int .u64 y,.bool i]) (by simp (maxDischargeDepth:=9) [results,Tryz.results161, go_sem,vp,v2, *]) rfl ⟨rfl,bel⟩
theorem plus_other(x y:Int) (w:World):Calls Tryz.prog 161 #[.agg #[.int .u64 x,.int .u64 y,.bool false],.agg #[.int .u64 0,.int .u64 0,.bool true]] w (Ret w (.agg #[.int .u64 x,.int .u64 y,.bool false])):=by
 go_enter Tryz.func161, Tryz.ntmps161
 go_wp2_with fail
 exact bodyPost_ret (v:=.agg #[.int .u64 x,.int .u64 y,.bool false]) (by simp (maxDischargeDepth:=9) [results,Tryz.results161, go_sem,vp,v2, *]) rfl ⟨rfl,bel⟩
theorem plus_calls(p q:E) (w:World):Calls Tryz.prog 161 #[vp p,vp q] w (Ret w (vp (addE p q))):=by
 rcases p with _|⟨x1,y1⟩
 ·rcases q with _|⟨x2,y2⟩
  ·exact plus_none 0 0 true w
  ·exact plus_none (vz x2) (vz y2) false w
 ·rcases q with _|⟨x2,y2⟩
  ·exact plus_other (vz x1) (vz y1) w
  ·by_cases h1:x1=x2
   ·subst h1
    by_cases h2:y1 = -y2
    ·have h3:y2 = -y1:=by rw[h2];grind -lia -linarith
     rw[addE_some,if_pos (by rw[←h3]),h3]
     exact plus_neg x1 y1 w
    ·by_cases h3:y1=y2
     ·subst h3
      exact plus_same x1 y1 h2 w
     ·exact plus_above x1 y1 y2 h2 h3 w
   ·exact plus_over x1 y1 x2 y2 h1 w
end
section
open Go.RowKit Go.Phx Go.Shelf
attribute [local go_sem] Oper.semAt_some
theorem bitsTop_prefix(x:Int) (k:Nat) (hk:k≤64):bitsTop x k <+: bitsTop x 64:=by
 have h:∀ m,bitsTop x k <+: bitsTop x (k+m):=by
  intro m
  induction m with
  | zero=>exact List.prefix_rfl
  | succ m ih =>
   by_cases hs:0<x / 2 ^ (63 - (k+m))
   ·rw[show k+(m+1)=(k+m)+1 from rfl,bitsTop_set x _ hs]
    exact ih.trans (List.prefix_append _ _)
   ·rw[show k+(m+1)=(k+m)+1 from rfl,bitsTop_unset x _ hs]
    exact ih
 have:=h (64 - k)
 rwa [show k+(64 - k)=64 by omega]at this
theorem cdigits1_in(F:Fence) (n:Nat) (h7:F.fn 186) (hro:F.round=none) (hn:1≤n) (l Bs:Nat) (x:Int) (hx:0≤x) (hx2:x≤18446744073709551615) (J Jx:List Bool→World→Prop)
  (hY:∀ pre x W,J pre W→pre.length<64→YieldAt F (n - 1) Tryz.prog l #[.bool x] W fun e W' =>
   (e=.returned (.bool true)∧J (pre ++ [x]) W'∧KeepB Bs W W')∨(e=.returned (.bool false)∧Jx (pre ++ [x]) W'))
  (W:World) (hBs:W.cell? ⟨Bs,0,none⟩=some (.int .u64 x)) (h0:J [] W) :
  CallsIn F n Tryz.prog 186 #[.func (.yield l) #[] #[],.pointer (some ⟨Bs,0,none⟩)] W fun e W'=>(∃ v,e=.returned v) ∧
   ((∃ ys,ys=bitsTop x 64∧J ys W')∨(∃ pre,(∃ k,k≤64∧pre=bitsTop x k)∧Jx pre W')):=by
 have hbit:=bit_and x hx hx2
 clear hx2
 refine callsIn_of_wp Tryz.func186 rfl h7 ?_ hro
 simp only[Tryz.ntmps186, List.size_toArray,List.length_cons,List.length_nil,Nat.reduceAdd,Nat.reduceSub,Array.replicate_succ,Array.replicate_zero,List.push_toArray,List.append_toArray,List.nil_append,List.cons_append]
 gi_wp2
 gi_loopw [3] (fun i wr=>∃ k:Nat,k≤64∧i=.int .i64 (63 - k)∧J (bitsTop x k) wr∧KeepB Bs W wr)
  (fun i _=>(intOf i+1).toNat)
 case atStart=>exact⟨0,Nat.zero_le _,by simp,h0,KeepB.refl _ _⟩
 case round =>
  obtain⟨k,hk,rfl,hJs,hnx⟩:=hrel
  have hcx:wr.cell? ⟨Bs,0,none⟩=some (.int .u64 x):=(hnx.cell 0).trans hBs
  by_cases hlt:k<64
  ·by_cases hs:0<x / 2 ^ (63 - k)
   ·have HT:=Z (bitsTop_set x k hs)
    obtain⟨fn,tmps,assign,body,hy,hR⟩:=hY _ (bitAt x (63 - k)) wr hJs (Nat.lt_of_le_of_lt (bitsTop_length x k) hlt)
    gi_wp2
    refine hR.mono ?_
    rintro e W3 (⟨rfl,hJ3,hk3⟩|⟨rfl,hJx3⟩)
    ·gi_wp2
     go_roundw
     case rel=>exact⟨k+1,by omega,by congr 1;omega,by rw[HT.out];exact hJ3,hnx.trans hk3⟩
     case measure=>simp[intOf];omega
    ·gi_wp2
     refine bodyPost_ret (results_none rfl _ _ _) rfl ?_
     exact⟨⟨_,rfl⟩,.inr ⟨_,⟨k+1,by omega,HT.out.symm⟩,hJx3⟩⟩
   ·have HT:=Z (bitsTop_unset x k hs)
    gi_wp2
    refine⟨(fun f h=>by cases h),?_⟩
    gi_wp2
    go_roundw
    case rel=>exact⟨k+1,by omega,by congr 1;omega,by rw[HT.out];exact hJs,hnx⟩
    case measure=>simp[intOf];omega
  ·obtain rfl:k=64:=by omega
   gi_wp2
   go_end0
   exact⟨⟨_,rfl⟩,.inl ⟨_,rfl,hJs⟩⟩
theorem cdigits_stops(F:Fence) (n:Nat) (h7:F.fn 186) (hro:F.round=none) (hn:1≤n) (Bs:Nat) (x:Int) (hx:0≤x) (hx2:x≤18446744073709551615) (w:World) (hBs:Bs<w.heap.size)
  (hc:w.cell? ⟨Bs,0,none⟩=some (.int .u64 x)) :
  SeqStopsK F n Tryz.prog 186 #[.pointer (some ⟨Bs,0,none⟩)] (fun b:Bool => #[Value.bool b]) (KeepB Bs) (fun ys=>ys=bitsTop x 64) (fun pre=>pre <+: bitsTop x 64) 64 w:=fun l J Jx W hW _ _ hY h0=>by
 refine(cdigits1_in F n h7 hro hn l Bs x hx hx2 J Jx hY W ((hW.cell (p:=⟨Bs,0,none⟩) hBs).trans hc) h0).mono ?_
 rintro e W' ⟨he,⟨ys,rfl,hj⟩|⟨pre,⟨k,hk,rfl⟩,hj⟩⟩
 ·exact⟨he,.inl ⟨_,rfl,hj⟩⟩
 ·exact⟨he,.inr ⟨_,bitsTop_prefix x k hk,hj⟩⟩
theorem cdigits_in(F:Fence) (n:Nat) (h5:F.fn 179) (hro:F.round=none) (x:Int) (w:World) :
  CallsIn F n Tryz.prog 179 #[.int .u64 x] w fun e w'=>e=.returned (.func (.func 186) #[] #[.pointer (some ⟨w.heap.size,0,none⟩)])∧w'=w.alloc (.cells #[.int .u64 x] 22):=by
 refine callsIn_of_wp Tryz.func179 rfl h5 ?_ hro
 simp only[Tryz.ntmps179, List.size_toArray,List.length_cons,List.length_nil,Nat.reduceAdd,Nat.reduceSub,Array.replicate_succ,Array.replicate_zero,List.push_toArray,List.append_toArray,List.nil_append,List.cons_append]
 gi_wp2
 go_ret
 exact⟨rfl,rfl⟩
def px:E→Int|none=>0|some (x,_)=>vz x
def py:E→Int|none=>0|some (_,y)=>vz y
def pf:E→Bool|none=>true|some _=>false
theorem vp_parts(p:E):vp p=.agg #[.int .u64 (px p),.int .u64 (py p),.bool (pf p)]:=by
 rcases p with _|⟨x,y⟩ <;> rfl
theorem px_nonneg(p:E):0≤px p:=by
 rcases p with _|⟨x,y⟩
 ·exact Int.le_refl _
 ·exact vz_nonneg _
theorem py_nonneg(p:E):0≤py p:=by
 rcases p with _|⟨x,y⟩
 ·exact Int.le_refl _
 ·exact vz_nonneg _
theorem plus_u(p q:E) (w:World):Calls Tryz.prog 161 #[.agg #[.int .u64 (px p),.int .u64 (py p),.bool (pf p)],.agg #[.int .u64 (px q),.int .u64 (py q),.bool (pf q)]] w (Ret w (.agg #[.int .u64 (px (addE p q)),.int .u64 (py (addE p q)),.bool (pf (addE p q))])):=by
 rw[←vp_parts,←vp_parts,←vp_parts]
 exact plus_calls p q w
def TimesAt(n b:Nat) (p o:E) (W:World):Prop :=
 n+1<b∧b<W.heap.size ∧
 (W.cell? ⟨n,0,none⟩=some (.int .u64 (px p))∧W.cell? ⟨n,1,none⟩=some (.int .u64 (py p))∧W.cell? ⟨n,2,none⟩=some (.bool (pf p))) ∧
 (W.cell? ⟨n+1,0,none⟩=some (.int .u64 0)∧W.cell? ⟨n+1,1,none⟩=some (.int .u64 0)∧W.cell? ⟨n+1,2,none⟩=some (.bool false)) ∧
 (W.frozen? ⟨n+1,0,none⟩=false∧W.frozen? ⟨n+1,1,none⟩=false∧W.frozen? ⟨n+1,2,none⟩=false) ∧
 (W.cell? ⟨b,0,none⟩=some (.int .u64 (px o))∧W.cell? ⟨b,1,none⟩=some (.int .u64 (py o))∧W.cell? ⟨b,2,none⟩=some (.bool (pf o))) ∧
 (W.frozen? ⟨b,0,none⟩=false∧W.frozen? ⟨b,1,none⟩=false∧W.frozen? ⟨b,2,none⟩=false)
theorem TimesAt.on{n b:Nat}{p o:E}{W W2:World} (h:TimesAt n b p o W) (hB:Below W.heap.size W W2):TimesAt n b p o W2:=by
 obtain⟨h0,h1,⟨a0,a1,a2⟩,⟨b0,b1,b2⟩,⟨c0,c1,c2⟩,⟨d0,d1,d2⟩,⟨e0,e1,e2⟩⟩:=h
 obtain⟨hc,hf⟩:=bcell hB
 have hz2:=hB.size
 refine⟨h0,?_,⟨?_,?_,?_⟩,⟨?_,?_,?_⟩,⟨?_,?_,?_⟩,⟨?_,?_,?_⟩,⟨?_,?_,?_⟩⟩
 all_goals first|(rw[hc _ _ (by omega)];assumption)|(rw[hf _ _ (by omega)];assumption)|omega
def put3(W:World) (b:Nat) (o:E):World:=((W.setCell ⟨b,0,none⟩ (.int .u64 (px o))).setCell ⟨b,1,none⟩ (.int .u64 (py o))).setCell ⟨b,2,none⟩ (.bool (pf o))
theorem TimesAt.put{n b:Nat}{p o:E}{W:World} (h:TimesAt n b p o W) (o':E):TimesAt n b p o' (put3 W b o'):=by
 obtain⟨h0,h1,⟨a0,a1,a2⟩,⟨b0,b1,b2⟩,⟨c0,c1,c2⟩,⟨d0,d1,d2⟩,⟨e0,e1,e2⟩⟩:=h
 have n1:n≠b:=by omega
 have n2:n+1≠b:=by omega
 unfold put3
 refine⟨h0,by simp;omega,⟨?_,?_,?_⟩,⟨?_,?_,?_⟩,⟨?_,?_,?_⟩,⟨?_,?_,?_⟩,⟨?_,?_,?_⟩⟩
 all_goals(simp (maxDischargeDepth:=9) [go_sem,n1,n2,n1.symm,n2.symm, *])
theorem TimesAt.own(n b:Nat) (p:E):Own (fun pre W=>TimesAt n b p (timesBits p pre) W):=fun _ _ _ _ ⟨h0,h1,⟨a0,a1,a2⟩,⟨b0,b1,b2⟩,⟨c0,c1,c2⟩,⟨d0,d1,d2⟩,⟨e0,e1,e2⟩⟩ hg hr =>
 ⟨h0,Nat.lt_of_lt_of_le h1 hg.size,⟨cell_kept a0 hg hr,cell_kept a1 hg hr,cell_kept a2 hg hr⟩,⟨cell_kept b0 hg hr,cell_kept b1 hg hr,cell_kept b2 hg hr⟩,
 ⟨(frozen_kept b0 hg hr).trans c0,(frozen_kept b1 hg hr).trans c1,(frozen_kept b2 hg hr).trans c2⟩,⟨cell_kept d0 hg hr,cell_kept d1 hg hr,cell_kept d2 hg hr⟩,
 ⟨(frozen_kept d0 hg hr).trans e0,(frozen_kept d1 hg hr).trans e1,(frozen_kept d2 hg hr).trans e2⟩⟩
theorem TimesAt.start{t:TypeId}{p:E}{w w1:World}
  (hB:Below ((w.alloc (.cells #[.int .u64 (px p),.int .u64 (py p),.bool (pf p)] t)).alloc (.cells #[.int .u64 0,.int .u64 0,.bool false] t)).heap.size
   ((w.alloc (.cells #[.int .u64 (px p),.int .u64 (py p),.bool (pf p)] t)).alloc (.cells #[.int .u64 0,.int .u64 0,.bool false] t)) w1) :
  TimesAt w.heap.size w1.heap.size p none (w1.alloc (.cells #[.int .u64 0,.int .u64 0,.bool true] t))∧Below w.heap.size w (w1.alloc (.cells #[.int .u64 0,.int .u64 0,.bool true] t)):=by
 obtain⟨hc,hf⟩:=bcell hB
 have hz:=hB.size
 have hB0:Below w.heap.size w w1:=bel
 simp at hz
 refine⟨⟨by omega,by simp,⟨?_,?_,?_⟩,⟨?_,?_,?_⟩,⟨?_,?_,?_⟩,⟨?_,?_,?_⟩,⟨?_,?_,?_⟩⟩,bel⟩
 all_goals first
  | (simp[go_sem,px,py,pf];done)
  | (rw[show ∀ (b o:Nat) (_:b<w1.heap.size),(w1.alloc (.cells #[.int .u64 0,.int .u64 0,.bool true] t)).cell? ⟨b,o,none⟩=w1.cell? ⟨b,o,none⟩ from fun b o hb=>by simp[go_sem,hb]] <;> first|omega|(rw[hc _ _ (by first|(simp;done)|(simp;omega))];simp[go_sem];done))
  | (rw[show ∀ (b o:Nat) (_:b<w1.heap.size),(w1.alloc (.cells #[.int .u64 0,.int .u64 0,.bool true] t)).frozen? ⟨b,o,none⟩=w1.frozen? ⟨b,o,none⟩ from fun b o hb=>by simp[go_sem,hb]] <;> first|omega|(rw[hf _ _ (by first|(simp;done)|(simp;omega))];simp[go_sem];done))
theorem keeps_put(W:World) (b:Nat) (o:E):KeepsOthers W (put3 W b o):=((KeepsOthers.setCell _ _ _).trans (KeepsOthers.setCell _ _ _)).trans (KeepsOthers.setCell _ _ _)
theorem keepb_put{B b:Nat} (h:B≠b) (W:World) (o:E):KeepB B W (put3 W b o):=((KeepB.setCell (a:=⟨b,0,none⟩) h _).trans (KeepB.setCell (a:=⟨b,1,none⟩) h _)).trans (KeepB.setCell (a:=⟨b,2,none⟩) h _)
theorem size_put(W:World) (b:Nat) (o:E):(put3 W b o).heap.size=W.heap.size:=by simp[put3]
theorem size_own(k:Nat):Own (fun(_:List Bool) W=>k<W.heap.size):=fun _ _ _ _ h hg _=>Nat.lt_of_lt_of_le h hg.size
theorem times_calls(p:E) (x:Int) (hx:0≤x) (hx2:x≤18446744073709551615) (w:World) :
  Calls Tryz.prog 162 #[.int .u64 x,.agg #[.int .u64 (px p),.int .u64 (py p),.bool (pf p)]] w (Ret w (vp (timesE x p))):=by
 have TT:=timesE_top x hx p
 obtain⟨O,hO⟩:∃ O,timesE x p=O:=⟨_,rfl⟩
 rw[hO]at TT ⊢
 clear hO
 rw[vp_parts]
 replace TT:=Z TT
 refine(callsIn_wide (n:=9)).1 ?_
 have hwf:∀ f,Fence.wide.fn f:=fun _=>trivial
 refine callsIn_of_wp_marks Tryz.func162 rfl trivial ?_ rfl
 simp only[Tryz.ntmps162, List.size_toArray,List.length_cons,List.length_nil,Nat.reduceAdd,Nat.reduceSub,Array.replicate_succ,Array.replicate_zero,List.push_toArray,List.append_toArray,List.nil_append,List.cons_append]
 gi_wp2
 refine wpIn_scope ?_
 gi_wp2_with fail
 refine(callsIn_wide.2 (none_x _)).mono ?_
 rintro e w1 ⟨rfl,hB1⟩
 gi_wp2_with fail
 obtain⟨hT0,hB0⟩:=TimesAt.start hB1
 clear hB1
 refine wpIn_label ?_
 gi_wp2_with(gi_at_call 179; refine(cdigits_in Fence.wide _ trivial rfl _ _).mono ?_;rintro e w' ⟨rfl,rfl⟩)
 have hw1:w.heap.size+1+1≤w1.heap.size:=by have:=hT0.1;omega
 obtain⟨W0,hW0⟩:∃ W0,(w1.alloc (.cells #[.int .u64 0,.int .u64 0,.bool true] 153)).alloc (.cells #[.int .u64 x] 22)=W0:=⟨_,rfl⟩
 have hs0:W0.heap.size=w1.heap.size+2:=by rw[←hW0];simp
 have hB2:Below w.heap.size w W0:=by rw[←hW0];exact hB0.alloc (by simp;omega) _
 have cx:W0.cell? ⟨w1.heap.size+1,0,none⟩=some (.int .u64 x):=by rw[←hW0];simp[go_sem]
 have hT1:TimesAt w.heap.size w1.heap.size p none W0:=by rw[←hW0];exact hT0.on ((Below.refl _ _).alloc (Nat.le_refl _) _)
 clear hT0 hB0
 rw[hW0]
 have hf:=enters_of Tryz.func186 U rfl
 clear hW0
 refine wpIn_rangeFunc_ownF rfl (by decide) (gf := 186) (lb := #[.pointer (some ⟨w1.heap.size+1,0,none⟩)]) rfl trivial hf
  (cdigits_stops Fence.wide _ trivial rfl (by decide) (w1.heap.size+1) x hx hx2 W0 (by omega) cx) keepB_t (keepB_b (by omega)) (Below.refl _ _) (fun _=>rfl)
  (fun pre W=>(TimesAt w.heap.size w1.heap.size p (timesBits p pre) W∧w1.heap.size+1<W.heap.size)∧Below w.heap.size w W)
  (fun _ _ _=>False)
  (OwnFrom.and (OwnFrom.and (Own.from (TimesAt.own _ _ _) _) (Own.from (size_own _) _)) (ownFrom_below (Nat.le_refl _) (by omega)))
  (fun _ _ _ _ _ hs _ _=>hs)
  ⟨⟨hT1,by omega⟩,hB2⟩
  (fun y=>{ tmps := #[.int .u64 x,.agg #[.int .u64 (px p),.int .u64 (py p),.bool (pf p)],undef,.pointer (some ⟨w.heap.size,0,none⟩),.pointer (some ⟨w.heap.size+1,0,none⟩),.pointer (some ⟨w1.heap.size,0,none⟩),.bool y,.agg #[.int .u64 0,.int .u64 0,.bool true],.int .u64 x,.func (.func 186) #[] #[.pointer (some ⟨w1.heap.size+1,0,none⟩)],.bool y,undef,undef,undef,undef,undef,undef,undef,undef,undef],defers:=[] }) ?assign ?body ?done ?stop
 case assign =>
  intro l x W K hK
  gi_wp2
  exact hK
 case body =>
  rintro l pre y W ⟨⟨hT,hk⟩,hB⟩ _
  obtain⟨o,ho⟩:∃ o,timesBits p pre=o:=⟨_,rfl⟩
  have HS:=timesBits_snoc p pre y
  rw[ho]at hT HS
  clear ho
  have HT:=Z hT
  obtain⟨h0,h1,⟨a0,a1,a2⟩,⟨b0,b1,b2⟩,⟨c0,c1,c2⟩,⟨d0,d1,d2⟩,⟨e0,e1,e2⟩⟩:=hT
  clear hT1 hB2 cx
  cases y
  ·replace HS:=Z (HS.trans (by rfl:_=addE o o))
   gi_wp2_with fail
   refine(CallsIn.inRound l (callsIn_wide.2 (plus_u o o _))).mono ?_
   rintro e w2 ⟨rfl,hB2⟩
   have HT2:=Z (HT.out.on hB2)
   have hB4:Below w.heap.size w w2:=by clear a0 a1 a2 b0 b1 b2 c0 c1 c2 d0 d1 d2 e0 e1 e2;exact bel
   clear h0 h1 a0 a1 a2 b0 b1 b2 c0 c1 c2 d0 d1 d2 e0 e1 e2
   obtain⟨h0,h1,⟨a0,a1,a2⟩,⟨b0,b1,b2⟩,⟨c0,c1,c2⟩,⟨d0,d1,d2⟩,⟨e0,e1,e2⟩⟩:=HT2.out
   gi_wp2_with fail
   clear a0 a1 a2 b0 b1 b2 c0 c1 c2 d0 d1 d2 e0 e1 e2
   exact⟨(KeepsOthers.below hB2).trans (keeps_put w2 w1.heap.size (addE o o)),(KeepB.below hB2 hk).trans (keepb_put (by omega) w2 (addE o o)),⟨by rw[HS.out];exact HT2.out.put _,by have:=hB2.size;have:=size_put w2 w1.heap.size (addE o o);unfold put3 at this;omega⟩,bel⟩
  ·replace HS:=Z (HS.trans (by rfl:_=addE (addE o o) p))
   gi_wp2_with fail
   refine(CallsIn.inRound l (callsIn_wide.2 (plus_u o o _))).mono ?_
   rintro e w2 ⟨rfl,hB2⟩
   have HT2:=Z (HT.out.on hB2)
   have hB4:Below w.heap.size w w2:=by clear a0 a1 a2 b0 b1 b2 c0 c1 c2 d0 d1 d2 e0 e1 e2;exact bel
   clear h0 h1 a0 a1 a2 b0 b1 b2 c0 c1 c2 d0 d1 d2 e0 e1 e2
   obtain⟨h0,h1,⟨a0,a1,a2⟩,⟨b0,b1,b2⟩,⟨c0,c1,c2⟩,⟨d0,d1,d2⟩,⟨e0,e1,e2⟩⟩:=HT2.out
   have HT3:=Z (HT2.out.put (addE o o))
   gi_wp2_with fail
   refine(CallsIn.inRound l (callsIn_wide.2 (plus_u (addE o o) p _))).mono ?_
   rintro e w3 ⟨rfl,hB3⟩
   have HT4:=Z (HT3.out.on hB3)
   have hB5:Below w.heap.size w w3:=by clear a0 a1 a2 b0 b1 b2 c0 c1 c2 d0 d1 d2 e0 e1 e2;exact bel
   clear h0 h1 a0 a1 a2 b0 b1 b2 c0 c1 c2 d0 d1 d2 e0 e1 e2
   obtain⟨h0,h1,⟨a0,a1,a2⟩,⟨b0,b1,b2⟩,⟨c0,c1,c2⟩,⟨d0,d1,d2⟩,⟨e0,e1,e2⟩⟩:=HT4.out
   gi_wp2_with fail
   clear a0 a1 a2 b0 b1 b2 c0 c1 c2 d0 d1 d2 e0 e1 e2
   have z2:=size_put w2 w1.heap.size (addE o o)
   have z3:w1.heap.size+1<(put3 w2 w1.heap.size (addE o o)).heap.size:=by have:=hB2.size;omega
   exact⟨(((KeepsOthers.below hB2).trans (keeps_put w2 w1.heap.size (addE o o))).trans (KeepsOthers.below hB3)).trans (keeps_put w3 w1.heap.size (addE (addE o o) p)),
    (((KeepB.below hB2 hk).trans (keepb_put (by omega) w2 (addE o o))).trans (KeepB.below hB3 z3)).trans (keepb_put (by omega) w3 (addE (addE o o) p)),
    ⟨by rw[HS.out];exact HT4.out.put _,by have:=hB3.size;have:=size_put w3 w1.heap.size (addE (addE o o) p);unfold put3 at *;omega⟩,bel⟩
 case done =>
  rintro D ys W hD rfl ⟨⟨hT,hk⟩,hB⟩ hK
  rw[TT.out]at hT
  obtain⟨h0,h1,⟨a0,a1,a2⟩,⟨b0,b1,b2⟩,⟨c0,c1,c2⟩,⟨d0,d1,d2⟩,⟨e0,e1,e2⟩⟩:=hT
  gi_wp2
  have hK':=(keeps_put W (w.heap.size+1) O).same D _ hK rfl
  have hB5:Below w.heap.size w (put3 W (w.heap.size+1) O):=by unfold put3;exact bel
  have k0:(put3 W (w.heap.size+1) O).cell? ⟨w.heap.size+1,0,none⟩=some (.int .u64 (px O)):=by unfold put3;simp (maxDischargeDepth:=9) [go_sem, *]
  have k1:(put3 W (w.heap.size+1) O).cell? ⟨w.heap.size+1,1,none⟩=some (.int .u64 (py O)):=by unfold put3;simp (maxDischargeDepth:=9) [go_sem, *]
  have k2:(put3 W (w.heap.size+1) O).cell? ⟨w.heap.size+1,2,none⟩=some (.bool (pf O)):=by unfold put3;simp (maxDischargeDepth:=9) [go_sem, *]
  rw[Exit.noGoto_ret]
  refine⟨by simp,.inl ⟨_,_,rfl,run_takeDeferred hK',?_⟩⟩
  have f0:=cell_kept k0 (grownBy_putObj' _ D (.deferred none)) (fun r e=>by cases e;exact⟨_,hK',rfl⟩)
  have f1:=cell_kept k1 (grownBy_putObj' _ D (.deferred none)) (fun r e=>by cases e;exact⟨_,hK',rfl⟩)
  have f2:=cell_kept k2 (grownBy_putObj' _ D (.deferred none)) (fun r e=>by cases e;exact⟨_,hK',rfl⟩)
  unfold put3 at *
  exact⟨.agg #[.int .u64 (px O),.int .u64 (py O),.bool (pf O)],by simp[results,Tryz.results162, go_sem,f0,f1,f2],rfl,below_shut hB5 (Nat.le_refl _) (by omega)⟩
 case stop =>
  rintro D c pre W _ _ h _
  exact h.elim
end
section
open BigFrame Go.RowKit Go.Phx Go.Shelf
attribute [local go_sem] Oper.semAt_some
def rx:Option E→Int|none=>0|some p=>px p
def ry:Option E→Int|none=>0|some p=>py p
def ri:Option E→Bool|none=>false|some p=>pf p
def re:Option E→Int|none=>100|some _=>0
noncomputable def said (x y:Int) (i:Bool):Option E:=if isOn x y i then some (ptOf x y i) else none
theorem said_none{x y:Int}{i:Bool} (h:isOn x y i=false):said x y i=none:=by unfold said;rw[h];rfl
theorem said_some{x y:Int}{i:Bool} (hx:0≤x) (hy:0≤y) (h:isOn x y i=true):∃ p,onE p=true∧said x y i=some p∧x=px p∧y=py p∧i=pf p:=by
 obtain⟨h1,h2⟩:=isOn_pt hx hy h
 refine⟨ptOf x y i,h2,by unfold said;rw[h];rfl,?_⟩
 rw[vp_parts]at h1
 injection h1 with h1
 injection h1 with h1
 injection h1 with e1 h1
 injection h1 with e2 h1
 injection h1 with e3 h1
 injection e1 with _ e1
 injection e2 with _ e2
 injection e3 with e3
 exact⟨e1,e2,e3⟩
theorem isOn_parts{p:E} (h:onE p=true):isOn (px p) (py p) (pf p)=true:=by
 rcases p with _|⟨x,y⟩
 ·show isOn 0 0 true=true
  unfold isOn;simp
 ·show isOn (vz x) (vz y) false=true
  rw[isOn_vp];exact h
theorem said_parts{p:E} (h:onE p=true):said (px p) (py p) (pf p)=some p:=by
 obtain⟨q,hq,h1,h2,h3,h4⟩:=said_some (px_nonneg p) (py_nonneg p) (isOn_parts h)
 rw[h1]
 rcases p with _|⟨x,y⟩ <;> rcases q with _|⟨x',y'⟩
 ·rfl
 ·exact absurd h4 (by simp[pf])
 ·exact absurd h4 (by simp[pf])
 ·have e1:x=x':=vz_inj h2
  have e2:y=y':=vz_inj h3
  rw[e1,e2]
def Trio(n:Nat) (x1 y1:Int) (i1:Bool) (x2 y2:Int) (i2:Bool) (W:World):Prop :=
 (W.cell? ⟨n,0,none⟩=some (.int .u64 x1)∧W.cell? ⟨n,1,none⟩=some (.int .u64 y1)∧W.cell? ⟨n,2,none⟩=some (.bool i1)) ∧
 (W.cell? ⟨n+1,0,none⟩=some (.int .u64 x2)∧W.cell? ⟨n+1,1,none⟩=some (.int .u64 y2)∧W.cell? ⟨n+1,2,none⟩=some (.bool i2)) ∧
 (W.cell? ⟨n+1+1,0,none⟩=some (.int .u64 0)∧W.cell? ⟨n+1+1,1,none⟩=some (.int .u64 0)∧W.cell? ⟨n+1+1,2,none⟩=some (.bool false)) ∧
 (W.frozen? ⟨n+1+1,0,none⟩=false∧W.frozen? ⟨n+1+1,1,none⟩=false∧W.frozen? ⟨n+1+1,2,none⟩=false) ∧
 n+1+1<W.heap.size
theorem Trio.on{n:Nat}{x1 y1 x2 y2:Int}{i1 i2:Bool}{W W2:World} (h:Trio n x1 y1 i1 x2 y2 i2 W) (hB:Below W.heap.size W W2):Trio n x1 y1 i1 x2 y2 i2 W2:=by
 obtain⟨⟨c0,c1,c2⟩,⟨d0,d1,d2⟩,⟨r0,r1,r2⟩,⟨f0,f1,f2⟩,hz⟩:=h
 obtain⟨hc,hf⟩:=bcell hB
 have hz2:=hB.size
 refine⟨⟨?_,?_,?_⟩,⟨?_,?_,?_⟩,⟨?_,?_,?_⟩,⟨?_,?_,?_⟩,?_⟩
 all_goals first|(rw[hc _ _ (by omega)];assumption)|(rw[hf _ _ (by omega)];assumption)|omega
def Duo(n:Nat) (x1 y1:Int) (i1:Bool) (W:World):Prop :=
 (W.cell? ⟨n,0,none⟩=some (.int .u64 x1)∧W.cell? ⟨n,1,none⟩=some (.int .u64 y1)∧W.cell? ⟨n,2,none⟩=some (.bool i1)) ∧
 (W.cell? ⟨n+1,0,none⟩=some (.int .u64 0)∧W.cell? ⟨n+1,1,none⟩=some (.int .u64 0)∧W.cell? ⟨n+1,2,none⟩=some (.bool false)) ∧
 (W.frozen? ⟨n+1,0,none⟩=false∧W.frozen? ⟨n+1,1,none⟩=false∧W.frozen? ⟨n+1,2,none⟩=false) ∧
 n+1<W.heap.size
theorem Duo.on{n:Nat}{x1 y1:Int}{i1:Bool}{W W2:World} (h:Duo n x1 y1 i1 W) (hB:Below W.heap.size W W2):Duo n x1 y1 i1 W2:=by
 obtain⟨⟨c0,c1,c2⟩,⟨r0,r1,r2⟩,⟨f0,f1,f2⟩,hz⟩:=h
 obtain⟨hc,hf⟩:=bcell hB
 have hz2:=hB.size
 refine⟨⟨?_,?_,?_⟩,⟨?_,?_,?_⟩,⟨?_,?_,?_⟩,?_⟩
 all_goals first|(rw[hc _ _ (by omega)];assumption)|(rw[hf _ _ (by omega)];assumption)|omega
theorem Duo.start{x1 y1:Int}{i1:Bool}{t:TypeId}{w:World} :
  Duo w.heap.size x1 y1 i1 ((w.alloc (.cells #[.int .u64 x1,.int .u64 y1,.bool i1] t)).alloc (.cells #[.int .u64 0,.int .u64 0,.bool false] t)):=by
 refine⟨⟨?_,?_,?_⟩,⟨?_,?_,?_⟩,⟨?_,?_,?_⟩,?_⟩
 all_goals simp[go_sem]
abbrev outV(r:Option E):Value:=.tuple #[.agg #[.int .u64 (rx r),.int .u64 (ry r),.bool (ri r)],.int .i64 (re r)]
theorem minus_u(p:E) (w:World):Calls Tryz.prog 159 #[.agg #[.int .u64 (px p),.int .u64 (py p),.bool (pf p)]] w (Ret w (.agg #[.int .u64 (px (negE p)),.int .u64 (py (negE p)),.bool (pf (negE p))])):=by
 rw[←vp_parts,←vp_parts]
 exact minus_vp p w
theorem times_u(p:E) (x:Int) (hx:0≤x) (hx2:x≤18446744073709551615) (w:World):Calls Tryz.prog 162 #[.int .u64 x,.agg #[.int .u64 (px p),.int .u64 (py p),.bool (pf p)]] w (Ret w (.agg #[.int .u64 (px (timesE x p)),.int .u64 (py (timesE x p)),.bool (pf (timesE x p))])):=by
 rw[←vp_parts (timesE x p)]
 exact times_calls p x hx hx2 w
theorem on_p{p:E} (hp:onE p=true) (w:World):Calls Tryz.prog 160 #[.agg #[.int .u64 (px p),.int .u64 (py p),.bool (pf p)]] w (Ret w (.bool true)):=by
 rw[←isOn_parts hp]
 exact on_calls _ _ _ (px_nonneg p) (py_nonneg p) w
theorem on_x{x y:Int}{i:Bool} (hx:0≤x) (hy:0≤y) (h:isOn x y i=false) (w:World):Calls Tryz.prog 160 #[.agg #[.int .u64 x,.int .u64 y,.bool i]] w (Ret w (.bool false)):=by
 rw[←h]
 exact on_calls _ _ _ hx hy w
theorem add_good(p q:E) (hp:onE p=true) (hq:onE q=true) (w:World) :
  Calls Tryz.prog 127 #[.agg #[.int .u64 (px p),.int .u64 (py p),.bool (pf p)],.agg #[.int .u64 (px q),.int .u64 (py q),.bool (pf q)]] w (Ret w (.tuple #[.agg #[.int .u64 (px (addE p q)),.int .u64 (py (addE p q)),.bool (pf (addE p q))],.int .i64 0])):=by
 have n1:=on_p hp
 have n2:=on_p hq
 have n3:=plus_u p q
 go_enter Tryz.func127, Tryz.ntmps127
 go_wp2_with fail
 refine(n1 _).mono ?_
 rintro e w1 ⟨rfl,hBw1⟩
 have HT:=Z (boxes3 hBw1)
 obtain⟨⟨c0,c1,c2⟩,⟨d0,d1,d2⟩,⟨r0,r1,r2⟩,⟨f0,f1,f2⟩,hz,hB0⟩:=HT.out
 clear hBw1
 go_wp2_with fail
 refine(n2 _).mono ?_
 rintro e w2 ⟨rfl,hBw2⟩
 have HTw2:=Z (Trio.on (n:=w.heap.size) ⟨⟨c0,c1,c2⟩,⟨d0,d1,d2⟩,⟨r0,r1,r2⟩,⟨f0,f1,f2⟩,hz⟩ hBw2)
 replace hB0:=Below.on hBw2 hB0
 clear c0 c1 c2 d0 d1 d2 r0 r1 r2 f0 f1 f2 hz hBw2
 obtain⟨⟨c0,c1,c2⟩,⟨d0,d1,d2⟩,⟨r0,r1,r2⟩,⟨f0,f1,f2⟩,hz⟩:=HTw2.out
 go_wp2_with fail
 refine(n3 _).mono ?_
 rintro e w3 ⟨rfl,hBw3⟩
 have HTw3:=Z (Trio.on (n:=w.heap.size) ⟨⟨c0,c1,c2⟩,⟨d0,d1,d2⟩,⟨r0,r1,r2⟩,⟨f0,f1,f2⟩,hz⟩ hBw3)
 replace hB0:=Below.on hBw3 hB0
 clear c0 c1 c2 d0 d1 d2 r0 r1 r2 f0 f1 f2 hz hBw3
 obtain⟨⟨c0,c1,c2⟩,⟨d0,d1,d2⟩,⟨r0,r1,r2⟩,⟨f0,f1,f2⟩,hz⟩:=HTw3.out
 go_wp2_with fail
 exact bodyPost_ret (v:=.tuple #[.agg #[.int .u64 (px (addE p q)),.int .u64 (py (addE p q)),.bool (pf (addE p q))],.int .i64 0]) (by simp (maxDischargeDepth:=9) [results,Tryz.results127, go_sem,vp,v2, *]) rfl ⟨rfl,bel⟩
theorem neg_good(p:E) (hp:onE p=true) (w:World) :
  Calls Tryz.prog 200 #[.agg #[.int .u64 (px p),.int .u64 (py p),.bool (pf p)]] w (Ret w (.tuple #[.agg #[.int .u64 (px (negE p)),.int .u64 (py (negE p)),.bool (pf (negE p))],.int .i64 0])):=by
 have n1:=on_p hp
 have n3:=minus_u p
 go_enter Tryz.func200, Tryz.ntmps200
 go_wp2_with fail
 refine(n1 _).mono ?_
 rintro e w1 ⟨rfl,hBw1⟩
 have HT:=Z (Duo.on Duo.start hBw1)
 have hB0:Below w.heap.size w w1:=bel
 clear hBw1
 obtain⟨⟨c0,c1,c2⟩,⟨r0,r1,r2⟩,⟨f0,f1,f2⟩,hz⟩:=HT.out
 go_wp2_with fail
 refine(n3 _).mono ?_
 rintro e w2 ⟨rfl,hBw2⟩
 have HTw2:=Z (HT.out.on hBw2)
 replace hB0:=Below.on hBw2 hB0
 clear c0 c1 c2 r0 r1 r2 f0 f1 f2 hz hBw2
 obtain⟨⟨c0,c1,c2⟩,⟨r0,r1,r2⟩,⟨f0,f1,f2⟩,hz⟩:=HTw2.out
 go_wp2_with fail
 exact bodyPost_ret (v:=.tuple #[.agg #[.int .u64 (px (negE p)),.int .u64 (py (negE p)),.bool (pf (negE p))],.int .i64 0]) (by simp (maxDischargeDepth:=9) [results,Tryz.results200, go_sem,vp,v2, *]) rfl ⟨rfl,bel⟩
theorem times_good(n:Int) (p:E) (hn:0≤n) (hn2:n≤18446744073709551615) (hp:onE p=true) (w:World) :
  Calls Tryz.prog 141 #[.int .u64 n,.agg #[.int .u64 (px p),.int .u64 (py p),.bool (pf p)]] w (Ret w (.tuple #[.agg #[.int .u64 (px (timesE n p)),.int .u64 (py (timesE n p)),.bool (pf (timesE n p))],.int .i64 0])):=by
 have n1:=on_p hp
 have n3:=times_u p n hn hn2
 go_enter Tryz.func141, Tryz.ntmps141
 go_wp2_with fail
 refine(n1 _).mono ?_
 rintro e w1 ⟨rfl,hBw1⟩
 have HT:=Z (Duo.on Duo.start hBw1)
 have hB0:Below w.heap.size w w1:=bel
 clear hBw1
 obtain⟨⟨c0,c1,c2⟩,⟨r0,r1,r2⟩,⟨f0,f1,f2⟩,hz⟩:=HT.out
 go_wp2_with fail
 refine(n3 _).mono ?_
 rintro e w2 ⟨rfl,hBw2⟩
 have HTw2:=Z (HT.out.on hBw2)
 replace hB0:=Below.on hBw2 hB0
 clear c0 c1 c2 r0 r1 r2 f0 f1 f2 hz hBw2
 obtain⟨⟨c0,c1,c2⟩,⟨r0,r1,r2⟩,⟨f0,f1,f2⟩,hz⟩:=HTw2.out
 go_wp2_with fail
 exact bodyPost_ret (v:=.tuple #[.agg #[.int .u64 (px (timesE n p)),.int .u64 (py (timesE n p)),.bool (pf (timesE n p))],.int .i64 0]) (by simp (maxDischargeDepth:=9) [results,Tryz.results141, go_sem,vp,v2, *]) rfl ⟨rfl,bel⟩
end
section
open BigFrame Go.RowKit Go.Phx Go.Shelf
attribute [local go_sem] Oper.semAt_some
theorem fldInf(a b c:Value) (w:World):(Instr.field 153 (.agg #[a,b,c]) 2).run Tryz.prog w=.ok c w:=by kernel_rfl
attribute [local go_sem] fldInf
theorem inG_pf{p:E} (hp:onE p=true):inG p=pf (timesE 536870717 p):=by
 unfold inG
 rw[hp,Bool.true_and]
 rcases timesE 536870717 p with _|⟨x,y⟩
 ·rfl
 ·rfl
noncomputable def inR (x y:Int) (i:Bool):Bool:=(said x y i).any inG
def Pt(b:Nat) (p:E) (W:World):Prop :=
 (W.cell? ⟨b,0,none⟩=some (.int .u64 (px p))∧W.cell? ⟨b,1,none⟩=some (.int .u64 (py p))∧W.cell? ⟨b,2,none⟩=some (.bool (pf p)))∧b<W.heap.size
theorem Pt.on{b:Nat}{p:E}{W W2:World} (h:Pt b p W) (hB:Below W.heap.size W W2):Pt b p W2:=by
 obtain⟨⟨c0,c1,c2⟩,hz⟩:=h
 obtain⟨hc,hf⟩:=bcell hB
 have hz2:=hB.size
 refine⟨⟨?_,?_,?_⟩,?_⟩
 all_goals first|(rw[hc _ _ (by omega)];assumption)|omega
theorem Pt.new(p:E) (t:TypeId) (W:World):Pt W.heap.size p (W.alloc (.cells #[.int .u64 (px p),.int .u64 (py p),.bool (pf p)] t)):=by
 refine⟨⟨?_,?_,?_⟩,?_⟩
 all_goals simp[go_sem]
theorem in_bad(x y:Int) (i:Bool) (hx:0≤x) (hy:0≤y) (h:isOn x y i=false) (w:World) :
  Calls Tryz.prog 128 #[.agg #[.int .u64 x,.int .u64 y,.bool i]] w (Ret w (.bool false)):=by
 have n1:=on_x hx hy h
 go_enter Tryz.func128, Tryz.ntmps128
 go_wp2_with fail
 refine(n1 _).mono ?_
 rintro e w1 ⟨rfl,hB1⟩
 go_wp2_with fail
 go_ret
 exact⟨rfl,bel⟩
theorem in_good(p:E) (hp:onE p=true) (w:World) :
  Calls Tryz.prog 128 #[.agg #[.int .u64 (px p),.int .u64 (py p),.bool (pf p)]] w (Ret w (.bool (inG p))):=by
 have n1:=on_p hp
 have n3:=times_u p 536870717 (by decide) (by decide)
 rw[inG_pf hp]
 go_enter Tryz.func128, Tryz.ntmps128
 go_wp2_with fail
 refine(n1 _).mono ?_
 rintro e w1 ⟨rfl,hB1⟩
 have HT:=Z ((Pt.new p 153 w).on hB1)
 have hB0:Below w.heap.size w w1:=bel
 clear hB1
 obtain⟨⟨c0,c1,c2⟩,hz⟩:=HT.out
 go_wp2_with fail
 refine(n3 _).mono ?_
 rintro e w2 ⟨rfl,hB2⟩
 clear c0 c1 c2 hz
 go_wp2_with fail
 go_ret
 exact⟨rfl,bel⟩
theorem in_of(x y:Int) (i:Bool) (hx:0≤x) (hy:0≤y) (w:World) :
  Calls Tryz.prog 128 #[.agg #[.int .u64 x,.int .u64 y,.bool i]] w (Ret w (.bool (inR x y i))):=by
 cases h:isOn x y i
 ·rw[show inR x y i=false from by unfold inR;rw[said_none h];rfl]
  exact in_bad x y i hx hy h w
 ·obtain⟨p,hp,h1,rfl,rfl,rfl⟩:=said_some hx hy h
  rw[show inR (px p) (py p) (pf p)=inG p from by unfold inR;rw[h1];rfl]
  exact in_good p hp w
end
section
open BigFrame Go.RowKit Go.Phx Go.Shelf
attribute [local go_sem] Oper.semAt_some fldInf
abbrev vs(l:List UInt8):Value:=.string ⟨l.toArray⟩
noncomputable def bytesE:E→List UInt8
 | none=>[0,0,0,0,0]
 | some (x,y)=>[UInt8.ofNat (2+y.val % 2),UInt8.ofNat (x.val / 16777216),UInt8.ofNat (x.val / 65536),UInt8.ofNat (x.val / 256),UInt8.ofNat x.val]
theorem ofNat_mod(n:Nat):UInt8.ofNat (n % 256)=UInt8.ofNat n:=by
 apply UInt8.toNat_inj.1
 simp
theorem byte_at(x:F) (k:Nat):UInt8.ofNat (vz x / (k:Int) % 256).toNat=UInt8.ofNat (x.val / k):=by
 unfold vz
 rw[show((x.val:Int) / (k:Int) % 256).toNat=x.val / k % 256 from by
  rw[←Int.natCast_ediv]
  show(((x.val / k:Nat):Int) % ((256:Nat):Int)).toNat=_
  rw[←Int.natCast_emod,Int.toNat_natCast]]
 exact ofNat_mod _
theorem byte_low(x:F):UInt8.ofNat (vz x % 256).toNat=UInt8.ofNat x.val:=by
 have:=byte_at x 1
 simpa using this
theorem byte_top(x:F):UInt8.ofNat (vz x / 16777216).toNat=UInt8.ofNat (x.val / 16777216):=by
 unfold vz
 congr 1
theorem bits_and1(y:F):bits .and .u64 (vz y) 1=vz y % 2:=by
 have h:=vz_lt y
 have h0:=vz_nonneg y
 rw[u64_and (vz y) 1 h0 (by omega) (by decide) (by decide)]
 show((((vz y).toNat &&& 1:Nat)):Int)=_
 rw[nat_mask1]
 omega
theorem bits_or2(n:Int) (h:n=0∨n=1):bits .or .u64 2 n=2+n:=by
 rcases h with rfl|rfl <;> decide
theorem byte_sign(y:F):UInt8.ofNat (bits .or .u64 2 (bits .and .u64 (vz y) 1) % 256).toNat=UInt8.ofNat (2+y.val % 2):=by
 rw[bits_and1,bits_or2 _ (by omega)]
 congr 1
 unfold vz
 omega
theorem conv5(W:World) (t:TypeId) (a b c d e:Int) (k:Nat):(convert 55 9 (.slice (some ⟨W.heap.size,0,none⟩) 5 k)).run Tryz.prog (W.alloc (.cells #[.int .u8 a,.int .u8 b,.int .u8 c,.int .u8 d,.int .u8 e] t)) =
  .ok (.string ⟨#[UInt8.ofNat a.toNat,UInt8.ofNat b.toNat,UInt8.ofNat c.toNat,UInt8.ofNat d.toNat,UInt8.ofNat e.toNat]⟩) (W.alloc (.cells #[.int .u8 a,.int .u8 b,.int .u8 c,.int .u8 d,.int .u8 e] t)):=by
 have hs:Tryz.prog.underlying 55 = some (.slice 5):=by kernel_rfl
 have he:Tryz.prog.underlying 5 = some (.int .u8):=by kernel_rfl
 have hd:Tryz.prog.underlying 9 = some .string:=by kernel_rfl
 exact run_convert_bytes_arg _ _ _ hs he W.heap.size 0 5 k [a,b,c,d,e] rfl (fun i hi=>by
  have hK:=Blk.new0 W t #[.int .u8 a,.int .u8 b,.int .u8 c,.int .u8 d,.int .u8 e]
  rw[hK.cell]
  rcases i with _|_|_|_|_|i
  ·rfl
  ·rfl
  ·rfl
  ·rfl
  ·rfl
  ·omega) _ hd
attribute [local go_sem] conv5
theorem bytes_some(x y:F) (h:inG (some (x,y))=true) (w:World) :
  Calls Tryz.prog 88 #[.agg #[.int .u64 (vz x),.int .u64 (vz y),.bool false]] w (Ret w (.tuple #[vs (bytesE (some (x,y))),.int .i64 0])):=by
 have n1:=in_good (some (x,y)) (inG_on h)
 rw[h]at n1
 change ∀ w,Calls _ _ #[.agg #[.int .u64 (vz x),.int .u64 (vz y),.bool false]] w _ at n1
 have b1:=vz_nonneg x
 have b2:=vz_lt x
 have b3:=vz_nonneg y
 have b4:=vz_lt y
 clear h
 go_enter Tryz.func88, Tryz.ntmps88
 go_wp2_with fail
 refine(n1 _).mono ?_
 rintro e w1 ⟨rfl,hB⟩
 (replace HB:Below w.heap.size w w1:=Below.on hB bel;replace K0:=hb_ (g:=w.heap.size) blI hB;(try simp only[sB,sC,sD]at K0);clear hB;have HZw1:=HB.size;obtain⟨k0,f0,l0,m0⟩:=rl_ K0)
 go_wp2_with fail
 refine wp_loop_rounds 5 ?_
 iterate 5 (rw[rounds_succ];go_wp2_with fail)
 go_ret2
 refine⟨?_,bel⟩
 simp only[byte_sign,byte_top,byte_low]
 rw[show vz x / 65536=vz x / ((65536:Nat):Int) from rfl,show vz x / 256=vz x / ((256:Nat):Int) from rfl,byte_at,byte_at]
 rfl
theorem bytes_none(w:World) :
  Calls Tryz.prog 88 #[.agg #[.int .u64 0,.int .u64 0,.bool true]] w (Ret w (.tuple #[vs (bytesE none),.int .i64 0])):=by
 have n1:=in_good none rfl
 rw[inG_none]at n1
 change ∀ w,Calls _ _ #[.agg #[.int .u64 0,.int .u64 0,.bool true]] w _ at n1
 go_enter Tryz.func88, Tryz.ntmps88
 go_wp2_with fail
 refine(n1 _).mono ?_
 rintro e w1 ⟨rfl,hB⟩
 (replace HB:Below w.heap.size w w1:=Below.on hB bel;replace K0:=hb_ (g:=w.heap.size) blI hB;(try simp only[sB,sC,sD]at K0);clear hB;have HZw1:=HB.size;obtain⟨k0,f0,l0,m0⟩:=rl_ K0)
 go_wp2_with fail
 refine wp_loop_rounds 5 ?_
 iterate 5 (rw[rounds_succ];go_wp2_with fail)
 go_ret2
 exact⟨rfl,bel⟩
theorem bytes_good{p:E} (h:inG p=true) (w:World) :
  Calls Tryz.prog 88 #[.agg #[.int .u64 (px p),.int .u64 (py p),.bool (pf p)]] w (Ret w (.tuple #[vs (bytesE p),.int .i64 0])):=by
 rcases p with _|⟨x,y⟩
 ·exact bytes_none w
 ·exact bytes_some x y h w
end
end Go.Proofs.YtobgigcdpiikaaaGreatDoor
