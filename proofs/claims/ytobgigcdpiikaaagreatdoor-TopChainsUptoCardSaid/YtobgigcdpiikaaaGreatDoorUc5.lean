/- Plain laws and walks, each by its own conditions. -/
import Derived.Test.YtobgigcdpiikaaaGreatDoorUc4
set_option linter.unusedSimpArgs false
set_option linter.unusedVariables false
set_option maxRecDepth 100000
set_option maxHeartbeats 16000000
namespace Go.Proofs.YtobgigcdpiikaaaGreatDoor
section
open Go.RowKit Go.Phx
attribute [go_sem] zf_vz vz_nonneg
theorem ret_u64{a b:Int} (h:a=b):Ending.returned (.int .u64 a)=.returned (.int .u64 b):=by rw[h]
theorem add_calls(a b:Int) (ha:0≤a) (hb:0≤b) (w:World) :
  Calls Tryz.prog 168 #[.int .u64 a,.int .u64 b] w fun e w'=>e=.returned (.int .u64 (vz (zf a+zf b)))∧w=w':=by
 have h1:0≤a % 2147482867:=by omega
 have h2:a % 2147482867<2147482867:=by omega
 have h3:0≤b % 2147482867:=by omega
 have h4:b % 2147482867<2147482867:=by omega
 go_enter Tryz.func168, Tryz.ntmps168
 go_wp2
 all_goals
  go_ret
  refine⟨ret_u64 ?_,rfl⟩
  rw[vz_add]
  omega
theorem sub_calls(a b:Int) (ha:0≤a) (hb:0≤b) (w:World) :
  Calls Tryz.prog 177 #[.int .u64 a,.int .u64 b] w fun e w'=>e=.returned (.int .u64 (vz (zf a - zf b)))∧w=w':=by
 have h3:0≤b % 2147482867:=by omega
 have h4:b % 2147482867<2147482867:=by omega
 go_enter Tryz.func177, Tryz.ntmps177
 go_wp2_with fail
 refine(add_calls _ _ ha (by omega) _).mono ?_
 rintro e w' ⟨rfl,rfl⟩
 go_wp2_with fail
 go_ret
 refine⟨ret_u64 ?_,rfl⟩
 rw[vz_add,vz_sub]
 omega
theorem mul_calls(a b:Int) (ha:0≤a) (hb:0≤b) (w:World) :
  Calls Tryz.prog 169 #[.int .u64 a,.int .u64 b] w fun e w'=>e=.returned (.int .u64 (vz (zf a*zf b)))∧w=w':=by
 have h1:0≤a % 2147482867:=by omega
 have h2:a % 2147482867<2147482867:=by omega
 have h3:0≤b % 2147482867:=by omega
 have h4:b % 2147482867<2147482867:=by omega
 have h5:0≤a % 2147482867*(b % 2147482867):=Int.mul_nonneg h1 h3
 have h6:a % 2147482867*(b % 2147482867)≤2147482867*2147482867:=Int.mul_le_mul (by omega) (by omega) h3 (by omega)
 go_enter Tryz.func169, Tryz.ntmps169
 go_wp2
 go_ret
 refine⟨ret_u64 ?_,rfl⟩
 rw[vz_mul,←Int.mul_emod]
end
section
open Go.RowKit Go.Phx Go.Shelf
attribute [local go_sem] Oper.semAt_some
theorem bit_and(x:Int) (hx:0≤x) (hx2:x≤18446744073709551615) (i:Nat):(bits BinOp.and IntKind.u64 (x / 2 ^ i) 1 == 1)=bitAt x i:=by
 have h1:0≤x / 2 ^ i:=Int.ediv_nonneg hx (Int.le_of_lt (Int.pow_pos (by decide)))
 have h2:x / 2 ^ i≤x:=Int.ediv_le_self _ hx
 rw[and_one_u64 _ h1 (by omega)]
 unfold bitAt
 by_cases h:x / 2 ^ i % 2=1 <;> simp[h]
theorem fdigits1_in(F:Fence) (n:Nat) (h7:F.fn 196) (hro:F.round=none) (hn:1≤n) (l Bs:Nat) (x:Int) (hx:0≤x) (hx2:x≤18446744073709551615) (J Jx:List Bool→World→Prop)
  (hY:∀ pre x W,J pre W→pre.length<64→YieldAt F (n - 1) Tryz.prog l #[.bool x] W fun e W' =>
   (e=.returned (.bool true)∧J (pre ++ [x]) W'∧KeepB Bs W W')∨(e=.returned (.bool false)∧Jx (pre ++ [x]) W'))
  (W:World) (hBs:W.cell? ⟨Bs,0,none⟩=some (.int .u64 x)) (h0:J [] W) :
  CallsIn F n Tryz.prog 196 #[.func (.yield l) #[] #[],.pointer (some ⟨Bs,0,none⟩)] W fun e W'=>(∃ v,e=.returned v) ∧
   ((∃ ys,ys=bitsUp x 64∧J ys W')∨(∃ pre,(∃ k,k≤64∧pre=bitsUp x k)∧Jx pre W')):=by
 have hbit:=bit_and x hx hx2
 clear hx2
 refine callsIn_of_wp Tryz.func196 rfl h7 ?_ hro
 simp only[Tryz.ntmps196, List.size_toArray,List.length_cons,List.length_nil,Nat.reduceAdd,Nat.reduceSub,Array.replicate_succ,Array.replicate_zero,List.push_toArray,List.append_toArray,List.nil_append,List.cons_append]
 gi_wp2
 gi_loopw [3] (fun i wr=>∃ k:Nat,k≤64∧i=.int .i64 (63 - k)∧J (bitsUp x k) wr∧KeepB Bs W wr)
  (fun i _=>(intOf i+1).toNat)
 case atStart=>exact⟨0,Nat.zero_le _,by simp,h0,KeepB.refl _ _⟩
 case round =>
  obtain⟨k,hk,rfl,hJs,hnx⟩:=hrel
  have hcx:wr.cell? ⟨Bs,0,none⟩=some (.int .u64 x):=(hnx.cell 0).trans hBs
  by_cases hlt:k<64
  ·obtain⟨fn,tmps,assign,body,hy,hR⟩:=hY _ (bitAt x (63 - k)) wr hJs (by rw[bitsUp_length];exact hlt)
   gi_wp2
   refine hR.mono ?_
   rintro e W3 (⟨rfl,hJ3,hk3⟩|⟨rfl,hJx3⟩)
   ·gi_wp2
    go_roundw
    case rel=>exact⟨k+1,by omega,by congr 1;omega,by rw[bitsUp_succ];exact hJ3,hnx.trans hk3⟩
    case measure=>simp[intOf];omega
   ·gi_wp2
    refine bodyPost_ret (results_none rfl _ _ _) rfl ?_
    exact⟨⟨_,rfl⟩,.inr ⟨_,⟨k+1,by omega,(bitsUp_succ _ _).symm⟩,hJx3⟩⟩
  ·obtain rfl:k=64:=by omega
   gi_wp2
   go_end0
   exact⟨⟨_,rfl⟩,.inl ⟨_,rfl,hJs⟩⟩
theorem bitsUp_prefix(x:Int) (k:Nat) (hk:k≤64):bitsUp x k <+: bitsUp x 64:=by
 have h:∀ m,bitsUp x k <+: bitsUp x (k+m):=by
  intro m
  unfold bitsUp
  rw[List.range_add,List.map_append]
  exact List.prefix_append _ _
 have:=h (64 - k)
 rwa [show k+(64 - k)=64 by omega]at this
theorem fdigits_stops(F:Fence) (n:Nat) (h7:F.fn 196) (hro:F.round=none) (hn:1≤n) (Bs:Nat) (x:Int) (hx:0≤x) (hx2:x≤18446744073709551615) (w:World) (hBs:Bs<w.heap.size)
  (hc:w.cell? ⟨Bs,0,none⟩=some (.int .u64 x)) :
  SeqStopsK F n Tryz.prog 196 #[.pointer (some ⟨Bs,0,none⟩)] (fun b:Bool => #[Value.bool b]) (KeepB Bs) (fun ys=>ys=bitsUp x 64) (fun pre=>pre <+: bitsUp x 64) 64 w:=fun l J Jx W hW _ _ hY h0=>by
 refine(fdigits1_in F n h7 hro hn l Bs x hx hx2 J Jx hY W ((hW.cell (p:=⟨Bs,0,none⟩) hBs).trans hc) h0).mono ?_
 rintro e W' ⟨he,⟨ys,rfl,hj⟩|⟨pre,⟨k,hk,rfl⟩,hj⟩⟩
 ·exact⟨he,.inl ⟨_,rfl,hj⟩⟩
 ·exact⟨he,.inr ⟨_,bitsUp_prefix x k hk,hj⟩⟩
theorem fdigits_in(F:Fence) (n:Nat) (h5:F.fn 185) (hro:F.round=none) (x:Int) (w:World) :
  CallsIn F n Tryz.prog 185 #[.int .u64 x] w fun e w'=>e=.returned (.func (.func 196) #[] #[.pointer (some ⟨w.heap.size,0,none⟩)])∧w'=w.alloc (.cells #[.int .u64 x] 22):=by
 refine callsIn_of_wp Tryz.func185 rfl h5 ?_ hro
 simp only[Tryz.ntmps185, List.size_toArray,List.length_cons,List.length_nil,Nat.reduceAdd,Nat.reduceSub,Array.replicate_succ,Array.replicate_zero,List.push_toArray,List.append_toArray,List.nil_append,List.cons_append]
 gi_wp2
 go_ret
 exact⟨rfl,rfl⟩
theorem pow_calls(a x:Int) (ha:0≤a) (hx:0≤x) (hx2:x≤18446744073709551615) (w:World) :
  Calls Tryz.prog 176 #[.int .u64 a,.int .u64 x] w (Ret w (.int .u64 (vz (pw (zf a) x.toNat)))):=by
 refine(callsIn_wide (n:=9)).1 ?_
 have hwf:∀ f,Fence.wide.fn f:=fun _=>trivial
 refine callsIn_of_wp_marks Tryz.func176 rfl trivial ?_ rfl
 simp only[Tryz.ntmps176, List.size_toArray,List.length_cons,List.length_nil,Nat.reduceAdd,Nat.reduceSub,Array.replicate_succ,Array.replicate_zero,List.push_toArray,List.append_toArray,List.nil_append,List.cons_append]
 gi_wp2_with(gi_at_call 185; refine(fdigits_in Fence.wide _ trivial rfl _ _).mono ?_;rintro e w' ⟨rfl,rfl⟩)
 obtain⟨W0,hW0⟩:∃ W0,((w.alloc (.cells #[.int .u64 a] 22)).alloc (.cells #[.int .u64 1] 22)).alloc (.cells #[.int .u64 x] 22)=W0:=⟨_,rfl⟩
 have hs0:W0.heap.size=w.heap.size+3:=by rw[←hW0];simp[go_sem]
 have hB0:Below w.heap.size w W0:=by rw[←hW0];exact(((Below.refl _ w).alloc (Nat.le_refl _) _).alloc (by simp) _).alloc (by simp;omega) _
 have ca:W0.cell? ⟨w.heap.size,0,none⟩=some (.int .u64 a):=by rw[←hW0];simp[go_sem]
 have co:W0.cell? ⟨w.heap.size+1,0,none⟩=some (.int .u64 1):=by rw[←hW0];simp[go_sem]
 have fo:W0.frozen? ⟨w.heap.size+1,0,none⟩=false:=by rw[←hW0];simp[go_sem]
 have cx:W0.cell? ⟨w.heap.size+1+1,0,none⟩=some (.int .u64 x):=by rw[←hW0];simp[go_sem]
 rw[hW0]
 have hf:=enters_of Tryz.func196 U rfl
 clear hW0
 refine wpIn_rangeFunc_ownF rfl (by decide) (gf := 196) (lb := #[.pointer (some ⟨w.heap.size+1+1,0,none⟩)]) rfl trivial hf
  (fdigits_stops Fence.wide _ trivial rfl (by decide) (w.heap.size+1+1) x hx hx2 W0 (by omega) cx) keepB_t (keepB_b (by omega)) (Below.refl _ _) (fun _=>rfl)
  (fun pre W=>(W.cell? ⟨w.heap.size,0,none⟩=some (.int .u64 a)∧W.cell? ⟨w.heap.size+1,0,none⟩=some (.int .u64 (vz (powBits (zf a) pre)))∧W.frozen? ⟨w.heap.size+1,0,none⟩=false)∧Below w.heap.size w W)
  (fun _ _ _=>False)
  (OwnFrom.and (Own.from (fun s A B row hs hg hr=>⟨cell_kept hs.1 hg hr,cell_kept hs.2.1 hg hr,(frozen_kept hs.2.1 hg hr).trans hs.2.2⟩) _) (ownFrom_below (Nat.le_refl _) (by omega)))
  (fun _ _ _ _ _ hs _ _=>hs)
  ⟨⟨ca,co,fo⟩,hB0⟩
  (fun y=>{ tmps := #[.int .u64 a,.int .u64 x,.pointer (some ⟨w.heap.size,0,none⟩),undef,.int .u64 0,.pointer (some ⟨w.heap.size+1,0,none⟩),.bool y,.int .u64 x,.func (.func 196) #[] #[.pointer (some ⟨w.heap.size+1+1,0,none⟩)],.bool y,undef,undef,undef,undef,undef,undef,undef,undef],defers:=[] }) ?assign ?body ?done ?stop
 case assign =>
  intro l x W K hK
  gi_wp2
  exact hK
 case body =>
  rintro l pre y W ⟨⟨hca,hco,hfo⟩,hB⟩ _
  cases y
  ·gi_wp2_with(gi_at_call 169; refine(CallsIn.inRound l (callsIn_wide.2 (mul_calls _ _ (vz_nonneg _) (vz_nonneg _) _))).mono ?_;rintro e w' ⟨rfl,rfl⟩)
   exact⟨KeepsOthers.setCell _ _ _,KeepB.setCell (by simp) _,⟨by simp[go_sem,hca],by simp[go_sem,hco,powBits_snoc],by simp[go_sem,hfo]⟩,hB.setCell (p:=⟨w.heap.size+1,0,none⟩) (by simp) _⟩
  ·gi_wp2_with(gi_at_call 169; refine(CallsIn.inRound l (callsIn_wide.2 (mul_calls _ _ (vz_nonneg _) (by first|exact vz_nonneg _|exact ha) _))).mono ?_;rintro e w' ⟨rfl,rfl⟩)
   exact⟨(KeepsOthers.setCell _ _ _).trans (KeepsOthers.setCell _ _ _),(KeepB.setCell (by simp) _).trans (KeepB.setCell (by simp) _),⟨by simp[go_sem,hca],by simp[go_sem,hco,powBits_snoc],by simp[go_sem,hfo]⟩,(hB.setCell (p:=⟨w.heap.size+1,0,none⟩) (by simp) _).setCell (p:=⟨w.heap.size+1,0,none⟩) (by simp) _⟩
 case done =>
  rintro D ys W hD rfl ⟨⟨_,hco,_⟩,hB⟩ hK
  rw[powBits_all _ _ hx hx2]at hco
  gi_wp2
  refine⟨by simp,.inl ⟨_,_,rfl,run_takeDeferred hK,?_⟩⟩
  exact⟨_,results_tmp rfl _ _ _,rfl,below_shut hB (Nat.le_refl _) (by omega)⟩
 case stop =>
  rintro D c pre W _ _ h _
  exact h.elim
theorem inv_calls(a:Int) (ha:0≤a) (w:World):Calls Tryz.prog 178 #[.int .u64 a] w (Ret w (.int .u64 (vz (inv (zf a))))):=by
 go_enter Tryz.func178, Tryz.ntmps178
 go_wp2_with fail
 refine(pow_calls _ _ ha (by decide) (by decide) _).mono ?_
 rintro e w' ⟨rfl,hB⟩
 go_wp2_with fail
 go_ret
 exact⟨rfl,hB⟩
theorem root_no(a:F) (h:pw a 536870717*pw a 536870717≠a):rootS a=(0,false):=by unfold rootS;rw[if_neg h]
theorem root_odd(a:F) (h:pw a 536870717*pw a 536870717=a) (h2:vz (pw a 536870717) % 2=1):rootS a=(-pw a 536870717,true):=by unfold rootS;rw[if_pos h,if_pos h2]
theorem root_even(a:F) (h:pw a 536870717*pw a 536870717=a) (h2:vz (pw a 536870717) % 2≠1):rootS a=(pw a 536870717,true):=by unfold rootS;rw[if_pos h,if_neg h2]
theorem root_calls(a:Int) (ha:0≤a) (w:World):Calls Tryz.prog 157 #[.int .u64 a] w (Ret w (.tuple #[.int .u64 (vz (rootS (zf a)).1),.bool (rootS (zf a)).2])):=by
 have q1:0≤vz (pw (zf a) 536870717):=vz_nonneg _
 have q2:vz (pw (zf a) 536870717)<2147482867:=vz_lt _
 by_cases h1:pw (zf a) 536870717*pw (zf a) 536870717=zf a
 ·have t1:(vz (pw (zf a) 536870717*pw (zf a) 536870717) != a % 2147482867)=false:=by rw[h1,vz_zf];simp
  by_cases h2:vz (pw (zf a) 536870717) % 2=1
  ·have t2:(vz (pw (zf a) 536870717) % 2 == 1)=true:=by simp[h2]
   have e:=vz_neg (pw (zf a) 536870717) (by omega)
   have hr:=Z (root_odd _ h1 h2)
   have he:=Z e
   clear h1 h2 e
   go_enter Tryz.func157, Tryz.ntmps157
   go_wp2_with fail
   refine(pow_calls _ _ ha (by decide) (by decide) _).mono ?_
   rintro e w' ⟨rfl,hB⟩
   rw[show(536870717:Int).toNat=536870717 from rfl]
   go_wp2_with fail
   refine(mul_calls _ _ (vz_nonneg _) (vz_nonneg _) _).mono ?_
   rintro e w' ⟨rfl,rfl⟩
   rw[zf_vz]
   go_wp2_with fail
   go_ret2
   refine⟨?_,hB⟩
   rw[hr.out]
   show Ending.returned (.tuple #[.int .u64 (2147482867 - _),.bool true])=Ending.returned (.tuple #[.int .u64 (vz (-pw (zf a) 536870717)),.bool true])
   rw[he.out]
  ·have t2:(vz (pw (zf a) 536870717) % 2 == 1)=false:=by simp[h2]
   have hr:=Z (root_even _ h1 h2)
   clear h1 h2
   go_enter Tryz.func157, Tryz.ntmps157
   go_wp2_with fail
   refine(pow_calls _ _ ha (by decide) (by decide) _).mono ?_
   rintro e w' ⟨rfl,hB⟩
   rw[show(536870717:Int).toNat=536870717 from rfl]
   go_wp2_with fail
   refine(mul_calls _ _ (vz_nonneg _) (vz_nonneg _) _).mono ?_
   rintro e w' ⟨rfl,rfl⟩
   rw[zf_vz]
   go_wp2_with fail
   go_ret2
   refine⟨?_,hB⟩
   rw[hr.out]
   rfl
 ·have t1:(vz (pw (zf a) 536870717*pw (zf a) 536870717) != a % 2147482867)=true:=by
   rw[bne_iff_ne]
   intro h
   exact h1 (vz_inj (by rw[h,vz_zf]))
  have hr:=Z (root_no _ h1)
  clear h1
  go_enter Tryz.func157, Tryz.ntmps157
  go_wp2_with fail
  refine(pow_calls _ _ ha (by decide) (by decide) _).mono ?_
  rintro e w' ⟨rfl,hB⟩
  rw[show(536870717:Int).toNat=536870717 from rfl]
  go_wp2_with fail
  refine(mul_calls _ _ (vz_nonneg _) (vz_nonneg _) _).mono ?_
  rintro e w' ⟨rfl,rfl⟩
  rw[zf_vz]
  go_wp2_with fail
  go_ret2
  refine⟨?_,hB⟩
  rw[hr.out]
  rfl
theorem mul2_calls(a b c d:Int) (ha:0≤a) (hb:0≤b) (hc:0≤c) (hd:0≤d) (w:World) :
  Calls Tryz.prog 193 #[.agg #[.int .u64 a,.int .u64 b],.agg #[.int .u64 c,.int .u64 d]] w (Ret w (v2 (mul2 (zf a,zf b) (zf c,zf d)))):=by
 have hm0:(zf a+zf b)*(zf c+zf d) - zf a*zf c - zf b*zf d=zf a*zf d+zf b*zf c:=by
  generalize zf a=x,zf b=y,zf c=z,zf d=u
  grind -lia -linarith
 have hm:=Z hm0
 clear hm0
 go_enter Tryz.func193, Tryz.ntmps193
 go_wp2_with fail
 go_quiet ((go_at_call 169; exact qs (mul_calls _ _ (by assumption) (by assumption) _)))
 go_wp2_with fail
 go_quiet ((first|(go_at_call 168; exact qa (add_calls _ _ (by assumption) (by assumption) _))|(go_at_call 169; exact qa (mul_calls _ _ (vz_nonneg _) (vz_nonneg _) _))))
 go_wp2_with(go_at_call 177; refine(sub_calls _ _ (vz_nonneg _) (vz_nonneg _) _).mono ?_;rintro e w' ⟨rfl,rfl⟩)
 exact bodyPost_ret (v:=v2 (mul2 (zf a,zf b) (zf c,zf d))) (by simp[results,Tryz.results193, go_sem,v2,mul2,hm.out]) rfl ⟨rfl,bel⟩
theorem mul2_v(x y:F2) (w:World):Calls Tryz.prog 193 #[v2 x,v2 y] w (Ret w (v2 (mul2 x y))):=by
 have h:=mul2_calls (vz x.1) (vz x.2) (vz y.1) (vz y.2) (vz_nonneg _) (vz_nonneg _) (vz_nonneg _) (vz_nonneg _) w
 simp only[zf_vz]at h
 exact h
theorem mul2_one_l(x:F2):mul2 (1,0) x=x:=by
 apply Prod.ext
 ·show 1*x.1 - 0*x.2=x.1
  grind -lia -linarith
 ·show 1*x.2+0*x.1=x.2
  grind -lia -linarith
theorem mul2_u(x y:F2) (w:World):Calls Tryz.prog 193 #[.agg #[.int .u64 (vz x.1),.int .u64 (vz x.2)],.agg #[.int .u64 (vz y.1),.int .u64 (vz y.2)]] w (Ret w (.agg #[.int .u64 (vz (mul2 x y).1),.int .u64 (vz (mul2 x y).2)])):=mul2_v x y w
theorem mul2_r(x:F2) (a b:Int) (ha:0≤a) (hb:0≤b) (w:World):Calls Tryz.prog 193 #[.agg #[.int .u64 (vz x.1),.int .u64 (vz x.2)],.agg #[.int .u64 a,.int .u64 b]] w (Ret w (.agg #[.int .u64 (vz (mul2 x (zf a,zf b)).1),.int .u64 (vz (mul2 x (zf a,zf b)).2)])):=by
 have h:=mul2_calls (vz x.1) (vz x.2) a b (vz_nonneg _) (vz_nonneg _) ha hb w
 simp only[zf_vz]at h
 exact h
def Pow2At(n:Nat) (a0 a1:Int) (pre:List Bool) (s:Bool) (W:World):Prop :=
 n+1+1+1+1<W.heap.size ∧
 (s=false→pow2Bits (zf a0,zf a1) pre=(1,0)) ∧
 W.cell? ⟨n,0,none⟩=some (.int .u64 a0)∧W.cell? ⟨n,1,none⟩=some (.int .u64 a1) ∧
 W.cell? ⟨n+1,0,none⟩=some (.int .u64 0)∧W.cell? ⟨n+1,1,none⟩=some (.int .u64 0)∧W.frozen? ⟨n+1,0,none⟩=false∧W.frozen? ⟨n+1,1,none⟩=false ∧
 W.cell? ⟨n+1+1,0,none⟩=some (.int .u64 (vz (pow2Bits (zf a0,zf a1) pre).1))∧W.cell? ⟨n+1+1,1,none⟩=some (.int .u64 (vz (pow2Bits (zf a0,zf a1) pre).2))∧W.frozen? ⟨n+1+1,0,none⟩=false∧W.frozen? ⟨n+1+1,1,none⟩=false ∧
 W.cell? ⟨n+1+1+1,0,none⟩=some (.bool s)∧W.frozen? ⟨n+1+1+1,0,none⟩=false
def Pow2I(n:Nat) (a0 a1:Int) (pre:List Bool) (W:World):Prop:=∃ s,Pow2At n a0 a1 pre s W
theorem Pow2I.own(n:Nat) (a0 a1:Int):Own (Pow2I n a0 a1):=fun _ _ _ _ ⟨s,h0,h1,h2,h3,h4,h5,h6,h7,h8,h9,h10,h11,h12,h13⟩ hg hr =>
 ⟨s,Nat.lt_of_lt_of_le h0 hg.size,h1,cell_kept h2 hg hr,cell_kept h3 hg hr,cell_kept h4 hg hr,cell_kept h5 hg hr,(frozen_kept h4 hg hr).trans h6,(frozen_kept h5 hg hr).trans h7,cell_kept h8 hg hr,cell_kept h9 hg hr,(frozen_kept h8 hg hr).trans h10,(frozen_kept h9 hg hr).trans h11,cell_kept h12 hg hr,(frozen_kept h12 hg hr).trans h13⟩
theorem pow2_calls(a0 a1 x:Int) (ha:0≤a0) (hb:0≤a1) (hx:0≤x) (hx2:x≤18446744073709551615) (w:World) :
  Calls Tryz.prog 195 #[.agg #[.int .u64 a0,.int .u64 a1],.int .u64 x] w (Ret w (v2 (pow2 (zf a0,zf a1) x))):=by
 refine(callsIn_wide (n:=9)).1 ?_
 have hwf:∀ f,Fence.wide.fn f:=fun _=>trivial
 refine callsIn_of_wp_marks Tryz.func195 rfl trivial ?_ rfl
 simp only[Tryz.ntmps195, List.size_toArray,List.length_cons,List.length_nil,Nat.reduceAdd,Nat.reduceSub,Array.replicate_succ,Array.replicate_zero,List.push_toArray,List.append_toArray,List.nil_append,List.cons_append]
 gi_wp2
 refine wpIn_scope ?_
 gi_wp2
 refine wpIn_label ?_
 gi_wp2_with(gi_at_call 185; refine(fdigits_in Fence.wide _ trivial rfl _ _).mono ?_;rintro e w' ⟨rfl,rfl⟩)
 obtain⟨W0,hW0⟩:∃ W0,((((w.alloc (.cells #[.int .u64 a0,.int .u64 a1] 266)).alloc (.cells #[.int .u64 0,.int .u64 0] 266)).alloc (.cells #[.int .u64 1,.int .u64 0] 266)).alloc (.cells #[.bool false] 4)).alloc (.cells #[.int .u64 x] 22)=W0:=⟨_,rfl⟩
 have hs0:W0.heap.size=w.heap.size+5:=by rw[←hW0];simp
 have hB0:Below w.heap.size w W0:=by rw[←hW0];exact bel
 have cx:W0.cell? ⟨w.heap.size+1+1+1+1,0,none⟩=some (.int .u64 x):=by rw[←hW0];simp[go_sem]
 have hI0:Pow2I w.heap.size a0 a1 [] W0:=⟨false,by omega,fun _=>rfl,by
  rw[←hW0]
  refine⟨?_,?_,?_,?_,?_,?_,?_,?_,?_,?_,?_,?_⟩ <;> simp[go_sem] <;> rfl⟩
 rw[hW0]
 have hf:=enters_of Tryz.func196 U rfl
 clear hW0
 refine wpIn_rangeFunc_ownF rfl (by decide) (gf := 196) (lb := #[.pointer (some ⟨w.heap.size+1+1+1+1,0,none⟩)]) rfl trivial hf
  (fdigits_stops Fence.wide _ trivial rfl (by decide) (w.heap.size+1+1+1+1) x hx hx2 W0 (by omega) cx) keepB_t (keepB_b (by omega)) (Below.refl _ _) (fun _=>rfl)
  (fun pre W=>Pow2I w.heap.size a0 a1 pre W∧Below w.heap.size w W)
  (fun _ _ _=>False)
  (OwnFrom.and (Own.from (Pow2I.own _ _ _) _) (ownFrom_below (Nat.le_refl _) (by omega)))
  (fun _ _ _ _ _ hs _ _=>hs)
  ⟨hI0,hB0⟩
  (fun y=>{ tmps := #[.agg #[.int .u64 a0,.int .u64 a1],.int .u64 x,.pointer (some ⟨w.heap.size,0,none⟩),undef,.pointer (some ⟨w.heap.size+1,0,none⟩),.pointer (some ⟨w.heap.size+1+1,0,none⟩),.pointer (some ⟨w.heap.size+1+1+1,0,none⟩),.bool y,.agg #[.int .u64 1,.int .u64 0],.int .u64 x,.func (.func 196) #[] #[.pointer (some ⟨w.heap.size+1+1+1+1,0,none⟩)],.bool y,undef,undef,undef,undef,undef,undef,undef,undef,undef,undef,undef,undef,undef,undef],defers:=[] }) ?assign ?body ?done ?stop
 case assign =>
  intro l x W K hK
  gi_wp2
  exact hK
 case body =>
  rintro l pre y W ⟨⟨s,h0,h1,h2,h3,h4,h5,h6,h7,h8,h9,h10,h11,h12,h13⟩,hB⟩ _
  have g1:w.heap.size<W.heap.size:=by omega
  have g2:w.heap.size+1<W.heap.size:=by omega
  have g3:w.heap.size+1+1<W.heap.size:=by omega
  have g4:w.heap.size+1+1+1<W.heap.size:=by omega
  cases y <;> cases s
  ·have hb:=Z (h1 rfl)
   clear h1
   gi_wp2
   refine⟨KeepsOthers.refl _,KeepB.refl _ _,⟨false,h0,fun _=>?_,h2,h3,h4,h5,h6,h7,?_,?_,h10,h11,h12,h13⟩,hB⟩
   ·rw[pow2Bits_snoc,hb.out];exact mul2_one_l _
   ·rw[pow2Bits_snoc,hb.out];rw[hb.out]at h8;exact h8
   ·rw[pow2Bits_snoc,hb.out];rw[hb.out]at h9;exact h9
  ·clear h1
   gi_wp2_with(gi_at_call 193; refine(CallsIn.inRound l (callsIn_wide.2 (mul2_u _ _ _))).mono ?_;rintro e w' ⟨rfl,hB⟩;obtain⟨hc,hf⟩:=bcell hB;have hz:=hB.size;(try simp at hz);(try simp at hc);(try simp at hf))
   refine⟨(by repeat(first|exact KeepsOthers.refl _|refine KeepsOthers.trans ?_ (KeepsOthers.setCell _ _ _)|refine KeepsOthers.trans ?_ (KeepsOthers.alloc _ _)|refine KeepsOthers.trans ?_ (KeepsOthers.drew _)|refine KeepsOthers.trans ?_ (KeepsOthers.below (by assumption)))),(by repeat(first|exact KeepB.refl _ _|refine KeepB.trans ?_ (KeepB.setCell (by first|exact Nat.le_refl _|(simp;done)|omega|(simp;omega)) _)|refine KeepB.trans ?_ (KeepB.below (by assumption) (by first|exact Nat.le_refl _|(simp;done)|omega|(simp;omega))))),⟨true,?_⟩,bel⟩
   refine⟨?_,?_,?_,?_,?_,?_,?_,?_,?_,?_,?_,?_,?_,?_⟩
   all_goals(first|(intro hh;cases hh;done)|(simp[go_sem,pow2Bits_snoc, *];done)|(simp[go_sem];omega)|(simp (maxDischargeDepth:=9) [go_sem,pow2Bits_snoc, *];done))
  ·clear h1
   gi_wp2_with fail
   refine(CallsIn.inRound l (callsIn_wide.2 (mul2_u _ _ _))).mono ?_
   rintro e w' ⟨rfl,hB⟩;obtain⟨hc,hf⟩:=bcell hB;have hz:=hB.size;(try simp at hz);(try simp at hc);(try simp at hf)
   have k1:w.heap.size<w'.heap.size:=by omega
   have k2:w.heap.size+1<w'.heap.size:=by omega
   have k3:w.heap.size+1+1<w'.heap.size:=by omega
   have k4:w.heap.size+1+1+1<w'.heap.size:=by omega
   gi_wp2_with fail
   refine(CallsIn.inRound l (callsIn_wide.2 (mul2_r _ _ _ ha hb _))).mono ?_
   rintro e w' ⟨rfl,hB⟩;obtain⟨hc,hf⟩:=bcell hB;have hz:=hB.size;(try simp at hz);(try simp at hc);(try simp at hf)
   gi_wp2_with fail
   refine⟨(by repeat(first|exact KeepsOthers.refl _|refine KeepsOthers.trans ?_ (KeepsOthers.setCell _ _ _)|refine KeepsOthers.trans ?_ (KeepsOthers.alloc _ _)|refine KeepsOthers.trans ?_ (KeepsOthers.drew _)|refine KeepsOthers.trans ?_ (KeepsOthers.below (by assumption)))),(by repeat(first|exact KeepB.refl _ _|refine KeepB.trans ?_ (KeepB.setCell (by first|exact Nat.le_refl _|(simp;done)|omega|(simp;omega)) _)|refine KeepB.trans ?_ (KeepB.below (by assumption) (by first|exact Nat.le_refl _|(simp;done)|omega|(simp;omega))))),⟨true,?_⟩,bel⟩
   refine⟨?_,?_,?_,?_,?_,?_,?_,?_,?_,?_,?_,?_,?_,?_⟩
   all_goals(first|(intro hh;cases hh;done)|(simp[go_sem,pow2Bits_snoc, *];done)|(simp[go_sem];omega)|(simp (maxDischargeDepth:=9) [go_sem,pow2Bits_snoc, *];done))
  ·clear h1
   gi_wp2_with fail
   refine(CallsIn.inRound l (callsIn_wide.2 (mul2_u _ _ _))).mono ?_
   rintro e w' ⟨rfl,hB⟩;obtain⟨hc,hf⟩:=bcell hB;have hz:=hB.size;(try simp at hz);(try simp at hc);(try simp at hf)
   have k1:w.heap.size<w'.heap.size:=by omega
   have k2:w.heap.size+1<w'.heap.size:=by omega
   have k3:w.heap.size+1+1<w'.heap.size:=by omega
   have k4:w.heap.size+1+1+1<w'.heap.size:=by omega
   gi_wp2_with fail
   refine(CallsIn.inRound l (callsIn_wide.2 (mul2_r _ _ _ ha hb _))).mono ?_
   rintro e w' ⟨rfl,hB⟩;obtain⟨hc,hf⟩:=bcell hB;have hz:=hB.size;(try simp at hz);(try simp at hc);(try simp at hf)
   gi_wp2_with fail
   refine⟨(by repeat(first|exact KeepsOthers.refl _|refine KeepsOthers.trans ?_ (KeepsOthers.setCell _ _ _)|refine KeepsOthers.trans ?_ (KeepsOthers.alloc _ _)|refine KeepsOthers.trans ?_ (KeepsOthers.drew _)|refine KeepsOthers.trans ?_ (KeepsOthers.below (by assumption)))),(by repeat(first|exact KeepB.refl _ _|refine KeepB.trans ?_ (KeepB.setCell (by first|exact Nat.le_refl _|(simp;done)|omega|(simp;omega)) _)|refine KeepB.trans ?_ (KeepB.below (by assumption) (by first|exact Nat.le_refl _|(simp;done)|omega|(simp;omega))))),⟨true,?_⟩,bel⟩
   refine⟨?_,?_,?_,?_,?_,?_,?_,?_,?_,?_,?_,?_,?_,?_⟩
   all_goals(first|(intro hh;cases hh;done)|(simp[go_sem,pow2Bits_snoc, *];done)|(simp[go_sem];omega)|(simp (maxDischargeDepth:=9) [go_sem,pow2Bits_snoc, *];done))
 case done =>
  rintro D ys W hD rfl ⟨⟨s,h0,h1,h2,h3,h4,h5,h6,h7,h8,h9,h10,h11,h12,h13⟩,hB⟩ hK
  gi_wp2
  have e0:((W.setCell ⟨w.heap.size+1,0,none⟩ (.int .u64 (vz (pow2Bits (zf a0,zf a1) (bitsUp x 64)).1))).setCell ⟨w.heap.size+1,1,none⟩ (.int .u64 (vz (pow2Bits (zf a0,zf a1) (bitsUp x 64)).2))).cell? ⟨w.heap.size+1,0,none⟩=some (.int .u64 (vz (pow2Bits (zf a0,zf a1) (bitsUp x 64)).1)):=by simp (maxDischargeDepth:=9) [go_sem, *]
  have e1:((W.setCell ⟨w.heap.size+1,0,none⟩ (.int .u64 (vz (pow2Bits (zf a0,zf a1) (bitsUp x 64)).1))).setCell ⟨w.heap.size+1,1,none⟩ (.int .u64 (vz (pow2Bits (zf a0,zf a1) (bitsUp x 64)).2))).cell? ⟨w.heap.size+1,1,none⟩=some (.int .u64 (vz (pow2Bits (zf a0,zf a1) (bitsUp x 64)).2)):=by simp (maxDischargeDepth:=9) [go_sem, *]
  have hK':=(KeepsOthers.trans (KeepsOthers.setCell W ⟨w.heap.size+1,0,none⟩ (.int .u64 (vz (pow2Bits (zf a0,zf a1) (bitsUp x 64)).1))) (KeepsOthers.setCell _ ⟨w.heap.size+1,1,none⟩ (.int .u64 (vz (pow2Bits (zf a0,zf a1) (bitsUp x 64)).2)))).same D _ hK rfl
  have hB5:Below w.heap.size w ((W.setCell ⟨w.heap.size+1,0,none⟩ (.int .u64 (vz (pow2Bits (zf a0,zf a1) (bitsUp x 64)).1))).setCell ⟨w.heap.size+1,1,none⟩ (.int .u64 (vz (pow2Bits (zf a0,zf a1) (bitsUp x 64)).2))):=bel
  rw[Exit.noGoto_ret]
  refine⟨by simp,.inl ⟨_,_,rfl,run_takeDeferred hK',?_⟩⟩
  have f0:=cell_kept e0 (grownBy_putObj' _ D (.deferred none)) (fun r e=>by cases e;exact⟨_,hK',rfl⟩)
  have f1:=cell_kept e1 (grownBy_putObj' _ D (.deferred none)) (fun r e=>by cases e;exact⟨_,hK',rfl⟩)
  exact⟨v2 (pow2 (zf a0,zf a1) x),by simp[results,Tryz.results195, go_sem,f0,f1,v2,pow2],rfl,below_shut hB5 (Nat.le_refl _) (by omega)⟩
 case stop =>
  rintro D c pre W _ _ h _
  exact h.elim
end
section
open Go.RowKit Go.Phx Go.Shelf
theorem rootS_cases(a:F):((rootS a).2=false∧(rootS a).1=0)∨((rootS a).2=true∧(rootS a).1*(rootS a).1=a∧vz (rootS a).1 % 2=0):=by
 by_cases h:pw a 536870717*pw a 536870717=a
 ·by_cases h2:vz (pw a 536870717) % 2=1
  ·rw[root_odd a h h2]
   refine .inr ⟨rfl,?_,?_⟩
   ·show -pw a 536870717 * -pw a 536870717=a
    generalize pw a 536870717=x at h
    grind -lia -linarith
   ·show vz (-pw a 536870717) % 2=0
    have h3:=vz_neg (pw a 536870717) (by omega)
    omega
  ·rw[root_even a h h2]
   have:=vz_nonneg (pw a 536870717)
   refine .inr ⟨rfl,h,?_⟩
   show vz (pw a 536870717) % 2=0
   omega
 ·rw[root_no a h]
  exact .inl ⟨rfl,rfl⟩
theorem mul2_x(a b c d:Int) (ha:0≤a) (hb:0≤b) (hc:0≤c) (hd:0≤d) (w:World) :
  Calls Tryz.prog 193 #[.agg #[.int .u64 a,.int .u64 b],.agg #[.int .u64 c,.int .u64 d]] w (Ret w (.agg #[.int .u64 (vz (mul2 (zf a,zf b) (zf c,zf d)).1),.int .u64 (vz (mul2 (zf a,zf b) (zf c,zf d)).2)])):=mul2_calls a b c d ha hb hc hd w
theorem pow2_x(a b x:Int) (ha:0≤a) (hb:0≤b) (hx:0≤x) (hx2:x≤18446744073709551615) (w:World) :
  Calls Tryz.prog 195 #[.agg #[.int .u64 a,.int .u64 b],.int .u64 x] w (Ret w (.agg #[.int .u64 (vz (pow2 (zf a,zf b) x).1),.int .u64 (vz (pow2 (zf a,zf b) x).2)])):=pow2_calls a b x ha hb hx hx2 w
end
end Go.Proofs.YtobgigcdpiikaaaGreatDoor
