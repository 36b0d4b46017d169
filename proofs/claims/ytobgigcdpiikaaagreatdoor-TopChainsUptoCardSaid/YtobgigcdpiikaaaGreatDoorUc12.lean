/- Plain laws and walks, each by its own conditions. -/
import Derived.Test.YtobgigcdpiikaaaGreatDoorUc11
import Derived.Test.YtobgigcdpiikaaaGreatDoorUc8
set_option linter.unusedSimpArgs false
set_option linter.unusedVariables false
set_option maxRecDepth 100000
set_option maxHeartbeats 16000000
namespace Go.Proofs.YtobgigcdpiikaaaGreatDoor
section
open BigFrame Go.RowKit Go.Phx Go.Shelf
attribute [local go_sem] Oper.semAt_some fldInf
/-- a round of the pairing -/
noncomputable def millStep (p:E) (q:F×F) (s:F2×E) (b:Bool):F2×E :=
 if b then(mul2 (mul2 (mul2 s.1 s.1) (lineE s.2 s.2 q)) (lineE (addE s.2 s.2) p q),addE (addE s.2 s.2) p)
 else(mul2 (mul2 s.1 s.1) (lineE s.2 s.2 q),addE s.2 s.2)
noncomputable def mill (p:E) (q:F×F) (l:List Bool):F2×E:=l.foldl (millStep p q) ((1,0),p)
theorem mill_snoc(p:E) (q:F×F) (l:List Bool) (b:Bool):mill p q (l ++ [b])=millStep p q (mill p q l) b:=by simp[mill]
theorem mill_on{p:E} (hp:onE p=true) (q:F×F) (l:List Bool):onE (mill p q l).2=true:=by
 unfold mill
 suffices h:∀ (l:List Bool) (s:F2×E),onE s.2=true→onE (l.foldl (millStep p q) s).2=true from h l _ hp
 intro l
 induction l with
 | nil=>exact fun s h=>h
 | cons b l ih =>
  intro s h
  rw[List.foldl_cons]
  refine ih _ ?_
  cases b
  ·exact addE_on h h
  ·exact addE_on (addE_on h h) hp
/-- the pairing of two points -/
noncomputable def pairE:E→E→F2
 | none,_=>(1,0)
 | some _,none=>(1,0)
 | some p,some q=>pow2 (mill (some p) q (obits 28)).1 8589931464
theorem mul2_w(z u:F2) (w:World):Calls Tryz.prog 193 #[v2' z,v2' u] w (Ret w (v2' (mul2 z u))):=by
 have h:=mul2_x (vz z.1) (vz z.2) (vz u.1) (vz u.2) (vz_nonneg _) (vz_nonneg _) (vz_nonneg _) (vz_nonneg _) w
 rw[zf_vz,zf_vz,zf_vz,zf_vz]at h
 exact h
theorem pow2_w(z:F2) (w:World):Calls Tryz.prog 195 #[v2' z,.int .u64 8589931464] w (Ret w (v2' (pow2 z 8589931464))):=by
 have h:=pow2_x (vz z.1) (vz z.2) 8589931464 (vz_nonneg _) (vz_nonneg _) (by decide) (by decide) w
 rw[zf_vz,zf_vz]at h
 exact h
abbrev cF(z:F2):Array Value := #[.int .u64 (vz z.1),.int .u64 (vz z.2)]
abbrev cE(t:E):Array Value := #[.int .u64 (px t),.int .u64 (py t),.bool (pf t)]
/-- the variables of the rounds -/
def MillAt(n bf bt:Nat) (p q:F×F) (s:F2×E) (W:World):Prop :=
 Blk W n 153 #[.int .u64 (vz p.1),.int .u64 (vz p.2),.bool false]∧Blk W (n+1) 153 #[.int .u64 (vz q.1),.int .u64 (vz q.2),.bool false]∧Blk W (n+1+1) 266 #[.int .u64 0,.int .u64 0]∧Blk W bf 266 (cF s.1)∧Blk W bt 153 (cE s.2)
theorem MillAt.own(n bf bt:Nat) (p q:F×F):Own (fun pre W=>MillAt n bf bt p q (mill (some p) q pre) W):=fun _ _ _ _ ⟨h0,h1,h2,h3,h4⟩ hg hr =>
 ⟨blk_kept h0 hg hr,blk_kept h1 hg hr,blk_kept h2 hg hr,blk_kept h3 hg hr,blk_kept h4 hg hr⟩
theorem pair_good(p q:F×F) (hp:inG (some p)=true) (hq:inG (some q)=true) (w:World) :
  Calls Tryz.prog 182 #[.agg #[.int .u64 (vz p.1),.int .u64 (vz p.2),.bool false],.agg #[.int .u64 (vz q.1),.int .u64 (vz q.2),.bool false]] w (Ret w (.tuple #[v2' (pairE (some p) (some q)),.int .i64 0])):=by
 have n1:=in_good (some p) (inG_on hp)
 have n2:=in_good (some q) (inG_on hq)
 have hpo:=inG_on hp
 rw[hp]at n1
 rw[hq]at n2
 simp only[show px (some p)=vz p.1 from rfl,show py (some p)=vz p.2 from rfl,show pf (some p)=false from rfl]at n1
 simp only[show px (some q)=vz q.1 from rfl,show py (some q)=vz q.2 from rfl,show pf (some q)=false from rfl]at n2
 have n3:=one_x
 clear hp hq
 rw[show pairE (some p) (some q)=pow2 (mill (some p) q (obits 28)).1 8589931464 from rfl]
 obtain⟨O,hO⟩:∃ O,mill (some p) q (obits 28)=O:=⟨_,rfl⟩
 rw[hO]
 replace hO:=Z hO
 refine(callsIn_wide (n:=9)).1 ?_
 have hwf:∀ f,Fence.wide.fn f:=fun _=>trivial
 refine callsIn_of_wp_marks Tryz.func182 rfl trivial ?_ rfl
 simp only[Tryz.ntmps182, List.size_toArray,List.length_cons,List.length_nil,Nat.reduceAdd,Nat.reduceSub,Array.replicate_succ,Array.replicate_zero,List.push_toArray,List.append_toArray,List.nil_append,List.cons_append]
 gi_wp2
 refine wpIn_scope ?_
 gi_wp2_with fail
 refine(callsIn_wide.2 (n1 _)).mono ?_
 rintro e w1 ⟨rfl,hB⟩
 (have HBn:Below w.heap.size w w1:=Below.on hB bel;have N0:=Z (Blk.below (g:=w.heap.size) (by repeat(first|(with_reducible first|exact Blk.new0 ..|exact Blk.new1 ..|exact Blk.new2 ..|exact Blk.new3 ..|exact Blk.new4 ..|apply Blk.set_|apply Blk.alloc|apply Blk.drewN|apply Blk.drew)|(with_reducible apply Blk.over;first|(intro h;omega)|(simp;done)|(simp;omega)))) hB);(try simp only[jB,jC,jD]at N0);have N1:=Z (Blk.below (g:=w.heap.size+1) (by repeat(first|(with_reducible first|exact Blk.new0 ..|exact Blk.new1 ..|exact Blk.new2 ..|exact Blk.new3 ..|exact Blk.new4 ..|apply Blk.set_|apply Blk.alloc|apply Blk.drewN|apply Blk.drew)|(with_reducible apply Blk.over;first|(intro h;omega)|(simp;done)|(simp;omega)))) hB);(try simp only[jB,jC,jD]at N1);have N2:=Z (Blk.below (g:=w.heap.size+1+1) (by repeat(first|(with_reducible first|exact Blk.new0 ..|exact Blk.new1 ..|exact Blk.new2 ..|exact Blk.new3 ..|exact Blk.new4 ..|apply Blk.set_|apply Blk.alloc|apply Blk.drewN|apply Blk.drew)|(with_reducible apply Blk.over;first|(intro h;omega)|(simp;done)|(simp;omega)))) hB);(try simp only[jB,jC,jD]at N2);(try clear HB);clear hB;have HB:=HBn;clear HBn;have HZw1:=HB.size;have K0:=N0;clear N0;have k0:=Blk.cell K0.out;have f0:=Blk.free K0.out;have l0:=Blk.lt K0.out;have m0:=Nat.le_of_lt l0;have K1:=N1;clear N1;have k1:=Blk.cell K1.out;have f1:=Blk.free K1.out;have l1:=Blk.lt K1.out;have m1:=Nat.le_of_lt l1;have K2:=N2;clear N2;have k2:=Blk.cell K2.out;have f2:=Blk.free K2.out;have l2:=Blk.lt K2.out;have m2:=Nat.le_of_lt l2)
 gi_wp2_with fail
 refine(callsIn_wide.2 (n2 _)).mono ?_
 rintro e w2 ⟨rfl,hB⟩
 (have HBn:Below w.heap.size w w2:=Below.on hB bel;have N0:=Z (Blk.below (g:=w.heap.size) (by repeat(first|(with_reducible first|exact K0.out|exact Blk.new0 ..|exact Blk.new1 ..|exact Blk.new2 ..|exact Blk.new3 ..|exact Blk.new4 ..|apply Blk.set_|apply Blk.alloc|apply Blk.drewN|apply Blk.drew)|(with_reducible apply Blk.over;first|(intro h;omega)|(simp;done)|(simp;omega)))) hB);(try simp only[jB,jC,jD]at N0);have N1:=Z (Blk.below (g:=w.heap.size+1) (by repeat(first|(with_reducible first|exact K1.out|exact Blk.new0 ..|exact Blk.new1 ..|exact Blk.new2 ..|exact Blk.new3 ..|exact Blk.new4 ..|apply Blk.set_|apply Blk.alloc|apply Blk.drewN|apply Blk.drew)|(with_reducible apply Blk.over;first|(intro h;omega)|(simp;done)|(simp;omega)))) hB);(try simp only[jB,jC,jD]at N1);have N2:=Z (Blk.below (g:=w.heap.size+1+1) (by repeat(first|(with_reducible first|exact K2.out|exact Blk.new0 ..|exact Blk.new1 ..|exact Blk.new2 ..|exact Blk.new3 ..|exact Blk.new4 ..|apply Blk.set_|apply Blk.alloc|apply Blk.drewN|apply Blk.drew)|(with_reducible apply Blk.over;first|(intro h;omega)|(simp;done)|(simp;omega)))) hB);(try simp only[jB,jC,jD]at N2);clear K0 k0 f0 l0 m0 K1 k1 f1 l1 m1 K2 k2 f2 l2 m2;(try clear HB);clear hB;have HB:=HBn;clear HBn;have HZw2:=HB.size;have K0:=N0;clear N0;have k0:=Blk.cell K0.out;have f0:=Blk.free K0.out;have l0:=Blk.lt K0.out;have m0:=Nat.le_of_lt l0;have K1:=N1;clear N1;have k1:=Blk.cell K1.out;have f1:=Blk.free K1.out;have l1:=Blk.lt K1.out;have m1:=Nat.le_of_lt l1;have K2:=N2;clear N2;have k2:=Blk.cell K2.out;have f2:=Blk.free K2.out;have l2:=Blk.lt K2.out;have m2:=Nat.le_of_lt l2)
 gi_wp2_with fail
 rename_i K hK
 have REST:∀ (bf bt:Nat) (W:World),Below w.heap.size w W→w.heap.size+1+1<bf→w.heap.size+1+1<bt→bf≠bt→(Blk W w.heap.size 153 #[.int .u64 (vz p.1),.int .u64 (vz p.2),.bool false]∧Blk W (w.heap.size+1) 153 #[.int .u64 (vz q.1),.int .u64 (vz q.2),.bool false]∧Blk W (w.heap.size+1+1) 266 #[.int .u64 0,.int .u64 0]∧Blk W bf 266 #[.int .u64 1,.int .u64 0]∧Blk W bt 153 #[.int .u64 (vz p.1),.int .u64 (vz p.2),.bool false])→K { tmps := #[.agg #[.int .u64 (vz p.1),.int .u64 (vz p.2),.bool false],.agg #[.int .u64 (vz q.1),.int .u64 (vz q.2),.bool false],.pointer (some ⟨w.heap.size,0,none⟩),.pointer (some ⟨w.heap.size+1,0,none⟩),.pointer (some ⟨w.heap.size+1+1,0,none⟩),.int .i64 0,.pointer (some ⟨bf,0,none⟩),.pointer (some ⟨bt,0,none⟩),undef,.bool false,.agg #[.int .u64 (vz p.1),.int .u64 (vz p.2),.bool false],.bool true,.bool false,.bool false,.agg #[.int .u64 (vz q.1),.int .u64 (vz q.2),.bool false],.bool true,.bool false,.bool false,undef,.bool false,.pointer (some ⟨w.heap.size,2,none⟩),.bool false,.bool false,.pointer (some ⟨w.heap.size+1,2,none⟩),.bool false,.bool false,undef,.agg #[.int .u64 1,.int .u64 0],.agg #[.int .u64 (vz p.1),.int .u64 (vz p.2),.bool false],undef,undef,undef,undef,undef,undef,undef,undef,undef,undef,undef,undef,undef,undef,undef,undef,undef,undef,undef,undef,undef,undef,undef,undef,undef,undef,undef,undef,undef,undef,undef,undef],defers:=[] } W:=by
  clear n1 n2 n3 HB HZw1 HZw2 K0 k0 f0 l0 m0 K1 k1 f1 l1 m1 K2 k2 f2 l2 m2
  intro bf bt W0 HB hbf hbt hne HM
  have a1:bt≠bf:=fun e=>hne e.symm
  have a2:w.heap.size≠bf:=by omega
  have a3:w.heap.size+1≠bf:=by omega
  have a4:w.heap.size+1+1≠bf:=by omega
  have a5:w.heap.size≠bt:=by omega
  have a6:w.heap.size+1≠bt:=by omega
  have a7:w.heap.size+1+1≠bt:=by omega
  have a8:bf≠w.heap.size:=by omega
  have a9:bf≠w.heap.size+1:=by omega
  have b1:bf≠w.heap.size+1+1:=by omega
  have b2:bt≠w.heap.size:=by omega
  have b3:bt≠w.heap.size+1:=by omega
  have b4:bt≠w.heap.size+1+1:=by omega
  have b5:w.heap.size≤bf:=by omega
  have b6:w.heap.size≤bt:=by omega
  refine hK _ _ ?_
  clear hK
  gi_wp2_with fail
  refine wpIn_label ?_
  gi_wp2_with(gi_at_call 192; refine(pdigits_in _ _).mono ?_;rintro e W1 ⟨rfl,rfl⟩)
  have hf:=enters_of Tryz.func198 U rfl
  have HM0:MillAt w.heap.size bf bt p q (mill (some p) q []) W1:=HM
  have hf0:bf<W1.heap.size:=HM.2.2.2.1.lt
  have ht0:bt<W1.heap.size:=HM.2.2.2.2.lt
  clear HM
  refine wpIn_rangeFunc_ownF rfl (by decide) (gf := 198) (lb := #[]) rfl trivial hf
   (pdigits_stops _ (by decide) W1) (fun _ _=>trivial) (fun _ _ _ _ _ _ _ _=>trivial) (Below.refl _ _) (fun _=>rfl)
   (fun pre W=>MillAt w.heap.size bf bt p q (mill (some p) q pre) W∧Below w.heap.size w W)
   (fun _ _ _=>False)
   (OwnFrom.and (Own.from (MillAt.own _ _ _ _ _) _) (ownFrom_below (Nat.le_refl _) (by omega)))
   (fun _ _ _ _ _ hs _ _=>hs)
   ⟨HM0,HB⟩
   (fun y=>{ tmps := #[.agg #[.int .u64 (vz p.1),.int .u64 (vz p.2),.bool false],.agg #[.int .u64 (vz q.1),.int .u64 (vz q.2),.bool false],.pointer (some ⟨w.heap.size,0,none⟩),.pointer (some ⟨w.heap.size+1,0,none⟩),.pointer (some ⟨w.heap.size+1+1,0,none⟩),.int .i64 0,.pointer (some ⟨bf,0,none⟩),.pointer (some ⟨bt,0,none⟩),.bool y,.bool false,.agg #[.int .u64 (vz p.1),.int .u64 (vz p.2),.bool false],.bool true,.bool false,.bool false,.agg #[.int .u64 (vz q.1),.int .u64 (vz q.2),.bool false],.bool true,.bool false,.bool false,undef,.bool false,.pointer (some ⟨w.heap.size,2,none⟩),.bool false,.bool false,.pointer (some ⟨w.heap.size+1,2,none⟩),.bool false,.bool false,undef,.agg #[.int .u64 1,.int .u64 0],.agg #[.int .u64 (vz p.1),.int .u64 (vz p.2),.bool false],.func (.func 198) #[] #[],.bool y,undef,undef,undef,undef,undef,undef,undef,undef,undef,undef,undef,undef,undef,undef,undef,undef,undef,undef,undef,undef,undef,undef,undef,undef,undef,undef,undef,undef,undef,undef],defers:=[] }) ?assign ?body ?done ?stop
  case assign =>
   intro l x W K hK
   gi_wp2
   exact hK
  case body =>
   rintro l pre y W ⟨HM,HB⟩ _
   have hon:=mill_on hpo q pre
   have HS:=mill_snoc (some p) q pre y
   obtain⟨s,hs⟩:∃ s,mill (some p) q pre=s:=⟨_,rfl⟩
   rw[hs]at HM hon HS
   clear hs HM0 hf0 ht0
   obtain⟨f,t⟩:=s
   have n4:=line_calls t t q hon
   have n5:=add_good t t hon hon
   have hon2:=addE_on hon hon
   have n6:=line_calls (addE t t) (some p) q hon2
   have n7:=add_good (addE t t) (some p) hon2 hpo
   simp only[show px (some p)=vz p.1 from rfl,show py (some p)=vz p.2 from rfl,show pf (some p)=false from rfl]at n6 n7
   clear hon hon2
   obtain⟨K0,K1,K2,K3,K4⟩:=HM
   replace K0:=Z K0
   replace K1:=Z K1
   replace K2:=Z K2
   replace K3:=Z K3
   replace K4:=Z K4
   (have k0:=Blk.cell K0.out;have f0:=Blk.free K0.out;have l0:=Blk.lt K0.out;have m0:=Nat.le_of_lt l0;have k1:=Blk.cell K1.out;have f1:=Blk.free K1.out;have l1:=Blk.lt K1.out;have m1:=Nat.le_of_lt l1;have k2:=Blk.cell K2.out;have f2:=Blk.free K2.out;have l2:=Blk.lt K2.out;have m2:=Nat.le_of_lt l2;have k3:=Blk.cell K3.out;have f3:=Blk.free K3.out;have l3:=Blk.lt K3.out;have m3:=Nat.le_of_lt l3;have k4:=Blk.cell K4.out;have f4:=Blk.free K4.out;have l4:=Blk.lt K4.out;have m4:=Nat.le_of_lt l4)
   cases y
   ·replace HS:=Z (HS.trans (by rfl:_=(mul2 (mul2 f f) (lineE t t q),addE t t)))
    gi_wp2_with fail
    (refine wpIn_round_later_tail 8 U U U ?_;simp only[List.take_succ_cons,List.take_zero,List.drop_succ_cons,List.drop_zero];(repeat(go_big_quiet_step ((first
     | (go_at_call 193; exact lq (mul2_w _ _ _))
     | (go_at_call 194; exact lq (n4 _))))));refine wpQuiet_nil ?_;intro w' hB)
    have O1:=KeepsOthers.below hB
    (have HBn:Below w.heap.size w w':=Below.on hB bel;have N0:=Z (Blk.below (g:=w.heap.size) (by repeat(first|(with_reducible first|exact K0.out|exact Blk.new0 ..|exact Blk.new1 ..|exact Blk.new2 ..|exact Blk.new3 ..|exact Blk.new4 ..|exact Blk.newS1 ..|exact Blk.newS2 ..|exact Blk.newS3 ..|apply Blk.set_|apply Blk.alloc|apply Blk.drewN|apply Blk.drew)|(with_reducible apply Blk.over2;first|assumption|omega))) hB);(try simp only[jB,jC,jD]at N0);have N1:=Z (Blk.below (g:=w.heap.size+1) (by repeat(first|(with_reducible first|exact K1.out|exact Blk.new0 ..|exact Blk.new1 ..|exact Blk.new2 ..|exact Blk.new3 ..|exact Blk.new4 ..|exact Blk.newS1 ..|exact Blk.newS2 ..|exact Blk.newS3 ..|apply Blk.set_|apply Blk.alloc|apply Blk.drewN|apply Blk.drew)|(with_reducible apply Blk.over2;first|assumption|omega))) hB);(try simp only[jB,jC,jD]at N1);have N2:=Z (Blk.below (g:=w.heap.size+1+1) (by repeat(first|(with_reducible first|exact K2.out|exact Blk.new0 ..|exact Blk.new1 ..|exact Blk.new2 ..|exact Blk.new3 ..|exact Blk.new4 ..|exact Blk.newS1 ..|exact Blk.newS2 ..|exact Blk.newS3 ..|apply Blk.set_|apply Blk.alloc|apply Blk.drewN|apply Blk.drew)|(with_reducible apply Blk.over2;first|assumption|omega))) hB);(try simp only[jB,jC,jD]at N2);have N3:=Z (Blk.below (g:=bf) (by repeat(first|(with_reducible first|exact K3.out|exact Blk.new0 ..|exact Blk.new1 ..|exact Blk.new2 ..|exact Blk.new3 ..|exact Blk.new4 ..|exact Blk.newS1 ..|exact Blk.newS2 ..|exact Blk.newS3 ..|apply Blk.set_|apply Blk.alloc|apply Blk.drewN|apply Blk.drew)|(with_reducible apply Blk.over2;first|assumption|omega))) hB);(try simp only[jB,jC,jD]at N3);have N4:=Z (Blk.below (g:=bt) (by repeat(first|(with_reducible first|exact K4.out|exact Blk.new0 ..|exact Blk.new1 ..|exact Blk.new2 ..|exact Blk.new3 ..|exact Blk.new4 ..|exact Blk.newS1 ..|exact Blk.newS2 ..|exact Blk.newS3 ..|apply Blk.set_|apply Blk.alloc|apply Blk.drewN|apply Blk.drew)|(with_reducible apply Blk.over2;first|assumption|omega))) hB);(try simp only[jB,jC,jD]at N4);clear K0 k0 f0 l0 m0 K1 k1 f1 l1 m1 K2 k2 f2 l2 m2 K3 k3 f3 l3 m3 K4 k4 f4 l4 m4;(try clear HB);clear hB;have HB:=HBn;clear HBn;have HZw':=HB.size;have K0:=N0;clear N0;have k0:=Blk.cell K0.out;have f0:=Blk.free K0.out;have l0:=Blk.lt K0.out;have m0:=Nat.le_of_lt l0;have K1:=N1;clear N1;have k1:=Blk.cell K1.out;have f1:=Blk.free K1.out;have l1:=Blk.lt K1.out;have m1:=Nat.le_of_lt l1;have K2:=N2;clear N2;have k2:=Blk.cell K2.out;have f2:=Blk.free K2.out;have l2:=Blk.lt K2.out;have m2:=Nat.le_of_lt l2;have K3:=N3;clear N3;have k3:=Blk.cell K3.out;have f3:=Blk.free K3.out;have l3:=Blk.lt K3.out;have m3:=Nat.le_of_lt l3;have K4:=N4;clear N4;have k4:=Blk.cell K4.out;have f4:=Blk.free K4.out;have l4:=Blk.lt K4.out;have m4:=Nat.le_of_lt l4)
    gi_wp2_with fail
    refine(CallsIn.inRound l (callsIn_wide.2 (n5 _))).mono ?_
    rintro e w2 ⟨rfl,hB⟩
    have O2:KeepsOthers W w2:=KeepsOthers.trans (by repeat(first|assumption|refine KeepsOthers.trans ?_ (KeepsOthers.setCell _ _ _)|refine KeepsOthers.trans ?_ (KeepsOthers.alloc _ _)|refine KeepsOthers.trans ?_ (KeepsOthers.drew _)|exact KeepsOthers.refl _)) (KeepsOthers.below hB)
    (have HBn:Below w.heap.size w w2:=Below.on hB bel;have N0:=Z (Blk.below (g:=w.heap.size) (by repeat(first|(with_reducible first|exact K0.out|exact Blk.new0 ..|exact Blk.new1 ..|exact Blk.new2 ..|exact Blk.new3 ..|exact Blk.new4 ..|exact Blk.newS1 ..|exact Blk.newS2 ..|exact Blk.newS3 ..|apply Blk.set_|apply Blk.alloc|apply Blk.drewN|apply Blk.drew)|(with_reducible apply Blk.over2;first|assumption|omega))) hB);(try simp only[jB,jC,jD]at N0);have N1:=Z (Blk.below (g:=w.heap.size+1) (by repeat(first|(with_reducible first|exact K1.out|exact Blk.new0 ..|exact Blk.new1 ..|exact Blk.new2 ..|exact Blk.new3 ..|exact Blk.new4 ..|exact Blk.newS1 ..|exact Blk.newS2 ..|exact Blk.newS3 ..|apply Blk.set_|apply Blk.alloc|apply Blk.drewN|apply Blk.drew)|(with_reducible apply Blk.over2;first|assumption|omega))) hB);(try simp only[jB,jC,jD]at N1);have N2:=Z (Blk.below (g:=w.heap.size+1+1) (by repeat(first|(with_reducible first|exact K2.out|exact Blk.new0 ..|exact Blk.new1 ..|exact Blk.new2 ..|exact Blk.new3 ..|exact Blk.new4 ..|exact Blk.newS1 ..|exact Blk.newS2 ..|exact Blk.newS3 ..|apply Blk.set_|apply Blk.alloc|apply Blk.drewN|apply Blk.drew)|(with_reducible apply Blk.over2;first|assumption|omega))) hB);(try simp only[jB,jC,jD]at N2);have N3:=Z (Blk.below (g:=bf) (by repeat(first|(with_reducible first|exact K3.out|exact Blk.new0 ..|exact Blk.new1 ..|exact Blk.new2 ..|exact Blk.new3 ..|exact Blk.new4 ..|exact Blk.newS1 ..|exact Blk.newS2 ..|exact Blk.newS3 ..|apply Blk.set_|apply Blk.alloc|apply Blk.drewN|apply Blk.drew)|(with_reducible apply Blk.over2;first|assumption|omega))) hB);(try simp only[jB,jC,jD]at N3);have N4:=Z (Blk.below (g:=bt) (by repeat(first|(with_reducible first|exact K4.out|exact Blk.new0 ..|exact Blk.new1 ..|exact Blk.new2 ..|exact Blk.new3 ..|exact Blk.new4 ..|exact Blk.newS1 ..|exact Blk.newS2 ..|exact Blk.newS3 ..|apply Blk.set_|apply Blk.alloc|apply Blk.drewN|apply Blk.drew)|(with_reducible apply Blk.over2;first|assumption|omega))) hB);(try simp only[jB,jC,jD]at N4);clear K0 k0 f0 l0 m0 K1 k1 f1 l1 m1 K2 k2 f2 l2 m2 K3 k3 f3 l3 m3 K4 k4 f4 l4 m4;(try clear HB);clear hB;have HB:=HBn;clear HBn;have HZw2:=HB.size;have K0:=N0;clear N0;have k0:=Blk.cell K0.out;have f0:=Blk.free K0.out;have l0:=Blk.lt K0.out;have m0:=Nat.le_of_lt l0;have K1:=N1;clear N1;have k1:=Blk.cell K1.out;have f1:=Blk.free K1.out;have l1:=Blk.lt K1.out;have m1:=Nat.le_of_lt l1;have K2:=N2;clear N2;have k2:=Blk.cell K2.out;have f2:=Blk.free K2.out;have l2:=Blk.lt K2.out;have m2:=Nat.le_of_lt l2;have K3:=N3;clear N3;have k3:=Blk.cell K3.out;have f3:=Blk.free K3.out;have l3:=Blk.lt K3.out;have m3:=Nat.le_of_lt l3;have K4:=N4;clear N4;have k4:=Blk.cell K4.out;have f4:=Blk.free K4.out;have l4:=Blk.lt K4.out;have m4:=Nat.le_of_lt l4)
    gi_wp2_with fail
    exact⟨(by repeat(first|assumption|refine KeepsOthers.trans ?_ (KeepsOthers.setCell _ _ _)|refine KeepsOthers.trans ?_ (KeepsOthers.alloc _ _)|refine KeepsOthers.trans ?_ (KeepsOthers.drew _)|exact KeepsOthers.refl _)),trivial,by rw[HS.out];exact⟨(by apply Blk.to;(repeat(first|(with_reducible first|exact K0.out|exact Blk.new0 ..|exact Blk.new1 ..|exact Blk.new2 ..|exact Blk.new3 ..|exact Blk.new4 ..|exact Blk.newS1 ..|exact Blk.newS2 ..|exact Blk.newS3 ..|apply Blk.set_|apply Blk.alloc|apply Blk.drewN|apply Blk.drew)|(with_reducible apply Blk.over2;first|assumption|omega)));rfl),(by apply Blk.to;(repeat(first|(with_reducible first|exact K1.out|exact Blk.new0 ..|exact Blk.new1 ..|exact Blk.new2 ..|exact Blk.new3 ..|exact Blk.new4 ..|exact Blk.newS1 ..|exact Blk.newS2 ..|exact Blk.newS3 ..|apply Blk.set_|apply Blk.alloc|apply Blk.drewN|apply Blk.drew)|(with_reducible apply Blk.over2;first|assumption|omega)));rfl),(by apply Blk.to;(repeat(first|(with_reducible first|exact K2.out|exact Blk.new0 ..|exact Blk.new1 ..|exact Blk.new2 ..|exact Blk.new3 ..|exact Blk.new4 ..|exact Blk.newS1 ..|exact Blk.newS2 ..|exact Blk.newS3 ..|apply Blk.set_|apply Blk.alloc|apply Blk.drewN|apply Blk.drew)|(with_reducible apply Blk.over2;first|assumption|omega)));rfl),(by apply Blk.to;(repeat(first|(with_reducible first|exact K3.out|exact Blk.new0 ..|exact Blk.new1 ..|exact Blk.new2 ..|exact Blk.new3 ..|exact Blk.new4 ..|exact Blk.newS1 ..|exact Blk.newS2 ..|exact Blk.newS3 ..|apply Blk.set_|apply Blk.alloc|apply Blk.drewN|apply Blk.drew)|(with_reducible apply Blk.over2;first|assumption|omega)));rfl),(by apply Blk.to;(repeat(first|(with_reducible first|exact K4.out|exact Blk.new0 ..|exact Blk.new1 ..|exact Blk.new2 ..|exact Blk.new3 ..|exact Blk.new4 ..|exact Blk.newS1 ..|exact Blk.newS2 ..|exact Blk.newS3 ..|apply Blk.set_|apply Blk.alloc|apply Blk.drewN|apply Blk.drew)|(with_reducible apply Blk.over2;first|assumption|omega)));rfl)⟩,bel⟩
   ·replace HS:=Z (HS.trans (by rfl:_=(mul2 (mul2 (mul2 f f) (lineE t t q)) (lineE (addE t t) (some p) q),addE (addE t t) (some p))))
    gi_wp2_with fail
    (refine wpIn_round_later_tail 8 U U U ?_;simp only[List.take_succ_cons,List.take_zero,List.drop_succ_cons,List.drop_zero];(repeat(go_big_quiet_step ((first
     | (go_at_call 193; exact lq (mul2_w _ _ _))
     | (go_at_call 194; exact lq (n4 _))))));refine wpQuiet_nil ?_;intro w' hB)
    have O1:=KeepsOthers.below hB
    (have HBn:Below w.heap.size w w':=Below.on hB bel;have N0:=Z (Blk.below (g:=w.heap.size) (by repeat(first|(with_reducible first|exact K0.out|exact Blk.new0 ..|exact Blk.new1 ..|exact Blk.new2 ..|exact Blk.new3 ..|exact Blk.new4 ..|exact Blk.newS1 ..|exact Blk.newS2 ..|exact Blk.newS3 ..|apply Blk.set_|apply Blk.alloc|apply Blk.drewN|apply Blk.drew)|(with_reducible apply Blk.over2;first|assumption|omega))) hB);(try simp only[jB,jC,jD]at N0);have N1:=Z (Blk.below (g:=w.heap.size+1) (by repeat(first|(with_reducible first|exact K1.out|exact Blk.new0 ..|exact Blk.new1 ..|exact Blk.new2 ..|exact Blk.new3 ..|exact Blk.new4 ..|exact Blk.newS1 ..|exact Blk.newS2 ..|exact Blk.newS3 ..|apply Blk.set_|apply Blk.alloc|apply Blk.drewN|apply Blk.drew)|(with_reducible apply Blk.over2;first|assumption|omega))) hB);(try simp only[jB,jC,jD]at N1);have N2:=Z (Blk.below (g:=w.heap.size+1+1) (by repeat(first|(with_reducible first|exact K2.out|exact Blk.new0 ..|exact Blk.new1 ..|exact Blk.new2 ..|exact Blk.new3 ..|exact Blk.new4 ..|exact Blk.newS1 ..|exact Blk.newS2 ..|exact Blk.newS3 ..|apply Blk.set_|apply Blk.alloc|apply Blk.drewN|apply Blk.drew)|(with_reducible apply Blk.over2;first|assumption|omega))) hB);(try simp only[jB,jC,jD]at N2);have N3:=Z (Blk.below (g:=bf) (by repeat(first|(with_reducible first|exact K3.out|exact Blk.new0 ..|exact Blk.new1 ..|exact Blk.new2 ..|exact Blk.new3 ..|exact Blk.new4 ..|exact Blk.newS1 ..|exact Blk.newS2 ..|exact Blk.newS3 ..|apply Blk.set_|apply Blk.alloc|apply Blk.drewN|apply Blk.drew)|(with_reducible apply Blk.over2;first|assumption|omega))) hB);(try simp only[jB,jC,jD]at N3);have N4:=Z (Blk.below (g:=bt) (by repeat(first|(with_reducible first|exact K4.out|exact Blk.new0 ..|exact Blk.new1 ..|exact Blk.new2 ..|exact Blk.new3 ..|exact Blk.new4 ..|exact Blk.newS1 ..|exact Blk.newS2 ..|exact Blk.newS3 ..|apply Blk.set_|apply Blk.alloc|apply Blk.drewN|apply Blk.drew)|(with_reducible apply Blk.over2;first|assumption|omega))) hB);(try simp only[jB,jC,jD]at N4);clear K0 k0 f0 l0 m0 K1 k1 f1 l1 m1 K2 k2 f2 l2 m2 K3 k3 f3 l3 m3 K4 k4 f4 l4 m4;(try clear HB);clear hB;have HB:=HBn;clear HBn;have HZw':=HB.size;have K0:=N0;clear N0;have k0:=Blk.cell K0.out;have f0:=Blk.free K0.out;have l0:=Blk.lt K0.out;have m0:=Nat.le_of_lt l0;have K1:=N1;clear N1;have k1:=Blk.cell K1.out;have f1:=Blk.free K1.out;have l1:=Blk.lt K1.out;have m1:=Nat.le_of_lt l1;have K2:=N2;clear N2;have k2:=Blk.cell K2.out;have f2:=Blk.free K2.out;have l2:=Blk.lt K2.out;have m2:=Nat.le_of_lt l2;have K3:=N3;clear N3;have k3:=Blk.cell K3.out;have f3:=Blk.free K3.out;have l3:=Blk.lt K3.out;have m3:=Nat.le_of_lt l3;have K4:=N4;clear N4;have k4:=Blk.cell K4.out;have f4:=Blk.free K4.out;have l4:=Blk.lt K4.out;have m4:=Nat.le_of_lt l4)
    gi_wp2_with fail
    refine(CallsIn.inRound l (callsIn_wide.2 (n5 _))).mono ?_
    rintro e w2 ⟨rfl,hB⟩
    have O2:KeepsOthers W w2:=KeepsOthers.trans (by repeat(first|assumption|refine KeepsOthers.trans ?_ (KeepsOthers.setCell _ _ _)|refine KeepsOthers.trans ?_ (KeepsOthers.alloc _ _)|refine KeepsOthers.trans ?_ (KeepsOthers.drew _)|exact KeepsOthers.refl _)) (KeepsOthers.below hB)
    (have HBn:Below w.heap.size w w2:=Below.on hB bel;have N0:=Z (Blk.below (g:=w.heap.size) (by repeat(first|(with_reducible first|exact K0.out|exact Blk.new0 ..|exact Blk.new1 ..|exact Blk.new2 ..|exact Blk.new3 ..|exact Blk.new4 ..|exact Blk.newS1 ..|exact Blk.newS2 ..|exact Blk.newS3 ..|apply Blk.set_|apply Blk.alloc|apply Blk.drewN|apply Blk.drew)|(with_reducible apply Blk.over2;first|assumption|omega))) hB);(try simp only[jB,jC,jD]at N0);have N1:=Z (Blk.below (g:=w.heap.size+1) (by repeat(first|(with_reducible first|exact K1.out|exact Blk.new0 ..|exact Blk.new1 ..|exact Blk.new2 ..|exact Blk.new3 ..|exact Blk.new4 ..|exact Blk.newS1 ..|exact Blk.newS2 ..|exact Blk.newS3 ..|apply Blk.set_|apply Blk.alloc|apply Blk.drewN|apply Blk.drew)|(with_reducible apply Blk.over2;first|assumption|omega))) hB);(try simp only[jB,jC,jD]at N1);have N2:=Z (Blk.below (g:=w.heap.size+1+1) (by repeat(first|(with_reducible first|exact K2.out|exact Blk.new0 ..|exact Blk.new1 ..|exact Blk.new2 ..|exact Blk.new3 ..|exact Blk.new4 ..|exact Blk.newS1 ..|exact Blk.newS2 ..|exact Blk.newS3 ..|apply Blk.set_|apply Blk.alloc|apply Blk.drewN|apply Blk.drew)|(with_reducible apply Blk.over2;first|assumption|omega))) hB);(try simp only[jB,jC,jD]at N2);have N3:=Z (Blk.below (g:=bf) (by repeat(first|(with_reducible first|exact K3.out|exact Blk.new0 ..|exact Blk.new1 ..|exact Blk.new2 ..|exact Blk.new3 ..|exact Blk.new4 ..|exact Blk.newS1 ..|exact Blk.newS2 ..|exact Blk.newS3 ..|apply Blk.set_|apply Blk.alloc|apply Blk.drewN|apply Blk.drew)|(with_reducible apply Blk.over2;first|assumption|omega))) hB);(try simp only[jB,jC,jD]at N3);have N4:=Z (Blk.below (g:=bt) (by repeat(first|(with_reducible first|exact K4.out|exact Blk.new0 ..|exact Blk.new1 ..|exact Blk.new2 ..|exact Blk.new3 ..|exact Blk.new4 ..|exact Blk.newS1 ..|exact Blk.newS2 ..|exact Blk.newS3 ..|apply Blk.set_|apply Blk.alloc|apply Blk.drewN|apply Blk.drew)|(with_reducible apply Blk.over2;first|assumption|omega))) hB);(try simp only[jB,jC,jD]at N4);clear K0 k0 f0 l0 m0 K1 k1 f1 l1 m1 K2 k2 f2 l2 m2 K3 k3 f3 l3 m3 K4 k4 f4 l4 m4;(try clear HB);clear hB;have HB:=HBn;clear HBn;have HZw2:=HB.size;have K0:=N0;clear N0;have k0:=Blk.cell K0.out;have f0:=Blk.free K0.out;have l0:=Blk.lt K0.out;have m0:=Nat.le_of_lt l0;have K1:=N1;clear N1;have k1:=Blk.cell K1.out;have f1:=Blk.free K1.out;have l1:=Blk.lt K1.out;have m1:=Nat.le_of_lt l1;have K2:=N2;clear N2;have k2:=Blk.cell K2.out;have f2:=Blk.free K2.out;have l2:=Blk.lt K2.out;have m2:=Nat.le_of_lt l2;have K3:=N3;clear N3;have k3:=Blk.cell K3.out;have f3:=Blk.free K3.out;have l3:=Blk.lt K3.out;have m3:=Nat.le_of_lt l3;have K4:=N4;clear N4;have k4:=Blk.cell K4.out;have f4:=Blk.free K4.out;have l4:=Blk.lt K4.out;have m4:=Nat.le_of_lt l4)
    gi_wp2_with fail
    (refine wpIn_round_later_tail 6 U U U ?_;simp only[List.take_succ_cons,List.take_zero,List.drop_succ_cons,List.drop_zero];(repeat(go_big_quiet_step ((first
     | (go_at_call 193; exact lq (mul2_w _ _ _))
     | (go_at_call 194; exact lq (n6 _))))));refine wpQuiet_nil ?_;intro w' hB)
    have O3:KeepsOthers W w':=KeepsOthers.trans (by repeat(first|assumption|refine KeepsOthers.trans ?_ (KeepsOthers.setCell _ _ _)|refine KeepsOthers.trans ?_ (KeepsOthers.alloc _ _)|refine KeepsOthers.trans ?_ (KeepsOthers.drew _)|exact KeepsOthers.refl _)) (KeepsOthers.below hB)
    (have HBn:Below w.heap.size w w':=Below.on hB bel;have N0:=Z (Blk.below (g:=w.heap.size) (by repeat(first|(with_reducible first|exact K0.out|exact Blk.new0 ..|exact Blk.new1 ..|exact Blk.new2 ..|exact Blk.new3 ..|exact Blk.new4 ..|exact Blk.newS1 ..|exact Blk.newS2 ..|exact Blk.newS3 ..|apply Blk.set_|apply Blk.alloc|apply Blk.drewN|apply Blk.drew)|(with_reducible apply Blk.over2;first|assumption|omega))) hB);(try simp only[jB,jC,jD]at N0);have N1:=Z (Blk.below (g:=w.heap.size+1) (by repeat(first|(with_reducible first|exact K1.out|exact Blk.new0 ..|exact Blk.new1 ..|exact Blk.new2 ..|exact Blk.new3 ..|exact Blk.new4 ..|exact Blk.newS1 ..|exact Blk.newS2 ..|exact Blk.newS3 ..|apply Blk.set_|apply Blk.alloc|apply Blk.drewN|apply Blk.drew)|(with_reducible apply Blk.over2;first|assumption|omega))) hB);(try simp only[jB,jC,jD]at N1);have N2:=Z (Blk.below (g:=w.heap.size+1+1) (by repeat(first|(with_reducible first|exact K2.out|exact Blk.new0 ..|exact Blk.new1 ..|exact Blk.new2 ..|exact Blk.new3 ..|exact Blk.new4 ..|exact Blk.newS1 ..|exact Blk.newS2 ..|exact Blk.newS3 ..|apply Blk.set_|apply Blk.alloc|apply Blk.drewN|apply Blk.drew)|(with_reducible apply Blk.over2;first|assumption|omega))) hB);(try simp only[jB,jC,jD]at N2);have N3:=Z (Blk.below (g:=bf) (by repeat(first|(with_reducible first|exact K3.out|exact Blk.new0 ..|exact Blk.new1 ..|exact Blk.new2 ..|exact Blk.new3 ..|exact Blk.new4 ..|exact Blk.newS1 ..|exact Blk.newS2 ..|exact Blk.newS3 ..|apply Blk.set_|apply Blk.alloc|apply Blk.drewN|apply Blk.drew)|(with_reducible apply Blk.over2;first|assumption|omega))) hB);(try simp only[jB,jC,jD]at N3);have N4:=Z (Blk.below (g:=bt) (by repeat(first|(with_reducible first|exact K4.out|exact Blk.new0 ..|exact Blk.new1 ..|exact Blk.new2 ..|exact Blk.new3 ..|exact Blk.new4 ..|exact Blk.newS1 ..|exact Blk.newS2 ..|exact Blk.newS3 ..|apply Blk.set_|apply Blk.alloc|apply Blk.drewN|apply Blk.drew)|(with_reducible apply Blk.over2;first|assumption|omega))) hB);(try simp only[jB,jC,jD]at N4);clear K0 k0 f0 l0 m0 K1 k1 f1 l1 m1 K2 k2 f2 l2 m2 K3 k3 f3 l3 m3 K4 k4 f4 l4 m4;(try clear HB);clear hB;have HB:=HBn;clear HBn;have HZw':=HB.size;have K0:=N0;clear N0;have k0:=Blk.cell K0.out;have f0:=Blk.free K0.out;have l0:=Blk.lt K0.out;have m0:=Nat.le_of_lt l0;have K1:=N1;clear N1;have k1:=Blk.cell K1.out;have f1:=Blk.free K1.out;have l1:=Blk.lt K1.out;have m1:=Nat.le_of_lt l1;have K2:=N2;clear N2;have k2:=Blk.cell K2.out;have f2:=Blk.free K2.out;have l2:=Blk.lt K2.out;have m2:=Nat.le_of_lt l2;have K3:=N3;clear N3;have k3:=Blk.cell K3.out;have f3:=Blk.free K3.out;have l3:=Blk.lt K3.out;have m3:=Nat.le_of_lt l3;have K4:=N4;clear N4;have k4:=Blk.cell K4.out;have f4:=Blk.free K4.out;have l4:=Blk.lt K4.out;have m4:=Nat.le_of_lt l4)
    gi_wp2_with fail
    refine(CallsIn.inRound l (callsIn_wide.2 (n7 _))).mono ?_
    rintro e w4 ⟨rfl,hB⟩
    have O4:KeepsOthers W w4:=KeepsOthers.trans (by repeat(first|assumption|refine KeepsOthers.trans ?_ (KeepsOthers.setCell _ _ _)|refine KeepsOthers.trans ?_ (KeepsOthers.alloc _ _)|refine KeepsOthers.trans ?_ (KeepsOthers.drew _)|exact KeepsOthers.refl _)) (KeepsOthers.below hB)
    (have HBn:Below w.heap.size w w4:=Below.on hB bel;have N0:=Z (Blk.below (g:=w.heap.size) (by repeat(first|(with_reducible first|exact K0.out|exact Blk.new0 ..|exact Blk.new1 ..|exact Blk.new2 ..|exact Blk.new3 ..|exact Blk.new4 ..|exact Blk.newS1 ..|exact Blk.newS2 ..|exact Blk.newS3 ..|apply Blk.set_|apply Blk.alloc|apply Blk.drewN|apply Blk.drew)|(with_reducible apply Blk.over2;first|assumption|omega))) hB);(try simp only[jB,jC,jD]at N0);have N1:=Z (Blk.below (g:=w.heap.size+1) (by repeat(first|(with_reducible first|exact K1.out|exact Blk.new0 ..|exact Blk.new1 ..|exact Blk.new2 ..|exact Blk.new3 ..|exact Blk.new4 ..|exact Blk.newS1 ..|exact Blk.newS2 ..|exact Blk.newS3 ..|apply Blk.set_|apply Blk.alloc|apply Blk.drewN|apply Blk.drew)|(with_reducible apply Blk.over2;first|assumption|omega))) hB);(try simp only[jB,jC,jD]at N1);have N2:=Z (Blk.below (g:=w.heap.size+1+1) (by repeat(first|(with_reducible first|exact K2.out|exact Blk.new0 ..|exact Blk.new1 ..|exact Blk.new2 ..|exact Blk.new3 ..|exact Blk.new4 ..|exact Blk.newS1 ..|exact Blk.newS2 ..|exact Blk.newS3 ..|apply Blk.set_|apply Blk.alloc|apply Blk.drewN|apply Blk.drew)|(with_reducible apply Blk.over2;first|assumption|omega))) hB);(try simp only[jB,jC,jD]at N2);have N3:=Z (Blk.below (g:=bf) (by repeat(first|(with_reducible first|exact K3.out|exact Blk.new0 ..|exact Blk.new1 ..|exact Blk.new2 ..|exact Blk.new3 ..|exact Blk.new4 ..|exact Blk.newS1 ..|exact Blk.newS2 ..|exact Blk.newS3 ..|apply Blk.set_|apply Blk.alloc|apply Blk.drewN|apply Blk.drew)|(with_reducible apply Blk.over2;first|assumption|omega))) hB);(try simp only[jB,jC,jD]at N3);have N4:=Z (Blk.below (g:=bt) (by repeat(first|(with_reducible first|exact K4.out|exact Blk.new0 ..|exact Blk.new1 ..|exact Blk.new2 ..|exact Blk.new3 ..|exact Blk.new4 ..|exact Blk.newS1 ..|exact Blk.newS2 ..|exact Blk.newS3 ..|apply Blk.set_|apply Blk.alloc|apply Blk.drewN|apply Blk.drew)|(with_reducible apply Blk.over2;first|assumption|omega))) hB);(try simp only[jB,jC,jD]at N4);clear K0 k0 f0 l0 m0 K1 k1 f1 l1 m1 K2 k2 f2 l2 m2 K3 k3 f3 l3 m3 K4 k4 f4 l4 m4;(try clear HB);clear hB;have HB:=HBn;clear HBn;have HZw4:=HB.size;have K0:=N0;clear N0;have k0:=Blk.cell K0.out;have f0:=Blk.free K0.out;have l0:=Blk.lt K0.out;have m0:=Nat.le_of_lt l0;have K1:=N1;clear N1;have k1:=Blk.cell K1.out;have f1:=Blk.free K1.out;have l1:=Blk.lt K1.out;have m1:=Nat.le_of_lt l1;have K2:=N2;clear N2;have k2:=Blk.cell K2.out;have f2:=Blk.free K2.out;have l2:=Blk.lt K2.out;have m2:=Nat.le_of_lt l2;have K3:=N3;clear N3;have k3:=Blk.cell K3.out;have f3:=Blk.free K3.out;have l3:=Blk.lt K3.out;have m3:=Nat.le_of_lt l3;have K4:=N4;clear N4;have k4:=Blk.cell K4.out;have f4:=Blk.free K4.out;have l4:=Blk.lt K4.out;have m4:=Nat.le_of_lt l4)
    gi_wp2_with fail
    exact⟨(by repeat(first|assumption|refine KeepsOthers.trans ?_ (KeepsOthers.setCell _ _ _)|refine KeepsOthers.trans ?_ (KeepsOthers.alloc _ _)|refine KeepsOthers.trans ?_ (KeepsOthers.drew _)|exact KeepsOthers.refl _)),trivial,by rw[HS.out];exact⟨(by apply Blk.to;(repeat(first|(with_reducible first|exact K0.out|exact Blk.new0 ..|exact Blk.new1 ..|exact Blk.new2 ..|exact Blk.new3 ..|exact Blk.new4 ..|exact Blk.newS1 ..|exact Blk.newS2 ..|exact Blk.newS3 ..|apply Blk.set_|apply Blk.alloc|apply Blk.drewN|apply Blk.drew)|(with_reducible apply Blk.over2;first|assumption|omega)));rfl),(by apply Blk.to;(repeat(first|(with_reducible first|exact K1.out|exact Blk.new0 ..|exact Blk.new1 ..|exact Blk.new2 ..|exact Blk.new3 ..|exact Blk.new4 ..|exact Blk.newS1 ..|exact Blk.newS2 ..|exact Blk.newS3 ..|apply Blk.set_|apply Blk.alloc|apply Blk.drewN|apply Blk.drew)|(with_reducible apply Blk.over2;first|assumption|omega)));rfl),(by apply Blk.to;(repeat(first|(with_reducible first|exact K2.out|exact Blk.new0 ..|exact Blk.new1 ..|exact Blk.new2 ..|exact Blk.new3 ..|exact Blk.new4 ..|exact Blk.newS1 ..|exact Blk.newS2 ..|exact Blk.newS3 ..|apply Blk.set_|apply Blk.alloc|apply Blk.drewN|apply Blk.drew)|(with_reducible apply Blk.over2;first|assumption|omega)));rfl),(by apply Blk.to;(repeat(first|(with_reducible first|exact K3.out|exact Blk.new0 ..|exact Blk.new1 ..|exact Blk.new2 ..|exact Blk.new3 ..|exact Blk.new4 ..|exact Blk.newS1 ..|exact Blk.newS2 ..|exact Blk.newS3 ..|apply Blk.set_|apply Blk.alloc|apply Blk.drewN|apply Blk.drew)|(with_reducible apply Blk.over2;first|assumption|omega)));rfl),(by apply Blk.to;(repeat(first|(with_reducible first|exact K4.out|exact Blk.new0 ..|exact Blk.new1 ..|exact Blk.new2 ..|exact Blk.new3 ..|exact Blk.new4 ..|exact Blk.newS1 ..|exact Blk.newS2 ..|exact Blk.newS3 ..|apply Blk.set_|apply Blk.alloc|apply Blk.drewN|apply Blk.drew)|(with_reducible apply Blk.over2;first|assumption|omega)));rfl)⟩,bel⟩
  case done =>
   rintro D ys W hD rfl ⟨HM,HB⟩ hK
   rw[hO.out]at HM
   obtain⟨f,t⟩:=O
   have hDl:D<W.heap.size:=by
    rcases Nat.lt_or_ge D W.heap.size with h|h
    ·exact h
    ·rw[Array.getElem?_eq_none h]at hK
     cases hK
   clear HM0 ht0 hO
   obtain⟨K0,K1,K2,K3,K4⟩:=HM
   replace K0:=Z K0
   replace K1:=Z K1
   replace K2:=Z K2
   replace K3:=Z K3
   replace K4:=Z K4
   (have k0:=Blk.cell K0.out;have f0:=Blk.free K0.out;have l0:=Blk.lt K0.out;have m0:=Nat.le_of_lt l0;have k1:=Blk.cell K1.out;have f1:=Blk.free K1.out;have l1:=Blk.lt K1.out;have m1:=Nat.le_of_lt l1;have k2:=Blk.cell K2.out;have f2:=Blk.free K2.out;have l2:=Blk.lt K2.out;have m2:=Nat.le_of_lt l2;have k3:=Blk.cell K3.out;have f3:=Blk.free K3.out;have l3:=Blk.lt K3.out;have m3:=Nat.le_of_lt l3;have k4:=Blk.cell K4.out;have f4:=Blk.free K4.out;have l4:=Blk.lt K4.out;have m4:=Nat.le_of_lt l4)
   replace hK:=Z hK
   gi_wp2_with fail
   refine(callsIn_wide.2 (pow2_w f _)).mono ?_
   rintro e w2 ⟨rfl,hB⟩
   have hK2:=Z ((hB.block D hDl).trans hK.out)
   (have HBn:Below w.heap.size w w2:=Below.on hB bel;have N0:=Z (Blk.below (g:=w.heap.size) (by repeat(first|(with_reducible first|exact K0.out|exact Blk.new0 ..|exact Blk.new1 ..|exact Blk.new2 ..|exact Blk.new3 ..|exact Blk.new4 ..|exact Blk.newS1 ..|exact Blk.newS2 ..|exact Blk.newS3 ..|apply Blk.set_|apply Blk.alloc|apply Blk.drewN|apply Blk.drew)|(with_reducible apply Blk.over2;first|assumption|omega))) hB);(try simp only[jB,jC,jD]at N0);have N1:=Z (Blk.below (g:=w.heap.size+1) (by repeat(first|(with_reducible first|exact K1.out|exact Blk.new0 ..|exact Blk.new1 ..|exact Blk.new2 ..|exact Blk.new3 ..|exact Blk.new4 ..|exact Blk.newS1 ..|exact Blk.newS2 ..|exact Blk.newS3 ..|apply Blk.set_|apply Blk.alloc|apply Blk.drewN|apply Blk.drew)|(with_reducible apply Blk.over2;first|assumption|omega))) hB);(try simp only[jB,jC,jD]at N1);have N2:=Z (Blk.below (g:=w.heap.size+1+1) (by repeat(first|(with_reducible first|exact K2.out|exact Blk.new0 ..|exact Blk.new1 ..|exact Blk.new2 ..|exact Blk.new3 ..|exact Blk.new4 ..|exact Blk.newS1 ..|exact Blk.newS2 ..|exact Blk.newS3 ..|apply Blk.set_|apply Blk.alloc|apply Blk.drewN|apply Blk.drew)|(with_reducible apply Blk.over2;first|assumption|omega))) hB);(try simp only[jB,jC,jD]at N2);have N3:=Z (Blk.below (g:=bf) (by repeat(first|(with_reducible first|exact K3.out|exact Blk.new0 ..|exact Blk.new1 ..|exact Blk.new2 ..|exact Blk.new3 ..|exact Blk.new4 ..|exact Blk.newS1 ..|exact Blk.newS2 ..|exact Blk.newS3 ..|apply Blk.set_|apply Blk.alloc|apply Blk.drewN|apply Blk.drew)|(with_reducible apply Blk.over2;first|assumption|omega))) hB);(try simp only[jB,jC,jD]at N3);have N4:=Z (Blk.below (g:=bt) (by repeat(first|(with_reducible first|exact K4.out|exact Blk.new0 ..|exact Blk.new1 ..|exact Blk.new2 ..|exact Blk.new3 ..|exact Blk.new4 ..|exact Blk.newS1 ..|exact Blk.newS2 ..|exact Blk.newS3 ..|apply Blk.set_|apply Blk.alloc|apply Blk.drewN|apply Blk.drew)|(with_reducible apply Blk.over2;first|assumption|omega))) hB);(try simp only[jB,jC,jD]at N4);clear K0 k0 f0 l0 m0 K1 k1 f1 l1 m1 K2 k2 f2 l2 m2 K3 k3 f3 l3 m3 K4 k4 f4 l4 m4;(try clear HB);clear hB;have HB:=HBn;clear HBn;have HZw2:=HB.size;have K0:=N0;clear N0;have k0:=Blk.cell K0.out;have f0:=Blk.free K0.out;have l0:=Blk.lt K0.out;have m0:=Nat.le_of_lt l0;have K1:=N1;clear N1;have k1:=Blk.cell K1.out;have f1:=Blk.free K1.out;have l1:=Blk.lt K1.out;have m1:=Nat.le_of_lt l1;have K2:=N2;clear N2;have k2:=Blk.cell K2.out;have f2:=Blk.free K2.out;have l2:=Blk.lt K2.out;have m2:=Nat.le_of_lt l2;have K3:=N3;clear N3;have k3:=Blk.cell K3.out;have f3:=Blk.free K3.out;have l3:=Blk.lt K3.out;have m3:=Nat.le_of_lt l3;have K4:=N4;clear N4;have k4:=Blk.cell K4.out;have f4:=Blk.free K4.out;have l4:=Blk.lt K4.out;have m4:=Nat.le_of_lt l4)
   gi_wp2_with fail
   obtain⟨WF,hWF⟩:∃ WF,WF=(w2.setCell ⟨w.heap.size+1+1,0,none⟩ (.int .u64 (vz (pow2 f 8589931464).1))).setCell ⟨w.heap.size+1+1,1,none⟩ (.int .u64 (vz (pow2 f 8589931464).2)):=⟨_,rfl⟩
   have hKF:WF.heap[D]?=some (.deferred (some [])):=by rw[hWF];exact((KeepsOthers.setCell _ _ _).trans (KeepsOthers.setCell _ _ _)).same D _ hK2.out rfl
   have hBF:Below w.heap.size w WF:=by rw[hWF];exact bel
   have KF:Blk WF (w.heap.size+1+1) 266 (cF (pow2 f 8589931464)):=by rw[hWF];exact(by apply Blk.to;(repeat(first|(with_reducible first|exact K2.out|exact Blk.new0 ..|exact Blk.new1 ..|exact Blk.new2 ..|exact Blk.new3 ..|exact Blk.new4 ..|exact Blk.newS1 ..|exact Blk.newS2 ..|exact Blk.newS3 ..|apply Blk.set_|apply Blk.alloc|apply Blk.drewN|apply Blk.drew)|(with_reducible apply Blk.over2;first|assumption|omega)));rfl)
   rw[←hWF]
   clear hWF k0 f0 k1 f1 k2 f2 k3 f3 k4 f4
   rw[Exit.noGoto_ret]
   refine⟨by simp,.inl ⟨_,_,rfl,run_takeDeferred hKF,?_⟩⟩
   have KG:=blk_kept KF (grownBy_putObj' WF D (.deferred none)) (fun r e=>by cases e;exact⟨_,hKF,rfl⟩)
   have g0:=KG.cell 0
   have g1:=KG.cell 1
   exact⟨.tuple #[v2' (pow2 f 8589931464),.int .i64 0],by simp[results,Tryz.results182, go_sem,g0,g1],rfl,below_shut hBF (Nat.le_refl _) (by omega)⟩
  case stop =>
   rintro D c pre W _ _ h _
   exact h.elim
 have x1:w.heap.size<w2.heap.size+1:=by omega
 have x2:w.heap.size<w2.heap.size+1+1:=by omega
 have x3:w.heap.size≤w2.heap.size+1:=by omega
 have x4:w.heap.size≤w2.heap.size+1+1:=by omega
 refine wpIn_wide.2 ?_
 clear hK
 go_region_held3 (fun W=>W.cell? ⟨w.heap.size,0,none⟩=some (.int .u64 (vz p.1))∧W.cell? ⟨w.heap.size,1,none⟩=some (.int .u64 (vz p.2))∧W.cell? ⟨w.heap.size,2,none⟩=some (.bool false)) (first|(simp[go_sem];done)|(simp[go_sem, *];done)|((repeat' apply And.intro) <;> first|(simp[go_sem];done)|(simp[go_sem, *];done)|omega|(simp[go_sem];omega))) ((go_at_call 191; refine(n3 _).mono ?_;rintro e w' ⟨rfl,hB⟩;have hB9:=Z hB;obtain⟨hc,hf⟩:=bcell hB;have hz:=hB.size;(try simp at hz);(try simp at hc);(try simp at hf);have q0:w.heap.size<w'.heap.size:=(by omega);have q1:w.heap.size≠w'.heap.size:=(by omega);have q2:w2.heap.size≤w'.heap.size:=(by omega);(try have q3:w2.heap.size<w'.heap.size:=(by omega));(try have q4:w2.heap.size+1<w'.heap.size:=(by omega));(try have q5:w2.heap.size≠w'.heap.size:=(by omega));(try have q6:w2.heap.size+1≠w'.heap.size:=(by omega));(try have q7:w'.heap.size≠w2.heap.size:=(by omega));(try have q8:w'.heap.size≠w2.heap.size+1:=(by omega))))
 all_goals(
  clear k0 k1 k2 f0 f1 f2 hc hf n1 n2 n3 hwf hO hpo
  refine REST _ _ _ ?_ ?_ ?_ ?_ ⟨?_,?_,?_,?_,?_⟩
  ·have hB:=hB9.out
   exact bel
  ·omega
  ·omega
  ·omega
  ·(apply Blk.to;(repeat(first|(with_reducible first|exact K0.out|exact Blk.new0 ..|exact Blk.new1 ..|exact Blk.newS1 ..|exact Blk.newS2 ..|exact Blk.newS3 ..|apply Blk.set_|apply Blk.alloc|apply Blk.drewN|apply Blk.drew)|(with_reducible apply Blk.over2;first|assumption|omega)|(apply Blk.later hB9.out)));rfl)
  ·(apply Blk.to;(repeat(first|(with_reducible first|exact K1.out|exact Blk.new0 ..|exact Blk.new1 ..|exact Blk.newS1 ..|exact Blk.newS2 ..|exact Blk.newS3 ..|apply Blk.set_|apply Blk.alloc|apply Blk.drewN|apply Blk.drew)|(with_reducible apply Blk.over2;first|assumption|omega)|(apply Blk.later hB9.out)));rfl)
  ·(apply Blk.to;(repeat(first|(with_reducible first|exact K2.out|exact Blk.new0 ..|exact Blk.new1 ..|exact Blk.newS1 ..|exact Blk.newS2 ..|exact Blk.newS3 ..|apply Blk.set_|apply Blk.alloc|apply Blk.drewN|apply Blk.drew)|(with_reducible apply Blk.over2;first|assumption|omega)|(apply Blk.later hB9.out)));rfl)
  ·(apply Blk.to;(repeat(first|(with_reducible first|exact K0.out|exact Blk.new0 ..|exact Blk.new1 ..|exact Blk.newS1 ..|exact Blk.newS2 ..|exact Blk.newS3 ..|apply Blk.set_|apply Blk.alloc|apply Blk.drewN|apply Blk.drew)|(with_reducible apply Blk.over2;first|assumption|omega)|(apply Blk.later hB9.out)));rfl)
  ·(apply Blk.to;(repeat(first|(with_reducible first|exact K0.out|exact Blk.new0 ..|exact Blk.new1 ..|exact Blk.newS1 ..|exact Blk.newS2 ..|exact Blk.newS3 ..|apply Blk.set_|apply Blk.alloc|apply Blk.drewN|apply Blk.drew)|(with_reducible apply Blk.over2;first|assumption|omega)|(apply Blk.later hB9.out)));rfl))
end
end Go.Proofs.YtobgigcdpiikaaaGreatDoor
