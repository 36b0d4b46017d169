/- Plain laws and walks, each by its own conditions. -/
set_option linter.unusedSimpArgs false
set_option linter.unusedVariables false
set_option maxRecDepth 100000
set_option maxHeartbeats 16000000
namespace Go.Phx
section
abbrev P:Nat:=2147482867
instance:NeZero P:=⟨by decide⟩
abbrev F:=Fin P
def noDiv(lo:Nat):Nat→Bool
 | 0=>true
 | n+1=>(P % (lo+n) != 0) && noDiv lo n
def noDivs:Nat→Bool
 | 0=>true
 | n+1=>noDiv (2+217*n) 217 && noDivs n
theorem noDiv_out:∀ (n lo d:Nat),noDiv lo n=true→lo≤d→d<lo+n→P % d≠0
 | 0,lo,d,_,h1,h2=>by omega
 | n+1,lo,d,h,h1,h2=>by
  simp only[noDiv,Bool.and_eq_true,bne_iff_ne]at h
  by_cases e:d=lo+n
  ·rw[e];exact h.1
  ·exact noDiv_out n lo d h.2 h1 (by omega)
theorem noDivs_out:∀ (n d:Nat),noDivs n=true→2≤d→d<2+217*n→P % d≠0
 | 0,d,_,h1,h2=>by omega
 | n+1,d,h,h1,h2=>by
  simp only[noDivs,Bool.and_eq_true]at h
  by_cases e:d<2+217*n
  ·exact noDivs_out n d h.2 h1 e
  ·exact noDiv_out 217 (2+217*n) d h.1 (by omega) (by omega)
theorem noDivs_P:noDivs 217=true:=by decide +kernel
theorem P_prime(d:Nat) (h:d ∣ P) (h1:d≠1):d=P:=by
 obtain⟨e,he⟩:=h
 have hd0:d≠0:=by intro h0;subst h0;simp at he
 by_cases hd:d<47091
 ·exact absurd (by rw[he];exact Nat.mul_mod_right d e) (noDivs_out 217 d noDivs_P (by omega) (by omega))
 ·by_cases he1:e=1
  ·subst he1;omega
  ·have he0:e≠0:=by intro h0;subst h0;simp at he
   by_cases hee:e<47091
   ·exact absurd (by rw[he];exact Nat.mul_mod_left d e) (noDivs_out 217 e noDivs_P (by omega) (by omega))
   ·have:47091*47091≤d*e:=Nat.mul_le_mul (by omega) (by omega)
    rw[←he]at this
    simp[P]at this
theorem P_coprime(a:Nat) (h0:0<a) (h:a<P):Nat.Coprime P a:=by
 show Nat.gcd P a=1
 by_cases h1:Nat.gcd P a=1
 ·exact h1
 ·have:=P_prime _ (Nat.gcd_dvd_left P a) h1
  have h2:=Nat.le_of_dvd h0 (Nat.gcd_dvd_right P a)
  omega
theorem mul_zero_or{a b:F} (h:a*b=0):a=0∨b=0:=by
 by_cases ha:a=0
 ·exact .inl ha
 ·right
  have h1:a.val*b.val % P=0:=by have:=congrArg Fin.val h;simpa[Fin.val_mul] using this
  have ha0:0<a.val:=by
   rcases Nat.eq_zero_or_pos a.val with h0|h0
   ·exact absurd (Fin.ext h0) ha
   ·exact h0
  have:=(P_coprime a.val ha0 a.isLt).dvd_of_dvd_mul_left (Nat.dvd_of_mod_eq_zero h1)
  apply Fin.ext
  exact Nat.eq_zero_of_dvd_of_lt this b.isLt
theorem mul_ne{a b:F} (ha:a≠0) (hb:b≠0):a*b≠0:=fun h=>by rcases mul_zero_or h with h|h <;> contradiction
theorem cancel{a b c:F} (ha:a≠0) (h:a*b=a*c):b=c:=by
 have:a*(b - c)=0:=by grind -lia -linarith
 rcases mul_zero_or this with h|h
 ·contradiction
 ·grind -lia -linarith
theorem sq_eq{a b:F} (h:a*a=b*b):a=b∨a = -b:=by
 have:(a - b)*(a+b)=0:=by grind -lia -linarith
 rcases mul_zero_or this with h|h
 ·left;grind -lia -linarith
 ·right;grind -lia -linarith
theorem two_ne:(2:F)≠0:=by decide
theorem one_ne:(1:F)≠0:=by decide
noncomputable def pw (a:F) (n:Nat):F:=Classical.choose (⟨a ^ n,rfl⟩:∃ x:F,x=a ^ n)
theorem pw_eq(a:F) (n:Nat):pw a n=a ^ n:=Classical.choose_spec (⟨a ^ n,rfl⟩:∃ x:F,x=a ^ n)
theorem pw_zero(a:F):pw a 0=1:=by simp only[pw_eq];grind -lia -linarith
theorem pw_add(a:F) (n m:Nat):pw a (n+m)=pw a n*pw a m:=by simp only[pw_eq];grind -lia -linarith
theorem pw_succ(a:F) (n:Nat):pw a (n+1)=pw a n*a:=by simp only[pw_eq];grind -lia -linarith
theorem pw_two(a:F):pw a 2=a*a:=by simp only[pw_eq];grind -lia -linarith
theorem mul_pw(a b:F) (n:Nat):pw (a*b) n=pw a n*pw b n:=by
 induction n with
 | zero=>rw[pw_zero,pw_zero,pw_zero];grind -lia -linarith
 | succ n ih=>rw[pw_succ,pw_succ,pw_succ,ih];grind -lia -linarith
theorem pw_mul(a:F) (n m:Nat):pw a (n*m)=pw (pw a n) m:=by
 induction m with
 | zero=>rw[Nat.mul_zero,pw_zero,pw_zero]
 | succ m ih=>rw[Nat.mul_succ,pw_add,pw_succ,ih]
theorem one_pw(n:Nat):pw 1 n=1:=by
 induction n with
 | zero=>rw[pw_zero]
 | succ n ih=>rw[pw_succ,ih];decide
theorem zero_pw{n:Nat} (h:n≠0):pw 0 n=0:=by
 obtain⟨k,rfl⟩:=Nat.exists_eq_succ_of_ne_zero h
 rw[Nat.succ_eq_add_one,pw_succ]
 grind -lia -linarith
theorem perm_shift{α:Type}{L:List α}{f g:α→α} (hn:L.Nodup) (hf:∀ x∈L,f x∈L) (hg:∀ x∈L,g x∈L) (hgf:∀ x∈L,g (f x)=x) (hfg:∀ x∈L,f (g x)=x):(L.map f).Perm L:=by
 rw[List.perm_ext_iff_of_nodup ?_ hn]
 ·intro a
  rw[List.mem_map]
  constructor
  ·rintro⟨x,hx,rfl⟩;exact hf x hx
  ·intro ha;exact⟨g a,hg a ha,hfg a ha⟩
 ·unfold List.Nodup
  rw[List.pairwise_map]
  refine List.Pairwise.imp_of_mem ?_ hn
  intro a b ha hb hab e
  exact hab (by rw[←hgf a ha,←hgf b hb,e])
def others{α:Type} [DecidableEq α] (c:α) (l:List α):List α:=l.filter (fun x => !decide (x=c))
theorem mem_others{α:Type} [DecidableEq α] (c:α) (l:List α) (a:α):a∈others c l↔a∈l∧a≠c:=by simp[others]
theorem others_nodup{α:Type} [DecidableEq α] (c:α) (l:List α) (h:l.Nodup):(others c l).Nodup:=List.Pairwise.filter _ h
theorem others_length{α:Type} [DecidableEq α] (c:α) (l:List α) (hn:l.Nodup) (hc:c∈l):(others c l).length+1=l.length:=by
 induction l with
 | nil=>simp at hc
 | cons a l ih =>
  rw[List.nodup_cons]at hn
  by_cases e:a=c
  ·subst e
   have:others a l=l:=List.filter_eq_self.2 fun x hx=>by
    have:x≠a:=fun h=>hn.1 (h ▸ hx)
    simpa using this
   have h2:others a (a :: l)=others a l:=by simp[others]
   rw[h2,this,List.length_cons]
  ·have hm:c∈l:=by
    rcases List.mem_cons.1 hc with h|h
    ·exact absurd h.symm e
    ·exact h
   have h1:=ih hn.2 hm
   have h2:others c (a :: l)=a :: others c l:=by simp[others,e]
   rw[h2,List.length_cons,List.length_cons]
   omega
@[irreducible] def units:List F:=others 0 (List.finRange P)
theorem mem_units(a:F):a∈units↔a≠0:=by unfold units;rw[mem_others];simp only[List.mem_finRange,true_and]
theorem units_nodup:units.Nodup:=by unfold units;exact others_nodup _ _ (List.nodup_finRange P)
theorem units_length:units.length=2147482866:=by
 have h:=others_length (0:F) (List.finRange P) (List.nodup_finRange P) (List.mem_finRange 0)
 rw[List.length_finRange]at h
 have e:units=others (0:F) (List.finRange P):=by unfold units;rfl
 rw[e]
 generalize(others (0:F) (List.finRange P)).length=n at h
 simp only[P]at h
 omega
def prod(l:List F):F:=l.foldr (· * ·) 1
theorem prod_cons(a:F) (l:List F):prod (a :: l)=a*prod l:=rfl
theorem prod_perm{l m:List F} (h:l.Perm m):prod l=prod m :=
 h.foldr_eq' (fun x _ y _ z=>by grind -lia -linarith) 1
theorem prod_map_mul(a:F) (l:List F):prod (l.map (a * ·))=pw a l.length*prod l:=by
 induction l with
 | nil=>simp only[List.map_nil,List.length_nil,pw_zero];grind -lia -linarith
 | cons b l ih=>rw[List.map_cons,prod_cons,prod_cons,ih,List.length_cons,pw_succ];generalize pw a l.length=c;grind -lia -linarith
theorem prod_ne(l:List F) (h:∀ x∈l,x≠0):prod l≠0:=by
 induction l with
 | nil=>exact one_ne
 | cons a l ih=>exact mul_ne (h a (by simp)) (ih fun x hx=>h x (by simp[hx]))
theorem perm_inj{α:Type} [BEq α] [LawfulBEq α] {L:List α}{f:α→α} (hn:L.Nodup) (hf:∀ x∈L,f x∈L) (hi:∀ x∈L,∀ y∈L,f x=f y→x=y):(L.map f).Perm L:=by
 have hm:(L.map f).Nodup:=by
  unfold List.Nodup
  rw[List.pairwise_map]
  refine List.Pairwise.imp_of_mem ?_ hn
  intro a b ha hb hab e
  exact hab (hi a ha b hb e)
 have hs:∀ a∈L.map f,a∈L:=by
  intro a ha
  obtain⟨x,hx,rfl⟩:=List.mem_map.1 ha
  exact hf x hx
 rw[List.perm_ext_iff_of_nodup hm hn]
 intro a
 refine⟨hs a,fun ha=>?_⟩
 by_cases h:a∈L.map f
 ·exact h
 ·have h1:(a :: L.map f).Nodup:=List.nodup_cons.2 ⟨h,hm⟩
  have h2:=h1.length_le_of_subset (l₂:=L) (by
   intro x hx
   rcases List.mem_cons.1 hx with rfl|hx
   ·exact ha
   ·exact hs x hx)
  simp at h2
  omega
theorem fermat{a:F} (ha:a≠0):pw a 2147482866=1:=by
 have hp:(units.map (a * ·)).Perm units:=perm_inj units_nodup
  (fun x hx=>(mem_units _).2 (mul_ne ha ((mem_units x).1 hx))) (fun x _ y _ h=>cancel ha h)
 have h:=prod_perm hp
 rw[prod_map_mul,units_length]at h
 have h0:prod units≠0:=prod_ne _ fun x hx=>(mem_units x).1 hx
 generalize prod units=c at h h0
 refine cancel h0 ?_
 generalize pw a 2147482866=b at h
 grind -lia -linarith
noncomputable def inv (a:F):F:=pw a 2147482865
theorem inv_zero:inv 0=0:=zero_pw (by decide)
theorem mul_inv{a:F} (ha:a≠0):a*inv a=1:=by
 have h:=fermat ha
 rw[show 2147482866=2147482865+1 from rfl,pw_succ]at h
 unfold inv
 generalize pw a 2147482865=b at h
 grind -lia -linarith
theorem pw_double(a:F) {k m:Nat} (h:k+k=m):pw a k*pw a k=pw a m:=by rw[←h,pw_add]
theorem root_of_sq(y:F):pw (y*y) 536870717*pw (y*y) 536870717=y*y:=by
 by_cases h:y=0
 ·subst h
  rw[show(0:F)*0=0 by decide,zero_pw (by decide)]
  decide
 ·have e1:pw (y*y) 536870717=pw y 1073741434:=by rw[mul_pw];exact pw_double y rfl
  have e2:pw y 1073741434*pw y 1073741434=pw y 2147482868:=pw_double y rfl
  have e3:pw y 2147482868=pw y 2147482866*pw y 2:=by rw[←pw_add]
  rw[e1,e2,e3,fermat h,pw_two]
  grind -lia -linarith
theorem neg_pw_odd(k:Nat):pw (-1) (2*k+1) = -1:=by
 rw[pw_succ,pw_mul,pw_two,show(-1:F) * -1=1 by decide,one_pw]
 decide
theorem neg_one_no_sq(y:F):y*y ≠ -1:=by
 intro h
 have hy:y≠0:=by rintro rfl;exact absurd h (by decide)
 have h1:=fermat hy
 rw[show 2147482866=2*(2*536870716+1) from rfl,pw_mul,pw_two,h,neg_pw_odd]at h1
 exact absurd h1 (by decide)
theorem sq_or(a:F):pw a 536870717*pw a 536870717=a∨pw a 536870717*pw a 536870717 = -a:=by
 by_cases h:a=0
 ·subst h
  left
  rw[zero_pw (by decide)]
  decide
 ·have h1:pw a 1073741433*pw a 1073741433=1*1:=by
   rw[pw_double a (show 1073741433+1073741433=2147482866 from rfl),fermat h]
   decide
  have h2:pw a 536870717*pw a 536870717=pw a 1073741433*a:=by
   rw[pw_double a (show 536870717+536870717=1073741433+1 from rfl),pw_succ]
  rw[h2]
  generalize pw a 1073741433=b at h1
  rcases sq_eq h1 with h1|h1
  ·left;rw[h1];grind -lia -linarith
  ·right;rw[h1];grind -lia -linarith
def zf(a:Int):F:=⟨(a % 2147482867).toNat,by have h1:=Int.emod_nonneg a (show(2147482867:Int)≠0 by decide);have h2:=Int.emod_lt_of_pos a (show(0:Int)<2147482867 by decide);simp only[P];omega⟩
def vz(x:F):Int:=(x.val:Int)
theorem vz_nonneg(x:F):0≤vz x:=Int.natCast_nonneg _
theorem vz_lt(x:F):vz x<2147482867:=by have:=x.isLt;unfold vz;simp only[P]at this;omega
theorem vz_zf(a:Int):vz (zf a)=a % 2147482867:=by
 have h1:=Int.emod_nonneg a (show(2147482867:Int)≠0 by decide)
 show(((a % 2147482867).toNat:Nat):Int)=_
 omega
theorem vz_inj{x y:F} (h:vz x=vz y):x=y:=Fin.ext (by unfold vz at h;omega)
theorem zf_vz(x:F):zf (vz x)=x:=by
 apply vz_inj
 rw[vz_zf]
 have:=vz_nonneg x
 have:=vz_lt x
 omega
theorem vz_add(a b:Int):vz (zf a+zf b)=(a+b) % 2147482867:=by
 have h:vz (zf a+zf b)=(vz (zf a)+vz (zf b)) % 2147482867:=by unfold vz;rw[Fin.val_add];simp only[P];omega
 rw[h,vz_zf,vz_zf,←Int.add_emod]
theorem vz_mul(a b:Int):vz (zf a*zf b)=(a*b) % 2147482867:=by
 have h:vz (zf a*zf b)=(vz (zf a)*vz (zf b)) % 2147482867:=by unfold vz;rw[Fin.val_mul];simp only[P,Int.natCast_emod,Int.natCast_mul];rfl
 rw[h,vz_zf,vz_zf,←Int.mul_emod]
theorem zf_add(a b:Int):zf (a+b)=zf a+zf b:=vz_inj (by rw[vz_zf,vz_add])
theorem zf_sub(a b:Int):zf (a - b)=zf a - zf b:=by
 have h:=zf_add (a - b) b
 rw[Int.sub_add_cancel]at h
 generalize zf (a - b)=c at *
 generalize zf a=x at *
 generalize zf b=y at *
 grind -lia -linarith
theorem vz_sub(a b:Int):vz (zf a - zf b)=(a - b) % 2147482867:=by rw[←zf_sub,vz_zf]
def bitAt(x:Int) (i:Nat):Bool:=decide (x / 2 ^ i % 2=1)
def bitsUp(x:Int) (k:Nat):List Bool:=(List.range k).map fun j=>bitAt x (63 - j)
theorem bitsUp_succ(x:Int) (k:Nat):bitsUp x (k+1)=bitsUp x k ++ [bitAt x (63 - k)]:=by simp[bitsUp,List.range_succ]
theorem bitsUp_length(x:Int) (k:Nat):(bitsUp x k).length=k:=by simp[bitsUp]
def powBits(a:F) (l:List Bool):F:=l.foldl (fun o b=>if b then o*o*a else o*o) 1
theorem powBits_snoc(a:F) (l:List Bool) (b:Bool):powBits a (l ++ [b])=if b then powBits a l*powBits a l*a else powBits a l*powBits a l:=by simp[powBits]
theorem div_step(x:Int) (k:Nat) (hk:k<64):x / 2 ^ (64 - (k+1))=x / 2 ^ (64 - k)*2+x / 2 ^ (63 - k) % 2:=by
 have e1:64 - (k+1)=63 - k:=by omega
 have e2:64 - k=(63 - k)+1:=by omega
 rw[e1,e2,Int.pow_succ,←Int.ediv_ediv_of_nonneg (Int.le_of_lt (Int.pow_pos (by decide)))]
 generalize x / 2 ^ (63 - k)=y
 omega
theorem powBits_up(a:F) (x:Int) (hx:0≤x) (hx2:x≤18446744073709551615) (k:Nat) (hk:k≤64):powBits a (bitsUp x k)=pw a (x / 2 ^ (64 - k)).toNat:=by
 induction k with
 | zero =>
  have:x / 2 ^ (64 - 0)=0:=by
   rw[Int.ediv_eq_zero_of_lt hx]
   show x<18446744073709551616
   omega
  rw[this,show(0:Int).toNat=0 from rfl,pw_zero]
  rfl
 | succ k ih =>
  have h0:0≤x / 2 ^ (64 - k):=Int.ediv_nonneg hx (Int.le_of_lt (Int.pow_pos (by decide)))
  rw[bitsUp_succ,powBits_snoc,ih (by omega),div_step x k (by omega)]
  unfold bitAt
  generalize x / 2 ^ (64 - k)=y at *
  generalize x / 2 ^ (63 - k)=z
  by_cases h:z % 2=1
  ·have e:(y*2+z % 2).toNat=y.toNat+y.toNat+1:=by omega
   rw[e,pw_succ,pw_add]
   simp[h]
  ·have e:(y*2+z % 2).toNat=y.toNat+y.toNat:=by omega
   rw[e,pw_add]
   simp[h]
theorem powBits_all(a:F) (x:Int) (hx:0≤x) (hx2:x≤18446744073709551615):powBits a (bitsUp x 64)=pw a x.toNat:=by
 have:=powBits_up a x hx hx2 64 (Nat.le_refl _)
 rw[this]
 simp
noncomputable def rootS (a:F):F×Bool :=
 if pw a 536870717*pw a 536870717=a then((if vz (pw a 536870717) % 2=1 then -pw a 536870717 else pw a 536870717),true) else(0,false)
theorem vz_neg(x:F) (h:vz x≠0):vz (-x)=2147482867 - vz x:=by
 have h1:=zf_vz x
 have h2 : -x=zf (2147482867 - vz x):=by
  rw[zf_sub,h1,show zf 2147482867=0 from rfl]
  grind -lia -linarith
 rw[h2,vz_zf]
 have:=vz_nonneg x
 have:=vz_lt x
 omega
abbrev F2:=F×F
def mul2(a b:F2):F2:=(a.1*b.1 - a.2*b.2,a.1*b.2+a.2*b.1)
def pow2Bits(a:F2) (l:List Bool):F2:=l.foldl (fun o b=>if b then mul2 (mul2 o o) a else mul2 o o) (1,0)
def pow2(a:F2) (n:Int):F2:=pow2Bits a (bitsUp n 64)
theorem pow2Bits_snoc(a:F2) (l:List Bool) (b:Bool):pow2Bits a (l ++ [b])=if b then mul2 (mul2 (pow2Bits a l) (pow2Bits a l)) a else mul2 (pow2Bits a l) (pow2Bits a l):=by simp[pow2Bits]
end
section
abbrev E:=Option (F×F)
def onE:E→Bool
 | none=>true
 | some (x,y)=>decide (y*y=x*x*x+x)
def negE:E→E
 | none=>none
 | some (x,y)=>some (x,-y)
noncomputable def slopeE (p q:F×F):F :=
 if p=q then(3*(p.1*p.1)+1)*inv (2*p.2) else(q.2 - p.2)*inv (q.1 - p.1)
noncomputable def addE:E→E→E
 | none,q=>q
 | p,none=>p
 | some p,some q =>
  if q=(p.1,-p.2) then none
  else
   let l:=slopeE p q
   let x:=l*l - p.1 - q.1
   some (x,l*(p.1 - x) - p.2)
theorem addE_some(p q:F×F):addE (some p) (some q)=if q=(p.1,-p.2) then none else some (slopeE p q*slopeE p q - p.1 - q.1,slopeE p q*(p.1 - (slopeE p q*slopeE p q - p.1 - q.1)) - p.2):=rfl
theorem onE_some(x y:F):onE (some (x,y))=true↔y*y=x*x*x+x:=by simp[onE]
theorem slope_facts{x1 y1 x2 y2:F} (h1:y1*y1=x1*x1*x1+x1) (h2:y2*y2=x2*x2*x2+x2) (hn:¬ (x2,y2)=(x1,-y1)) :
  slopeE (x1,y1) (x2,y2)*(x2 - x1)=y2 - y1∧slopeE (x1,y1) (x2,y2)*(y1+y2)=x1*x1+x1*x2+x2*x2+1:=by
 by_cases he:(x1,y1)=(x2,y2)
 ·simp only[Prod.mk.injEq]at he
  obtain⟨rfl,rfl⟩:=he
  have hy:y1≠0:=by
   intro h;apply hn;rw[h]
   congr 1
  have hy2:2*y1≠0:=mul_ne two_ne hy
  have hi:=mul_inv hy2
  unfold slopeE
  rw[if_pos rfl]
  show(3*(x1*x1)+1)*inv (2*y1)*(x1 - x1)=y1 - y1∧(3*(x1*x1)+1)*inv (2*y1)*(y1+y1)=_
  generalize inv (2*y1)=i at hi
  constructor <;> grind -lia -linarith
 ·have hx:x2 - x1≠0:=by
   intro h
   have e:x2=x1:=by grind -lia -linarith
   subst e
   have:y2*y2=y1*y1:=by rw[h1,h2]
   rcases sq_eq this with h|h
   ·exact he (by rw[h])
   ·exact hn (by rw[h])
  have hi:=mul_inv hx
  unfold slopeE
  rw[if_neg he]
  show(y2 - y1)*inv (x2 - x1)*(x2 - x1)=y2 - y1∧(y2 - y1)*inv (x2 - x1)*(y1+y2)=_
  generalize inv (x2 - x1)=i at hi
  constructor
  ·grind -lia -linarith
  ·have:(x2 - x1)*((y2 - y1)*i*(y1+y2))=(x2 - x1)*(x1*x1+x1*x2+x2*x2+1):=by grind -lia -linarith
   exact cancel hx this
theorem third_on{x1 y1 x2 y2 l x y:F} (h1:y1*y1=x1*x1*x1+x1) (hl:l*(x2 - x1)=y2 - y1) (hs:l*(y1+y2)=x1*x1+x1*x2+x2*x2+1)
  (hx:x=l*l - x1 - x2) (hy:y=l*(x1 - x) - y1):y*y=x*x*x+x:=by
 subst hy hx
 grind -lia -linarith (ringSteps:=1000000)
theorem addE_on{p q:E} (hp:onE p=true) (hq:onE q=true):onE (addE p q)=true:=by
 rcases p with _|⟨x1,y1⟩
 ·exact hq
 rcases q with _|⟨x2,y2⟩
 ·exact hp
 rw[onE_some]at hp hq
 rw[addE_some]
 by_cases hn:(x2,y2)=(x1,-y1)
 ·rw[if_pos hn];rfl
 ·rw[if_neg hn]
  obtain⟨f1,f2⟩:=slope_facts hp hq hn
  exact(onE_some _ _).2 (third_on hp f1 f2 rfl rfl)
theorem negE_on{p:E} (hp:onE p=true):onE (negE p)=true:=by
 rcases p with _|⟨x1,y1⟩
 ·rfl
 rw[onE_some]at hp
 refine(onE_some _ _).2 ?_
 grind -lia -linarith
end
section
def onD(p:F×F):Prop:=p.1*p.1+p.2*p.2=1 - p.1*p.1*(p.2*p.2)
noncomputable def addD (p q:F×F):F×F :=
 ((p.1*q.2+p.2*q.1)*inv (1 - p.1*q.1*p.2*q.2),(p.2*q.2 - p.1*q.1)*inv (1+p.1*q.1*p.2*q.2))
theorem no_neg_sq{a b:F} (h:a*a = -(b*b)):b=0:=by
 by_cases hb:b=0
 ·exact hb
 ·exfalso
  have hi:=mul_inv hb
  refine neg_one_no_sq (a*inv b) ?_
  generalize inv b=i at hi
  grind -lia -linarith
theorem dens{p q:F×F} (hp:onD p) (hq:onD q):1 - p.1*q.1*p.2*q.2≠0∧1+p.1*q.1*p.2*q.2≠0:=by
 obtain⟨x1,y1⟩:=p
 obtain⟨x2,y2⟩:=q
 simp only[onD]at hp hq
 show 1 - x1*x2*y1*y2≠0∧1+x1*x2*y1*y2≠0
 have key:∀ e:F,e*e=1→x1*x2*y1*y2=e→False:=by
  intro e he ht
  have h1:(x1+y1)*(x1+y1) = -((x1*y1*(x2 - e*y2))*(x1*y1*(x2 - e*y2))):=by grind -lia -linarith
  have h2:(x1 - y1)*(x1 - y1) = -((x1*y1*(x2+e*y2))*(x1*y1*(x2+e*y2))):=by grind -lia -linarith
  have k1:=no_neg_sq h1
  have k2:=no_neg_sq h2
  have hne:e≠0:=by rintro rfl;exact absurd he (by decide)
  have hxy:x1*y1≠0:=by
   intro h
   apply hne
   rw[←ht]
   grind -lia -linarith
  have j1:x2 - e*y2=0:=by rcases mul_zero_or k1 with h|h;exact absurd h hxy;exact h
  have j2:x2+e*y2=0:=by rcases mul_zero_or k2 with h|h;exact absurd h hxy;exact h
  have j3:2*x2=0:=by grind -lia -linarith
  have j4:x2=0:=by rcases mul_zero_or j3 with h|h;exact absurd h two_ne;exact h
  apply hne
  rw[←ht,j4]
  grind -lia -linarith
 constructor
 ·intro h
  exact key 1 (by decide) (by grind -lia -linarith)
 ·intro h
  exact key (-1) (by decide) (by grind -lia -linarith)
theorem addD_on{p q:F×F} (hp:onD p) (hq:onD q):onD (addD p q):=by
 obtain⟨d1,d2⟩:=dens hp hq
 have i1:=mul_inv d1
 have i2:=mul_inv d2
 obtain⟨x1,y1⟩:=p
 obtain⟨x2,y2⟩:=q
 simp only[onD,addD]at *
 generalize inv (1 - x1*x2*y1*y2)=i at *
 generalize inv (1+x1*x2*y1*y2)=j at *
 have e:((x1*y2+y1*x2)*(1+x1*x2*y1*y2))*((x1*y2+y1*x2)*(1+x1*x2*y1*y2))+((y1*y2 - x1*x2)*(1 - x1*x2*y1*y2))*((y1*y2 - x1*x2)*(1 - x1*x2*y1*y2))
   = ((1 - x1*x2*y1*y2)*(1+x1*x2*y1*y2))*((1 - x1*x2*y1*y2)*(1+x1*x2*y1*y2)) - ((x1*y2+y1*x2)*(y1*y2 - x1*x2))*((x1*y2+y1*x2)*(y1*y2 - x1*x2)):=by
  grind -lia -linarith (ringSteps:=10000000)
 generalize 1 - x1*x2*y1*y2=m at *
 generalize 1+x1*x2*y1*y2=n at *
 generalize x1*y2+y1*x2=A at *
 generalize y1*y2 - x1*x2=B at *
 have hm:(m*n)*(m*n)≠0:=mul_ne (mul_ne d1 d2) (mul_ne d1 d2)
 refine cancel hm ?_
 have a1:m*(A*i)=A:=by grind -lia -linarith
 have a2:n*(B*j)=B:=by grind -lia -linarith
 generalize A*i=a at *
 generalize B*j=b at *
 grind -lia -linarith
theorem eq_div{a b m n:F} (hm:m≠0) (hn:n≠0) (h:a*n=b*m):a*inv m=b*inv n:=by
 have i1:=mul_inv hm
 have i2:=mul_inv hn
 refine cancel (mul_ne hm hn) ?_
 generalize inv m=i at *
 generalize inv n=j at *
 grind -lia -linarith
theorem asx{x1 y1 x2 y2 x3 y3:F} (h1:x1*x1*(y1*y1)=1 - x1*x1 - y1*y1) (h2:x2*x2*(y2*y2)=1 - x2*x2 - y2*y2) (h3:x3*x3*(y3*y3)=1 - x3*x3 - y3*y3) :
  ((x1*y2+y1*x2)* y3*(1+x1*x2*y1*y2)+(y1*y2-x1*x2)*x3*(1 - x1*x2*y1*y2))*((1 - x2*x3*y2*y3)*(1+x2*x3*y2*y3) - x1*y1*(x2*y3+y2*x3)*(y2*y3-x2*x3))
  = (x1*(y2*y3-x2*x3)*(1 - x2*x3*y2*y3)+y1*(x2*y3+y2*x3)*(1+x2*x3*y2*y3))*((1 - x1*x2*y1*y2)*(1+x1*x2*y1*y2) - (x1*y2+y1*x2)*(y1*y2-x1*x2)*x3*y3):=by
 grind -lia -linarith -splitIte (splits:=0) (ringSteps:=10000000)
theorem asy{x1 y1 x2 y2 x3 y3:F} (h1:x1*x1*(y1*y1)=1 - x1*x1 - y1*y1) (h2:x2*x2*(y2*y2)=1 - x2*x2 - y2*y2) (h3:x3*x3*(y3*y3)=1 - x3*x3 - y3*y3) :
  ((y1*y2-x1*x2)*y3*(1 - x1*x2*y1*y2) - (x1*y2+y1*x2)*x3*(1+x1*x2*y1*y2))*((1 - x2*x3*y2*y3)*(1+x2*x3*y2*y3)+x1*y1*(x2*y3+y2*x3)*(y2*y3-x2*x3))
  = (y1*(y2*y3-x2*x3)*(1 - x2*x3*y2*y3) - x1*(x2*y3+y2*x3)*(1+x2*x3*y2*y3))*((1 - x1*x2*y1*y2)*(1+x1*x2*y1*y2)+(x1*y2+y1*x2)*(y1*y2-x1*x2)*x3*y3):=by
 grind -lia -linarith -splitIte (splits:=0) (ringSteps:=10000000)
end
section
theorem onD_form{x y:F} (h:onD (x,y)):x*x*(y*y)=1 - x*x - y*y:=by
 simp only[onD]at h
 grind -lia -linarith
theorem mul_back{m i:F} (A:F) (h:m*i=1):m*(A*i)=A:=by grind -lia -linarith
theorem core_x{m n m' n' a b c d x1 y1 x3 y3:F}
  (ax:(m*a*y3*n+n*b*x3*m)*(m'*n' - x1*y1*(m'*c)*(n'*d))=(x1*(n'*d)*m'+y1*(m'*c)*n')*(m*n - m*a*(n*b)*x3*y3)) :
  m*n*(m'*n')*((a*y3+b*x3)*(1 - x1*c*y1*d))=m*n*(m'*n')*((x1*d+y1*c)*(1 - a*x3*b*y3)):=by
 grind -lia -linarith -splitIte (splits:=0) (ringSteps:=10000000)
theorem core_y{m n m' n' a b c d x1 y1 x3 y3:F}
  (ay:(n*b*y3*m - m*a*x3*n)*(m'*n'+x1*y1*(m'*c)*(n'*d))=(y1*(n'*d)*m' - x1*(m'*c)*n')*(m*n+m*a*(n*b)*x3*y3)) :
  m*n*(m'*n')*((b*y3 - a*x3)*(1+x1*c*y1*d))=m*n*(m'*n')*((y1*d - x1*c)*(1+a*x3*b*y3)):=by
 grind -lia -linarith -splitIte (splits:=0) (ringSteps:=10000000)
theorem addD_assoc{p q s:F×F} (hp:onD p) (hq:onD q) (hs:onD s):addD (addD p q) s=addD p (addD q s):=by
 have hpq:=addD_on hp hq
 have hqs:=addD_on hq hs
 obtain⟨d1,d2⟩:=dens hp hq
 obtain⟨d3,d4⟩:=dens hq hs
 obtain⟨d5,d6⟩:=dens hpq hs
 obtain⟨d7,d8⟩:=dens hp hqs
 have i1:=mul_inv d1
 have i2:=mul_inv d2
 have i3:=mul_inv d3
 have i4:=mul_inv d4
 obtain⟨x1,y1⟩:=p
 obtain⟨x2,y2⟩:=q
 obtain⟨x3,y3⟩:=s
 have ax:=asx (x1:=x1) (y1:=y1) (x2:=x2) (y2:=y2) (x3:=x3) (y3:=y3) (onD_form hp) (onD_form hq) (onD_form hs)
 have ay:=asy (x1:=x1) (y1:=y1) (x2:=x2) (y2:=y2) (x3:=x3) (y3:=y3) (onD_form hp) (onD_form hq) (onD_form hs)
 clear hp hq hs hpq hqs
 simp only[addD]at *
 generalize inv (1 - x1*x2*y1*y2)=i at *
 generalize inv (1+x1*x2*y1*y2)=j at *
 generalize inv (1 - x2*x3*y2*y3)=k at *
 generalize inv (1+x2*x3*y2*y3)=l at *
 rw[show x1*x2*y1*y2=x1*x2*y1*y2 from rfl]at *
 generalize 1 - x1*x2*y1*y2=m at *
 generalize 1+x1*x2*y1*y2=n at *
 generalize 1 - x2*x3*y2*y3=m' at *
 generalize 1+x2*x3*y2*y3=n' at *
 generalize x1*y2+y1*x2=A at *
 generalize y1*y2 - x1*x2=B at *
 generalize x2*y3+y2*x3=C at *
 generalize y2*y3 - x2*x3=D at *
 have hA:=mul_back A i1
 have hB:=mul_back B i2
 have hC:=mul_back C i3
 have hD:=mul_back D i4
 generalize A*i=a at *
 generalize B*j=b at *
 generalize C*k=c at *
 generalize D*l=d at *
 rw[←hA,←hB,←hC,←hD]at ax ay
 have hne:(m*n)*(m'*n')≠0:=mul_ne (mul_ne d1 d2) (mul_ne d3 d4)
 apply Prod.ext
 ·refine eq_div d5 d7 (cancel hne ?_)
  exact core_x ax
 ·refine eq_div d6 d8 (cancel hne ?_)
  exact core_y ay
theorem addD_comm(p q:F×F):addD p q=addD q p:=by
 obtain⟨x1,y1⟩:=p
 obtain⟨x2,y2⟩:=q
 simp only[addD]
 have e1:1 - x1*x2*y1*y2=1 - x2*x1*y2*y1:=by grind -lia -linarith
 have e2:1+x1*x2*y1*y2=1+x2*x1*y2*y1:=by grind -lia -linarith
 rw[e1,e2]
 apply Prod.ext
 ·show(x1*y2+y1*x2)*_=(x2*y1+y2*x1)*_
  congr 1
  grind -lia -linarith
 ·show(y1*y2 - x1*x2)*_=(y2*y1 - x2*x1)*_
  congr 1
  grind -lia -linarith
def rr:F:=198372348
theorem rr_sq:rr*rr = -2:=by decide +kernel
noncomputable def toD:E→F×F
 | none=>(0,1)
 | some (u,v)=>(rr*u*inv v,(u+1)*inv (u - 1))
theorem u_ne_one{u v:F} (h:v*v=u*u*u+u):u - 1≠0:=by
 intro hu
 have e:u=1:=by grind -lia -linarith
 subst e
 have h2:v*v = -(rr*rr):=by rw[h,rr_sq];decide
 have:=no_neg_sq h2
 exact absurd this (by decide)
theorem v_zero{u v:F} (h:v*v=u*u*u+u) (hv:v=0):u=0:=by
 subst hv
 have h2:u*(u*u+1)=0:=by grind -lia -linarith
 rcases mul_zero_or h2 with h3|h3
 ·exact h3
 ·exact absurd (show u*u = -1 by grind -lia -linarith) (neg_one_no_sq u)
theorem inv_one:inv 1=1:=by
 have:=mul_inv one_ne
 generalize inv 1=i at this
 grind -lia -linarith
theorem inv_neg(a:F):inv (-a) = -inv a:=by
 by_cases h:a=0
 ·subst h
  rw[show(-0:F)=0 by decide,inv_zero]
  decide
 ·have hn : -a≠0:=by intro h2;exact h (by grind -lia -linarith)
  have i1:=mul_inv h
  have i2:=mul_inv hn
  refine cancel h ?_
  generalize inv a=i at *
  generalize inv (-a)=j at *
  grind -lia -linarith
theorem toD_on{p:E} (hp:onE p=true):onD (toD p):=by
 rcases p with _|⟨u,v⟩
 ·show(0:F)*0+1*1=1 - 0*0*(1*1)
  decide
 rw[onE_some]at hp
 have hu:=u_ne_one hp
 have iu:=mul_inv hu
 by_cases hv:v=0
 ·have hu0:=v_zero hp hv
  subst hv hu0
  simp only[onD,toD,inv_zero]
  generalize inv (0 - 1)=i at *
  grind -lia -linarith
 ·have iv:=mul_inv hv
  simp only[onD,toD]
  have hr:=rr_sq
  generalize rr=r at *
  generalize inv v=i at *
  generalize inv (u - 1)=j at *
  have hne:(v*v)*((u - 1)*(u - 1))≠0:=mul_ne (mul_ne hv hv) (mul_ne hu hu)
  refine cancel hne ?_
  have a1:v*(r*u*i)=r*u:=by grind -lia -linarith
  have a2:(u - 1)*((u+1)*j)=u+1:=by grind -lia -linarith
  generalize r*u*i=X at *
  generalize(u+1)*j=Y at *
  have b1:v*v*(X*X) = -2*(u*u):=by grind -lia -linarith
  have b2:(u - 1)*(u - 1)*(Y*Y)=(u+1)*(u+1):=by grind -lia -linarith
  generalize X*X=XX at *
  generalize Y*Y=YY at *
  generalize v*v=w at *
  subst hp
  grind -lia -linarith
theorem toD_inj{p q:E} (hp:onE p=true) (hq:onE q=true) (h:toD p=toD q):p=q:=by
 rcases p with _|⟨u,v⟩ <;> rcases q with _|⟨u',v'⟩
 ·rfl
 ·exfalso
  rw[onE_some]at hq
  have iu:=mul_inv (u_ne_one hq)
  have h2:=congrArg Prod.snd h
  simp only[toD]at h2
  generalize inv (u' - 1)=j at *
  have:(2:F)=0:=by grind -lia -linarith
  exact two_ne this
 ·exfalso
  rw[onE_some]at hp
  have iu:=mul_inv (u_ne_one hp)
  have h2:=congrArg Prod.snd h
  simp only[toD]at h2
  generalize inv (u - 1)=j at *
  have:(2:F)=0:=by grind -lia -linarith
  exact two_ne this
 ·rw[onE_some]at hp hq
  have n1:=u_ne_one hp
  have n2:=u_ne_one hq
  have i1:=mul_inv n1
  have i2:=mul_inv n2
  have h1:=congrArg Prod.fst h
  have h2:=congrArg Prod.snd h
  simp only[toD]at h1 h2
  have eu:u=u':=by
   generalize inv (u - 1)=j at *
   generalize inv (u' - 1)=j' at *
   have:2*(u - u')=0:=by
    refine cancel (mul_ne n1 n2) ?_
    grind -lia -linarith
   rcases mul_zero_or this with h3|h3
   ·exact absurd h3 two_ne
   ·grind -lia -linarith
  subst eu
  have ev:v*v=v'*v':=by rw[hp,hq]
  rcases sq_eq ev with h3|h3
  ·rw[h3]
  ·by_cases hv:v'=0
   ·rw[h3,hv];rfl
   ·by_cases hu0:u=0
    ·exfalso
     subst hu0
     have:v'*v'=0:=by grind -lia -linarith
     rcases mul_zero_or this with h4|h4 <;> exact hv h4
    ·exfalso
     rw[h3,inv_neg]at h1
     have iv:=mul_inv hv
     generalize inv v'=i at *
     have h5:rr*(2*u)=0:=by
      refine cancel hv ?_
      grind -lia -linarith
     have hr:rr≠0:=by decide
     rcases mul_zero_or h5 with h6|h6
     ·exact hr h6
     ·rcases mul_zero_or h6 with h7|h7
      ·exact two_ne h7
      ·exact hu0 h7
end
section
theorem addD_zero_l(q:F×F):addD (0,1) q=q:=by
 obtain⟨x,y⟩:=q
 simp only[addD]
 have e1:1 - 0*x*1*y=(1:F):=by grind -lia -linarith
 have e2:1+0*x*1*y=(1:F):=by grind -lia -linarith
 rw[e1,e2,inv_one]
 apply Prod.ext
 ·show(0*y+1*x)*1=x
  grind -lia -linarith
 ·show(1*y - 0*x)*1=y
  grind -lia -linarith
theorem addD_zero_r(q:F×F):addD q (0,1)=q:=by rw[addD_comm,addD_zero_l]
theorem toD_neg(p:E):toD (negE p)=(-(toD p).1,(toD p).2):=by
 rcases p with _|⟨u,v⟩
 ·show((0:F),(1:F))=(-0,1)
  rw[show(-0:F)=0 by decide]
 ·show(rr*u*inv (-v),(u+1)*inv (u - 1))=(-(rr*u*inv v),(u+1)*inv (u - 1))
  rw[inv_neg]
  generalize inv v=i
  apply Prod.ext
  ·show rr*u * -i = -(rr*u*i)
   grind -lia -linarith
  ·rfl
theorem addD_neg{x y:F} (h:onD (x,y)):addD (x,y) (-x,y)=(0,1):=by
 have hn:onD (-x,y):=by simp only[onD]at h ⊢;grind -lia -linarith
 obtain⟨_,d2⟩:=dens h hn
 have i2:=mul_inv d2
 simp only[addD,onD]at *
 have e:1+x * -x*y*y=y*y - x * -x:=by grind -lia -linarith
 rw[e]at i2 ⊢
 apply Prod.ext
 ·show(x*y+y * -x)*_=0
  generalize inv (1 - x * -x*y*y)=i
  grind -lia -linarith
 ·exact i2
theorem hom_y{u1 v1 u2 v2 l:F} (h1:v1*v1=u1*u1*u1+u1) (h2:v2*v2=u2*u2*u2+u2) (hl:l*(u2 - u1)=v2 - v1) (hs:l*(v1+v2)=u1*u1+u1*u2+u2*u2+1) :
  (l*l - u1 - u2+1)*(v1*v2*(u1 - 1)*(u2 - 1) - 2*u1*u2*(u1+1)*(u2+1))=(l*l - u1 - u2 - 1)*(v1*v2*(u1+1)*(u2+1)+2*u1*u2*(u1 - 1)*(u2 - 1)):=by
 grind -lia -linarith -splitIte (splits:=0) (ringSteps:=10000000)
theorem hom_x{u1 v1 u2 v2 l:F} (h1:v1*v1=u1*u1*u1+u1) (h2:v2*v2=u2*u2*u2+u2) (hl:l*(u2 - u1)=v2 - v1) (hs:l*(v1+v2)=u1*u1+u1*u2+u2*u2+1) :
  (l*l - u1 - u2)*(v1*v2*(u1 - 1)*(u2 - 1)+2*u1*u2*(u1+1)*(u2+1))=(l*(u1 - (l*l - u1 - u2)) - v1)*(u1*v2*(u2+1)*(u1 - 1)+u2*v1*(u1+1)*(u2 - 1)):=by
 grind -lia -linarith -splitIte (splits:=0) (ringSteps:=10000000)
end
section
theorem div_of{a m b:F} (hm:m≠0) (h:a*m=b):a=b*inv m:=by
 have i:=mul_inv hm
 refine cancel hm ?_
 generalize inv m=j at *
 grind -lia -linarith
theorem of_div{u i v w:F} (hi:v*i=1):v*(w*u*i)=w*u:=by grind -lia -linarith
theorem of_div1{u i v:F} (hi:v*i=1):v*(u*i)=u:=by grind -lia -linarith
theorem sub_zero'(a:F):a - 0=a:=by grind -lia -linarith
theorem zero_add'(a:F):0+a=a:=by grind -lia -linarith
theorem core_Y{r u1 v1 u2 v2 u3 X1 Y1 X2 Y2 Y3:F} (hr:r*r = -2) (a1:v1*X1=r*u1) (b1:(u1 - 1)*Y1=u1+1) (a2:v2*X2=r*u2) (b2:(u2 - 1)*Y2=u2+1) (b3:(u3 - 1)*Y3=u3+1)
  (hy:(u3+1)*(v1*v2*(u1 - 1)*(u2 - 1) - 2*u1*u2*(u1+1)*(u2+1))=(u3 - 1)*(v1*v2*(u1+1)*(u2+1)+2*u1*u2*(u1 - 1)*(u2 - 1))) :
  (u3 - 1)*(v1*v2*((u1 - 1)*(u2 - 1)))*(Y3*(1+X1*X2*Y1*Y2))=(u3 - 1)*(v1*v2*((u1 - 1)*(u2 - 1)))*(Y1*Y2 - X1*X2):=by
 have e1:v1*v2*((u1 - 1)*(u2 - 1))*(X1*X2*Y1*Y2) = -2*u1*u2*(u1+1)*(u2+1):=by
  have:v1*v2*((u1 - 1)*(u2 - 1))*(X1*X2*Y1*Y2)=(v1*X1)*(v2*X2)*(((u1 - 1)*Y1)*((u2 - 1)*Y2)):=by clear hy hr a1 a2 b1 b2 b3;grind -lia -linarith
  rw[this,a1,a2,b1,b2]
  clear hy a1 a2 b1 b2 b3 this
  grind -lia -linarith
 have e2:v1*v2*((u1 - 1)*(u2 - 1))*(Y1*Y2 - X1*X2)=v1*v2*(u1+1)*(u2+1)+2*u1*u2*(u1 - 1)*(u2 - 1):=by
  have:v1*v2*((u1 - 1)*(u2 - 1))*(Y1*Y2 - X1*X2)=v1*v2*(((u1 - 1)*Y1)*((u2 - 1)*Y2)) - (u1 - 1)*(u2 - 1)*((v1*X1)*(v2*X2)):=by clear hy hr a1 a2 b1 b2 b3;grind -lia -linarith
  rw[this,a1,a2,b1,b2]
  clear hy a1 a2 b1 b2 b3 this
  grind -lia -linarith
 have e3:(u3 - 1)*(v1*v2*((u1 - 1)*(u2 - 1)))*(Y3*(1+X1*X2*Y1*Y2))=((u3 - 1)*Y3)*(v1*v2*((u1 - 1)*(u2 - 1))+v1*v2*((u1 - 1)*(u2 - 1))*(X1*X2*Y1*Y2)):=by clear hy hr a1 a2 b1 b2 b3;grind -lia -linarith
 have e4:(u3 - 1)*(v1*v2*((u1 - 1)*(u2 - 1)))*(Y1*Y2 - X1*X2)=(u3 - 1)*(v1*v2*((u1 - 1)*(u2 - 1))*(Y1*Y2 - X1*X2)):=by clear hy hr a1 a2 b1 b2 b3;grind -lia -linarith
 rw[e3,e4,e1,e2,b3,←hy]
 clear hy a1 a2 b1 b2 b3 e1 e2 e3 e4 hr
 grind -lia -linarith
theorem core_X{r u1 v1 u2 v2 u3 v3 X1 Y1 X2 Y2 X3:F} (hr:r*r = -2) (a1:v1*X1=r*u1) (b1:(u1 - 1)*Y1=u1+1) (a2:v2*X2=r*u2) (b2:(u2 - 1)*Y2=u2+1) (a3:v3*X3=r*u3)
  (hx:u3*(v1*v2*(u1 - 1)*(u2 - 1)+2*u1*u2*(u1+1)*(u2+1))=v3*(u1*v2*(u2+1)*(u1 - 1)+u2*v1*(u1+1)*(u2 - 1))) :
  v3*(v1*v2*((u1 - 1)*(u2 - 1)))*(X3*(1 - X1*X2*Y1*Y2))=v3*(v1*v2*((u1 - 1)*(u2 - 1)))*(X1*Y2+Y1*X2):=by
 have e1:v1*v2*((u1 - 1)*(u2 - 1))*(X1*X2*Y1*Y2) = -2*u1*u2*(u1+1)*(u2+1):=by
  have:v1*v2*((u1 - 1)*(u2 - 1))*(X1*X2*Y1*Y2)=(v1*X1)*(v2*X2)*(((u1 - 1)*Y1)*((u2 - 1)*Y2)):=by clear hx hr a1 a2 b1 b2 a3;grind -lia -linarith
  rw[this,a1,a2,b1,b2]
  clear hx a1 a2 b1 b2 a3 this
  grind -lia -linarith
 have e2:v1*v2*((u1 - 1)*(u2 - 1))*(X1*Y2+Y1*X2)=r*(u1*v2*(u2+1)*(u1 - 1)+u2*v1*(u1+1)*(u2 - 1)):=by
  have:v1*v2*((u1 - 1)*(u2 - 1))*(X1*Y2+Y1*X2)=v2*(u1 - 1)*(v1*X1)*((u2 - 1)*Y2)+v1*(u2 - 1)*(v2*X2)*((u1 - 1)*Y1):=by clear hx hr a1 a2 b1 b2 a3;grind -lia -linarith
  rw[this,a1,a2,b1,b2]
  clear hx a1 a2 b1 b2 a3 this
  grind -lia -linarith
 have e3:v3*(v1*v2*((u1 - 1)*(u2 - 1)))*(X3*(1 - X1*X2*Y1*Y2))=(v3*X3)*(v1*v2*((u1 - 1)*(u2 - 1)) - v1*v2*((u1 - 1)*(u2 - 1))*(X1*X2*Y1*Y2)):=by clear hx hr a1 a2 b1 b2 a3;grind -lia -linarith
 have e4:v3*(v1*v2*((u1 - 1)*(u2 - 1)))*(X1*Y2+Y1*X2)=v3*(v1*v2*((u1 - 1)*(u2 - 1))*(X1*Y2+Y1*X2)):=by clear hx hr a1 a2 b1 b2 a3;grind -lia -linarith
 rw[e3,e4,e1,e2,a3]
 have e5:v3*(r*(u1*v2*(u2+1)*(u1 - 1)+u2*v1*(u1+1)*(u2 - 1)))=r*(v3*(u1*v2*(u2+1)*(u1 - 1)+u2*v1*(u1+1)*(u2 - 1))):=by clear hx hr a1 a2 b1 b2 a3;grind -lia -linarith
 rw[e5,←hx]
 clear hx a1 a2 b1 b2 a3 e1 e2 e3 e4 e5 hr
 grind -lia -linarith
theorem toD_00:toD (some (0,0))=(0,-1):=by
 show(rr*0*inv 0,(0+1)*inv (0 - 1))=((0:F),(-1:F))
 rw[show(0:F) - 1 = -1 by decide,inv_neg,inv_one,inv_zero]
 decide
theorem addD_0m(q:F×F):addD (0,-1) q=(-q.1,-q.2):=by
 obtain⟨x,y⟩:=q
 simp only[addD]
 have e1:1 - 0*x * -1*y=(1:F):=by grind -lia -linarith
 have e2:1+0*x * -1*y=(1:F):=by grind -lia -linarith
 rw[e1,e2,inv_one]
 apply Prod.ext
 ·show(0*y + -1*x)*1 = -x
  grind -lia -linarith
 ·show(-1*y - 0*x)*1 = -y
  grind -lia -linarith
theorem toD_00_core{u v u3 v3 l:F} (h:v*v=u*u*u+u) (hu0:u≠0) (hv0:v≠0) (hl:l*u=v) (hs:l*v=u*u+1) (h3:u3=l*l - u) (k3:v3 = -(l*u3)) (hu3:u3 - 1≠0) :
  toD (some (u3,v3))=(-(toD (some (u,v))).1,-(toD (some (u,v))).2):=by
 have e:u*u3=1:=by subst h3;grind -lia -linarith
 have hu3':u3≠0:=by rintro rfl;apply one_ne;rw[←e];grind -lia -linarith
 have hl0:l≠0:=by rintro rfl;apply hv0;rw[←hl];grind -lia -linarith
 have hv3:v3≠0:=by
  intro hz
  have:l*u3=0:=by grind -lia -linarith
  exact mul_ne hl0 hu3' this
 have i3:=mul_inv hv3
 have j3:=mul_inv hu3
 have i1:=mul_inv hv0
 have j1:=mul_inv (u_ne_one h)
 simp only[toD]
 apply Prod.ext
 ·show rr*u3*inv v3 = -(rr*u*inv v)
  refine cancel (mul_ne hv3 hv0) ?_
  generalize inv v3=a at *
  generalize inv v=b at *
  have f1:v3*v*(rr*u3*a)=rr*u3*v*(v3*a):=by grind -lia -linarith
  have f2:v3*v * -(rr*u*b) = -(rr*u*v3*(v*b)):=by grind -lia -linarith
  rw[f1,f2,i3,i1,k3,←hl]
  grind -lia -linarith
 ·show(u3+1)*inv (u3 - 1) = -((u+1)*inv (u - 1))
  refine cancel (mul_ne hu3 (u_ne_one h)) ?_
  generalize inv (u3 - 1)=a at *
  generalize inv (u - 1)=b at *
  have f1:(u3 - 1)*(u - 1)*((u3+1)*a)=(u3+1)*(u - 1)*((u3 - 1)*a):=by grind -lia -linarith
  have f2:(u3 - 1)*(u - 1) * -((u+1)*b) = -((u+1)*(u3 - 1)*((u - 1)*b)):=by grind -lia -linarith
  rw[f1,f2,j3,j1]
  clear f1 f2 j3 j1 i1 i3
  grind -lia -linarith
theorem toD_add_aff{u1 v1 u2 v2:F} (h1:v1*v1=u1*u1*u1+u1) (h2:v2*v2=u2*u2*u2+u2) (hn:¬ (u2,v2)=(u1,-v1)) :
  toD (addE (some (u1,v1)) (some (u2,v2)))=addD (toD (some (u1,v1))) (toD (some (u2,v2))):=by
 obtain⟨hl,hs⟩:=slope_facts h1 h2 hn
 have o1:onD (toD (some (u1,v1))):=toD_on ((onE_some _ _).2 h1)
 have o2:onD (toD (some (u2,v2))):=toD_on ((onE_some _ _).2 h2)
 obtain⟨d1,d2⟩:=dens o1 o2
 have o4:=addD_on o1 o2
 rw[addE_some,if_neg hn]
 generalize slopeE (u1,v1) (u2,v2)=l at hl hs
 have h3:(l*(u1 - (l*l - u1 - u2)) - v1)*(l*(u1 - (l*l - u1 - u2)) - v1)=(l*l - u1 - u2)*(l*l - u1 - u2)*(l*l - u1 - u2)+(l*l - u1 - u2):=third_on h1 hl hs rfl rfl
 have hy:=hom_y h1 h2 hl hs
 have hx:=hom_x h1 h2 hl hs
 show toD (some (l*l - u1 - u2,l*(u1 - (l*l - u1 - u2)) - v1))=_
 have n1:=u_ne_one h1
 have n2:=u_ne_one h2
 have n3:=u_ne_one h3
 by_cases z1:v1=0
 ·have w1:=v_zero h1 z1
  subst z1 w1
  have z2:v2≠0:=by
   intro z2
   have w2:=v_zero h2 z2
   subst z2 w2
   exact hn (by decide)
  have w2:u2≠0:=by
   rintro rfl
   have:v2*v2=0:=by rw[h2];decide
   rcases mul_zero_or this with h|h <;> exact z2 h
  rw[toD_00,addD_0m]
  exact toD_00_core h2 w2 z2 (by rw[←sub_zero' u2,hl,sub_zero']) (by rw[←zero_add' v2,hs];grind -lia -linarith) (by grind -lia -linarith) (by grind -lia -linarith) n3
 ·by_cases z2:v2=0
  ·have w2:=v_zero h2 z2
   subst z2 w2
   have w1:u1≠0:=by
    rintro rfl
    have:v1*v1=0:=by rw[h1];decide
    rcases mul_zero_or this with h|h <;> exact z1 h
   rw[toD_00,addD_comm,addD_0m]
   have hl':l*u1=v1:=by clear hy hx h3 n3 n1 n2 o1 o2 o4 d1 d2 h1;grind -lia -linarith
   exact toD_00_core h1 w1 z1 hl' (by clear hy hx h3 n3 n1 n2 o1 o2 o4 d1 d2 h1;grind -lia -linarith) (by grind -lia -linarith) (by clear hy hx h3 n3 n1 n2 o1 o2 o4 d1 d2 h1 hs;grind -lia -linarith) n3
  ·generalize l*l - u1 - u2=u3 at *
   generalize l*(u1 - u3) - v1=v3 at *
   have i1:=mul_inv z1
   have i2:=mul_inv z2
   have j1:=mul_inv n1
   have j2:=mul_inv n2
   have j3:=mul_inv n3
   have a1:=of_div (u:=u1) (w:=rr) i1
   have a2:=of_div (u:=u2) (w:=rr) i2
   have b1:=of_div1 (u:=u1+1) j1
   have b2:=of_div1 (u:=u2+1) j2
   have b3:=of_div1 (u:=u3+1) j3
   have cY:=core_Y rr_sq a1 b1 a2 b2 b3 hy
   have eY:=cancel (mul_ne n3 (mul_ne (mul_ne z1 z2) (mul_ne n1 n2))) cY
   have fY:(u3+1)*inv (u3 - 1)=(addD (toD (some (u1,v1))) (toD (some (u2,v2)))).2:=div_of d2 eY
   by_cases z3:v3=0
   ·have w3:=v_zero h3 z3
    subst z3 w3
    rw[toD_00]
    have g:((0:F)+1)*inv (0 - 1) = -1:=by rw[show(0:F) - 1 = -1 by decide,inv_neg,inv_one];decide
    rw[g]at fY
    generalize addD (toD (some (u1,v1))) (toD (some (u2,v2)))=z at *
    obtain⟨X,Y⟩:=z
    simp only[onD]at o4
    have fY':Y = -1:=fY.symm
    subst fY'
    have hX:2*(X*X)=0:=by clear cY eY fY a1 a2 b1 b2 b3 i1 i2 j1 j2 j3 hy hx hl hs h1 h2 h3;grind -lia -linarith
    have hX0:X=0:=by
     rcases mul_zero_or hX with h|h
     ·exact absurd h two_ne
     ·rcases mul_zero_or h with h|h <;> exact h
    rw[hX0]
   ·have i3:=mul_inv z3
    have a3:=of_div (u:=u3) (w:=rr) i3
    have cX:=core_X rr_sq a1 b1 a2 b2 a3 hx
    have eX:=cancel (mul_ne z3 (mul_ne (mul_ne z1 z2) (mul_ne n1 n2))) cX
    have fX:rr*u3*inv v3=(addD (toD (some (u1,v1))) (toD (some (u2,v2)))).1:=div_of d1 eX
    exact Prod.ext fX fY
end
section
theorem toD_add{p q:E} (hp:onE p=true) (hq:onE q=true):toD (addE p q)=addD (toD p) (toD q):=by
 rcases p with _|⟨u1,v1⟩
 ·exact(addD_zero_l _).symm
 rcases q with _|⟨u2,v2⟩
 ·exact(addD_zero_r _).symm
 have h1:=(onE_some _ _).1 hp
 have h2:=(onE_some _ _).1 hq
 by_cases hn:(u2,v2)=(u1,-v1)
 ·rw[addE_some,if_pos hn]
  simp only[Prod.mk.injEq]at hn
  obtain⟨rfl,rfl⟩:=hn
  have ht:toD (some (u2,-v1))=(-(toD (some (u2,v1))).1,(toD (some (u2,v1))).2):=toD_neg (some (u2,v1))
  rw[ht]
  have ho:=toD_on hp
  generalize toD (some (u2,v1))=z at ho ⊢
  obtain⟨X,Y⟩:=z
  exact(addD_neg ho).symm
 ·exact toD_add_aff h1 h2 hn
theorem addE_comm{p q:E} (hp:onE p=true) (hq:onE q=true):addE p q=addE q p :=
 toD_inj (addE_on hp hq) (addE_on hq hp) (by rw[toD_add hp hq,toD_add hq hp,addD_comm])
theorem addE_assoc{p q s:E} (hp:onE p=true) (hq:onE q=true) (hs:onE s=true):addE (addE p q) s=addE p (addE q s) :=
 toD_inj (addE_on (addE_on hp hq) hs) (addE_on hp (addE_on hq hs)) (by
  rw[toD_add (addE_on hp hq) hs,toD_add hp hq,toD_add hp (addE_on hq hs),toD_add hq hs,addD_assoc (toD_on hp) (toD_on hq) (toD_on hs)])
theorem addE_none_l(q:E):addE none q=q:=rfl
theorem addE_none_r(q:E):addE q none=q:=by cases q <;> rfl
theorem addE_neg(p:E):addE p (negE p)=none:=by
 rcases p with _|⟨u,v⟩
 ·rfl
 ·show addE (some (u,v)) (some (u,-v))=none
  rw[addE_some,if_pos rfl]
noncomputable def smulR:Nat→E→E
 | 0,_=>none
 | n+1,p=>addE (smulR n p) p
noncomputable def smul (n:Nat) (p:E):E:=Classical.choose (⟨smulR n p,rfl⟩:∃ x:E,x=smulR n p)
theorem smul_eq(n:Nat) (p:E):smul n p=smulR n p:=Classical.choose_spec (⟨smulR n p,rfl⟩:∃ x:E,x=smulR n p)
theorem smul_zero(p:E):smul 0 p=none:=by rw[smul_eq];rfl
theorem smul_succ(n:Nat) (p:E):smul (n+1) p=addE (smul n p) p:=by rw[smul_eq,smul_eq];rfl
theorem smul_on{p:E} (hp:onE p=true) (n:Nat):onE (smul n p)=true:=by
 induction n with
 | zero=>rw[smul_zero];rfl
 | succ n ih=>rw[smul_succ];exact addE_on ih hp
theorem smul_add{p:E} (hp:onE p=true) (n m:Nat):smul (n+m) p=addE (smul n p) (smul m p):=by
 induction m with
 | zero=>rw[Nat.add_zero,smul_zero,addE_none_r]
 | succ m ih=>rw[←Nat.add_assoc,smul_succ,smul_succ,ih,addE_assoc (smul_on hp n) (smul_on hp m) hp]
theorem smul_mul{p:E} (hp:onE p=true) (n m:Nat):smul (n*m) p=smul n (smul m p):=by
 induction n with
 | zero=>rw[Nat.zero_mul,smul_zero,smul_zero]
 | succ n ih=>rw[Nat.succ_mul,smul_add hp,ih,smul_succ]
theorem smul_none(n:Nat):smul n none=none:=by
 induction n with
 | zero=>exact smul_zero _
 | succ n ih=>rw[smul_succ,ih];rfl
theorem smul_sum{p q:E} (hp:onE p=true) (hq:onE q=true) (n:Nat):smul n (addE p q)=addE (smul n p) (smul n q):=by
 induction n with
 | zero=>rw[smul_zero,smul_zero,smul_zero];rfl
 | succ n ih =>
  have h1:=smul_on hp n
  have h2:=smul_on hq n
  rw[smul_succ,smul_succ,smul_succ,ih,addE_assoc h1 h2 (addE_on hp hq),←addE_assoc h2 hp hq,addE_comm h2 hp,addE_assoc hp h2 hq,←addE_assoc h1 hp (addE_on h2 hq)]
@[irreducible] def rootsOf (a:F):List F:=(List.finRange P).filter fun v=>decide (v*v=a)
theorem mem_rootsOf(a v:F):v∈rootsOf a↔v*v=a:=by unfold rootsOf;simp only[List.mem_filter,List.mem_finRange,true_and,decide_eq_true_eq]
theorem rootsOf_nodup(a:F):(rootsOf a).Nodup:=by unfold rootsOf;exact List.Pairwise.filter _ (List.nodup_finRange P)
theorem rootsOf_len{a:F}{l:List F} (hl:l.Nodup) (h:∀ v,v∈l↔v*v=a):(rootsOf a).length=l.length :=
 ((List.perm_ext_iff_of_nodup (rootsOf_nodup a) hl).2 fun v=>by rw[mem_rootsOf,h]).length_eq
theorem roots_zero:(rootsOf 0).length=1 :=
 rootsOf_len (l:=[0]) (List.nodup_cons.2 ⟨List.not_mem_nil,List.nodup_nil⟩) fun v=>by
  rw[List.mem_singleton]
  constructor
  ·rintro rfl;decide
  ·intro h;rcases mul_zero_or h with h|h <;> exact h
theorem neg_ne{y:F} (hy:y≠0):y ≠ -y:=by
 intro h
 have:2*y=0:=by grind -lia -linarith
 rcases mul_zero_or this with h|h
 ·exact two_ne h
 ·exact hy h
theorem roots_sq{y:F} (hy:y≠0):(rootsOf (y*y)).length=2 :=
 rootsOf_len (l:=[y,-y]) (List.nodup_cons.2 ⟨by rw[List.mem_singleton];exact neg_ne hy,List.nodup_cons.2 ⟨List.not_mem_nil,List.nodup_nil⟩⟩) fun v=>by
  rw[List.mem_cons,List.mem_singleton]
  constructor
  ·rintro(rfl|rfl)
   ·rfl
   ·grind -lia -linarith
  ·exact sq_eq
theorem roots_neg_sq{y:F} (hy:y≠0):(rootsOf (-(y*y))).length=0 :=
 rootsOf_len (l:=[]) List.nodup_nil fun v=>by
  constructor
  ·intro h;exact absurd h List.not_mem_nil
  ·intro h;exact absurd (no_neg_sq h) hy
theorem roots_pair(a:F):(rootsOf a).length+(rootsOf (-a)).length=2:=by
 by_cases ha:a=0
 ·subst ha
  rw[show(-0:F)=0 by decide,roots_zero]
 ·rcases sq_or a with h|h
  ·have hy:pw a 536870717≠0:=by intro h0;rw[h0]at h;exact ha (by rw[←h];decide)
   generalize pw a 536870717=y at h hy
   subst h
   rw[roots_sq hy,roots_neg_sq hy]
  ·have hy:pw a 536870717≠0:=by intro h0;rw[h0]at h;exact ha (by grind -lia -linarith)
   generalize pw a 536870717=y at h hy
   have e:a = -(y*y):=by grind -lia -linarith
   subst e
   rw[roots_neg_sq hy,show -(-(y*y))=y*y by grind -lia -linarith,roots_sq hy]
def sumN(l:List Nat):Nat:=l.foldr (· + ·) 0
theorem sumN_perm{l m:List Nat} (h:l.Perm m):sumN l=sumN m:=h.foldr_eq' (fun x _ y _ z=>by omega) 0
theorem sumN_pair{α:Type} (f g:α→Nat) (l:List α) (h:∀ x∈l,f x+g x=2):sumN (l.map f)+sumN (l.map g)=2*l.length:=by
 induction l with
 | nil=>rfl
 | cons a l ih =>
  have h1:=h a (by simp)
  have h2:=ih fun x hx=>h x (by simp[hx])
  simp only[sumN,List.map_cons,List.foldr_cons,List.length_cons]at h2 ⊢
  omega
def cubic(u:F):F:=u*u*u+u
theorem cubic_neg(u:F):cubic (-u) = -cubic u:=by unfold cubic;grind -lia -linarith
@[irreducible] def allF:List F:=List.finRange P
theorem allF_len:allF.length=P:=by unfold allF;exact List.length_finRange
theorem allF_nodup:allF.Nodup:=by unfold allF;exact List.nodup_finRange P
theorem mem_allF(a:F):a∈allF:=by unfold allF;exact List.mem_finRange a
theorem roots_sum:sumN (allF.map fun u=>(rootsOf (cubic u)).length)=P:=by
 have h:=sumN_pair (fun u=>(rootsOf (cubic u)).length) (fun u=>(rootsOf (cubic (-u))).length) allF fun u _=>by rw[cubic_neg];exact roots_pair _
 have hp:(allF.map fun u => -u).Perm allF:=perm_shift (g:=fun u => -u) allF_nodup (fun u _=>mem_allF _) (fun u _=>mem_allF _) (fun u _=>by grind -lia -linarith) (fun u _=>by grind -lia -linarith)
 have h2:sumN (allF.map fun u=>(rootsOf (cubic (-u))).length)=sumN (allF.map fun u=>(rootsOf (cubic u)).length):=by
  have:=(hp.map fun u=>(rootsOf (cubic u)).length)
  rw[List.map_map]at this
  exact sumN_perm this
 rw[h2,allF_len]at h
 generalize sumN (allF.map fun u=>(rootsOf (cubic u)).length)=n at h
 omega
def fiber(u:F):List E:=(rootsOf (cubic u)).map fun v=>some (u,v)
@[irreducible] def points:List E:=none :: allF.flatMap fiber
theorem mem_points(p:E):p∈points↔onE p=true:=by
 unfold points
 rcases p with _|⟨u,v⟩
 ·simp[onE]
 ·rw[onE_some]
  simp only[List.mem_cons,List.mem_flatMap,fiber,List.mem_map,mem_rootsOf]
  constructor
  ·rintro(h|⟨u',_,v',hv,he⟩)
   ·cases h
   ·cases he;exact hv
  ·intro h
   exact .inr ⟨u,mem_allF u,v,h,rfl⟩
theorem len_flatMap{α β:Type} (f:α→List β) (l:List α):(l.flatMap f).length=sumN (l.map fun a=>(f a).length):=by
 induction l with
 | nil=>rfl
 | cons a l ih=>rw[List.flatMap_cons,List.length_append,ih];rfl
theorem flat_len:(allF.flatMap fiber).length=P:=by
 rw[len_flatMap]
 refine Eq.trans (congrArg sumN (List.map_congr_left fun u _=>?_)) roots_sum
 exact List.length_map _
theorem points_len':points.length=P+1:=by
 unfold points
 rw[List.length_cons,flat_len]
theorem points_len:points.length=2147482868:=points_len'
theorem nodup_flat{β:Type} (f:F→List β) (g:β→F) (hg:∀ u,∀ b∈f u,g b=u) (hf:∀ u,(f u).Nodup):∀ (l:List F),l.Nodup→(l.flatMap f).Nodup
 | [],_=>List.nodup_nil
 | u :: l,hl=>by
  rw[List.nodup_cons]at hl
  rw[List.flatMap_cons]
  refine List.nodup_append.2 ⟨hf u,nodup_flat f g hg hf l hl.2,?_⟩
  intro a ha b hb e
  subst e
  obtain⟨u',hu',hb'⟩:=List.mem_flatMap.1 hb
  have h1:=hg u a ha
  have h2:=hg u' a hb'
  rw[h1]at h2
  subst h2
  exact hl.1 hu'
theorem points_nodup:points.Nodup:=by
 unfold points
 refine List.nodup_cons.2 ⟨?_,?_⟩
 ·intro h
  obtain⟨u,_,hu⟩:=List.mem_flatMap.1 h
  obtain⟨v,_,hv⟩:=List.mem_map.1 hu
  cases hv
 ·refine nodup_flat _ (fun p:E=>match p with|some (u,_)=>u|none=>0) ?_ ?_ _ allF_nodup
  ·intro u b hb
   obtain⟨v,_,rfl⟩:=List.mem_map.1 hb
   rfl
  ·intro u
   unfold List.Nodup fiber
   rw[List.pairwise_map]
   exact List.Pairwise.imp (fun h e=>h (by cases e;rfl)) (rootsOf_nodup _)
noncomputable def sumE (l:List E):E:=l.foldr addE none
theorem sumE_on(l:List E) (h:∀ p∈l,onE p=true):onE (sumE l)=true:=by
 induction l with
 | nil=>rfl
 | cons a l ih=>exact addE_on (h a (by simp)) (ih fun p hp=>h p (by simp[hp]))
theorem sumE_perm{l m:List E} (h:l.Perm m) (hl:∀ p∈l,onE p=true):sumE l=sumE m:=by
 induction h with
 | nil=>rfl
 | cons a h ih=>show addE a _=addE a _;rw[show List.foldr addE none _=sumE _ from rfl,ih fun p hp=>hl p (by simp[hp])];rfl
 | swap a b l =>
  have h1:=hl a (by simp)
  have h2:=hl b (by simp)
  have h3:=sumE_on l fun p hp=>hl p (by simp[hp])
  show addE b (addE a (sumE l))=addE a (addE b (sumE l))
  rw[←addE_assoc h2 h1 h3,addE_comm h2 h1,addE_assoc h1 h2 h3]
 | trans h1 h2 ih1 ih2=>rw[ih1 hl,ih2 fun p hp=>hl p (h1.mem_iff.2 hp)]
theorem sumE_shift{q:E} (hq:onE q=true) (l:List E) (hl:∀ p∈l,onE p=true):sumE (l.map fun p=>addE p q)=addE (sumE l) (smul l.length q):=by
 induction l with
 | nil=>rw[List.length_nil,smul_zero];rfl
 | cons a l ih =>
  have h1:=hl a (by simp)
  have h2:=sumE_on l fun p hp=>hl p (by simp[hp])
  have h3:=smul_on hq l.length
  rw[List.length_cons,smul_succ]
  show addE (addE a q) (sumE (l.map fun p=>addE p q))=addE (addE a (sumE l)) (addE (smul l.length q) q)
  rw[ih fun p hp=>hl p (by simp[hp]),addE_assoc h1 hq (addE_on h2 h3),←addE_assoc hq h2 h3,addE_comm hq h2,addE_assoc h2 hq h3,addE_comm hq h3,addE_assoc h1 h2 (addE_on h3 hq)]
theorem smul_len{q:E} (hq:onE q=true):smul points.length q=none:=by
 have hon:∀ p∈points,onE p=true:=fun p hp=>(mem_points p).1 hp
 have hnq:=negE_on hq
 have hp:(points.map fun p=>addE p q).Perm points:=perm_shift (g:=fun p=>addE p (negE q)) points_nodup
  (fun p hp=>(mem_points _).2 (addE_on (hon p hp) hq)) (fun p hp=>(mem_points _).2 (addE_on (hon p hp) hnq))
  (fun p hp=>by rw[addE_assoc (hon p hp) hq hnq,addE_neg,addE_none_r])
  (fun p hp=>by rw[addE_assoc (hon p hp) hnq hq,addE_comm hnq hq,addE_neg,addE_none_r])
 have h1:=sumE_shift hq points hon
 have h0:=sumE_perm hp (fun p hp=>by obtain⟨p',hp',rfl⟩:=List.mem_map.1 hp;exact addE_on (hon p' hp') hq)
 rw[h0]at h1
 have hs:=sumE_on points hon
 have hm:=smul_on hq points.length
 clear h0
 generalize sumE points=s at h1 hs
 generalize smul points.length q=m at h1 hm ⊢
 have h2:addE (negE s) s=addE (negE s) (addE s m):=by rw[←h1]
 rw[←addE_assoc (negE_on hs) hs hm,addE_comm (negE_on hs) hs,addE_neg,addE_none_l]at h2
 exact h2.symm
theorem smul_all{q:E} (hq:onE q=true):smul 2147482868 q=none:=by
 have h:=smul_len hq
 rw[points_len]at h
 exact h
theorem four_times{q:E} (hq:onE q=true):smul 536870717 (smul 4 q)=none:=by
 rw[←smul_mul hq,show 536870717*4=2147482868 from rfl]
 exact smul_all hq
end
section
noncomputable def timesBits (p:E) (l:List Bool):E:=l.foldl (fun o b=>if b then addE (addE o o) p else addE o o) none
theorem timesBits_snoc(p:E) (l:List Bool) (b:Bool):timesBits p (l ++ [b])=if b then addE (addE (timesBits p l) (timesBits p l)) p else addE (timesBits p l) (timesBits p l):=by simp[timesBits]
def bitsTop(x:Int):Nat→List Bool
 | 0=>[]
 | k+1=>if 0<x / 2 ^ (63 - k) then bitsTop x k ++ [bitAt x (63 - k)] else bitsTop x k
theorem bitsTop_set(x:Int) (k:Nat) (h:0<x / 2 ^ (63 - k)):bitsTop x (k+1)=bitsTop x k ++ [bitAt x (63 - k)]:=by
 rw[bitsTop,if_pos h]
theorem bitsTop_unset(x:Int) (k:Nat) (h:¬ 0<x / 2 ^ (63 - k)):bitsTop x (k+1)=bitsTop x k:=by
 rw[bitsTop,if_neg h]
theorem bitsTop_length(x:Int) (k:Nat):(bitsTop x k).length≤k:=by
 induction k with
 | zero=>exact Nat.le_refl _
 | succ k ih =>
  by_cases h:0<x / 2 ^ (63 - k)
  ·rw[bitsTop_set x k h,List.length_append]
   exact Nat.succ_le_succ ih
  ·rw[bitsTop_unset x k h]
   omega
theorem half_up(x:Int) (k:Nat) (hk:k<64) (hx:0≤x) (h:¬ 0<x / 2 ^ (63 - k)):¬ 0<x / 2 ^ (64 - k):=by
 have e2:64 - k=(63 - k)+1:=by omega
 rw[e2,Int.pow_succ,←Int.ediv_ediv_of_nonneg (Int.le_of_lt (Int.pow_pos (by decide)))]
 have h0:0≤x / 2 ^ (63 - k):=Int.ediv_nonneg hx (Int.le_of_lt (Int.pow_pos (by decide)))
 generalize x / 2 ^ (63 - k)=y at *
 omega
theorem bitsTop_nil(x:Int) (hx:0≤x) (k:Nat) (hk:k≤64) (h:¬ 0<x / 2 ^ (64 - k)):bitsTop x k=[]:=by
 induction k with
 | zero=>rfl
 | succ k ih =>
  have h':¬ 0<x / 2 ^ (63 - k):=by
   rw[show 63 - k=64 - (k+1) by omega]
   exact h
  rw[bitsTop_unset x k h']
  exact ih (by omega) (half_up x k (by omega) hx h')
theorem timesBits_top(p:E) (x:Int) (hx:0≤x) (k:Nat) (hk:k≤64):timesBits p (bitsTop x k)=timesBits p (bitsUp x k):=by
 induction k with
 | zero=>rfl
 | succ k ih =>
  by_cases h:0<x / 2 ^ (63 - k)
  ·rw[bitsTop_set x k h,bitsUp_succ,timesBits_snoc,timesBits_snoc,ih (by omega)]
  ·have e:bitsTop x k=[]:=bitsTop_nil x hx k (by omega) (half_up x k (by omega) hx h)
   have e0:timesBits p (bitsUp x k)=none:=by rw[←ih (by omega),e];rfl
   have e1:bitAt x (63 - k)=false:=by
    have h0:0≤x / 2 ^ (63 - k):=Int.ediv_nonneg hx (Int.le_of_lt (Int.pow_pos (by decide)))
    unfold bitAt
    rw[decide_eq_false_iff_not]
    omega
   rw[bitsTop_unset x k h,bitsUp_succ,timesBits_snoc,e0,e1,e]
   rfl
noncomputable def timesE (n:Int) (p:E):E:=timesBits p (bitsUp n 64)
theorem timesE_top(n:Int) (hn:0≤n) (p:E):timesBits p (bitsTop n 64)=timesE n p:=timesBits_top p n hn 64 (Nat.le_refl _)
theorem timesBits_up{p:E} (hp:onE p=true) (x:Int) (hx:0≤x) (hx2:x≤18446744073709551615) (k:Nat) (hk:k≤64):timesBits p (bitsUp x k)=smul (x / 2 ^ (64 - k)).toNat p:=by
 induction k with
 | zero =>
  have:x / 2 ^ (64 - 0)=0:=by
   rw[Int.ediv_eq_zero_of_lt hx]
   show x<18446744073709551616
   omega
  rw[this,show(0:Int).toNat=0 from rfl,smul_zero]
  rfl
 | succ k ih =>
  have h0:0≤x / 2 ^ (64 - k):=Int.ediv_nonneg hx (Int.le_of_lt (Int.pow_pos (by decide)))
  rw[bitsUp_succ,timesBits_snoc,ih (by omega),div_step x k (by omega)]
  unfold bitAt
  generalize x / 2 ^ (64 - k)=y at *
  generalize x / 2 ^ (63 - k)=z
  by_cases h:z % 2=1
  ·have e:(y*2+z % 2).toNat=y.toNat+y.toNat+1:=by omega
   rw[e,smul_succ,smul_add hp]
   simp[h]
  ·have e:(y*2+z % 2).toNat=y.toNat+y.toNat:=by omega
   rw[e,smul_add hp]
   simp[h]
theorem timesE_smul{p:E} (hp:onE p=true) (x:Int) (hx:0≤x) (hx2:x≤18446744073709551615):timesE x p=smul x.toNat p:=by
 have:=timesBits_up hp x hx hx2 64 (Nat.le_refl _)
 unfold timesE
 rw[this]
 simp
theorem smul_one(p:E):smul 1 p=p:=by rw[show 1=0+1 from rfl,smul_succ,smul_zero];rfl
theorem smul_two(p:E):smul 2 p=addE p p:=by rw[show 2=1+1 from rfl,smul_succ,smul_one]
noncomputable def inG (p:E):Bool:=onE p && decide (timesE 536870717 p=none)
theorem inG_none:inG none=true:=by
 have h:timesE 536870717 none=none:=by rw[timesE_smul rfl _ (by decide) (by decide)];exact smul_none _
 unfold inG
 rw[h]
 rfl
theorem double_by(x y l a b:F) (hy:y≠0) (hl:l*(2*y)=3*(x*x)+1) (ha:a=l*l - x - x) (hb:b=l*(x - a) - y):addE (some (x,y)) (some (x,y))=some (a,b):=by
 have hn:¬ (x,y)=(x,-y):=fun h=>neg_ne hy (Prod.mk.inj h).2
 have hs:slopeE (x,y) (x,y)=l:=by
  unfold slopeE
  rw[if_pos rfl]
  show(3*(x*x)+1)*inv (2*y)=l
  rw[←hl]
  have hi:=mul_inv (mul_ne two_ne hy)
  generalize inv (2*y)=i at hi
  grind -lia -linarith
 rw[addE_some,if_neg hn,hs]
 show some (l*l - x - x,l*(x - (l*l - x - x)) - y)=some (a,b)
 rw[hb,ha]
noncomputable def genE:E:=some (zf 1846166884,zf 1411018613)
theorem gen_on:onE genE=true:=(onE_some _ _).2 (by decide +kernel)
theorem gen_order:timesE 536870717 genE=none:=by
 rw[timesE_smul gen_on _ (by decide) (by decide)]
 have h1:addE (some (zf 487068761,zf 1157049909)) (some (zf 487068761,zf 1157049909))=some (zf 1908873664,zf 1020336989) :=
  double_by _ _ (zf 128920519) _ _ (by decide +kernel) (by decide +kernel) (by decide +kernel) (by decide +kernel)
 have h2:addE (some (zf 1908873664,zf 1020336989)) (some (zf 1908873664,zf 1020336989))=genE :=
  double_by _ _ (zf 1035560958) (zf 1846166884) (zf 1411018613) (by decide +kernel) (by decide +kernel) (by decide +kernel) (by decide +kernel)
 have ho:onE (some (zf 487068761,zf 1157049909))=true:=(onE_some _ _).2 (by decide +kernel)
 have h4:smul 4 (some (zf 487068761,zf 1157049909))=genE:=by
  rw[show 4=2+2 from rfl,smul_add ho,smul_two,h1,h2]
 have:=four_times ho
 rw[h4]at this
 exact this
theorem gen_in:inG genE=true:=by
 unfold inG
 rw[gen_order,gen_on]
 rfl
theorem inG_on{p:E} (h:inG p=true):onE p=true:=by
 unfold inG at h
 rw[Bool.and_eq_true]at h
 exact h.1
theorem inG_times{p:E} (h:inG p=true):smul 536870717 p=none:=by
 have hp:=inG_on h
 unfold inG at h
 rw[Bool.and_eq_true,decide_eq_true_eq,timesE_smul hp _ (by decide) (by decide)]at h
 exact h.2
theorem inG_mk{p:E} (hp:onE p=true) (h:smul 536870717 p=none):inG p=true:=by
 unfold inG
 rw[timesE_smul hp _ (by decide) (by decide),show(536870717:Int).toNat=536870717 from rfl,h,hp]
 rfl
theorem inG_add{p q:E} (hp:inG p=true) (hq:inG q=true):inG (addE p q)=true:=by
 refine inG_mk (addE_on (inG_on hp) (inG_on hq)) ?_
 rw[smul_sum (inG_on hp) (inG_on hq),inG_times hp,inG_times hq]
 rfl
theorem inG_smul{p:E} (hp:inG p=true) (n:Nat):inG (smul n p)=true:=by
 refine inG_mk (smul_on (inG_on hp) n) ?_
 rw[←smul_mul (inG_on hp),Nat.mul_comm,smul_mul (inG_on hp),inG_times hp,smul_none]
theorem inG_four{q:E} (hq:onE q=true):inG (smul 4 q)=true:=inG_mk (smul_on hq 4) (four_times hq)
end
end Go.Phx
