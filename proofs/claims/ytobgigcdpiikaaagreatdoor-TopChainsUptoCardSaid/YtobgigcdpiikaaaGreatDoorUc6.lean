/- Plain laws and walks, each by its own conditions. -/
import Derived.Test.YtobgigcdpiikaaaGreatDoorUc5
set_option linter.unusedSimpArgs false
set_option linter.unusedVariables false
set_option maxRecDepth 100000
set_option maxHeartbeats 16000000
namespace Go.Proofs.YtobgigcdpiikaaaGreatDoor
section
open Go.Phx
def tryI(t:List UInt8) (n:Nat):Int :=
 let s:=sha (t ++ [UInt8.ofNat n])
 (((s.getD 0 0).toNat:Int)*16777216+((s.getD 1 0).toNat:Int)*65536+((s.getD 2 0).toNat:Int)*256+((s.getD 3 0).toNat:Int)) % 2147482867
theorem tryI_bd(t:List UInt8) (n:Nat):0≤tryI t n∧tryI t n<2147482867:=by
 unfold tryI
 exact⟨Int.emod_nonneg _ (by decide),Int.emod_lt_of_pos _ (by decide)⟩
noncomputable def tryS (t:List UInt8) (n:Nat):F:=zf (tryI t n)*(zf (tryI t n)*zf (tryI t n))+zf (tryI t n)
noncomputable def tryQ (t:List UInt8) (n:Nat):Option (F×F):=if(rootS (tryS t n)).2 then some (zf (tryI t n),(rootS (tryS t n)).1) else none
theorem tryQ_some{t:List UInt8}{n:Nat}{q:F×F} (h:tryQ t n=some q):(rootS (tryS t n)).2=true∧q=(zf (tryI t n),(rootS (tryS t n)).1):=by
 unfold tryQ at h
 split at h
 ·rename_i h2
  injection h with h
  exact⟨h2,h.symm⟩
 ·cases h
theorem tryQ_none{t:List UInt8}{n:Nat} (h:tryQ t n=none):(rootS (tryS t n)).2=false:=by
 unfold tryQ at h
 split at h
 ·cases h
 ·rename_i h2
  simpa using h2
theorem tryQ_on{t:List UInt8}{n:Nat}{q:F×F} (h:tryQ t n=some q):onE (some q)=true:=by
 obtain⟨h1,rfl⟩:=tryQ_some h
 rw[onE_some]
 rcases rootS_cases (tryS t n) with h2|h2
 ·rw[h2.1]at h1
  cases h1
 ·rw[h2.2.1]
  unfold tryS
  grind -lia -linarith
noncomputable def triesN (t:List UInt8) (n:Nat):List (F×F):=(List.range n).filterMap (tryQ t)
theorem triesN_succ(t:List UInt8) (n:Nat):triesN t (n+1)=triesN t n ++ (tryQ t n).toList:=by
 unfold triesN
 rw[List.range_succ,List.filterMap_append]
 congr 1
theorem triesN_on{t:List UInt8}{n:Nat}{q:F×F} (h:q∈triesN t n):onE (some q)=true:=by
 unfold triesN at h
 obtain⟨k,_,hk⟩:=List.mem_filterMap.1 h
 exact tryQ_on hk
noncomputable def hashOf:List (F×F)→E
 | []=>genE
 | q :: r=>if timesE 4 (some q)=none then hashOf r else timesE 4 (some q)
theorem hashOf_skip:∀ (l r:List (F×F)),(∀ q∈l,timesE 4 (some q)=none)→hashOf (l ++ r)=hashOf r
 | [],r,_=>rfl
 | q :: l,r,h=>by
  rw[List.cons_append,hashOf,if_pos (h q (by simp))]
  exact hashOf_skip l r fun x hx=>h x (by simp[hx])
theorem hashOf_hit(l r:List (F×F)) (q:F×F) (h:∀ x∈l,timesE 4 (some x)=none) (hq:timesE 4 (some q)≠none):hashOf (l ++ q :: r)=timesE 4 (some q):=by
 rw[hashOf_skip l _ h,hashOf,if_neg hq]
noncomputable def hashE (t:List UInt8):E:=hashOf (triesN t 256)
theorem tries_split(t:List UInt8) (n m:Nat) (h:n≤m):∃ r,triesN t m=triesN t n ++ r:=by
 induction m with
 | zero=>exact⟨[],by rw[show n=0 by omega];simp⟩
 | succ m ih =>
  by_cases h2:n≤m
  ·obtain⟨r,hr⟩:=ih h2
   exact⟨r ++ (tryQ t m).toList,by rw[triesN_succ,hr,List.append_assoc]⟩
  ·exact⟨[],by rw[show n=m+1 by omega];simp⟩
theorem hash_hit{t:List UInt8}{n:Nat}{q:F×F} (hn:n<256) (hq:tryQ t n=some q) (h:∀ x∈triesN t n,timesE 4 (some x)=none) (h4:timesE 4 (some q)≠none):hashE t=timesE 4 (some q):=by
 obtain⟨r,hr⟩:=tries_split t (n+1) 256 (by omega)
 unfold hashE
 rw[hr,triesN_succ,hq,Option.toList_some,List.append_assoc,List.singleton_append]
 exact hashOf_hit _ _ _ h h4
theorem hash_none{t:List UInt8} (h:∀ x∈triesN t 256,timesE 4 (some x)=none):hashE t=genE:=by
 unfold hashE
 have:=hashOf_skip (triesN t 256) [] h
 rwa [List.append_nil]at this
theorem four_in{q:F×F} (h:onE (some q)=true):inG (timesE 4 (some q))=true:=by
 rw[timesE_smul h 4 (by decide) (by decide)]
 exact inG_four h
theorem hashOf_in:∀ (l:List (F×F)),(∀ q∈l,onE (some q)=true)→inG (hashOf l)=true∧hashOf l≠none
 | [],_=>⟨gen_in,by unfold hashOf genE;simp⟩
 | q :: l,h=>by
  rw[hashOf]
  split
  ·exact hashOf_in l fun x hx=>h x (by simp[hx])
  ·rename_i h4
   exact⟨four_in (h q (by simp)),h4⟩
theorem hash_in(t:List UInt8):inG (hashE t)=true:=(hashOf_in _ fun _ h=>triesN_on h).1
end
end Go.Proofs.YtobgigcdpiikaaaGreatDoor
