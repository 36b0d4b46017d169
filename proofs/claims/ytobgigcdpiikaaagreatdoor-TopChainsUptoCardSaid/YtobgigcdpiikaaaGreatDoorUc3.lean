/- Plain laws and walks, each by its own conditions. -/
import Derived.Test.YtobgigcdpiikaaaGreatDoorUc2
set_option linter.unusedSimpArgs false
set_option linter.unusedVariables false
set_option maxRecDepth 100000
set_option maxHeartbeats 16000000
namespace Go.Phx
section
abbrev Bytes:=List UInt8
def zero32:Bytes:=List.replicate 32 0
def zeroH:Nat→Bytes
 | 0=>zero32
 | n+1=>sha (zeroH n ++ zeroH n)
theorem zeroH_len:∀ n,(zeroH n).length=32
 | 0=>rfl
 | _+1=>sha_len _
def pairUp:List Bytes→List Bytes
 | a :: b :: r=>sha (a ++ b) :: pairUp r
 | _=>[]
theorem pairUp_len:∀ l:List Bytes,(pairUp l).length=l.length / 2
 | []=>rfl
 | [_]=>by simp[pairUp]
 | a :: b :: r=>by
  simp only[pairUp,List.length_cons,pairUp_len r]
  omega
theorem pairUp_at:∀ (l:List Bytes) (i:Nat),2*i+1<l.length→(pairUp l).getD i []=sha (l.getD (2*i) [] ++ l.getD (2*i+1) [])
 | [],i,h=>by simp at h
 | [_],i,h=>by simp at h
 | a :: b :: r,0,h=>rfl
 | a :: b :: r,i+1,h=>by
  have:=pairUp_at r i (by simp at h;omega)
  rw[show 2*(i+1)=2*i+1+1 by omega]
  simpa[pairUp] using this
def evenUp(z:Bytes) (l:List Bytes):List Bytes:=if l.length % 2=1 then l ++ [z] else l
theorem evenUp_len(z:Bytes) (l:List Bytes):(evenUp z l).length=2*((l.length+1) / 2):=by
 unfold evenUp
 split
 ·rw[List.length_append,List.length_cons,List.length_nil]
  omega
 ·omega
def levP(c:List Bytes):Nat→List Bytes
 | 0=>c
 | k+1=>pairUp (evenUp (zeroH k) (levP c k))
theorem levP_len_succ(c:List Bytes) (k:Nat):(levP c (k+1)).length=((levP c k).length+1) / 2:=by
 rw[levP,pairUp_len,evenUp_len]
 omega
theorem levP_le(c:List Bytes) (k:Nat):(levP c k).length≤c.length:=by
 induction k with
 | zero=>exact Nat.le_refl _
 | succ k ih=>rw[levP_len_succ];omega
def atP(l:List Bytes) (z:Bytes) (i:Nat):Bytes:=l.getD i z
def rootP(c:List Bytes) (d:Nat):Bytes:=atP (levP c d) (zeroH d) 0
def branchP(c:List Bytes) (i:Nat) (d:Nat):List Bytes:=(List.range d).map fun k=>atP (levP c k) (zeroH k) ((i / 2 ^ k) ^^^ 1)
def wayP(x:Bytes):List Bytes→Nat→Bytes
 | [],_=>x
 | s :: r,i=>wayP (if i % 2=1 then sha (s ++ x) else sha (x ++ s)) r (i / 2)
end
end Go.Phx
