/- Plain laws and walks, each by its own conditions. -/
import Derived.Test.YtobgigcdpiikaaaGreatDoorUc1
set_option linter.unusedSimpArgs false
set_option linter.unusedVariables false
set_option maxRecDepth 100000
set_option maxHeartbeats 16000000
namespace Go.Phx
section
abbrev Wd:=BitVec 32
def ror(x:Wd) (n:Nat):Wd:=x >>> n ||| x <<< (32 - n)
def kTab:List Wd:=[
 0x428a2f98,0x71374491,0xb5c0fbcf,0xe9b5dba5,0x3956c25b,0x59f111f1,0x923f82a4,0xab1c5ed5,
 0xd807aa98,0x12835b01,0x243185be,0x550c7dc3,0x72be5d74,0x80deb1fe,0x9bdc06a7,0xc19bf174,
 0xe49b69c1,0xefbe4786,0x0fc19dc6,0x240ca1cc,0x2de92c6f,0x4a7484aa,0x5cb0a9dc,0x76f988da,
 0x983e5152,0xa831c66d,0xb00327c8,0xbf597fc7,0xc6e00bf3,0xd5a79147,0x06ca6351,0x14292967,
 0x27b70a85,0x2e1b2138,0x4d2c6dfc,0x53380d13,0x650a7354,0x766a0abb,0x81c2c92e,0x92722c85,
 0xa2bfe8a1,0xa81a664b,0xc24b8b70,0xc76c51a3,0xd192e819,0xd6990624,0xf40e3585,0x106aa070,
 0x19a4c116,0x1e376c08,0x2748774c,0x34b0bcb5,0x391c0cb3,0x4ed8aa4a,0x5b9cca4f,0x682e6ff3,
 0x748f82ee,0x78a5636f,0x84c87814,0x8cc70208,0x90befffa,0xa4506ceb,0xbef9a3f7,0xc67178f2]
def wordOf(l:List UInt8):Wd:=l.foldl (fun x c=>x <<< 8 ||| BitVec.ofNat 32 c.toNat) 0
def sig0(x:Wd):Wd:=ror x 7 ^^^ ror x 18 ^^^ x >>> 3
def sig1(x:Wd):Wd:=ror x 17 ^^^ ror x 19 ^^^ x >>> 10
def big0(x:Wd):Wd:=ror x 2 ^^^ ror x 13 ^^^ ror x 22
def big1(x:Wd):Wd:=ror x 6 ^^^ ror x 11 ^^^ ror x 25
def chf(e f g:Wd):Wd:=g ^^^ e &&& (f ^^^ g)
def maj(a b c:Wd):Wd:=a &&& b ||| c &&& (a ||| b)
def nextW(w:List Wd):Wd:=w.getD (w.length - 16) 0+w.getD (w.length - 7) 0+sig0 (w.getD (w.length - 15) 0)+sig1 (w.getD (w.length - 2) 0)
def grow:Nat→List Wd→List Wd
 | 0,w=>w
 | n+1,w=>grow n (w ++ [nextW w])
structure St where
 a:Wd
 b:Wd
 c:Wd
 d:Wd
 e:Wd
 f:Wd
 g:Wd
 h:Wd
deriving DecidableEq
def one(v:St) (k w:Wd):Wd:=v.h+big1 v.e+chf v.e v.f v.g+k+w
def two(v:St):Wd:=big0 v.a+maj v.a v.b v.c
def rnd(v:St) (k w:Wd):St:=⟨one v k w+two v,v.a,v.b,v.c,v.d+one v k w,v.e,v.f,v.g⟩
def rounds(v:St) (kw:List (Wd×Wd)):St:=kw.foldl (fun v x=>rnd v x.1 x.2) v
def St.add(v u:St):St:=⟨v.a+u.a,v.b+u.b,v.c+u.c,v.d+u.d,v.e+u.e,v.f+u.f,v.g+u.g,v.h+u.h⟩
def words16(l:List UInt8):List Wd:=(List.range 16).map fun i=>wordOf ((l.drop (4*i)).take 4)
def takeB(h:St) (l:List UInt8):St:=h.add (rounds h (kTab.zip (grow 48 (words16 l))))
def iv:St:=⟨0x6a09e667,0xbb67ae85,0x3c6ef372,0xa54ff53a,0x510e527f,0x9b05688c,0x1f83d9ab,0x5be0cd19⟩
def bytesW(x:Wd):List UInt8:=[UInt8.ofNat (x.toNat / 16777216),UInt8.ofNat (x.toNat / 65536),UInt8.ofNat (x.toNat / 256),UInt8.ofNat x.toNat]
def St.bytes(v:St):List UInt8:=bytesW v.a ++ bytesW v.b ++ bytesW v.c ++ bytesW v.d ++ bytesW v.e ++ bytesW v.f ++ bytesW v.g ++ bytesW v.h
def tail64(n:Nat):List UInt8:=[128] ++ List.replicate ((119 - n % 64) % 64) 0 ++ (List.range 8).map fun i=>UInt8.ofNat (8*n / 2 ^ (56 - 8*i))
def padS(l:List UInt8):List UInt8:=l ++ tail64 l.length
def takeAll:Nat→St→List UInt8→St
 | 0,h,_=>h
 | n+1,h,l=>takeAll n (takeB h (l.take 64)) (l.drop 64)
def sha(l:List UInt8):List UInt8:=(takeAll ((padS l).length / 64) iv (padS l)).bytes
theorem bytesW_len(x:Wd):(bytesW x).length=4:=rfl
theorem sha_len(l:List UInt8):(sha l).length=32:=by unfold sha St.bytes;simp[bytesW_len]
end
end Go.Phx
