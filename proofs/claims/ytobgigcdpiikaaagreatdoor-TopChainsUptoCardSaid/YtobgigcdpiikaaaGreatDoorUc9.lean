/- Plain laws and walks, each by its own conditions. -/
import Derived.Test.YtobgigcdpiikaaaGreatDoorUc4
import Derived.Test.YtobgigcdpiikaaaGreatDoorUcS
import Derived.RegionTactic
import Derived.ChangeAlike
import Derived.Deep.AppendLies
import Derived.Deep.RegionLaw
import Derived.Lib.Builder
set_option linter.unusedSimpArgs false
set_option linter.unusedVariables false
set_option maxRecDepth 100000
set_option maxHeartbeats 16000000
namespace Go.Proofs.YtobgigcdpiikaaaGreatDoor
section
open BigFrame Go.RowKit Go.Phx Go.Shelf
attribute [local go_sem] Oper.semAt_some
theorem repeat0(c:Nat) (hc:c≤65536) (w:World):Calls Tryz.prog 52 #[.string { data := #[0] },.int .i64 c] w (Ret w (.string (bs (List.replicate c 0)))):=by
 refine(Tryz.strings_Repeat (bs [0]) c w (by omega) (by rw[bs_size];simp;omega)).mono ?_
 rintro e w' ⟨rfl,hB⟩
 have e1:Lib.repeatL (bs [0]).data.toList c=List.replicate c 0:=by
  rw[bs_list]
  induction c with
  | zero=>rfl
  | succ c ih=>rw[List.replicate_succ,←ih (by omega)];rfl
 rw[e1]
 exact⟨rfl,hB⟩
def chunks(n:Nat) (l:List UInt8):List (List UInt8):=(List.range n).map fun i=>(l.drop (64*i)).take 64
theorem chunks_succ(n:Nat) (l:List UInt8):chunks (n+1) l=chunks n l ++ [(l.drop (64*n)).take 64]:=by
 unfold chunks
 rw[List.range_succ,List.map_append]
 rfl
theorem padS_len(l:List UInt8):(padS l).length % 64=0:=by
 unfold padS tail64
 simp
 omega
theorem pad_drop(l:List UInt8) (k:Nat) (hk:k=l.length / 64) (r:List UInt8) (hr:l.drop (64*k)=r) (c:Nat) (hc:(119 - r.length) % 64=c) :
  r ++ 128 :: List.replicate c 0 ++ (List.range 8).map (fun i=>UInt8.ofNat (8*l.length / 2 ^ (56 - 8*i)))=(padS l).drop (64*k):=by
 have hl:r.length=l.length % 64:=by rw[←hr];simp;omega
 unfold padS tail64
 rw[List.drop_append_of_le_length (by omega),hr,←hc,hl]
 simp
theorem chunks_pad(l:List UInt8) (k:Nat) (hk:64*k≤l.length):chunks k l=chunks k (padS l):=by
 unfold chunks
 apply List.map_congr_left
 intro i hi
 have hi:=List.mem_range.1 hi
 unfold padS
 rw[List.drop_append_of_le_length (by omega),List.take_append_of_le_length (by simp;omega)]
def OwnStep(b:Nat) (_:Unit) (W:World) (_:Unit) (W':World):Prop:=W.grownBy W' (some b)
def KeepS(b:Nat) (_:Unit) (W W':World):Prop:=KeepB b W W'
def AtBlock(_:List (List UInt8)) (y:List UInt8) (_:Unit) (_:World):Prop:=y.length=64
theorem blocks1_in(n:Nat) (hn:1≤n) (lp:Nat) (b:Nat) (l:List UInt8) (hl:l.length≤140737488355328) (J Jx:List (List UInt8)→Unit→World→Prop)
  (hJ:∀ s x A y B,J s x A→OwnStep b x A y B→J s y B) (hJx:∀ s x A y B,Jx s x A→OwnStep b x A y B→Jx s y B)
  (hY:∀ pre y x A,J pre x A→AtBlock pre y x A→YieldAt Fence.wide (n - 1) Tryz.prog lp #[.string (bs y)] A fun e B =>
   (e=.returned (.bool true)∧J (pre ++ [y]) x B∧KeepS b x A B)∨(e=.returned (.bool false)∧Jx (pre ++ [y]) x B))
  (w:World) (hb:Blk w b 9 #[.string (bs l)]) (h0:J [] () w) :
  CallsIn Fence.wide n Tryz.prog 139 #[.func (.yield lp) #[] #[],.pointer (some ⟨b,0,none⟩)] w fun e B=>(∃ v,e=.returned v) ∧
   ((∃ xs x,xs=chunks ((padS l).length / 64) (padS l)∧J xs x B)∨(∃ pre x,True∧Jx pre x B)):=by
 refine callsIn_of_wp Tryz.func139 rfl trivial ?_ rfl
 simp only[Tryz.ntmps139, List.size_toArray,List.length_cons,List.length_nil,Nat.reduceAdd,Nat.reduceSub,Array.replicate_succ,Array.replicate_zero,List.push_toArray,List.append_toArray,List.nil_append,List.cons_append]
 have K0:=Z hb
 clear hb
 (obtain⟨k0,f0,l0,m0⟩:=rl_ K0)
 gi_wp2
 gi_loopw [8] (fun _ wr=>∃ k:Nat,64*k≤l.length∧Blk wr b 9 #[.string (bs (l.drop (64*k)))]∧J (chunks k l) () wr) (fun _ wr=>boxLen b wr)
 case atStart=>exact⟨0,Nat.zero_le _,K0.out,h0⟩
 case round =>
  clear K0 k0 f0 l0 m0 h0
  obtain⟨k,hk,K0,hj⟩:=hrel
  have hbl:=boxLen_of K0
  obtain⟨r,hr⟩:∃ r,l.drop (64*k)=r:=⟨_,rfl⟩
  have hrl:r.length=l.length - 64*k:=by rw[←hr];simp
  rw[hr]at K0 hbl
  have HR:=Z hr
  have HRL:=Z hrl
  have HBL:=Z hbl
  clear hr hbl
  replace K0:=Z K0
  by_cases hlt:64≤r.length
  ·obtain⟨fn,tmps,assign,body,hy,hR⟩:=hY (chunks k l) (r.take 64) () wr hj (by unfold AtBlock;simp;omega)
   clear hrl
   (obtain⟨k0,f0,l0,m0⟩:=rl_ K0)
   gi_wp2
   refine hR.mono ?_
   rintro e W3 (⟨rfl,hJ3,hk3⟩|⟨rfl,hJx3⟩)
   ·have K1:=Z (show Blk W3 b _ _ from Eq.trans hk3 K0.out)
    clear k0 f0 l0 m0 K0 hk3
    (obtain⟨k1,f1,l1,m1⟩:=rl_ K1)
    gi_wp2
    have K2:=K1.out.set_ 0 (.string (bs (r.drop 64)))
    simp only[jB,jD]at K2
    have hrl:=HRL.out
    go_roundw
    case rel=>exact⟨k+1,by omega,by rw[show 64*(k+1)=64*k+64 by omega,←List.drop_drop,HR.out];exact K2,by rw[chunks_succ,HR.out];exact hJ _ _ _ _ _ hJ3 (grownBy_setCell' _ _ _)⟩
    case measure=>rw[HBL.out,boxLen_of K2];simp;omega
   ·gi_wp2
    refine bodyPost_ret (results_none rfl _ _ _) rfl ?_
    exact⟨⟨_,rfl⟩,.inr ⟨_,_,trivial,hJx3⟩⟩
  ·have hc:k=l.length / 64:=by omega
   clear hrl
   (obtain⟨k0,f0,l0,m0⟩:=rl_ K0)
   gi_wp2
   refine wpIn_wide.2 ?_
   have e1:IntKind.i64.wrap (119 - ↑r.length)=((119 - r.length:Nat):Int):=by rw[IntWalk.i64_in _ (by omega)];omega
   obtain⟨c,hc0⟩:∃ c,(119 - r.length) % 64=c:=⟨_,rfl⟩
   have hc1:c<64:=by omega
   have e2:((119 - r.length:Nat):Int) % 64=(c:Int):=by omega
   have HC0:=Z hc0
   have HC:=Z hc
   clear hc0 hc
   have c128:(⟨#[128]⟩:ByteArray)=bs [128]:=rfl
   (refine wp_region_later_tail 8 U U ?_;simp only[List.take_succ_cons,List.take_zero,List.drop_succ_cons,List.drop_zero];(repeat(go_big_quiet_step ((go_at_call 52; exact lq (repeat0 c (by omega) _)))));refine wpQuiet_nil ?_;intro w' hB)
   have K1:=Z (K0.out.below hB)
   have G:=grown_of (b:=b) hB
   clear k0 f0 l0 m0 K0 hB
   (obtain⟨k1,f1,l1,m1⟩:=rl_ K1)
   go_wp2_with fail
   gi_wp2
   have K2:=K1.out.set_ 0 (.string (bs (r ++ 128 :: List.replicate c 0)))
   simp only[jB,jD]at K2
   replace G:=grown_set (i:=0) (u:=.string (bs (r ++ 128 :: List.replicate c 0))) G
   have hj2:=hJ _ () _ () _ hj G
   clear k1 f1 l1 m1 K1 G hj
   generalize w'.setCell ⟨b,0,none⟩ (.string (bs (r ++ 128 :: List.replicate c 0)))=w2 at K2 hj2 ⊢
   gi_loopw [4] (fun i wr=>∃ j:Nat,j≤8∧i=.int .i64 (56 - 8*j)∧Blk wr b 9 #[.string (bs (r ++ 128 :: List.replicate c 0 ++ (List.range j).map fun i=>UInt8.ofNat (8*l.length / 2 ^ (56 - 8*i))))]∧J (chunks k l) () wr) (fun i _=>(intOf i+8).toNat)
   case atStart=>exact⟨0,by omega,rfl,by simpa using K2,hj2⟩
   case round =>
    clear K2 hj2
    obtain⟨j,hj8,rfl,K0,hj⟩:=hrel
    by_cases hlt8:j<8
    ·obtain⟨q,hq⟩:∃ q,(r ++ 128 :: List.replicate c 0 ++ (List.range j).map fun i=>UInt8.ofNat (8*l.length / 2 ^ (56 - 8*i)))=q:=⟨_,rfl⟩
     rw[hq]at K0
     have HQ:=Z hq
     clear hq
     replace K0:=Z K0
     (obtain⟨k0,f0,l0,m0⟩:=rl_ K0)
     gi_wp2
     refine wpIn_wide.2 ?_
     have hb0:=k0 0
     have hbf:=f0 0
     simp only[List.getElem?_toArray,List.getElem?_cons_zero]at hb0
     have hql:q.length≤300:=by rw[←HQ.out];simp;omega
     clear k0 f0
     go_region
     have hv:UInt8.ofNat (8*(l.length:Int) / 2 ^ (56 - 8*j) % 256).toNat=UInt8.ofNat (8*l.length / 2 ^ (56 - 8*j)):=by
      have e:(8*(l.length:Int) / 2 ^ (56 - 8*j))=((8*l.length / 2 ^ (56 - 8*j):Nat):Int):=by simp
      rw[e]
      generalize 8*l.length / 2 ^ (56 - 8*j)=m
      apply UInt8.toNat_inj.1
      simp
      omega
     rw[hv]
     clear hv hb0 hbf
     have K1:=(((K0.out.set_ 0 (.string (bs (q ++ [UInt8.ofNat (8*l.length / 2 ^ (56 - 8*j))])))).alloc (.cells #[.int .u8 (8 * ↑l.length / 2 ^ (56 - 8*j) % 256)] 5)).drew)
     simp only[jB,jD]at K1
     have hj2:=hJ _ () _ () _ hj (show OwnStep b () wr () (((wr.setCell ⟨b,0,none⟩ (.string (bs (q ++ [UInt8.ofNat (8*l.length / 2 ^ (56 - 8*j))])))).alloc (.cells #[.int .u8 (8 * ↑l.length / 2 ^ (56 - 8*j) % 256)] 5)).drew) from grown_on (grownBy_setCell' _ _ _) (((Below.refl _ _).alloc (Nat.le_refl _) _).drew))
     gi_wp2
     go_roundw
     case rel=>exact⟨j+1,by omega,by congr 1;omega,by rw[List.range_succ,List.map_append,←List.append_assoc,HQ.out];exact K1,hj2⟩
     case measure=>simp[intOf];omega
    ·obtain rfl:j=8:=by omega
     simp only[show(56:Int) - 8*((8:Nat):Int) = -8 from rfl]
     rw[pad_drop l k HC.out r HR.out c HC0.out]at K0
     rw[chunks_pad l k hk]at hj
     have hpl:=padS_len l
     have hkp:64*k≤(padS l).length:=by unfold padS;simp;omega
     clear HC HR HC0 HRL HBL hlt hc1 e1 e2 c128 hlt8 hk
     obtain⟨p,hp⟩:∃ p,padS l=p:=⟨_,rfl⟩
     rw[hp]at K0 hj hpl hkp
     have HP:=Z hp
     clear hp
     replace K0:=Z K0
     gi_wp2
     gi_loopw [39] (fun _ wr=>∃ m:Nat,64*m≤p.length∧Blk wr b 9 #[.string (bs (p.drop (64*m)))]∧J (chunks m p) () wr) (fun _ wr=>boxLen b wr)
     case atStart=>exact⟨k,hkp,K0.out,hj⟩
     case round =>
      clear K0 hj hkp
      obtain⟨m,hm,K0,hj⟩:=hrel
      have hbl:=boxLen_of K0
      obtain⟨q,hq⟩:∃ q,p.drop (64*m)=q:=⟨_,rfl⟩
      have hql:q.length=p.length - 64*m:=by rw[←hq];simp
      rw[hq]at K0 hbl
      have HQ:=Z hq
      have HQL:=Z hql
      have HBL:=Z hbl
      clear hq hbl
      replace K0:=Z K0
      by_cases hlt:64≤q.length
      ·obtain⟨fn,tmps,assign,body,hy,hR⟩:=hY (chunks m p) (q.take 64) () wr hj (by unfold AtBlock;simp;omega)
       have hne:q.isEmpty=false:=by
        cases q with
        | nil=>simp at hlt
        | cons=>rfl
       clear hql
       (obtain⟨k0,f0,l0,m0⟩:=rl_ K0)
       gi_wp2
       refine hR.mono ?_
       rintro e W3 (⟨rfl,hJ3,hk3⟩|⟨rfl,hJx3⟩)
       ·have K1:=Z (show Blk W3 b _ _ from Eq.trans hk3 K0.out)
        clear k0 f0 l0 m0 K0 hk3
        (obtain⟨k1,f1,l1,m1⟩:=rl_ K1)
        gi_wp2
        have K2:=K1.out.set_ 0 (.string (bs (q.drop 64)))
        simp only[jB,jD]at K2
        have hql:=HQL.out
        go_roundw
        case rel=>exact⟨m+1,by omega,by rw[show 64*(m+1)=64*m+64 by omega,←List.drop_drop,HQ.out];exact K2,by rw[chunks_succ,HQ.out];exact hJ _ _ _ _ _ hJ3 (grownBy_setCell' _ _ _)⟩
        case measure=>rw[HBL.out,boxLen_of K2];simp;omega
       ·gi_wp2
        refine bodyPost_ret (results_none rfl _ _ _) rfl ?_
        exact⟨⟨_,rfl⟩,.inr ⟨_,(),trivial,hJx3⟩⟩
      ·have hq0:q=[]:=List.eq_nil_of_length_eq_zero (by omega)
       have hmT:m=p.length / 64:=by omega
       subst hq0
       (obtain⟨k0,f0,l0,m0⟩:=rl_ K0)
       gi_wp2
       go_end0
       exact⟨⟨_,rfl⟩,.inl ⟨_,(),by rw[HP.out,←hmT],hj⟩⟩
theorem blocks_stops(n:Nat) (hn:1≤n) (b:Nat) (l:List UInt8) (hl:l.length≤140737488355328) (w:World) (hb:Blk w b 9 #[.string (bs l)]) :
  SeqSt Fence.wide n Tryz.prog 139 #[.pointer (some ⟨b,0,none⟩)] (fun y:List UInt8 => #[.string (bs y)]) AtBlock (KeepS b) (OwnStep b) () (fun xs=>xs=chunks ((padS l).length / 64) (padS l)) (fun _=>True) w :=
 fun lp J Jx W hW hJ hJx hY h0=>blocks1_in n hn lp b l hl J Jx hJ hJx hY W (hb.on hW hb.lt) h0
theorem blocks_in(n:Nat) (s:ByteArray) (w:World) :
  CallsIn Fence.wide n Tryz.prog 99 #[.string s] w fun e w'=>e=.returned (.func (.func 139) #[] #[.pointer (some ⟨w.heap.size,0,none⟩)])∧w'=w.alloc (.cells #[.string s] 9):=by
 refine callsIn_of_wp Tryz.func99 rfl trivial ?_ rfl
 simp only[Tryz.ntmps99, List.size_toArray,List.length_cons,List.length_nil,Nat.reduceAdd,Nat.reduceSub,Array.replicate_succ,Array.replicate_zero,List.push_toArray,List.append_toArray,List.nil_append,List.cons_append]
 gi_wp2
 go_ret
 exact⟨rfl,rfl⟩
def cat(xs:List ByteArray):List UInt8:=(xs.map fun s=>s.data.toList).flatten
theorem join_cat(xs:List ByteArray):Lib.join (xs.map fun s=>s.data.toList) []=cat xs:=by
 unfold cat Lib.join
 generalize xs.map (fun s=>s.data.toList)=ys
 induction ys with
 | nil=>rfl
 | cons y ys ih =>
  cases ys with
  | nil=>simp
  | cons z zs =>
   simp at ih ⊢
   exact ih
theorem join_calls(A:Option Addr) (c:Nat) (xs:List ByteArray) (w:World) (hs:Strs w A xs) (hc:xs.length≤c) (hN:xs.length≤140737488355328) (hlen:(cat xs).length≤140737488355328) :
  Calls Tryz.prog 100 #[.slice A xs.length c,.string { data := #[] }] w (Ret w (.string (bs (cat xs)))):=by
 rcases Nat.eq_zero_or_pos xs.length with h0|h0
 ·obtain rfl:=List.eq_nil_of_length_eq_zero h0
  refine(Tryz.strings_Join_none A c _ w).mono ?_
  rintro e w' ⟨rfl,rfl⟩
  exact⟨rfl,Below.refl _ _⟩
 ·obtain⟨b,o,rfl,hb,hcell⟩:=hs h0
  have:=Tryz.strings_Join b o c xs ⟨#[]⟩ w hcell hb hN hc (by rw[show(⟨#[]⟩:ByteArray).data.toList=[] from rfl,join_cat];exact hlen)
  rw[show(⟨#[]⟩:ByteArray).data.toList=[] from rfl,join_cat]at this
  exact this
theorem iv_cells:cS iv = #[.int .u32 1779033703,.int .u32 3144134277,.int .u32 1013904242,.int .u32 2773480762,.int .u32 1359893119,.int .u32 2600822924,.int .u32 528734635,.int .u32 1541459225]:=rfl
def takes(pre:List (List UInt8)):St:=pre.foldl takeB iv
theorem takes_snoc(pre:List (List UInt8)) (y:List UInt8):takes (pre ++ [y])=takeB (takes pre) y:=by simp[takes]
def SumI(w:World) (bh:Nat) (pre:List (List UInt8)) (W:World):Prop:=Blk W bh 176 (cS (takes pre))∧HasK W∧Below w.heap.size w W
theorem takes_from(h:St) (n:Nat) (p:List UInt8):(chunks n p).foldl takeB h=takeAll n h p:=by
 induction n generalizing h p with
 | zero=>rfl
 | succ n ih =>
  rw[takeAll,←ih]
  unfold chunks
  rw[List.range_succ_eq_map,List.map_cons,List.foldl_cons,List.map_map]
  congr 1
  apply List.map_congr_left
  intro i _
  simp[List.drop_drop,Nat.mul_add,Nat.add_comm]
theorem takes_all(l:List UInt8):(takes (chunks ((padS l).length / 64) (padS l))).bytes=sha l:=by
 unfold takes
 rw[takes_from]
 rfl
def wS(v:St):List Wd:=[v.a,v.b,v.c,v.d,v.e,v.f,v.g,v.h]
theorem cS_words(v:St):cS v=cw (wS v):=rfl
theorem bytes_len(v:St):v.bytes.length=32:=rfl
theorem sbyte_at(v:St):∀ k,k<32→v.bytes.getD k 0=UInt8.ofNat (((wS v).getD (k / 4) 0).toNat / 2 ^ (24 - 8*(k % 4)))
 | 0,_=>rfl
 | 1,_=>rfl
 | 2,_=>rfl
 | 3,_=>by simp[St.bytes,bytesW,wS]
 | 4,_=>rfl
 | 5,_=>rfl
 | 6,_=>rfl
 | 7,_=>by simp[St.bytes,bytesW,wS]
 | 8,_=>rfl
 | 9,_=>rfl
 | 10,_=>rfl
 | 11,_=>by simp[St.bytes,bytesW,wS]
 | 12,_=>rfl
 | 13,_=>rfl
 | 14,_=>rfl
 | 15,_=>by simp[St.bytes,bytesW,wS]
 | 16,_=>rfl
 | 17,_=>rfl
 | 18,_=>rfl
 | 19,_=>by simp[St.bytes,bytesW,wS]
 | 20,_=>rfl
 | 21,_=>rfl
 | 22,_=>rfl
 | 23,_=>by simp[St.bytes,bytesW,wS]
 | 24,_=>rfl
 | 25,_=>rfl
 | 26,_=>rfl
 | 27,_=>by simp[St.bytes,bytesW,wS]
 | 28,_=>rfl
 | 29,_=>rfl
 | 30,_=>rfl
 | 31,_=>by simp[St.bytes,bytesW,wS]
 | k+32,h=>absurd h (by omega)
theorem byte_of(v:St) (k:Nat) (hk:k<32):vw ((wS v).getD (k / 4) 0) / 2 ^ (24 - 8*(k % 4)) % 256=((v.bytes.getD k 0).toNat:Int):=by
 rw[sbyte_at v k hk]
 generalize(wS v).getD (k / 4) 0=x
 unfold vw
 have e:((x.toNat:Int)) / 2 ^ (24 - 8*(k % 4))=((x.toNat / 2 ^ (24 - 8*(k % 4)):Nat):Int):=by simp
 rw[e]
 generalize x.toNat / 2 ^ (24 - 8*(k % 4))=m
 simp
theorem sum_calls(A:Option Addr) (c:Nat) (xs:List ByteArray) (w:World) (hk:HasK w) (hs:Strs w A xs) (hc:xs.length≤c) (hN:xs.length≤140737488355328) (hlen:(cat xs).length≤140737488355200) :
  Calls Tryz.prog 55 #[.slice A xs.length c] w (Ret w (.string (bs (sha (cat xs))))):=by
 refine(callsIn_wide (n:=9)).1 ?_
 have hwf:∀ f,Fence.wide.fn f:=fun _=>trivial
 refine callsIn_of_wp_marks Tryz.func55 rfl trivial ?_ rfl
 simp only[Tryz.ntmps55, List.size_toArray,List.length_cons,List.length_nil,Nat.reduceAdd,Nat.reduceSub,Array.replicate_succ,Array.replicate_zero,List.push_toArray,List.append_toArray,List.nil_append,List.cons_append]
 gi_wp2
 gi_wp2_with fail
 have hs1:=hs.below ((Below.refl w.heap.size w).alloc (Nat.le_refl _) (.cells (cS iv) 176))
 rw[iv_cells]at hs1
 refine(callsIn_wide.2 (join_calls A c xs _ hs1 hc hN (by omega))).mono ?_
 rintro e w1 ⟨rfl,hB1⟩
 gi_wp2_with(gi_at_call 99; refine(blocks_in _ _ _).mono ?_;rintro e w' ⟨rfl,rfl⟩)
 have hB2:Below w.heap.size w w1:=Below.on hB1 ((Below.refl _ _).alloc (Nat.le_refl _) _)
 have hbh:w.heap.size<w1.heap.size:=by have:=hB1.size;simp at this;omega
 have K0:Blk w1 w.heap.size 176 (cS iv):=(iv_cells ▸ Blk.new0 w _ _:Blk (w.alloc (.cells #[.int .u32 1779033703,.int .u32 3144134277,.int .u32 1013904242,.int .u32 2773480762,.int .u32 1359893119,.int .u32 2600822924,.int .u32 528734635,.int .u32 1541459225] 176)) w.heap.size 176 (cS iv)).below hB1
 obtain⟨b,hbe⟩:∃ b,w1.heap.size=b:=⟨_,rfl⟩
 obtain⟨W0,hW0⟩:∃ W0,w1.alloc (.cells #[.string (bs (cat xs))] 9)=W0:=⟨_,rfl⟩
 have hs0:W0.heap.size=b+1:=by rw[←hW0];simp[hbe]
 have KS:Blk W0 b 9 #[.string (bs (cat xs))]:=by rw[←hW0,←hbe];exact Blk.new0 _ _ _
 have hI0:SumI w w.heap.size [] W0:=by
  rw[←hW0]
  exact⟨K0.alloc _,(hk.from hB2 hk.2).alloc _,hB2.alloc (by omega) _⟩
 rw[hW0,hbe]
 rw[hbe]at hbh
 clear hW0 hbe K0 hB1 hs1
 have hf:=enters_of Tryz.func139 U rfl
 have hkl:=hk.2
 refine wpIn_rangeFunc_st rfl (by decide) (gf := 139) (lb := #[.pointer (some ⟨b,0,none⟩)]) rfl trivial hf
  (blocks_stops 8 (by decide) b (cat xs) (by omega) W0 KS) (fun _=>rfl) (fun _ _ _ _ h k=>h.trans k) (fun _ W l o o' hl h1 h2 h3=>keepB_b (by omega) W l o o' hl h1 h2 h3)
  (fun _ A _ B k o hab hkk hA _ _=>(hab.block k (Array.getElem?_eq_some_iff.1 hA).1 (by intro e;injection e;omega)).trans hA)
  (fun _ _ _ _ _ _ _ h _ _ _=>h)
  (fun pre _ W=>SumI w w.heap.size pre W∧b<W.heap.size) (fun _ _ _ _=>False)
  (fun _ s A B row h hg hr=>?own) (fun _ _ _ _ _ _ h _ _=>h)
  (fun s _ A _ B h hab=>?step) (fun _ _ _ _ _ _ h _=>h) ⟨hI0,by omega⟩
  (fun y=>{ tmps := #[.slice A xs.length c,undef,.string { data := #[] },.pointer (some ⟨w.heap.size,0,none⟩),.string (bs y),undef,undef,.agg #[.int .u32 1779033703,.int .u32 3144134277,.int .u32 1013904242,.int .u32 2773480762,.int .u32 1359893119,.int .u32 2600822924,.int .u32 528734635,.int .u32 1541459225],
   .slice A xs.length c,.string (bs (cat xs)),.func (.func 139) #[] #[.pointer (some ⟨b,0,none⟩)],.string (bs y),undef,undef,undef,undef,undef,undef,undef,undef,undef,undef,undef,undef,undef,undef,undef,undef,undef,undef,undef,undef],defers:=[] })
  ?assign ?body ?done ?stop
 case own =>
  obtain⟨⟨h1,h2,h3⟩,hbx⟩:=h
  have hne:∀ r,row=some r→W0.heap.size≤r:=fun r e=>(hr r e).1
  exact⟨⟨h1.grown hg (fun e=>by have:=hne _ e.symm;omega),h2.grown hg (fun e=>by have:=hne _ e.symm;omega),h3.grown hg h3.size (fun k e=>by have:=hne k e;omega)⟩,Nat.lt_of_lt_of_le hbx hg.size⟩
 case step =>
  obtain⟨⟨h1,h2,h3⟩,hbx⟩:=h
  exact⟨⟨h1.grown hab (fun e=>by injection e;omega),h2.grown hab (fun e=>by injection e;omega),below_row h3 hab (by omega)⟩,Nat.lt_of_lt_of_le hbx hab.size⟩
 case assign =>
  intro l y W K hK
  gi_wp2
  exact hK
 case body =>
  rintro l pre y x W ⟨⟨h1,h2,h3⟩,hbx⟩ hy
  gi_wp2_with fail
  refine(CallsIn.inRound l (callsIn_wide.2 (take_calls w.heap.size (takes pre) (bs y) ((bs_size y).trans hy) W h2 h1 (by omega)))).mono ?_
  rintro e w2 ⟨rfl,hg,hb2⟩
  rw[bs_list,←takes_snoc]at hb2
  gi_wp2
  exact⟨keepsOthers_row h1 hg,(hg.block b hbx (by intro e;injection e;omega)),⟨hb2,h2.grown hg (by intro e;injection e;omega),below_row h3 hg (Nat.le_refl _)⟩,Nat.lt_of_lt_of_le hbx hg.size⟩
 case done =>
  rintro D ys x W hD rfl ⟨⟨h1,h2,h3⟩,hbx⟩ hK
  have TA:=Z (takes_all (cat xs))
  obtain⟨V,hV⟩:∃ V,takes (chunks ((padS (cat xs)).length / 64) (padS (cat xs)))=V:=⟨_,rfl⟩
  rw[hV]at h1 TA
  have hB:=h3
  have K1:=Z h1
  clear hV h1 h2 h3 hI0 KS hB2 hk hs
  gi_wp2
  have K0:=Z (Blk.new0 W 183 (bcells 32 V.bytes 0))
  have hBo:=hB.alloc (by have:=hB.size;omega) (.cells (bcells 32 V.bytes 0) 183)
  have hDo:=(KeepsOthers.alloc W (.cells (bcells 32 V.bytes 0) 183)).same D _ hK rfl
  replace K1:=Z (K1.out.alloc (.cells (bcells 32 V.bytes 0) 183))
  have hwW:w.heap.size<W.heap.size:=by omega
  gi_loopw [14] (fun i wr=>∃ k:Nat,k≤32∧i=.int .i64 k∧Blk wr W.heap.size 183 (bcells 32 V.bytes k)∧Blk wr w.heap.size 176 (cS V)∧Below w.heap.size w wr∧wr.heap[D]?=some (.deferred (some [])))
   (fun i _=>(32 - intOf i).toNat)
  case atStart=>exact⟨0,by omega,rfl,K0.out,K1.out,hBo,hDo⟩
  case round =>
   clear K0 K1 hBo hDo hB hK
   obtain⟨k,hk,rfl,K0,K1,hB,hK⟩:=hrel
   by_cases hlt:k<32
   ·have hx:=byte_of V k hlt
    have hset:=bcells_set 32 V.bytes k hlt (bytes_len V) _ hx
    rw[cS_words]at K1
    have g0:=cw_get (L:=wS V) (i:=k / 4) (by simp[wS];omega)
    generalize(wS V).getD (k / 4) 0=x at *
    have v1:=vw_nonneg x
    have HS:=Z hset
    clear hset hx
    replace K0:=Z K0
    replace K1:=Z K1
    have hKD:=Z hK
    clear hK
    (obtain⟨k0,f0,l0,m0⟩:=rl_ K0;obtain⟨k1,f1,l1,m1⟩:=rl_ K1)
    have gk:=bcells_at 32 V.bytes k hlt (bytes_len V)
    gi_wp2
    go_roundw
    case rel=>exact⟨k+1,by omega,by go_num,by rw[←HS.out];exact K0.out.set_ _ _,by rw[cS_words];exact K1.out.over (by simp;omega),hB.setCell (by have:=hB.size;simp;omega) _,(KeepsOthers.setCell _ _ _).same D _ hKD.out rfl⟩
    case measure=>simp[intOf];omega
   ·obtain rfl:k=32:=by omega
    rw[bcells_all 32 V.bytes (bytes_len V),TA.out]at K0
    have hcv:=fun c=>conv_row wr W.heap.size _ (sha (cat xs)) 32 c K0 (sha_len _)
    have hKD:=Z hK
    have hKK:=Z (KeepsOthers.refl wr)
    clear hK
    replace K0:=Z K0
    replace K1:=Z K1
    simp only[show((32:Nat):Int)=32 from rfl]
    gi_wp2
    refine⟨by simp,.inl ⟨_,_,rfl,run_takeDeferred hKD.out,?_⟩⟩
    exact⟨.string (bs (sha (cat xs))),by simp[results,Tryz.results55, go_sem],rfl,below_shut hB (Nat.le_refl _) (by omega)⟩
 case stop =>
  rintro D c pre x W _ _ h _
  exact h.elim
end
section
open Go.RowKit Go.Shelf
theorem wpIn_rangeFunc_stb{α σ:Type}{F:Fence}{n:Nat}{P:Program}{g:Operand}{ps:Array Tmp}{assign body:Code}{Q:Exit→Act→World→Prop}{a:Act}{w:World}
  (hro:F.round=none) (h1:1≤n) {gf:Nat}{lb:Array Value} (hg:a.eval g=.func (.func gf) #[] lb) (hFg:F.fn gf) (eg:∀ args w,(callFunc gf args).run P w=.ok (.enter gf args) w)
  {encs:α→Array Value}{At:List α→α→σ→World→Prop}{Kp:σ→World→World→Prop}{Ab:σ→World→σ→World→Prop}{x0:σ}{S Sp:List α→Prop}
  (hseq:SeqSt F (n - 1) P gf lb encs At Kp Ab x0 S Sp w) (hps:∀ y,(encs y).size=ps.size)
  (hKt:∀ x A B C,Kp x A B→Kp x B C→Kp x A C) (hKb:∀ x (W:World) (l:Nat) (o o':Obj),w.heap.size≤l→W.heap[l]?=some o→o.isCells=false→o.isWalk=false→Kp x W (W.putObj l o'))
  (hAb:∀ x (A:World) y (B:World) (k:Nat) (o:Obj),Ab x A y B→w.heap.size≤k→A.heap[k]?=some o→o.isCells=false→o.isWalk=false→B.heap[k]?=some o)
  (hAt:∀ pre y x (W:World) (l:Nat) (o o':Obj),At pre y x W→w.heap.size≤l→W.heap[l]?=some o→o.isCells=false→At pre y x (W.putObj l o'))
  (I:List α→σ→World→Prop) (Ix:Code→List α→σ→World→Prop) (hI:∀ x,OwnFrom w.heap.size fun s W=>I s x W) (hIx:∀ c x,OwnFrom w.heap.size fun s W=>Ix c s x W)
  (hIA:∀ s x A y B,I s x A→Ab x A y B→I s y B) (hIxA:∀ c s x A y B,Ix c s x A→Ab x A y B→Ix c s y B)
  (h0:I [] x0 w) (a₁:α→Nat→Act) (box:α→Obj)
  (hKa:∀ x (W:World) (o:Obj),Kp x W (W.alloc o)) (hAta:∀ pre y x (W:World) (o:Obj),At pre y x W→At pre y x (W.alloc o))
  (hassign:∀ (l:Nat) (y:α) (W:World) (K:Act→World→Prop),K (a₁ y W.heap.size) (W.alloc (box y)) →
   assign.wpIn (F.inRound l) (n - 1 - 1) P (Exit.then K (fun _ _ _=>False)) { tmps:=(ps.zip (encs y)).foldl (fun t (p,v)=>t.setIfInBounds p v) a.tmps,defers:=[] } W)
  (hbody:∀ (l:Nat) (pre:List α) (y:α) (x:σ) (W:World) (c:Nat),I pre x W→At pre y x W→w.heap.size≤c→W.heap[c]?=some (box y) →
   body.wpIn (F.inRound l) (n - 1 - 1) P (ownPostK (Kp x) (fun s W=>I s x W) (fun c s W=>Ix c s x W) (pre ++ [y]) W) (a₁ y c) W)
  (hdone:∀ (D:Nat) (xs:List α) (x:σ) (W:World),w.heap.size≤D→S xs→I xs x W→W.heap[D]?=some (.deferred (some []))→Q .normal { a with defers:={ target:=.collected D,args := #[] } :: a.defers } W)
  (hstop:∀ (D:Nat) (c:Code) (pre:List α) (x:σ) (W:World),w.heap.size≤D→Sp pre→Ix c pre x W→W.heap[D]?=some (.deferred (some []))→c.wpIn F n P Q { a with defers:={ target:=.collected D,args := #[] } :: a.defers } W) :
  (Code.rangeFunc g ps assign body).wpIn F n P Q a w:=by
 refine wpIn_rangeFunc fun fn hfn=>?_
 rw[hro]
 obtain⟨rec,hrec⟩:∃ rec:LoopState→Option Code→Loop,rec=fun st pe=>{ state:=st,pending:=pe,fn,tmps:=a.tmps,params:=ps,assign,body,defers:=w.heap.size }:=⟨_,rfl⟩
 obtain⟨V,hV⟩:∃ V,(w.alloc (.deferred (some []))).alloc (.loop (rec .ready none))=V:=⟨_,rfl⟩
 have hLV:V.heap[w.heap.size+1]?=some (.loop (rec .ready none)):=by
  rw[←hV]
  have:=World.alloc_heap_new (w.alloc (.deferred (some []))) (.loop (rec .ready none))
  rwa [World.size_alloc]at this
 have hDV:V.heap[w.heap.size]?=some (.deferred (some [])):=by
  rw[←hV]
  exact(Below.heap_alloc _ _ _ (by simp)).trans (World.alloc_heap_new w _)
 have hIV:I [] x0 V:=by rw[←hV];exact(hI x0).alloc _ ((hI x0).alloc _ h0)
 have hBV:Below w.heap.size w V:=by rw[←hV];exact((Below.refl _ w).alloc (Nat.le_refl _) _).alloc (by simp) _
 let J:List α→σ→World→Prop:=fun s x W=>I s x W∧W.heap[w.heap.size+1]?=some (.loop (rec .ready none))∧W.heap[w.heap.size]?=some (.deferred (some []))
 let Jx:List α→σ→World→Prop:=fun s x W=>∃ c,Ix c s x W∧W.heap[w.heap.size+1]?=some (.loop (rec .done (some c)))∧W.heap[w.heap.size]?=some (.deferred (some []))
 have hJ:∀ s x A y B,J s x A→Ab x A y B→J s y B:=fun s x A y B h hab=>⟨hIA _ _ _ _ _ h.1 hab,hAb _ _ _ _ _ _ hab (by omega) h.2.1 rfl rfl,hAb _ _ _ _ _ _ hab (Nat.le_refl _) h.2.2 rfl rfl⟩
 have hJx:∀ s x A y B,Jx s x A→Ab x A y B→Jx s y B:=fun s x A y B h hab=>by
  obtain⟨c,h1,h2,h3⟩:=h
  exact⟨c,hIxA _ _ _ _ _ _ h1 hab,hAb _ _ _ _ _ _ hab (by omega) h2 rfl rfl,hAb _ _ _ _ _ _ hab (Nat.le_refl _) h3 rfl rfl⟩
 have round:∀ pre y x A,J pre x A→At pre y x A→YieldAt F (n - 1 - 1) P (w.heap.size+1) (encs y) A fun e B =>
   (e=.returned (.bool true)∧J (pre ++ [y]) x B∧Kp x A B)∨(e=.returned (.bool false)∧Jx (pre ++ [y]) x B):=by
  rintro pre y x W ⟨hi,hl,hk⟩ hat
  have hlt:w.heap.size+1<W.heap.size:=(Array.getElem?_eq_some_iff.1 hl).1
  have hy:=run_yield (P:=P) (args:=encs y) hl (by rw[hrec];exact hps y)
  rw[hrec]at hy
  have hal:(W.alloc (box y)).heap[w.heap.size+1]?=some (.loop (rec .ready none)):=(Below.heap_alloc W _ _ hlt).trans hl
  have hak:(W.alloc (box y)).heap[w.heap.size]?=some (.deferred (some [])):=(Below.heap_alloc W _ _ (by omega)).trans hk
  have hia:I pre x (W.alloc (box y)):=(hI x).alloc _ hi
  have hata:=hAta _ _ _ _ (box y) hat
  have hba:(W.alloc (box y)).heap[W.heap.size]?=some (box y):=World.alloc_heap_new W _
  have hwl:w.heap.size≤W.heap.size:=by omega
  have hne:W.heap.size≠w.heap.size+1:=by omega
  have hka:=hKa x W (box y)
  refine⟨fn,_,assign,body,hy,roundIn_of_wpIn hfn (hassign _ y W _ ⟨_,run_beginRound hal (by rw[hrec]),?_⟩)⟩
  obtain⟨V2,hV2⟩:∃ V2,W.alloc (box y)=V2:=⟨_,rfl⟩
  rw[hV2]at hal hak hia hata hba hka ⊢
  have hl2:(V2.putObj (w.heap.size+1) (.loop { rec .ready none with state:=.busy })).heap[w.heap.size+1]?=some (.loop { rec .ready none with state:=.busy }):=World.putObj_heap_same (Array.getElem?_eq_some_iff.1 hal).1
  have hk2:(V2.putObj (w.heap.size+1) (.loop { rec .ready none with state:=.busy })).heap[w.heap.size]?=some (.deferred (some [])):=(World.putObj_heap_other (by omega)).trans hak
  have hw2:Kp x W (V2.putObj (w.heap.size+1) (.loop { rec .ready none with state:=.busy })):=hKt _ _ _ _ hka (hKb _ _ _ _ _ (by omega) hal rfl rfl)
  refine wpIn_mono (hbody _ pre y x _ W.heap.size ((hI x).putObj _ hia (by omega) hal rfl) (hAt _ _ _ _ _ _ _ hata (by omega) hal rfl) hwl ((World.putObj_heap_other hne).trans hba)) ?_
  have fin:∀ (jump:Option Code) (W3:World),KeepsOthers (V2.putObj (w.heap.size+1) (.loop { rec .ready none with state:=.busy })) W3 →
    (Instr.endRound (w.heap.size+1) jump).run P W3=.ok (.bool jump.isNone) (W3.putObj (w.heap.size+1) (.loop (rec (if jump.isNone then .ready else .done) jump))) ∧
    W3.heap[w.heap.size+1]?=some (.loop { rec .ready none with state:=.busy }) ∧
    (W3.putObj (w.heap.size+1) (.loop (rec (if jump.isNone then .ready else .done) jump))).heap[w.heap.size+1]?=some (.loop (rec (if jump.isNone then .ready else .done) jump)) ∧
    (W3.putObj (w.heap.size+1) (.loop (rec (if jump.isNone then .ready else .done) jump))).heap[w.heap.size]?=some (.deferred (some [])):=fun jump W3 hk3=>by
   have hl3:=hk3.same _ _ hl2 rfl
   have h4:=run_endRound (P:=P) jump hl3
   rw[hrec]at h4 ⊢
   exact⟨h4,by rw[hrec]at hl3;exact hl3,World.putObj_heap_same (Array.getElem?_eq_some_iff.1 hl3).1,(World.putObj_heap_other (by omega)).trans (hk3.same _ _ hk2 rfl)⟩
  rintro e a3 W3 hp
  cases e with
  | normal =>
   obtain⟨hk3,hkp3,hi3⟩:=hp
   obtain⟨hr,hl3,hl4,hk4⟩:=fin none W3 hk3
   exact⟨_,_,hr,.inl ⟨rfl,⟨(hI x).putObj _ hi3 (by omega) hl3 rfl,hl4,hk4⟩,hKt _ _ _ _ (hKt _ _ _ _ hw2 hkp3) (hKb _ _ _ _ _ (by omega) hl3 rfl rfl)⟩⟩
  | ret =>
   obtain⟨hr,hl3,hl4,hk4⟩:=fin (some .ret) W3 hp.1
   exact⟨_,_,hr,.inr ⟨rfl,.ret,(hIx _ x).putObj _ hp.2 (by omega) hl3 rfl,hl4,hk4⟩⟩
  | exit id =>
   obtain⟨hr,hl3,hl4,hk4⟩:=fin (some (.exit id)) W3 hp.1
   exact⟨_,_,hr,.inr ⟨rfl,.exit id,(hIx _ x).putObj _ hp.2 (by omega) hl3 rfl,hl4,hk4⟩⟩
  | goto t =>
   obtain⟨hr,hl3,hl4,hk4⟩:=fin (some (.goto t)) W3 hp.1
   exact⟨_,_,hr,.inr ⟨rfl,.goto t,(hIx _ x).putObj _ hp.2 (by omega) hl3 rfl,hl4,hk4⟩⟩
  | panic ch=>exact hp.elim
  | outgrown=>exact hp.elim
 refine⟨w.heap.size+1,[{ target:=.collected w.heap.size,args := #[] }],V,{ target:=.fn (.func gf) lb,args := #[.func (.yield (w.heap.size+1)) #[] #[]] },V,gf,
  #[.func (.yield (w.heap.size+1)) #[] #[]] ++ lb,V,?_,?_,?_,?_,fun _=>h1,?_⟩
 ·rw[←hV,hrec];exact run_enterLoop_outer _ _ _ _ _
 ·simp only[resolve,hg]
  simp[go_sem]
 ·intro f' hf'
  simp[Target.leads]at hf'
  subst hf'
  exact hFg
 ·simp[invoke,go_sem,eg]
 refine(hseq (w.heap.size+1) J Jx V hBV hJ hJx round ⟨hIV,hLV,hDV⟩).mono ?_
 rintro e W2 ⟨⟨v,rfl⟩,(⟨xs,x,hS,hi,hl,hk⟩|⟨pre,x,hSp,c,hi,hl,hk⟩)⟩
 ·exact⟨none,_,by have:=run_endLoop (P:=P) hl (by rw[hrec];simp);rw[hrec]at this;exact this,hdone _ xs x _ (Nat.le_refl _) hS ((hI x).putObj _ hi (by omega) hl rfl) ((World.putObj_heap_other (by omega)).trans hk)⟩
 ·exact⟨some c,_,by have:=run_endLoop (P:=P) hl (by rw[hrec];simp);rw[hrec]at this;exact this,hstop _ c pre x _ (Nat.le_refl _) hSp ((hIx c x).putObj _ hi (by omega) hl rfl) ((World.putObj_heap_other (by omega)).trans hk)⟩
end
section
open BigFrame Go.RowKit Go.Phx Go.Shelf
attribute [local go_sem] Oper.semAt_some
@[go_sem] theorem not_w (x:Wd):bits .xor .u32 (if IntKind.u32.signed=true then -1 else IntKind.u32.max) (vw x)=vw (~~~x):=by
 rw[show(if IntKind.u32.signed=true then -1 else IntKind.u32.max:Int)=vw (BitVec.allOnes 32) from by decide,xor_w,BitVec.allOnes_xor]
theorem infoU8:(Tryz.prog.info? 5).map (fun i=>(i.zero,i.size,i.bytes))=some (some (.int .u8 0),1,1):=by kernel_rfl
theorem bldSize:(Tryz.prog.info? 163).map (·.size)=some 2:=by kernel_rfl
theorem bldLies:liesAt Tryz.prog Tryz.prog.depth 163 (2 / Tryz.prog.cellsOf 163) 0 163 1=true:=by kernel_rfl
theorem bldPtr:Tryz.prog.underlying 161 = some (.pointer 163):=by kernel_rfl
theorem bldUns:Tryz.prog.underlying 246 = some .unsafePointer:=by kernel_rfl
theorem check_used(b:Nat) (w:World) (h0:w.cell? ⟨b,0,none⟩=some (.pointer (some ⟨b,0,none⟩))) :
  Calls Tryz.prog 132 #[.pointer (some ⟨b,0,none⟩)] w fun e w'=>e=.returned (.tuple #[])∧w'=w:=by
 obtain⟨j,hj,_⟩:=Option.map_eq_some_iff.1 bldSize
 go_enter Tryz.func132, Tryz.ntmps132
 go_wp2_with fail
 rw[Lib.run_neq_ptr_same w _ bldPtr hj]
 go_wp2_with fail
 go_end0
 exact⟨rfl,rfl⟩
theorem check_fresh(b:Nat) (w:World) (h0:w.cell? ⟨b,0,none⟩=some (.pointer none)) (hsh:w.shape? b=some (163, 2)) (hfz:w.frozen? ⟨b,0,none⟩=false) :
  Calls Tryz.prog 132 #[.pointer (some ⟨b,0,none⟩)] w fun e w'=>e=.returned (.tuple #[])∧w'=w.setCell ⟨b,0,none⟩ (.pointer (some ⟨b,0,none⟩)):=by
 obtain⟨j,hj,hjs⟩:=Option.map_eq_some_iff.1 bldSize
 go_enter Tryz.func132, Tryz.ntmps132
 go_wp2_with fail
 rw[Lib.run_to_unsafe w ⟨b,0,none⟩ bldPtr bldUns hj (by rw[hjs];decide) hsh (Nat.zero_lt_succ 1)]
 simp only[Result.andThen]
 rw[Oper.upon_value]
 go_wp2_with fail
 rw[run_callFunc_extern Tryz.func163 U U U (e:=Extern.AbiNoEscape.same) U]
 rw[Lib.run_noEscape]
 simp only[Result.andThen]
 rw[Oper.upon_value]
 go_wp2_with fail
 rw[Lib.run_from_unsafe w ⟨b,0,none⟩ bldUns bldPtr hj hsh bldLies]
 simp only[Result.andThen]
 rw[Oper.upon_value]
 go_wp2_with fail
 go_end0
 exact⟨rfl,rfl⟩
def BldAt(B b:Nat) (l:List UInt8) (w:World):Prop:=Lib.IsBuilder 163 5 B b (Lib.byteCells l) w
theorem check_any(B b:Nat) (bs:List Value) (w:World) (h:Lib.IsBuilder 163 5 B b bs w) :
  Calls Tryz.prog 132 #[.pointer (some ⟨b,0,none⟩)] w fun e w'=>e=.returned (.tuple #[])∧(Lib.BuilderAt 163 5 B b (.pointer (some ⟨b,0,none⟩)) bs w'∧Below B w w'):=by
 rcases h with h|h
 ·refine(check_fresh b w h.cell0 h.shape h.frozen0).mono ?_
  rintro e w' ⟨rfl,rfl⟩
  exact⟨rfl,h.used _,(Below.refl B w).setCell (p:=⟨b,0,none⟩) h.1 _⟩
 ·refine(check_used b w h.cell0).mono ?_
  rintro e w' ⟨rfl,rfl⟩
  exact⟨rfl,h,Below.refl B _⟩
theorem infoU8b:(Tryz.prog.info? 5).map (fun i=>(i.zero,i.size,i.bytes))=some (some (.int .u8 0),1,1):=by kernel_rfl
theorem bld_string(B b:Nat) (l:List UInt8) (w:World) (h:BldAt B b l w) (hBw:B≤w.heap.size) :
  Calls Tryz.prog 94 #[.pointer (some ⟨b,0,none⟩)] w fun e w'=>e=.returned (.string (bs l))∧Below B w w':=Tryz.Builder_String_any B b l w h hBw
def digs:List UInt8:=[48,49,50,51,52,53,54,55,56,57,97,98,99,100,101,102]
def dig(d:Nat):UInt8:=digs.getD d 0
@[go_sem] theorem dig_get:∀ (d:Nat) (h:d<(ByteArray.mk #[48,49,50,51,52,53,54,55,56,57,97,98,99,100,101,102]).size),(ByteArray.mk #[48,49,50,51,52,53,54,55,56,57,97,98,99,100,101,102])[d]'h=dig d
 | 0,_=>rfl
 | 1,_=>rfl
 | 2,_=>rfl
 | 3,_=>rfl
 | 4,_=>rfl
 | 5,_=>rfl
 | 6,_=>rfl
 | 7,_=>rfl
 | 8,_=>rfl
 | 9,_=>rfl
 | 10,_=>rfl
 | 11,_=>rfl
 | 12,_=>rfl
 | 13,_=>rfl
 | 14,_=>rfl
 | 15,_=>rfl
 | d+16,h=>absurd h (by simp[ByteArray.size])
theorem strs2(w:World) (a b:ByteArray):Strs (w.alloc (.cells #[.string a,.string b] 9)) (some ⟨w.heap.size,0,none⟩) [a,b] :=
 Strs.mk (by simp) fun i x hx=>by
  rw[(Blk.new0 w _ _).cell,Nat.zero_add]
  match i,hx with
  | 0,hx=>simp at hx;subst hx;rfl
  | 1,hx=>simp at hx;subst hx;rfl
end
end Go.Proofs.YtobgigcdpiikaaaGreatDoor
