/- Plain laws and walks, each by its own conditions. -/
import Derived.Test.YtobgigcdpiikaaaGreatDoorUc19
import Derived.Laws.OwnMore
set_option linter.unusedSimpArgs false
set_option linter.unusedVariables false
set_option maxRecDepth 100000
set_option maxHeartbeats 16000000
namespace Go.Proofs.YtobgigcdpiikaaaGreatDoor
section
open BigFrame Go.RowKit Go.Phx Go.Shelf
attribute [local go_sem] Oper.semAt_some
theorem txts_new(w:World) (l:List Bytes):Txts (w.alloc (.cells (l.map tv).toArray 9)) (some ⟨w.heap.size,0,none⟩) l :=
 Strs.mk (by simp) fun i x hx=>by
  rw[(Blk.new0 w _ _).cell,Nat.zero_add]
  rw[List.getElem?_map]at hx
  cases h:l[i]? with
  | none=>rw[h]at hx;cases hx
  | some y =>
   rw[h]at hx
   simp only[Option.map_some,Option.some.injEq]at hx
   simp[h,tv,hx]
def rootedV(L:List Bytes) (d:Nat):Value:=.tuple #[.string (bs (if RightP L d then rootP L d else [])),.int .i64 (if RightP L d then 0 else 130)]
theorem rooted_calls(A:Option Addr) (c:Nat) (L:List Bytes) (d:Nat) (hL:L.length≤9223372036854775807) (hx:∀ x∈L,x.length≤9223372036854775807) (w:World) (hk:HasK w) (hs:Txts w A L) :
  Calls Tryz.prog 58 #[.int .i64 d,.slice A L.length c] w (Ret w (rootedV L d)):=by
 have n1:=zroot_calls A c L d hL hx w hk hs
 unfold rootV at n1
 unfold rootedV
 rw[Int.toNat_natCast]at n1
 clear hs hk hx hL
 by_cases hR:RightP L d
 ·rw[if_pos hR]at n1
  rw[if_pos hR,if_pos hR]
  generalize rootP L d=r at *
  replace n1:=Z n1
  clear hR
  go_enter Tryz.func58, Tryz.ntmps58
  go_wp2_with fail
  refine n1.out.mono ?_
  rintro e w1 ⟨rfl,h1⟩
  go_wp2_with fail
  go_ret2
  exact⟨rfl,Below.on h1 bel⟩
 ·rw[if_neg hR]at n1
  rw[if_neg hR,if_neg hR]
  replace n1:=Z n1
  clear hR
  go_enter Tryz.func58, Tryz.ntmps58
  go_wp2_with fail
  refine n1.out.mono ?_
  rintro e w1 ⟨rfl,h1⟩
  go_wp2_with fail
  go_ret2
  exact⟨rfl,Below.on h1 bel⟩
def hdE(h:Hd):Int:=if hdOk h then 0 else 130
def exE(x:Ex):Int:=if exOk x then 0 else 130
theorem rooted_hd(h:Hd):rootedV (hdL h) 3=.tuple #[.string (bs (hdRoot h)),.int .i64 (hdE h)]:=by
 unfold rootedV hdRoot hdE hdOk
 by_cases hR:RightP (hdL h) 3
 ·rw[if_pos (show RightP (hdL h) ((3:Nat):Int) from hR),if_pos (show RightP (hdL h) ((3:Nat):Int) from hR),decide_eq_true hR,if_pos rfl,if_pos rfl]
 ·rw[if_neg (show ¬ RightP (hdL h) ((3:Nat):Int) from hR),if_neg (show ¬ RightP (hdL h) ((3:Nat):Int) from hR),decide_eq_false hR]
  rfl
theorem rooted_ex(x:Ex):rootedV (exL x) 2=.tuple #[.string (bs (exRoot x)),.int .i64 (exE x)]:=by
 unfold rootedV exRoot exE exOk
 by_cases hR:RightP (exL x) 2
 ·rw[if_pos (show RightP (exL x) ((2:Nat):Int) from hR),if_pos (show RightP (exL x) ((2:Nat):Int) from hR),decide_eq_true hR,if_pos rfl,if_pos rfl]
 ·rw[if_neg (show ¬ RightP (exL x) ((2:Nat):Int) from hR),if_neg (show ¬ RightP (exL x) ((2:Nat):Int) from hR),decide_eq_false hR]
  rfl
theorem hdL_le{w:World}{h:Hd} (hh:HdIn w h):∀ x∈hdL h,x.length≤9223372036854775807:=fun x hx=>by
 obtain⟨_,_,h1,h2,h3⟩:=hh
 simp only[hdL,List.mem_cons,List.not_mem_nil,or_false]at hx
 rcases hx with rfl|rfl|rfl|rfl|rfl
 ·rw[numP_len];omega
 ·rw[numP_len];omega
 ·omega
 ·omega
 ·omega
theorem exL_le{w:World}{x:Ex} (hh:ExIn w x):∀ y∈exL x,y.length≤9223372036854775807:=fun y hy=>by
 obtain⟨h1,h2,_⟩:=hh
 simp only[exL,List.mem_cons,List.not_mem_nil,or_false]at hy
 rcases hy with rfl|rfl|rfl
 ·omega
 ·omega
 ·rw[numP_len];omega
theorem hroot_calls(h:Hd) (w:World) (hk:HasK w) (hh:HdIn w h):Calls Tryz.prog 22 #[hdV h] w (Ret w (.tuple #[.string (bs (hdRoot h)),.int .i64 (hdE h)])):=by
 have n1:=fun W=>number_calls h.slot hh.1 W
 have n2:=fun W=>number_calls h.prop hh.2.1 W
 have hx:=hdL_le hh
 have n3:∀ W:World,Below w.heap.size w (W.alloc (.cells #[.string (bs (numP h.slot)),.string (bs (numP h.prop)),.string (bs h.parent),.string (bs h.state),.string (bs h.body)] 9))→Calls Tryz.prog 58 #[.int .i64 3,.slice (some ⟨W.heap.size,0,none⟩) 5 5] (W.alloc (.cells #[.string (bs (numP h.slot)),.string (bs (numP h.prop)),.string (bs h.parent),.string (bs h.state),.string (bs h.body)] 9)) (Ret (W.alloc (.cells #[.string (bs (numP h.slot)),.string (bs (numP h.prop)),.string (bs h.parent),.string (bs h.state),.string (bs h.body)] 9)) (rootedV (hdL h) 3)):=fun W hB =>
  rooted_calls (some ⟨W.heap.size,0,none⟩) 5 (hdL h) 3 (by show 5≤9223372036854775807;decide) hx _ (hk.on hB) (txts_new W (hdL h))
 rw[rooted_hd]at n3
 generalize hdRoot h=r at *
 generalize hdE h=e at *
 generalize numP h.slot=a at *
 generalize numP h.prop=b at *
 have K0:=Z (Blk.new0 w 28 (hdA h))
 replace n1:=Z n1
 replace n2:=Z n2
 replace n3:=Z n3
 clear hx hk hh
 go_enter Tryz.func22, Tryz.ntmps22
 go_wp2_with fail
 have hB0:Below w.heap.size w (w.alloc (.cells (hdA h) 28)):=bel
 obtain⟨W,hW⟩:∃ W,w.alloc (.cells (hdA h) 28)=W:=⟨_,rfl⟩
 rw[hW]at K0 hB0 ⊢
 obtain⟨g,hg⟩:∃ g,w.heap.size=g:=⟨_,rfl⟩
 have hgl:g≤W.heap.size:=by rw[←hg];exact hB0.size
 rw[hg]at K0 ⊢
 replace hB0:=Z hB0
 clear hW
 replace hg:=Z hg
 have hwf:∀ f,Fence.wide.fn f:=fun _=>trivial
 refine(wpIn_wide (n:=9)).1 ?_
 refine wpIn_round_held (fun w'=>Below W.heap.size W w') (fun j=>true) U ?_
 have hS0:(fun w'=>Below W.heap.size W w') W.drew:=(Below.refl _ _).drew
 refine S_tg 0 (.pointer (some ⟨g,0,none⟩)) rfl hS0 ?_
 refine S_tk 1 (.int .u64 (h.slot:Int)) rfl hS0 (fun w' hw=>exec_load rfl U (run_load_cell (i:=0) (K0.out.below hw) rfl szU64 nrU64)) ?_
 refine S_tg 3 (.pointer (some ⟨g,1,none⟩)) rfl hS0 ?_
 refine S_tk 4 (.int .u64 (h.prop:Int)) rfl hS0 (fun w' hw=>exec_load rfl U (run_load_cell (i:=1) (K0.out.below hw) rfl szU64 nrU64)) ?_
 refine S_tg 6 (.pointer (some ⟨g,2,none⟩)) rfl hS0 ?_
 refine S_tk 7 (.string (bs h.parent)) rfl hS0 (fun w' hw=>exec_load rfl U (run_load_cell (i:=2) (K0.out.below hw) rfl szStr nrStr)) ?_
 refine S_tg 8 (.pointer (some ⟨g,3,none⟩)) rfl hS0 ?_
 refine S_tk 9 (.string (bs h.state)) rfl hS0 (fun w' hw=>exec_load rfl U (run_load_cell (i:=3) (K0.out.below hw) rfl szStr nrStr)) ?_
 refine S_tg 10 (.pointer (some ⟨g,4,none⟩)) rfl hS0 ?_
 refine S_tk 11 (.string (bs h.body)) rfl hS0 (fun w' hw=>exec_load rfl U (run_load_cell (i:=4) (K0.out.below hw) rfl szStr nrStr)) ?_
 refine S_one 2 U rfl (fun K hK=>?_)
 go_simp
 gi_wp2_with(gi_at_call 57; refine(callsIn_wide.2 (n1.out _)).mono ?_;rintro e Wh1 ⟨rfl,hN⟩)
 replace hS0:=hS0.trans (hN.mono hS0.size)
 clear hN
 refine⟨(fun _=>hS0),?_⟩
 refine S_one 5 U rfl (fun K hK=>?_)
 go_simp
 gi_wp2_with(gi_at_call 57; refine(callsIn_wide.2 (n2.out _)).mono ?_;rintro e Wh2 ⟨rfl,hN⟩)
 replace hS0:=hS0.trans (hN.mono hS0.size)
 clear hN
 refine⟨(fun _=>hS0),?_⟩
 replace hS0:Below _ _ (Wh2.alloc (.cells #[.string (bs a),.string (bs b),.string (bs h.parent),.string (bs h.state),.string (bs h.body)] 9)):=hS0.alloc hS0.size _
 refine S_go 12 (fun _=>trivial) U U rfl U (.slice (some ⟨Wh2.heap.size,0,none⟩) 5 5) (Wh2.alloc (.cells #[.string (bs a),.string (bs b),.string (bs h.parent),.string (bs h.state),.string (bs h.body)] 9)) (by first|(go_simp;done)|(go_simp;rfl)|(go_simp;exact⟨hbx2,rfl⟩)) (fun _=>hS0) ?_
 refine S_one 13 U rfl (fun K hK=>?_)
 go_simp
 gi_wp2_with(gi_at_call 58; refine(callsIn_wide.2 (n3.out _ (Below.on hS0 hB0.out))).mono ?_;rintro e Wh3 ⟨rfl,hN⟩)
 replace hS0:=hS0.trans (hN.mono hS0.size)
 clear hN
 refine⟨(fun _=>hS0),?_⟩
 refine S_tg 14 (.string (bs r)) rfl hS0 ?_
 refine S_tg 15 (.int .i64 e) rfl hS0 ?_
 refine S_tg 16 (.string (bs r)) rfl hS0 ?_
 refine S_tg 17 (.int .i64 e) rfl hS0 ?_
 refine⟨by kernel_rfl,rfl,?_⟩
 go_wp2_with fail
 go_ret2
 exact⟨rfl,Below.on hS0 hB0.out⟩
theorem eroot_calls(x:Ex) (w:World) (hk:HasK w) (hh:ExIn w x):Calls Tryz.prog 56 #[exV x] w (Ret w (.tuple #[.string (bs (exRoot x)),.int .i64 (exE x)])):=by
 have n1:=fun W=>number_calls x.num hh.2.2 W
 have hx:=exL_le hh
 have n3:∀ W:World,Below w.heap.size w (W.alloc (.cells #[.string (bs x.acc),.string (bs x.rcp),.string (bs (numP x.num))] 9))→Calls Tryz.prog 58 #[.int .i64 2,.slice (some ⟨W.heap.size,0,none⟩) 3 3] (W.alloc (.cells #[.string (bs x.acc),.string (bs x.rcp),.string (bs (numP x.num))] 9)) (Ret (W.alloc (.cells #[.string (bs x.acc),.string (bs x.rcp),.string (bs (numP x.num))] 9)) (rootedV (exL x) 2)):=fun W hB =>
  rooted_calls (some ⟨W.heap.size,0,none⟩) 3 (exL x) 2 (by show 3≤9223372036854775807;decide) hx _ (hk.on hB) (txts_new W (exL x))
 rw[rooted_ex]at n3
 generalize exRoot x=r at *
 generalize exE x=e at *
 generalize numP x.num=a at *
 have K0:=Z (Blk.new0 w 30 (exA x))
 replace n1:=Z n1
 replace n3:=Z n3
 clear hx hk hh
 go_enter Tryz.func56, Tryz.ntmps56
 go_wp2_with fail
 have hB0:Below w.heap.size w (w.alloc (.cells (exA x) 30)):=bel
 obtain⟨W,hW⟩:∃ W,w.alloc (.cells (exA x) 30)=W:=⟨_,rfl⟩
 rw[hW]at K0 hB0 ⊢
 obtain⟨g,hg⟩:∃ g,w.heap.size=g:=⟨_,rfl⟩
 rw[hg]at K0 ⊢
 replace hB0:=Z hB0
 clear hW
 replace hg:=Z hg
 have hwf:∀ f,Fence.wide.fn f:=fun _=>trivial
 refine(wpIn_wide (n:=9)).1 ?_
 refine wpIn_round_held (fun w'=>Below W.heap.size W w') (fun j=>true) U ?_
 have hS0:(fun w'=>Below W.heap.size W w') W.drew:=(Below.refl _ _).drew
 refine S_tg 0 (.pointer (some ⟨g,0,none⟩)) rfl hS0 ?_
 refine S_tk 1 (.string (bs x.acc)) rfl hS0 (fun w' hw=>exec_load rfl U (run_load_cell (i:=0) (K0.out.below hw) rfl szStr nrStr)) ?_
 refine S_tg 2 (.pointer (some ⟨g,1,none⟩)) rfl hS0 ?_
 refine S_tk 3 (.string (bs x.rcp)) rfl hS0 (fun w' hw=>exec_load rfl U (run_load_cell (i:=1) (K0.out.below hw) rfl szStr nrStr)) ?_
 refine S_tg 4 (.pointer (some ⟨g,2,none⟩)) rfl hS0 ?_
 refine S_tk 5 (.int .u64 (x.num:Int)) rfl hS0 (fun w' hw=>exec_load rfl U (run_load_cell (i:=2) (K0.out.below hw) rfl szU64 nrU64)) ?_
 refine S_one 6 U rfl (fun K hK=>?_)
 go_simp
 gi_wp2_with(gi_at_call 57; refine(callsIn_wide.2 (n1.out _)).mono ?_;rintro e Wh1 ⟨rfl,hN⟩)
 replace hS0:=hS0.trans (hN.mono hS0.size)
 clear hN
 refine⟨(fun _=>hS0),?_⟩
 replace hS0:Below _ _ (Wh1.alloc (.cells #[.string (bs x.acc),.string (bs x.rcp),.string (bs a)] 9)):=hS0.alloc hS0.size _
 refine S_go 7 (fun _=>trivial) U U rfl U (.slice (some ⟨Wh1.heap.size,0,none⟩) 3 3) (Wh1.alloc (.cells #[.string (bs x.acc),.string (bs x.rcp),.string (bs a)] 9)) (by first|(go_simp;done)|(go_simp;rfl)|(go_simp;exact⟨hbx2,rfl⟩)) (fun _=>hS0) ?_
 refine S_one 8 U rfl (fun K hK=>?_)
 go_simp
 gi_wp2_with(gi_at_call 58; refine(callsIn_wide.2 (n3.out _ (Below.on hS0 hB0.out))).mono ?_;rintro e Wh2 ⟨rfl,hN⟩)
 replace hS0:=hS0.trans (hN.mono hS0.size)
 clear hN
 refine⟨(fun _=>hS0),?_⟩
 refine S_tg 9 (.string (bs r)) rfl hS0 ?_
 refine S_tg 10 (.int .i64 e) rfl hS0 ?_
 refine S_tg 11 (.string (bs r)) rfl hS0 ?_
 refine S_tg 12 (.int .i64 e) rfl hS0 ?_
 refine⟨by kernel_rfl,rfl,?_⟩
 go_wp2_with fail
 go_ret2
 exact⟨rfl,Below.on hS0 hB0.out⟩
theorem rootP_len{c:List Bytes}{d:Nat} (hc:∀ x∈c,x.length=32):(rootP c d).length=32:=by
 unfold rootP atP
 by_cases h:0<(levP c d).length
 ·rw[List.getD,List.getElem?_eq_getElem h]
  exact lev_all c hc d _ (List.getElem_mem h)
 ·rw[List.getD,List.getElem?_eq_none (by omega)]
  exact zeroH_len d
theorem exRoot_len(x:Ex):(exRoot x).length≤32:=by
 unfold exRoot exOk
 split
 ·rename_i h
  rw[rootP_len (of_decide_eq_true h).2.2.2.2]
  exact Nat.le_refl _
 ·simp
theorem hdRoot_len(h:Hd):(hdRoot h).length≤32:=by
 unfold hdRoot hdOk
 split
 ·rename_i h
  rw[rootP_len (of_decide_eq_true h).2.2.2.2]
  exact Nat.le_refl _
 ·simp
theorem lholds_calls(l:Lt) (w:World) (hk:HasK w) (hl:LtIn w l):Calls Tryz.prog 65 #[ltV l] w (Ret w (.bool (holdsP l))):=by
 have n1:=fun W (hB:Below w.heap.size w W)=>hroot_calls l.b W (hk.on hB) (hl.1.below hB)
 have n2:=fun W (hB:Below w.heap.size w W)=>eroot_calls l.x W (hk.on hB) (hl.2.1.below hB)
 have n3:=fun W (hB:Below w.heap.size w W)=>check_calls (exRoot l.x) l.br.addr l.br.cap l.br.l 2 l.b.body (by have:=exRoot_len l.x;omega) (by have:=hl.1.2.2.2.2;omega) (by have:=hl.2.2.2.2.1;omega) (by decide) (fun y hy=>by have:=hl.2.2.2.2.2 y hy;omega) W (hk.on hB) (Txts.below hl.2.2.1 hB)
 have K0:=Z (Blk.new0 w 33 (ltA l))
 have hP:∀ r1 r2 r3 r4:Bool,hdOk l.b=r1→exOk l.x=r2→decide (l.br.l.length=2)=r3→decide (CheckP (exRoot l.x) l.br.l 2 l.b.body)=r4→holdsP l=(r1 && (r2 && (r3 && r4))):=fun r1 r2 r3 r4 e1 e2 e3 e4=>by
  unfold holdsP
  rw[e1,e2,e3,e4]
 obtain⟨r4,h4⟩:∃ r4,decide (CheckP (exRoot l.x) l.br.l 2 l.b.body)=r4:=⟨_,rfl⟩
 rw[h4]at n3
 have h5:∀ r1 r2 r3:Bool,hdOk l.b=r1→exOk l.x=r2→decide (l.br.l.length=2)=r3→holdsP l=(r1 && (r2 && (r3 && r4))):=fun r1 r2 r3 a b c=>hP _ _ _ _ a b c h4
 clear hP h4
 replace h5:=Z h5
 unfold hdE at n1
 unfold exE at n2
 generalize exRoot l.x=q at *
 generalize hdRoot l.b=q2 at *
 cases h1:hdOk l.b with
 | false =>
  rw[h1,if_neg (by simp)]at n1
  replace n1:=Z n1
  replace n2:=Z n2
  replace n3:=Z n3
  rw[show holdsP l=false by rw[h5.out _ _ _ h1 rfl rfl];rfl]
  clear h1 h5 hk hl
  have hq2:∃ e2:Int,(if exOk l.x=true then(0:Int) else 130)=e2:=⟨_,rfl⟩
  obtain⟨e2,he2⟩:=hq2
  replace n2:=n2.out
  rw[he2]at n2
  replace n2:=Z n2
  clear he2
  go_enter Tryz.func65, Tryz.ntmps65
  go_wp2_with fail
  refine(n1.out _ bel).mono ?_
  rintro e w1 ⟨rfl,h1⟩
  have hB1:Below w.heap.size w w1:=Below.on h1 bel
  have K1:=Z (K0.out.below h1)
  clear h1 n1
  (obtain⟨k1,f1,l1,m1⟩:=rl_ K1)
  go_wp2_with fail
  refine(n2.out _ hB1).mono ?_
  rintro e w2 ⟨rfl,h2⟩
  have hB2:=Below.on h2 hB1
  have K2:=Z (K1.out.below h2)
  clear h2 hB1 n2 k1 f1 l1 m1 K1
  (obtain⟨k2,f2,l2,m2⟩:=rl_ K2)
  go_wp2_with fail
  go_ret
  exact⟨rfl,hB2⟩
 | true =>
  rw[h1,if_pos rfl]at n1
  cases h2:exOk l.x with
  | false =>
   rw[h2,if_neg (by simp)]at n2
   replace n1:=Z n1
   replace n2:=Z n2
   replace n3:=Z n3
   rw[show holdsP l=false by rw[h5.out _ _ _ h1 h2 rfl];rfl]
   clear h1 h2 h5 hk hl
   go_enter Tryz.func65, Tryz.ntmps65
   go_wp2_with fail
   refine(n1.out _ bel).mono ?_
   rintro e w1 ⟨rfl,h1⟩
   have hB1:Below w.heap.size w w1:=Below.on h1 bel
   have K1:=Z (K0.out.below h1)
   clear h1 n1
   (obtain⟨k1,f1,l1,m1⟩:=rl_ K1)
   go_wp2_with fail
   refine(n2.out _ hB1).mono ?_
   rintro e w2 ⟨rfl,h2⟩
   have hB2:=Below.on h2 hB1
   have K2:=Z (K1.out.below h2)
   clear h2 hB1 n2 k1 f1 l1 m1 K1
   (obtain⟨k2,f2,l2,m2⟩:=rl_ K2)
   go_wp2_with fail
   go_ret
   exact⟨rfl,hB2⟩
  | true =>
   rw[h2,if_pos rfl]at n2
   replace n1:=Z n1
   replace n2:=Z n2
   replace n3:=Z n3
   by_cases h3:l.br.l.length=2
   ·have e3:((l.br.l.length:Int) == 2)=true:=by rw[h3];rfl
    rw[show holdsP l=r4 by rw[h5.out _ _ _ h1 h2 (decide_eq_true h3)];rfl]
    clear h1 h2 h3 h5 hk hl
    go_enter Tryz.func65, Tryz.ntmps65
    go_wp2_with fail
    refine(n1.out _ bel).mono ?_
    rintro e w1 ⟨rfl,h1⟩
    have hB1:Below w.heap.size w w1:=Below.on h1 bel
    have K1:=Z (K0.out.below h1)
    clear h1 n1
    (obtain⟨k1,f1,l1,m1⟩:=rl_ K1)
    go_wp2_with fail
    refine(n2.out _ hB1).mono ?_
    rintro e w2 ⟨rfl,h2⟩
    have hB2:=Below.on h2 hB1
    have K2:=Z (K1.out.below h2)
    clear h2 hB1 n2 k1 f1 l1 m1 K1
    (obtain⟨k2,f2,l2,m2⟩:=rl_ K2)
    go_wp2_with fail
    refine(n3.out _ hB2).mono ?_
    rintro e w3 ⟨rfl,h3⟩
    go_wp2_with fail
    go_ret
    exact⟨rfl,Below.on h3 hB2⟩
   ·have e3:((l.br.l.length:Int) == 2)=false:=by simp;omega
    rw[show holdsP l=false by rw[h5.out _ _ _ h1 h2 (decide_eq_false h3)];rfl]
    clear h1 h2 h3 h5 hk hl
    go_enter Tryz.func65, Tryz.ntmps65
    go_wp2_with fail
    refine(n1.out _ bel).mono ?_
    rintro e w1 ⟨rfl,h1⟩
    have hB1:Below w.heap.size w w1:=Below.on h1 bel
    have K1:=Z (K0.out.below h1)
    clear h1 n1
    (obtain⟨k1,f1,l1,m1⟩:=rl_ K1)
    go_wp2_with fail
    refine(n2.out _ hB1).mono ?_
    rintro e w2 ⟨rfl,h2⟩
    have hB2:=Below.on h2 hB1
    have K2:=Z (K1.out.below h2)
    clear h2 hB1 n2 k1 f1 l1 m1 K1
    (obtain⟨k2,f2,l2,m2⟩:=rl_ K2)
    go_wp2_with fail
    go_ret
    exact⟨rfl,hB2⟩
def chk(k:Bytes):Bytes:=chunkP k 0
theorem chk_len(k:Bytes):(chk k).length=32:=by
 unfold chk chunkP
 simp
 omega
theorem pack_five{k:Bytes} (h:k.length=5):packP k=[chk k]:=by
 unfold packP packN chk
 rw[h]
 rfl
def cmE(c:Cm):Int:=if cmOk c then 0 else 130
theorem cm_no{c:Cm} (h:cmOk c=false):cmRoot c=[]∧cmE c=130:=by
 unfold cmRoot cmE
 rw[h]
 exact⟨rfl,rfl⟩
theorem cm_yes{c:Cm} (h:cmOk c=true):cmRoot c=sha (rootP (c.ks.l.map chk) 4 ++ chk c.sum)∧cmE c=0:=by
 unfold cmRoot cmE
 rw[h]
 exact⟨rfl,rfl⟩
theorem cm_right{c:Cm} (h:cmOk c=true):RightP (c.ks.l.map chk) 4∧c.ks.l.length=16:=by
 unfold cmOk at h
 simp only[Bool.and_eq_true,decide_eq_true_eq]at h
 refine⟨⟨by decide,by decide,by rw[List.length_map,h.1];decide,by rw[List.length_map,h.1];decide,fun x hx=>?_⟩,h.1⟩
 obtain⟨k,_,rfl⟩:=List.mem_map.1 hx
 exact chk_len k
def FiveB(R:List Bytes) (j:Nat):Prop:=∀ i,i<j→(R.getD i []).length=5
theorem five_ok(c:Cm) (n:Nat) (hn:n=c.ks.l.length+1) (h:FiveB (c.sum :: c.ks.l) n) (h16:c.ks.l.length=16):cmOk c=true:=by
 unfold cmOk
 simp only[Bool.and_eq_true,decide_eq_true_eq,List.all_eq_true,beq_iff_eq]
 refine⟨h16,h 0 (by omega),fun k hk=>?_⟩
 obtain⟨i,hi,rfl⟩:=List.getElem_of_mem hk
 have:=h (i+1) (by omega)
 simpa[List.getD,List.getElem?_eq_getElem hi] using this
theorem five_not(c:Cm) (j:Nat) (hj:j<c.ks.l.length+1) (h:((c.sum :: c.ks.l).getD j []).length≠5):cmOk c=false:=by
 cases hc:cmOk c with
 | false=>rfl
 | true =>
  exfalso
  unfold cmOk at hc
  simp only[Bool.and_eq_true,decide_eq_true_eq,List.all_eq_true,beq_iff_eq]at hc
  cases j with
  | zero=>exact h hc.2.1
  | succ j =>
   have hlt:j<c.ks.l.length:=by omega
   refine h ?_
   have:=hc.2.2 c.ks.l[j] (List.getElem_mem hlt)
   simpa[List.getD,List.getElem?_eq_getElem hlt] using this
theorem lrow_new(w:World) (base:Nat) (hb:base≤w.heap.size) (s:Bytes):LRow base (w.alloc (.cells #[.string (bs s)] 9)) (.slice (some ⟨w.heap.size,0,none⟩) 1 1) [s] :=
 World.ownsRow_lit w #[.string (bs s)] 1 hb (by unfold maxLen;omega) rfl
theorem croot_calls(c:Cm) (w:World) (hk:HasK w) (hc:CmIn w c):Calls Tryz.prog 20 #[cmV c] w (Ret w (.tuple #[.string (bs (cmRoot c)),.int .i64 (cmE c)])):=by
 have K0:=Z (Blk.new0 w 35 (cmA c))
 have HB:Below w.heap.size w (w.alloc (.cells (cmA c) 35)):=bel
 obtain⟨W,hW⟩:∃ W,w.alloc (.cells (cmA c) 35)=W:=⟨_,rfl⟩
 rw[hW]at K0 HB
 obtain⟨g,hg⟩:∃ g,w.heap.size=g:=⟨_,rfl⟩
 rw[hg]at K0
 have hgW:g<W.heap.size:=K0.out.lt
 have HB1:Below w.heap.size w (W.alloc (.cells #[.string (bs c.sum)] 9)):=HB.alloc HB.size _
 have R0:=lrow_new W w.heap.size HB.size c.sum
 obtain⟨v,W2,hr,R1,hgr⟩:=app_rows (W.alloc (.cells #[.string (bs c.sum)] 9)) w.heap.size HB1.size _ [c.sum] R0 c.ks.addr c.ks.cap c.ks.l (by simp) hc.1.2.2.1 (Txts.below hc.1.1 HB1)
 have HB2:=HB1.grown hgr HB1.size fun j e=>(R0.lt j e).1
 have K1:Blk W2 g 35 (cmA c):=by
  have:=(K0.out.alloc (.cells #[.string (bs c.sum)] 9))
  exact(hgr.block g (by have:=K0.out.lt;simp;omega) (fun e=>by simp[Value.ownBlock]at e;omega)).trans this
 have K1:=Z K1
 obtain⟨gr,cap,rfl,hcap,hgr2⟩:=R1.form1 (by simp)
 obtain⟨R,hR⟩:∃ R,[c.sum] ++ c.ks.l=R:=⟨_,rfl⟩
 have hRc:c.sum :: c.ks.l=R:=hR
 have hn:R.length=c.ks.l.length+1:=by rw[←hRc];rfl
 have hks:=hc.1.2.2.1
 have hRall:∀ y∈R,y.length≤1048576:=fun y hy=>by
  rw[←hRc]at hy
  rcases List.mem_cons.1 hy with rfl|h
  ·exact hc.2
  ·exact hc.1.2.2.2 y h
 rw[hR]at R1 hr hgr2
 obtain⟨A1,c1,hv1,T1⟩:=R1.txts
 simp only[Value.slice.injEq]at hv1
 obtain⟨rfl,_,rfl⟩:=hv1
 have hok:FiveB R R.length→c.ks.l.length=16→cmOk c=true:=fun h h16=>five_ok c R.length hn (by rw[hRc];exact h) h16
 have hnot:∀ j,j<R.length→(R.getD j []).length≠5→cmOk c=false:=fun j hj h=>five_not c j (by omega) (by rw[hRc];exact h)
 have hk2:=hk.on HB2
 have hmap:∀ h16:c.ks.l.length=16,(R.map chk).drop 1=c.ks.l.map chk∧(R.map chk).getD 0 []=chk c.sum:=fun _=>by rw[←hRc];exact⟨rfl,rfl⟩
 replace hmap:=Z hmap
 replace hok:=Z hok
 replace hnot:=Z hnot
 replace hRall:=Z hRall
 replace T1:=Z T1
 replace hn:=Z hn
 replace hr:=Z hr
 obtain⟨n,hnn⟩:∃ n,R.length=n:=⟨_,rfl⟩
 have hnks:n=c.ks.l.length+1:=by rw[←hnn];exact hn.out
 have hn1:0<n:=by omega
 have hn2:n≤1048577:=by omega
 rw[hnn]at hr hgr2 hok hnot
 replace hnks:=Z hnks
 replace hnn:=Z hnn
 clear hR hRc R1 R0 hgr HB1 hc hk hn
 (obtain⟨k0,f0,l0,m0⟩:=rl_ K0)
 go_enter Tryz.func20, Tryz.ntmps20
 go_upto_region 1 with fail
 clear hW hg
 go_wp2_with(at_builtin;refine wpList_append_run rfl _ _ 31 31 rfl _ _ _ rfl rfl hr.out ?_)
 clear hr
 go_wp2_with fail
 go_loopw [4,16] (fun u i wr=>∃ (v:Value) (k:Nat),v=u∧k≤n∧i=.int .i64 k∧FiveB R k∧LRow W2.heap.size wr v ((R.take k).map chk)∧Below W2.heap.size W2 wr) (fun _ i _=>(n - intOf i).toNat)
 case atStart=>exact⟨_,0,rfl,by omega,rfl,fun i hi=>absurd hi (by omega),World.ownsRow_nil _ _ _ _,Below.refl _ _⟩
 case round =>
  obtain⟨v,k,rfl,hk3,rfl,h5,OWN,HBr⟩:=hrel
  by_cases hlt:k<n
  ·have hkR:k<R.length:=by rw[hnn.out];exact hlt
   obtain⟨b1,o1,hb1,hb2,hcell⟩:=Txts.at (Txts.below T1.out HBr) k hkR
   simp only[Option.some.injEq,Addr.mk.injEq,and_true]at hb1
   obtain⟨rfl,rfl⟩:=hb1
   rw[Nat.zero_add]at hcell
   have hy:=hRall.out _ (getD_mem hkR)
   have hst:(R.take (k+1)).map chk=(R.take k).map chk ++ [chk (R.getD k [])]:=by
    have e:R.take (k+1)=R.take k ++ [R[k]]:=by rw[List.take_add_one,List.getElem?_eq_getElem hkR];rfl
    rw[e,List.map_append,List.getD,List.getElem?_eq_getElem hkR]
    rfl
   have hno:=hnot.out k hlt
   have h5s:(R.getD k []).length=5→FiveB R (k+1):=fun h i hi=>by
    by_cases hik:i=k
    ·rw[hik];exact h
    ·exact h5 i (by omega)
   have hq:((R.take k).map chk).length≤1048576:=by rw[List.length_map,List.length_take];omega
   generalize R.getD k []=y at *
   generalize(R.take k).map chk=q at *
   replace hst:=Z hst
   have HB:=Below.on HBr HB2
   clear h5
   by_cases hy5:y.length=5
   ·have e1:((y.length:Int) != 5)=false:=by simp;omega
    have h6:=Z (h5s hy5)
    replace OWN:=Z OWN
    clear h5s hno
    go_wp2_with fail
    refine(pack_calls y (by omega) _).mono ?_
    rintro e w3 ⟨v3,rfl,Rv,h3⟩
    rw[pack_five hy5]at Rv
    obtain⟨A3,c3,rfl,T3⟩:=Rv.txts
    have OWN3:=LRow.below OWN.out h3
    have HB3:=Below.on h3 HBr
    obtain⟨v4,w4,hr4,OWN4,hg4⟩:=app_rows w3 W2.heap.size HB3.size v q OWN3 A3 c3 [chk y] (by omega) (by simp) T3
    have HB4:=HB3.grown hg4 HB3.size fun j e=>(OWN3.lt j e).1
    replace OWN4:=Z OWN4
    replace hr4:=Z hr4
    clear Rv T3 OWN3 OWN hg4 h3 HB3 hy5 hy
    go_wp2_with(at_builtin;refine wpList_append_run rfl _ _ 31 31 rfl _ _ _ rfl rfl hr4.out ?_)
    clear hr4
    go_wp2_with fail
    go_roundw
    case rel=>exact⟨_,k+1,rfl,by omega,by go_num,h6.out,by rw[hst.out];exact OWN4.out,HB4⟩
    case measure=>simp[intOf];omega
   ·have e1:((y.length:Int) != 5)=true:=by simp;omega
    obtain⟨f1,f2⟩:=cm_no (hno hy5)
    replace f1:=Z f1
    replace f2:=Z f2
    clear h5s hno hy5 OWN hy
    go_wp2_with fail
    go_ret2
    exact⟨by rw[f1.out,f2.out];rfl,HB⟩
  ·obtain rfl:k=n:=by omega
   have hRt:R.take k=R:=List.take_of_length_le (by rw[hnn.out];exact Nat.le_refl _)
   rw[hRt]at OWN
   have HB:=Below.on HBr HB2
   have K2:=Z (K1.out.below HBr)
   (obtain⟨k2,f2,l2,m2⟩:=rl_ K2)
   by_cases h16:c.ks.l.length=16
   ·have e1:((c.ks.l.length:Int) != 16)=false:=by simp;omega
    have hyes:=hok.out h5 h16
    obtain⟨f1,f2⟩:=cm_yes hyes
    have hright:=(cm_right hyes).1
    obtain⟨hm1,hm2⟩:=hmap.out h16
    have hk4:=hk2.on HBr
    obtain⟨gv,capv,rfl,hgv,hcv⟩:=OWN.form1 (by intro h;have:=congrArg List.length h;rw[List.length_map,hnn.out]at this;simp at this;omega)
    have hcl:(R.map chk).length=17:=by rw[List.length_map,hnn.out,hnks.out,h16]
    have hx0:=LRow.at OWN 0 (by omega)
    rw[hm2]at hx0
    obtain⟨A5,c5,hv5,T5⟩:=OWN.txts
    simp only[Value.slice.injEq]at hv5
    obtain⟨rfl,_,rfl⟩:=hv5
    have hgvw:gv<wr.heap.size:=(OWN.lt gv rfl).2
    have T6:Txts wr (some ⟨gv,1,none⟩) (c.ks.l.map chk):=by
     rw[←hm1]
     refine Strs.mk hgvw fun i x hx=>?_
     rw[List.getElem?_map]at hx
     cases h:((R.map chk).drop 1)[i]? with
     | none=>rw[h]at hx;cases hx
     | some y =>
      rw[h]at hx
      simp only[Option.map_some,Option.some.injEq]at hx
      rw[List.getElem?_drop]at h
      have hlt2:=(List.getElem?_eq_some_iff.1 h).1
      have:=LRow.at OWN (1+i) hlt2
      rw[this,List.getD,h]
      simp[hx]
    have hl16:(c.ks.l.map chk).length=16:=by rw[List.length_map,h16]
    have n5:=fun cc=>zroot_calls (some ⟨gv,1,none⟩) cc (c.ks.l.map chk) 4 (by rw[hl16];decide) (fun x hx=>by
     obtain⟨k,_,rfl⟩:=List.mem_map.1 hx
     rw[chk_len]
     decide) wr hk4 T6
    unfold rootV at n5
    rw[if_pos hright,hl16,show(4:Int).toNat=4 from rfl]at n5
    have hrl:(rootP (c.ks.l.map chk) 4).length=32:=rootP_len hright.2.2.2.2
    have n6:=fun W (hB:Below wr.heap.size wr (W.alloc (.cells #[.string (bs (rootP (c.ks.l.map chk) 4)),.string (bs (chk c.sum))] 9)))=>sum2_calls (rootP (c.ks.l.map chk) 4) (chk c.sum) (by omega) (by rw[chk_len];decide) W.heap.size _ (hk4.on hB) (strs2 W _ _)
    rw[hcl]at hcv ⊢
    have hc1:1<capv:=by omega
    generalize rootP (c.ks.l.map chk) 4=rt at *
    generalize chk c.sum=c0 at *
    replace f1:=Z f1
    replace f2:=Z f2
    replace n5:=Z n5
    replace n6:=Z n6
    clear hyes hright hm1 hm2 hmap OWN T5 T6 hcl hl16 hRt h16 h5 hok hnot T1 hRall
    go_wp2_with fail
    refine(n5.out _).mono ?_
    rintro e w5 ⟨rfl,h5⟩
    have hx5:=(h5.cell (p:=⟨gv,0,none⟩) hgvw).trans hx0
    have HB5:=Below.on h5 HB
    have hgv5:gv<w5.heap.size:=Nat.lt_of_lt_of_le hgvw h5.size
    clear hx0
    go_wp2_with fail
    refine(n6.out _ (h5.alloc h5.size _)).mono ?_
    rintro e w6 ⟨rfl,h6⟩
    go_wp2_with fail
    go_ret2
    exact⟨by rw[f1.out,f2.out];rfl,Below.on h6 (HB5.alloc HB5.size _)⟩
   ·have e1:((c.ks.l.length:Int) != 16)=true:=by simp;omega
    have hno:cmOk c=false:=by
     cases hc:cmOk c with
     | false=>rfl
     | true=>exact absurd (cm_right hc).2 h16
    obtain⟨f1,f2⟩:=cm_no hno
    replace f1:=Z f1
    replace f2:=Z f2
    clear hno h16 OWN h5 hRt
    go_wp2_with fail
    go_ret2
    exact⟨by rw[f1.out,f2.out];rfl,HB⟩
end
end Go.Proofs.YtobgigcdpiikaaaGreatDoor
